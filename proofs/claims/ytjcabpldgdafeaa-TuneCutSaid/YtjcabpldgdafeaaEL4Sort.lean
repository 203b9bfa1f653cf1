/- slices.Sort of numbers in this program does what the kit's contract of it says: the numbers come into their order. No condition but those that stand in each. -/
import Derived.Shelf.Sort.Plain
import Derived.Test.YtjcabpldgdafeaaEEvSort
import Derived.Test.YtjcabpldgdafeaaProg
import Derived.KernelRfl
set_option linter.unusedSimpArgs false
set_option linter.unusedVariables false
namespace Go.Ev.YtjcabpldgdafeaaC
open Go Go.Proofs Go.Shelf
def sort88_ren : Go.Shelf.Ren := ⟨fun | 189 => 88 | 125 => 96 | 257 => 95 | 128 => 106 | 129 => 107 | 294 => 97 | 295 => 98 | 296 => 99 | 297 => 100 | 298 => 101 | 299 => 102 | 216 => 103 | 300 => 104 | 301 => 105 | 328 => 108 | 329 => 109 | 330 => 110 | 331 => 111 | 332 => 112 | 215 => 113 | 343 => 114 | n => n, fun | 28 => 25 | 3 => 3 | 46 => 108 | 0 => 0 | 51 => 117 | 53 => 119 | 4 => 4 | 183 => 111 | 182 => 110 | 131 => 51 | 5 => 5 | 9 => 9 | 218 => 120 | 222 => 124 | 228 => 126 | 229 => 127 | n => n, fun | n => n⟩
theorem sort88 : Go.Proofs.Lays.n189 Try.prog sort88_ren := {
 mixed := by kernel_rfl
 f125 := Try.func96.trans (congrArg some (by kernel_rfl))
 f128 := Try.func106.trans (congrArg some (by kernel_rfl))
 f129 := Try.func107.trans (congrArg some (by kernel_rfl))
 f189 := Try.func88.trans (congrArg some (by kernel_rfl))
 f215 := Try.func113.trans (congrArg some (by kernel_rfl))
 f216 := Try.func103.trans (congrArg some (by kernel_rfl))
 f257 := Try.func95.trans (congrArg some (by kernel_rfl))
 f294 := Try.func97.trans (congrArg some (by kernel_rfl))
 f295 := Try.func98.trans (congrArg some (by kernel_rfl))
 f296 := Try.func99.trans (congrArg some (by kernel_rfl))
 f297 := Try.func100.trans (congrArg some (by kernel_rfl))
 f298 := Try.func101.trans (congrArg some (by kernel_rfl))
 f299 := Try.func102.trans (congrArg some (by kernel_rfl))
 f300 := Try.func104.trans (congrArg some (by kernel_rfl))
 f301 := Try.func105.trans (congrArg some (by kernel_rfl))
 f328 := Try.func108.trans (congrArg some (by kernel_rfl))
 f329 := Try.func109.trans (congrArg some (by kernel_rfl))
 f330 := Try.func110.trans (congrArg some (by kernel_rfl))
 f331 := Try.func111.trans (congrArg some (by kernel_rfl))
 f332 := Try.func112.trans (congrArg some (by kernel_rfl))
 f343 := Try.func114.trans (congrArg some (by kernel_rfl))
 t0 := Try.underlying0
 a0 := Try.isAgg0
 z0 := Try.sizeOf0
 v0 := Try.zeroValue0
 t3 := Try.underlying3
 a3 := Try.isAgg3
 z3 := Try.sizeOf3
 v3 := Try.zeroValue3
 t4 := Try.underlying4
 a4 := Try.isAgg4
 z4 := Try.sizeOf4
 v4 := Try.zeroValue4
 t5 := Try.underlying5
 a5 := Try.isAgg5
 z5 := Try.sizeOf5
 v5 := Try.zeroValue5
 t9 := Try.underlying9
 a9 := Try.isAgg9
 z9 := Try.sizeOf9
 v9 := Try.zeroValue9
 t28 := Try.underlying25
 a28 := Try.isAgg25
 z28 := Try.sizeOf25
 v28 := Try.zeroValue25
 t46 := Try.underlying108
 a46 := Try.isAgg108
 z46 := Try.sizeOf108
 v46 := Try.zeroValue108
 t51 := Try.underlying117
 a51 := Try.isAgg117
 z51 := Try.sizeOf117
 v51 := Try.zeroValue117
 t53 := Try.underlying119
 a53 := Try.isAgg119
 z53 := Try.sizeOf119
 v53 := Try.zeroValue119
 t131 := Try.underlying51
 a131 := Try.isAgg51
 z131 := Try.sizeOf51
 v131 := Try.zeroValue51
 t182 := Try.underlying110
 a182 := Try.isAgg110
 z182 := Try.sizeOf110
 v182 := Try.zeroValue110
 t183 := Try.underlying111
 a183 := Try.isAgg111
 z183 := Try.sizeOf111
 v183 := Try.zeroValue111
 t218 := Try.underlying120
 a218 := Try.isAgg120
 z218 := Try.sizeOf120
 v218 := Try.zeroValue120
 t222 := Try.underlying124
 a222 := Try.isAgg124
 z222 := Try.sizeOf124
 v222 := Try.zeroValue124
 t228 := Try.underlying126
 a228 := Try.isAgg126
 z228 := Try.sizeOf126
 v228 := Try.zeroValue126
 t229 := Try.underlying127
 a229 := Try.isAgg127
 z229 := Try.sizeOf127
 v229 := Try.zeroValue127 }
theorem sort88_ok : SortOk Try.prog 88 := sortOk_of ⟨Try.f88, Try.func88, by decide, rfl⟩ fun blk off cap zs w h1 h2 h3 => Any.slices_Sort_int sort88 blk off cap zs w h1 h2 h3
end Go.Ev.YtjcabpldgdafeaaC
