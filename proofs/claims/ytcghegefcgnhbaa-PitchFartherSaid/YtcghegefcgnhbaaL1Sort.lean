/- slices.Sort of numbers in this program does what the kit's contract of it says: the numbers come into their order. No condition. -/
import Derived.Shelf.SortG.Plain
import Derived.Test.YtcghegefcgnhbaaEvSort
import Derived.Test.YtcghegefcgnhbaaProg
import Derived.KernelRfl
set_option linter.unusedSimpArgs false
set_option linter.unusedVariables false
namespace Go.Ev.YtcghegefcgnhbaaC
open Go Go.Proofs Go.Shelf

def sort80_ren : Go.Shelf.Ren := ⟨fun | 53 => 80 | 64 => 94 | 63 => 93 | 78 => 106 | 79 => 107 | 70 => 97 | 71 => 98 | 72 => 99 | 73 => 100 | 74 => 101 | 75 => 102 | 59 => 103 | 76 => 104 | 77 => 105 | 88 => 110 | 89 => 111 | 90 => 112 | 91 => 113 | 92 => 114 | 68 => 115 | 96 => 117 | n => n, fun | 22 => 40 | 23 => 2 | 3 => 3 | 51 => 110 | 0 => 0 | 67 => 123 | 69 => 125 | 4 => 4 | 61 => 115 | 60 => 114 | 44 => 120 | 5 => 5 | 9 => 9 | 75 => 128 | 79 => 132 | 83 => 134 | 84 => 135 | n => n, fun | n => n⟩
theorem sort80 : Go.Proofs.SlLaysN.n53 Try.prog sort80_ren := {
  mixed := by kernel_rfl
  f53 := ⟨Try.f80.name, by decide, Try.func80.trans (congrArg some (by kernel_rfl))⟩
  f59 := ⟨Try.f103.name, by decide, Try.func103.trans (congrArg some (by kernel_rfl))⟩
  f63 := ⟨Try.f93.name, by decide, Try.func93.trans (congrArg some (by kernel_rfl))⟩
  f64 := Try.func94.trans (congrArg some (by kernel_rfl))
  f68 := ⟨Try.f115.name, by decide, Try.func115.trans (congrArg some (by kernel_rfl))⟩
  f70 := ⟨Try.f97.name, by decide, Try.func97.trans (congrArg some (by kernel_rfl))⟩
  f71 := ⟨Try.f98.name, by decide, Try.func98.trans (congrArg some (by kernel_rfl))⟩
  f72 := ⟨Try.f99.name, by decide, Try.func99.trans (congrArg some (by kernel_rfl))⟩
  f73 := ⟨Try.f100.name, by decide, Try.func100.trans (congrArg some (by kernel_rfl))⟩
  f74 := ⟨Try.f101.name, by decide, Try.func101.trans (congrArg some (by kernel_rfl))⟩
  f75 := ⟨Try.f102.name, by decide, Try.func102.trans (congrArg some (by kernel_rfl))⟩
  f76 := ⟨Try.f104.name, by decide, Try.func104.trans (congrArg some (by kernel_rfl))⟩
  f77 := ⟨Try.f105.name, by decide, Try.func105.trans (congrArg some (by kernel_rfl))⟩
  f78 := Try.func106.trans (congrArg some (by kernel_rfl))
  f79 := Try.func107.trans (congrArg some (by kernel_rfl))
  f88 := ⟨Try.f110.name, by decide, Try.func110.trans (congrArg some (by kernel_rfl))⟩
  f89 := Try.func111.trans (congrArg some (by kernel_rfl))
  f90 := Try.func112.trans (congrArg some (by kernel_rfl))
  f91 := ⟨Try.f113.name, by decide, Try.func113.trans (congrArg some (by kernel_rfl))⟩
  f92 := ⟨Try.f114.name, by decide, Try.func114.trans (congrArg some (by kernel_rfl))⟩
  f96 := ⟨Try.f117.name, by decide, Try.func117.trans (congrArg some (by kernel_rfl))⟩
  t0 := Try.underlying0
  a0 := Try.isAgg0
  z0 := Try.sizeOf0
  v0 := Try.zeroValue0
  t3 := Try.underlying3
  a3 := Try.isAgg3
  z3 := Try.sizeOf3
  v3 := Try.zeroValue3
  t4 := Try.underlying4
  a4 := Try.isAgg4
  z4 := Try.sizeOf4
  v4 := Try.zeroValue4
  t5 := Try.underlying5
  a5 := Try.isAgg5
  z5 := Try.sizeOf5
  v5 := Try.zeroValue5
  t9 := Try.underlying9
  a9 := Try.isAgg9
  z9 := Try.sizeOf9
  v9 := Try.zeroValue9
  t22 := Try.underlying40
  a22 := Try.isAgg40
  z22 := Try.sizeOf40
  v22 := Try.zeroValue40
  t23 := Try.underlying2
  a23 := Try.isAgg2
  z23 := Try.sizeOf2
  v23 := Try.zeroValue2
  t44 := Try.underlying120
  a44 := Try.isAgg120
  z44 := Try.sizeOf120
  v44 := Try.zeroValue120
  t51 := Try.underlying110
  a51 := Try.isAgg110
  z51 := Try.sizeOf110
  v51 := Try.zeroValue110
  t60 := Try.underlying114
  a60 := Try.isAgg114
  z60 := Try.sizeOf114
  v60 := Try.zeroValue114
  t61 := Try.underlying115
  a61 := Try.isAgg115
  z61 := Try.sizeOf115
  v61 := Try.zeroValue115
  t67 := Try.underlying123
  a67 := Try.isAgg123
  z67 := Try.sizeOf123
  v67 := Try.zeroValue123
  t69 := Try.underlying125
  a69 := Try.isAgg125
  z69 := Try.sizeOf125
  v69 := Try.zeroValue125
  t75 := Try.underlying128
  a75 := Try.isAgg128
  z75 := Try.sizeOf128
  v75 := Try.zeroValue128
  t79 := Try.underlying132
  a79 := Try.isAgg132
  z79 := Try.sizeOf132
  v79 := Try.zeroValue132
  t83 := Try.underlying134
  a83 := Try.isAgg134
  z83 := Try.sizeOf134
  v83 := Try.zeroValue134
  t84 := Try.underlying135
  a84 := Try.isAgg135
  z84 := Try.sizeOf135
  v84 := Try.zeroValue135 }

theorem sort80_ok : SortOk Try.prog 80 := sortOk_of ⟨Try.f80, Try.func80, by decide, rfl⟩ fun blk off cap zs w h1 h2 h3 => AnyG.slices_Sort_int sort80 blk off cap zs w h1 h2 h3

end Go.Ev.YtcghegefcgnhbaaC
