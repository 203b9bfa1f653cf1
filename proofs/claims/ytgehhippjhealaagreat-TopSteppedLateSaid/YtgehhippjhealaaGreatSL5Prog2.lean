/- The code of functions of layer 5 that are walked, compiled for the evaluator, as text. What the functions of the layer compute, and laws about it, in plain mathematics: no program in sight. Orders as the laws are handed them, opened. What the reference's functions answer: checks, ends, delays. What the program's functions answer: checks, ends, delays. What the program's functions answer: ends and delays. No condition but those that stand in each. -/
import Derived.Test.YtgehhippjhealaaGreatSTopW
import Derived.Test.YtgehhippjhealaaGreatSEvFrame
import Derived.Test.YtgehhippjhealaaGreatRows
import Derived.Test.YtgehhippjhealaaGreatSEvMach
set_option linter.unusedSimpArgs false
set_option linter.unusedVariables false
set_option maxRecDepth 100000
namespace Go.Ev.YtgehhippjhealaaGreatC.P5
open Go Go.Proofs
def c19 : IFunc := ⟨48, [.tmp 6, .tmp 7], .seq (.ops [dO 6 (.mv (.const (.slice none [] true))), dO 7 (.mv (cI 0))]) (.seq (.ops [dO 11 (.mv (tM 0)), dO 12 (.mv (tM 1)), dO 13 (.callF false 120 [tM 11, tM 12]), dO 8 (.mv (tM 13))]) (.seq (.block 0 (.seq (.ops [dO 15 (.mv (tM 8)), dO 16 (.bin .neq (tM 15) (cI 0)), dO 14 (.mv (tM 16))]) (.cond (tM 14) (.seq (.ops [dO 17 (.mv (tM 8)), dO 6 (.mv (.const (.slice none [] true))), dO 7 (.mv (tM 17))]) .ret) (.seq (.ops [dO 19 (.mv (tM 2)), dO 20 (.len (tM 19)), dO 21 (.mv (tM 0)), dO 22 (.len (tM 21)), dO 23 (.bin .neq (tM 20) (tM 22)), dO 18 (.mv (tM 23))]) (.cond (tM 18) (.seq (.ops [dO 6 (.mv (.const (.slice none [] true))), dO 7 (.mv (cI 15))]) .ret) .skip))))) (.seq (.seq (.ops [dO 24 (.mv (tM 0)), dO 25 (.len (tM 24)), dO 26 (.mv (cI 0))]) (.block 1 (.loop (.seq (.ops [dO 27 (.bin .lss (tM 26) (tM 25))]) (.seq (.cond (tM 27) .skip (.exit 1)) (.seq (.block 2 (.seq (.ops [dO 28 (.mv (tM 26)), dO 29 (.indexAddr 3 (tM 24) (tM 26)), dO 30 (.load (some 3) (tM 29)), dO 10 (.alloc [.int .i64 0, .int .i64 0, .int .i64 0]), dO 9 (.mv (tM 28)), eO (.store 3 (tM 10) (tM 30))]) (.seq (.ops [dO 31 (.fieldAddr 0 (tM 10)), dO 32 (.fieldAddr 0 (tM 31)), dO 33 (.load none (tM 32)), dO 34 (.fieldAddr 0 (tM 10)), dO 35 (.fieldAddr 1 (tM 34)), dO 36 (.load none (tM 35)), dO 37 (.mv (tM 2)), dO 38 (.mv (tM 9)), dO 39 (.indexAddr 1 (tM 37) (tM 38)), dO 40 (.load none (tM 39)), dO 41 (.buildSlice none [.int .i64 0] [(0, (1, tM 40))]), dO 42 (.callF false 114 [tM 33, tM 36, tM 41]), dO 43 (.un .not (tM 42))]) (.cond (tM 43) (.seq (.ops [dO 6 (.mv (.const (.slice none [] true))), dO 7 (.mv (cI 3))]) .ret) .skip)))) (.ops [dO 44 (.bin .add (tM 26) (cI 1)), dO 26 (.mv (tM 44))]))))))) (.seq (.ops [dO 45 (.mv (tM 1)), dO 46 (.mv (tM 2)), dO 47 (.callF true 121 [tM 45, tM 46]), dO 6 (.mv (tM 47)), dO 7 (.mv (cI 0))]) .ret))))⟩
theorem k19 : (cfgOf Tryz.prog byr).fns 60 = some c19 := by kernel_rfl
theorem t19 : T.fns 60 = some c19 := T_fns k19 (by decide) (by decide)
def c21 : IFunc := ⟨45, [.tmp 6, .tmp 7], .seq (.ops [dO 6 (.mv (cI 0)), dO 7 (.mv (cI 0))]) (.seq (.ops [dO 13 (.mv (tM 0)), dO 14 (.mv (tM 1)), dO 15 (.mv (tM 2)), dO 16 (.callF true 60 [tM 13, tM 14, tM 15]), dO 12 (.mv (tM 16)), dO 17 (.extract (tM 12) 0), dO 18 (.extract (tM 12) 1), dO 8 (.mv (tM 17)), dO 9 (.mv (tM 18))]) (.seq (.block 0 (.seq (.ops [dO 20 (.mv (tM 9)), dO 21 (.bin .neq (tM 20) (cI 0)), dO 19 (.mv (tM 21))]) (.cond (tM 19) (.seq (.ops [dO 22 (.mv (tM 9)), dO 6 (.mv (cI 0)), dO 7 (.mv (tM 22))]) .ret) (.seq (.ops [dO 24 (.mv (tM 0)), dO 25 (.len (tM 24)), dO 26 (.bin .eql (tM 25) (cI 0)), dO 23 (.mv (tM 26))]) (.cond (tM 23) (.seq (.ops [dO 6 (.mv (cI 0)), dO 7 (.mv (cI 5))]) .ret) .skip))))) (.seq (.seq (.ops [dO 27 (.mv (tM 0)), dO 28 (.len (tM 27)), dO 29 (.mv (cI 0))]) (.block 1 (.loop (.seq (.ops [dO 30 (.bin .lss (tM 29) (tM 28))]) (.seq (.cond (tM 30) .skip (.exit 1)) (.seq (.block 2 (.seq (.ops [dO 31 (.mv (tM 29)), dO 32 (.indexAddr 3 (tM 27) (tM 29)), dO 33 (.load (some 3) (tM 32)), dO 11 (.alloc [.int .i64 0, .int .i64 0, .int .i64 0]), dO 10 (.mv (tM 31)), eO (.store 3 (tM 11) (tM 33))]) (.ops [dO 34 (.mv (tM 8)), dO 35 (.mv (tM 10)), dO 36 (.indexAddr 1 (tM 34) (tM 35)), dO 37 (.load none (tM 36)), dO 38 (.fieldAddr 2 (tM 11)), dO 39 (.load none (tM 38)), dO 40 (.bin .sub (tM 37) (tM 39)), dO 41 (.indexAddr 1 (tM 34) (tM 35)), eO (.store 1 (tM 41) (tM 40))]))) (.ops [dO 42 (.bin .add (tM 29) (cI 1)), dO 29 (.mv (tM 42))]))))))) (.seq (.ops [dO 43 (.mv (tM 8)), dO 44 (.callF false 61 [tM 43, .const (.clo 62 [] [])]), dO 6 (.mv (tM 44)), dO 7 (.mv (cI 0))]) .ret))))⟩
theorem k21 : (cfgOf Tryz.prog byr).fns 22 = some c21 := by kernel_rfl
theorem t21 : T.fns 22 = some c21 := T_fns k21 (by decide) (by decide)
def c23 : IFunc := ⟨12, [.tmp 2], .seq (.ops [dO 2 (.mv (cI 0))]) (.seq (.ops [dO 3 (.mv (.const (.clo 113 [] [])))]) (.seq (.block 0 (.seq (.ops [dO 5 (.mv (tM 0)), dO 6 (.len (tM 5)), dO 7 (.bin .gtr (tM 6) (cI 10)), dO 4 (.mv (tM 7))]) (.cond (tM 4) (.seq (.ops [dO 2 (.mv (cI 6))]) .ret) (.seq (.ops [dO 9 (.mv (tM 0)), dO 10 (.mv (tM 3)), dO 11 (.callF false 115 [tM 9, tM 10]), dO 8 (.mv (tM 11))]) (.cond (tM 8) (.seq (.ops [dO 2 (.mv (cI 3))]) .ret) .skip))))) (.seq (.ops [dO 2 (.mv (cI 0))]) .ret)))⟩
theorem k23 : (cfgOf Tryz.prog byr).fns 51 = some c23 := by kernel_rfl
theorem t23 : T.fns 51 = some c23 := T_fns k23 (by decide) (by decide)
def c24 : IFunc := ⟨50, [.tmp 2], .seq (.ops [dO 2 (.mv (cI 0))]) (.seq (.seq (.ops [dO 5 (.mv (tM 0)), dO 6 (.len (tM 5)), dO 7 (.bin .gtr (tM 6) (cI 10))]) (.cond (tM 7) (.seq (.ops [dO 2 (.mv (cI 6))]) .ret) .skip)) (.seq (.seq (.ops [dO 3 (.mv (cI 0))]) (.block 0 (.loop (.seq (.seq (.ops [dO 8 (.mv (tM 3)), dO 9 (.mv (tM 0)), dO 10 (.len (tM 9)), dO 11 (.bin .lss (tM 8) (tM 10))]) (.cond (tM 11) .skip (.exit 0))) (.seq (.block 1 (.seq (.ops [dO 14 (.mv (tM 0)), dO 15 (.mv (tM 3)), dO 16 (.indexAddr 3 (tM 14) (tM 15)), dO 17 (.fieldAddr 0 (tM 16)), dO 18 (.load (some 2) (tM 17)), dO 4 (.alloc [.int .i64 0, .int .i64 0]), eO (.store 2 (tM 4) (tM 18))]) (.seq (.ops [dO 19 (.fieldAddr 0 (tM 4)), dO 20 (.load none (tM 19)), dO 21 (.bin .lss (tM 20) (cI 1)), dO 22 (.mv (tM 21)), gO 23 (.fieldAddr 1 (tM 4)) 22 false, gO 24 (.load none (tM 23)) 22 false, gO 25 (.bin .gtr (tM 24) (cI 100)) 22 false, dO 26 (.pick (tM 22) (cB true) (tM 25)), dO 27 (.mv (tM 26)), gO 28 (.fieldAddr 0 (tM 4)) 27 false, gO 29 (.load none (tM 28)) 27 false, gO 30 (.fieldAddr 1 (tM 4)) 27 false, gO 31 (.load none (tM 30)) 27 false, gO 32 (.bin .gtr (tM 29) (tM 31)) 27 false, dO 33 (.pick (tM 27) (cB true) (tM 32)), dO 34 (.mv (tM 33)), gO 35 (.mv (tM 0)) 34 false, gO 36 (.mv (tM 3)) 34 false, gO 37 (.indexAddr 3 (tM 35) (tM 36)) 34 false, gO 38 (.fieldAddr 2 (tM 37)) 34 false, gO 39 (.load none (tM 38)) 34 false, gO 40 (.bin .lss (tM 39) (cI 0)) 34 false, dO 41 (.pick (tM 34) (cB true) (tM 40)), dO 42 (.mv (tM 41)), gO 43 (.mv (tM 0)) 42 false, gO 44 (.mv (tM 3)) 42 false, gO 45 (.indexAddr 3 (tM 43) (tM 44)) 42 false, gO 46 (.fieldAddr 2 (tM 45)) 42 false, gO 47 (.load none (tM 46)) 42 false, gO 48 (.bin .gtr (tM 47) (cI 2000)) 42 false, dO 49 (.pick (tM 42) (cB true) (tM 48))]) (.cond (tM 49) (.seq (.ops [dO 2 (.mv (cI 3))]) .ret) .skip)))) (.ops [dO 12 (.mv (tM 3)), dO 13 (.bin .add (tM 12) (cI 1)), dO 3 (.mv (tM 13))])))))) (.seq (.ops [dO 2 (.mv (cI 0))]) .ret)))⟩
theorem k24 : (cfgOf Tryz.prog byr).fns 17 = some c24 := by kernel_rfl
theorem t24 : T.fns 17 = some c24 := T_fns k24 (by decide) (by decide)
def c26 : IFunc := ⟨23, [.tmp 2, .tmp 3], .seq (.ops [dO 2 (.mv (.const (.slice none [] true))), dO 3 (.mv (cI 0))]) (.seq (.seq (.ops [dO 6 (.mv (tM 0)), dO 7 (.callF false 51 [tM 6]), dO 4 (.mv (tM 7))]) (.seq (.ops [dO 8 (.mv (tM 4)), dO 9 (.bin .neq (tM 8) (cI 0))]) (.cond (tM 9) (.seq (.ops [dO 10 (.mv (tM 4)), dO 2 (.mv (.const (.slice none [] true))), dO 3 (.mv (tM 10))]) .ret) .skip))) (.seq (.ops [dO 11 (.mv (tM 0)), dO 12 (.len (tM 11)), dO 13 (.mkSlice none [.int .i64 0] 8 (tM 12) (tM 12)), dO 5 (.mv (tM 13))]) (.seq (.ops [dO 14 (.mv (tM 5)), dO 15 (.mv (tM 0)), dO 16 (.callF false 52 [tM 15, cI 0]), dO 17 (.nilCheck (tM 16)), dO 18 (.fieldAddr 0 (tM 17)), dO 19 (.load (some 1) (tM 18)), dO 20 (.callF false 53 [tM 19]), dO 21 (.copy none (tM 14) (tM 20))]) (.seq (.ops [dO 22 (.mv (tM 5)), dO 2 (.mv (tM 22)), dO 3 (.mv (cI 0))]) .ret))))⟩
theorem k26 : (cfgOf Tryz.prog byr).fns 18 = some c26 := by kernel_rfl
theorem t26 : T.fns 18 = some c26 := T_fns k26 (by decide) (by decide)
def c33 : IFunc := ⟨18, [.tmp 4, .tmp 5], .seq (.ops [dO 4 (.mv (cI 0)), dO 5 (.mv (cI 0))]) (.seq (.ops [dO 10 (.mv (tM 0)), dO 11 (.mv (tM 1)), dO 12 (.callF false 63 [tM 10, tM 11]), dO 9 (.mv (tM 12)), dO 13 (.extract (tM 9) 0), dO 14 (.extract (tM 9) 1), dO 15 (.extract (tM 9) 2), dO 6 (.mv (tM 13)), dO 7 (.mv (tM 14)), dO 8 (.mv (tM 15))]) (.seq (.ops [dO 16 (.mv (tM 7)), dO 17 (.mv (tM 8)), dO 4 (.mv (tM 16)), dO 5 (.mv (tM 17))]) .ret))⟩
theorem k33 : (cfgOf Tryz.prog byr).fns 23 = some c33 := by kernel_rfl
theorem t33 : T.fns 23 = some c33 := T_fns k33 (by decide) (by decide)
def c57 : IFunc := ⟨29, [.tmp 4], .seq (.ops [dO 4 (.mv (cI 0))]) (.seq (.ops [dO 7 (.mv (tM 0)), dO 8 (.callF false 51 [tM 7]), dO 5 (.mv (tM 8))]) (.seq (.block 0 (.seq (.ops [dO 10 (.mv (tM 5)), dO 11 (.bin .neq (tM 10) (cI 0)), dO 9 (.mv (tM 11))]) (.cond (tM 9) (.seq (.ops [dO 12 (.mv (tM 5)), dO 4 (.mv (tM 12))]) .ret) (.seq (.ops [dO 14 (.mv (tM 1)), dO 15 (.len (tM 14)), dO 16 (.mv (tM 0)), dO 17 (.len (tM 16)), dO 18 (.bin .neq (tM 15) (tM 17)), dO 13 (.mv (tM 18))]) (.cond (tM 13) (.seq (.ops [dO 4 (.mv (cI 15))]) .ret) .skip))))) (.seq (.seq (.ops [dO 19 (.mv (tM 0)), dO 20 (.len (tM 19)), dO 21 (.mv (cI 0))]) (.block 1 (.loop (.seq (.ops [dO 22 (.bin .lss (tM 21) (tM 20))]) (.seq (.cond (tM 22) .skip (.exit 1)) (.seq (.block 2 (.seq (.ops [dO 23 (.mv (tM 21)), dO 6 (.mv (tM 23))]) (.seq (.ops [dO 24 (.mv (tM 1)), dO 25 (.mv (tM 6)), dO 26 (.callF false 112 [tM 24, tM 25]), dO 27 (.un .not (tM 26))]) (.cond (tM 27) (.seq (.ops [dO 4 (.mv (cI 2))]) .ret) .skip)))) (.ops [dO 28 (.bin .add (tM 21) (cI 1)), dO 21 (.mv (tM 28))]))))))) (.seq (.ops [dO 4 (.mv (cI 0))]) .ret))))⟩
theorem k57 : (cfgOf Tryz.prog byr).fns 120 = some c57 := by kernel_rfl
theorem t57 : T.fns 120 = some c57 := T_fns k57 (by decide) (by decide)
def c58 : IFunc := ⟨11, [.tmp 6], .seq (.ops [dO 3 (.box (tM 0)), dO 4 (.box (tM 1)), dO 6 (.mv (cB false))]) (.seq (.ops [dO 7 (.mv (tM 2)), dO 8 (.mkFunc 178 [] [tM 3, tM 4]), dO 9 (.callF false 177 [tM 7, tM 8]), dO 10 (.un .not (tM 9)), dO 6 (.mv (tM 10))]) .ret)⟩
theorem k58 : (cfgOf Tryz.prog byr).fns 114 = some c58 := by kernel_rfl
theorem t58 : T.fns 114 = some c58 := T_fns k58 (by decide) (by decide)
def c59 : IFunc := ⟨30, [.tmp 4], .seq (.ops [dO 4 (.mv (.const (.slice none [] true)))]) (.seq (.ops [dO 9 (.mv (tM 0)), dO 10 (.len (tM 9)), dO 11 (.mkSlice none [.int .i64 0] 8 (tM 10) (tM 10)), dO 5 (.mv (tM 11))]) (.seq (.ops [dO 6 (.mv (cI 0))]) (.seq (.seq (.ops [dO 12 (.mv (tM 0)), dO 13 (.len (tM 12)), dO 14 (.mv (cI 0))]) (.block 0 (.loop (.seq (.ops [dO 15 (.bin .lss (tM 14) (tM 13))]) (.seq (.cond (tM 15) .skip (.exit 0)) (.seq (.block 1 (.seq (.ops [dO 16 (.indexAddr 1 (tM 12) (tM 14)), dO 17 (.load none (tM 16)), dO 8 (.mv (tM 17))]) (.seq (.ops [dO 18 (.mv (tM 6)), dO 19 (.mv (tM 1)), dO 20 (.mv (tM 8)), dO 21 (.indexAddr 1 (tM 19) (tM 20)), dO 22 (.load none (tM 21)), dO 23 (.bin .add (tM 18) (tM 22)), dO 6 (.mv (tM 23))]) (.ops [dO 24 (.mv (tM 5)), dO 25 (.mv (tM 8)), dO 26 (.mv (tM 6)), dO 27 (.indexAddr 1 (tM 24) (tM 25)), eO (.store 1 (tM 27) (tM 26))])))) (.ops [dO 28 (.bin .add (tM 14) (cI 1)), dO 14 (.mv (tM 28))]))))))) (.seq (.ops [dO 29 (.mv (tM 5)), dO 4 (.mv (tM 29))]) .ret))))⟩
theorem k59 : (cfgOf Tryz.prog byr).fns 121 = some c59 := by kernel_rfl
theorem t59 : T.fns 121 = some c59 := T_fns k59 (by decide) (by decide)
def c62 : IFunc := ⟨25, [.tmp 4], .seq (.ops [dO 4 (.mv (cI 0))]) (.seq (.ops [dO 8 (.mv (tM 0)), dO 9 (.indexAddr 1 (tM 8) (cI 0)), dO 10 (.load none (tM 9)), dO 5 (.mv (tM 10))]) (.seq (.seq (.ops [dO 11 (.mv (tM 0)), dO 12 (.slice none (tM 11) (some (cI 1)) none none), dO 13 (.len (tM 12)), dO 14 (.mv (cI 0))]) (.block 0 (.loop (.seq (.ops [dO 15 (.bin .lss (tM 14) (tM 13))]) (.seq (.cond (tM 15) .skip (.exit 0)) (.seq (.block 1 (.seq (.ops [dO 16 (.indexAddr 1 (tM 12) (tM 14)), dO 17 (.load none (tM 16)), dO 7 (.mv (tM 17))]) (.seq (.ops [dO 18 (.mv (tM 1)), dO 19 (.mv (tM 7)), dO 20 (.mv (tM 5)), dO 21 (.call false (tM 18) [tM 19, tM 20])]) (.cond (tM 21) (.ops [dO 22 (.mv (tM 7)), dO 5 (.mv (tM 22))]) .skip)))) (.ops [dO 23 (.bin .add (tM 14) (cI 1)), dO 14 (.mv (tM 23))]))))))) (.seq (.ops [dO 24 (.mv (tM 5)), dO 4 (.mv (tM 24))]) .ret)))⟩
theorem k62 : (cfgOf Tryz.prog byr).fns 61 = some c62 := by kernel_rfl
theorem t62 : T.fns 61 = some c62 := T_fns k62 (by decide) (by decide)
def c63 : IFunc := ⟨8, [.tmp 4], .seq (.ops [dO 4 (.mv (cB false))]) (.seq (.ops [dO 5 (.mv (tM 0)), dO 6 (.mv (tM 1)), dO 7 (.bin .gtr (tM 5) (tM 6)), dO 4 (.mv (tM 7))]) .ret)⟩
theorem k63 : (cfgOf Tryz.prog byr).fns 62 = some c63 := by kernel_rfl
theorem t63 : T.fns 62 = some c63 := T_fns k63 (by decide) (by decide)
def c65 : IFunc := ⟨28, [.tmp 2], .seq (.ops [dO 1 (.box (tM 0)), dO 2 (.mv (cB false))]) (.seq (.ops [dO 3 (.fieldAddr 0 (tM 1)), dO 4 (.fieldAddr 0 (tM 3)), dO 5 (.load none (tM 4)), dO 6 (.fieldAddr 0 (tM 1)), dO 7 (.fieldAddr 1 (tM 6)), dO 8 (.load none (tM 7)), dO 9 (.buildSlice none [.int .i64 0, .int .i64 0] [(0, (1, tM 5)), (1, (1, tM 8))]), dO 10 (.callF false 114 [cI 1, cI 100, tM 9]), dO 11 (.un .not (tM 10)), dO 12 (.mv (tM 11)), gO 13 (.fieldAddr 0 (tM 1)) 12 false, gO 14 (.fieldAddr 0 (tM 13)) 12 false, gO 15 (.load none (tM 14)) 12 false, gO 16 (.fieldAddr 0 (tM 1)) 12 false, gO 17 (.fieldAddr 1 (tM 16)) 12 false, gO 18 (.load none (tM 17)) 12 false, gO 19 (.bin .gtr (tM 15) (tM 18)) 12 false, dO 20 (.pick (tM 12) (cB true) (tM 19)), dO 21 (.mv (tM 20)), gO 22 (.fieldAddr 2 (tM 1)) 21 false, gO 23 (.load none (tM 22)) 21 false, gO 24 (.buildSlice none [.int .i64 0] [(0, (1, tM 23))]) 21 false, gO 25 (.callF false 114 [cI 0, cI 2000, tM 24]) 21 false, gO 26 (.un .not (tM 25)) 21 false, dO 27 (.pick (tM 21) (cB true) (tM 26)), dO 2 (.mv (tM 27))]) .ret)⟩
theorem k65 : (cfgOf Tryz.prog byr).fns 113 = some c65 := by kernel_rfl
theorem t65 : T.fns 113 = some c65 := T_fns k65 (by decide) (by decide)
def c66 : IFunc := ⟨9, [.tmp 4], .seq (.ops [dO 4 (.mv (cB false))]) (.seq (.ops [dO 5 (.mv (tM 0)), dO 6 (.mv (tM 1)), dO 7 (.callF false 179 [tM 5, tM 6]), dO 8 (.bin .geq (tM 7) (cI 0)), dO 4 (.mv (tM 8))]) .ret)⟩
theorem k66 : (cfgOf Tryz.prog byr).fns 115 = some c66 := by kernel_rfl
theorem t66 : T.fns 115 = some c66 := T_fns k66 (by decide) (by decide)
def c67 : IFunc := ⟨42, [.tmp 4], .seq (.ops [dO 4 (.mv (.const .nilptr))]) (.seq (.ops [dO 8 (.mv (tM 0)), dO 9 (.build [.slice (some 3) [] true] [(0, (1, tM 8))]), dO 10 (.build [.slice (some 3) [] true, .slice none [] true] [(0, (1, tM 9))]), dO 11 (.box (tM 10)), dO 5 (.mv (tM 11))]) (.seq (.seq (.ops [dO 12 (.mv (tM 5)), dO 13 (.nilCheck (tM 12)), dO 14 (.fieldAddr 0 (tM 13)), dO 15 (.fieldAddr 0 (tM 14)), dO 16 (.load none (tM 15)), dO 17 (.len (tM 16)), dO 18 (.mv (cI 0))]) (.block 0 (.loop (.seq (.ops [dO 19 (.bin .lss (tM 18) (tM 17))]) (.seq (.cond (tM 19) .skip (.exit 0)) (.seq (.block 1 (.seq (.ops [dO 20 (.indexAddr 3 (tM 16) (tM 18)), dO 21 (.load (some 3) (tM 20)), dO 7 (.alloc [.int .i64 0, .int .i64 0, .int .i64 0]), eO (.store 3 (tM 7) (tM 21))]) (.ops [dO 22 (.mv (tM 5)), dO 23 (.mv (tM 5)), dO 24 (.nilCheck (tM 23)), dO 25 (.fieldAddr 1 (tM 24)), dO 26 (.load none (tM 25)), dO 27 (.fieldAddr 0 (tM 7)), dO 28 (.fieldAddr 0 (tM 27)), dO 29 (.load none (tM 28)), dO 30 (.fieldAddr 0 (tM 7)), dO 31 (.fieldAddr 1 (tM 30)), dO 32 (.load none (tM 31)), dO 33 (.build [.int .i64 0, .int .i64 0] [(0, (1, tM 29)), (1, (1, tM 32))]), dO 34 (.mv (tM 1)), dO 35 (.index none 2 (tM 33) (tM 34)), dO 36 (.buildSlice none [.int .i64 0] [(0, (1, tM 35))]), dO 37 (.append none 8 (tM 26) (tM 36)), dO 38 (.nilCheck (tM 22)), dO 39 (.fieldAddr 1 (tM 38)), eO (.store 1 (tM 39) (tM 37))]))) (.ops [dO 40 (.bin .add (tM 18) (cI 1)), dO 18 (.mv (tM 40))]))))))) (.seq (.ops [dO 41 (.mv (tM 5)), dO 4 (.mv (tM 41))]) .ret)))⟩
theorem k67 : (cfgOf Tryz.prog byr).fns 52 = some c67 := by kernel_rfl
theorem t67 : T.fns 52 = some c67 := T_fns k67 (by decide) (by decide)
def c68 : IFunc := ⟨20, [.tmp 2], .seq (.ops [dO 1 (.box (tM 0)), dO 2 (.mv (.const (.slice none [] true)))]) (.seq (.ops [dO 3 (.mv (.const (.slice none [] true)))]) (.seq (.seq (.ops [dO 5 (.fieldAddr 0 (tM 1)), dO 6 (.load none (tM 5)), dO 7 (.len (tM 6)), dO 8 (.mv (cI 0))]) (.block 0 (.loop (.seq (.ops [dO 9 (.bin .lss (tM 8) (tM 7))]) (.seq (.cond (tM 9) .skip (.exit 0)) (.seq (.block 1 (.seq (.ops [dO 10 (.mv (tM 8)), dO 4 (.mv (tM 10))]) (.ops [dO 11 (.mv (tM 3)), dO 12 (.mv (tM 4)), dO 13 (.buildSlice none [.int .i64 0] [(0, (1, tM 12))]), dO 14 (.append none 8 (tM 11) (tM 13)), dO 3 (.mv (tM 14))]))) (.ops [dO 15 (.bin .add (tM 8) (cI 1)), dO 8 (.mv (tM 15))]))))))) (.seq (.ops [dO 16 (.mv (tM 3)), dO 17 (.mkFunc 117 [] [tM 1]), dO 18 (.callF true 116 [tM 16, tM 17])]) (.seq (.ops [dO 19 (.mv (tM 3)), dO 2 (.mv (tM 19))]) .ret))))⟩
theorem k68 : (cfgOf Tryz.prog byr).fns 53 = some c68 := by kernel_rfl
theorem t68 : T.fns 53 = some c68 := T_fns k68 (by decide) (by decide)
def c69 : IFunc := ⟨21, [.tmp 4, .tmp 5], .seq (.ops [dO 4 (.mv (.const .nilptr)), dO 5 (.mv (cI 0))]) (.seq (.ops [dO 7 (.mv (tM 0)), dO 8 (.callF false 51 [tM 7]), dO 6 (.mv (tM 8))]) (.seq (.block 0 (.seq (.ops [dO 10 (.mv (tM 6)), dO 11 (.bin .neq (tM 10) (cI 0)), dO 9 (.mv (tM 11))]) (.cond (tM 9) (.seq (.ops [dO 12 (.mv (tM 6)), dO 4 (.mv (.const .nilptr)), dO 5 (.mv (tM 12))]) .ret) (.seq (.ops [dO 14 (.mv (tM 1)), dO 15 (.buildSlice none [.int .i64 0] [(0, (1, tM 14))]), dO 16 (.callF false 114 [cI 0, cI 1, tM 15]), dO 17 (.un .not (tM 16)), dO 13 (.mv (tM 17))]) (.cond (tM 13) (.seq (.ops [dO 4 (.mv (.const .nilptr)), dO 5 (.mv (cI 2))]) .ret) .skip))))) (.seq (.ops [dO 18 (.mv (tM 0)), dO 19 (.mv (tM 1)), dO 20 (.callF false 52 [tM 18, tM 19]), dO 4 (.mv (tM 20)), dO 5 (.mv (cI 0))]) .ret)))⟩
theorem k69 : (cfgOf Tryz.prog byr).fns 122 = some c69 := by kernel_rfl
theorem t69 : T.fns 122 = some c69 := T_fns k69 (by decide) (by decide)
def c70 : IFunc := ⟨39, [.tmp 4, .tmp 5], .seq (.ops [dO 4 (.mv (cI 0)), dO 5 (.mv (cB false))]) (.seq (.ops [dO 10 (.mv (tM 1)), dO 11 (.un .neg (tM 10)), dO 6 (.mv (tM 11)), dO 7 (.mv (cB false))]) (.seq (.seq (.ops [dO 12 (.mv (tM 0)), dO 13 (.nilCheck (tM 12)), dO 14 (.fieldAddr 0 (tM 13)), dO 15 (.fieldAddr 0 (tM 14)), dO 16 (.load none (tM 15)), dO 17 (.len (tM 16)), dO 18 (.mv (cI 0))]) (.block 0 (.loop (.seq (.ops [dO 19 (.bin .lss (tM 18) (tM 17))]) (.seq (.cond (tM 19) .skip (.exit 0)) (.seq (.block 1 (.seq (.ops [dO 20 (.mv (tM 18)), dO 21 (.indexAddr 3 (tM 16) (tM 18)), dO 22 (.load (some 3) (tM 21)), dO 9 (.alloc [.int .i64 0, .int .i64 0, .int .i64 0]), dO 8 (.mv (tM 20)), eO (.store 3 (tM 9) (tM 22))]) (.seq (.ops [dO 23 (.fieldAddr 2 (tM 9)), dO 24 (.load none (tM 23)), dO 25 (.mv (tM 1)), dO 26 (.bin .leq (tM 24) (tM 25))]) (.cond (tM 26) (.ops [dO 27 (.mv (tM 6)), dO 28 (.mv (tM 0)), dO 29 (.nilCheck (tM 28)), dO 30 (.fieldAddr 1 (tM 29)), dO 31 (.load none (tM 30)), dO 32 (.mv (tM 8)), dO 33 (.indexAddr 1 (tM 31) (tM 32)), dO 34 (.load none (tM 33)), dO 35 (.bin .add (tM 27) (tM 34)), dO 6 (.mv (tM 35)), dO 7 (.mv (cB true))]) .skip)))) (.ops [dO 36 (.bin .add (tM 18) (cI 1)), dO 18 (.mv (tM 36))]))))))) (.seq (.ops [dO 37 (.mv (tM 6)), dO 38 (.mv (tM 7)), dO 4 (.mv (tM 37)), dO 5 (.mv (tM 38))]) .ret)))⟩
theorem k70 : (cfgOf Tryz.prog byr).fns 124 = some c70 := by kernel_rfl
theorem t70 : T.fns 124 = some c70 := T_fns k70 (by decide) (by decide)
def c73 : IFunc := ⟨51, [.tmp 4, .tmp 5, .tmp 6], .seq (.ops [dO 4 (.mv (cI 0)), dO 5 (.mv (cI 0)), dO 6 (.mv (cI 0))]) (.seq (.ops [dO 16 (.mv (tM 0)), dO 17 (.mv (tM 1)), dO 18 (.callF false 122 [tM 16, tM 17]), dO 15 (.mv (tM 18)), dO 19 (.extract (tM 15) 0), dO 20 (.extract (tM 15) 1), dO 7 (.alloc [.nilptr]), eO (.store 1 (tM 7) (tM 19)), dO 8 (.mv (tM 20))]) (.seq (.block 0 (.seq (.ops [dO 22 (.mv (tM 8)), dO 23 (.bin .neq (tM 22) (cI 0)), dO 21 (.mv (tM 23))]) (.cond (tM 21) (.seq (.ops [dO 24 (.mv (tM 8)), dO 4 (.mv (cI 0)), dO 5 (.mv (cI 0)), dO 6 (.mv (tM 24))]) .ret) (.seq (.ops [dO 26 (.mv (tM 0)), dO 27 (.len (tM 26)), dO 28 (.bin .eql (tM 27) (cI 0)), dO 25 (.mv (tM 28))]) (.cond (tM 25) (.seq (.ops [dO 4 (.mv (cI 0)), dO 5 (.mv (cI 0)), dO 6 (.mv (cI 5))]) .ret) .skip))))) (.seq (.ops [dO 9 (.alloc [.bool false]), eO (.store 1 (tM 9) (cB true))]) (.seq (.ops [dO 10 (.alloc [.int .i64 0]), dO 11 (.alloc [.int .i64 0]), eO (.store 1 (tM 10) (cI 0)), eO (.store 1 (tM 11) (cI 0))]) (.seq (.seq (.ops [dO 29 (.load none (tM 7)), dO 30 (.nilCheck (tM 29)), dO 31 (.fieldAddr 0 (tM 30)), dO 32 (.load (some 1) (tM 31)), dO 33 (.callF false 123 [tM 32])]) (.block 1 (.rangeF (tM 33) [34] (.ops [dO 12 (.mv (tM 34))]) (.block 2 (.seq (.ops [dO 36 (.load none (tM 7)), dO 37 (.mv (tM 12)), dO 38 (.callF false 124 [tM 36, tM 37]), dO 35 (.mv (tM 38)), dO 39 (.extract (tM 35) 0), dO 40 (.extract (tM 35) 1), dO 13 (.mv (tM 39)), dO 14 (.mv (tM 40))]) (.seq (.ops [dO 41 (.load none (tM 9)), dO 42 (.mv (tM 41)), gO 43 (.mv (tM 13)) 42 false, gO 44 (.load none (tM 11)) 42 false, gO 45 (.bin .gtr (tM 43) (tM 44)) 42 false, dO 46 (.pick (tM 42) (cB true) (tM 45))]) (.cond (tM 46) (.ops [dO 47 (.mv (tM 12)), dO 48 (.mv (tM 13)), eO (.store 1 (tM 10) (tM 47)), eO (.store 1 (tM 11) (tM 48)), eO (.store 1 (tM 9) (cB false))]) .skip))))))) (.seq (.ops [dO 49 (.load none (tM 10)), dO 50 (.load none (tM 11)), dO 4 (.mv (tM 49)), dO 5 (.mv (tM 50)), dO 6 (.mv (cI 0))]) .ret))))))⟩
theorem k73 : (cfgOf Tryz.prog byr).fns 63 = some c73 := by kernel_rfl
theorem t73 : T.fns 63 = some c73 := T_fns k73 (by decide) (by decide)
def c75 : IFunc := ⟨88, [.cell 2 (some 10)], .seq (.ops [dO 1 (.box (tM 0)), dO 2 (.alloc [.int .i64 0, .int .i64 0, .int .i64 0, .int .i64 0, .int .i64 0, .int .i64 0, .int .i64 0, .int .i64 0, .int .i64 0, .int .i64 0])]) (.seq (.ops [⟨some 12, .mkMap, none⟩, dO 3 (.alloc [.fmap [] []]), eO (.store 1 (tM 3) (tM 12))]) (.seq (.ops [dO 4 (.mv (cI 0))]) (.seq (.seq (.ops [dO 13 (.load none (tM 1)), dO 14 (.nilCheck (tM 13)), dO 15 (.fieldAddr 0 (tM 14)), dO 16 (.load (some 1) (tM 15)), dO 17 (.callF false 53 [tM 16]), dO 18 (.len (tM 17)), dO 19 (.mv (cI 0))]) (.block 0 (.loop (.seq (.ops [dO 20 (.bin .lss (tM 19) (tM 18))]) (.seq (.cond (tM 20) .skip (.exit 0)) (.seq (.block 1 (.seq (.ops [dO 21 (.mv (tM 19)), dO 22 (.indexAddr 1 (tM 17) (tM 19)), dO 23 (.load none (tM 22)), dO 5 (.mv (tM 21)), dO 6 (.mv (tM 23))]) (.seq (.ops [dO 24 (.load none (tM 3)), dO 25 (.mv (tM 6)), dO 26 (.build [.int .i64 0] [(0, (1, tM 25))]), dO 27 (.mv (tM 5)), eO (.mapUpdate (some 1) (tM 24) (tM 26) (tM 27))]) (.seq (.ops [dO 28 (.mv (tM 4)), dO 29 (.load none (tM 1)), dO 30 (.nilCheck (tM 29)), dO 31 (.fieldAddr 1 (tM 30)), dO 32 (.load none (tM 31)), dO 33 (.mv (tM 6)), dO 34 (.indexAddr 1 (tM 32) (tM 33)), dO 35 (.load none (tM 34)), dO 36 (.bin .add (tM 28) (tM 35)), dO 4 (.mv (tM 36))]) (.seq (.seq (.ops [dO 37 (.mv (tM 4)), dO 38 (.load none (tM 1)), dO 39 (.nilCheck (tM 38)), dO 40 (.fieldAddr 0 (tM 39)), dO 41 (.fieldAddr 0 (tM 40)), dO 42 (.load none (tM 41)), dO 43 (.mv (tM 6)), dO 44 (.indexAddr 3 (tM 42) (tM 43)), dO 45 (.fieldAddr 2 (tM 44)), dO 46 (.load none (tM 45)), dO 47 (.bin .leq (tM 37) (tM 46))]) (.cond (tM 47) (.exit 1) .skip)) (.seq (.ops [dO 7 (.mv (.const (.slice (some 1) [] true)))]) (.seq (.seq (.ops [dO 48 (.load none (tM 3)), dO 49 (.range (tM 48))]) (.block 2 (.loop (.seq (.ops [dO 50 (.next (tM 49)), dO 51 (.extract (tM 50) 0)]) (.seq (.cond (tM 51) .skip (.exit 2)) (.block 3 (.seq (.ops [dO 52 (.entry (tM 49)), dO 53 (.extract (tM 52) 0), dO 8 (.alloc [.int .i64 0]), eO (.store 1 (tM 8) (tM 53))]) (.ops [dO 54 (.mv (tM 7)), dO 55 (.load (some 1) (tM 8)), dO 56 (.buildSlice (some 1) [.int .i64 0] [(0, (1, tM 55))]), dO 57 (.append (some 1) 8 (tM 54) (tM 56)), dO 7 (.mv (tM 57))])))))))) (.seq (.ops [dO 58 (.mv (tM 7)), dO 59 (.mkFunc 288 [] [tM 1, tM 3]), dO 60 (.callF false 287 [tM 58, tM 59]), dO 9 (.alloc [.int .i64 0]), eO (.store 1 (tM 9) (tM 60))]) (.seq (.ops [dO 61 (.mv (tM 4)), dO 62 (.load none (tM 1)), dO 63 (.nilCheck (tM 62)), dO 64 (.fieldAddr 1 (tM 63)), dO 65 (.load none (tM 64)), dO 66 (.fieldAddr 0 (tM 9)), dO 67 (.load none (tM 66)), dO 68 (.indexAddr 1 (tM 65) (tM 67)), dO 69 (.load none (tM 68)), dO 70 (.bin .sub (tM 61) (tM 69)), dO 4 (.mv (tM 70))]) (.ops [dO 71 (.load none (tM 3)), dO 72 (.load (some 1) (tM 9)), eO (.delete (some 1) (tM 71) (tM 72))])))))))))) (.ops [dO 73 (.bin .add (tM 19) (cI 1)), dO 19 (.mv (tM 73))]))))))) (.seq (.ops [dO 10 (.alloc [.int .i64 0, .int .i64 0, .int .i64 0, .int .i64 0, .int .i64 0, .int .i64 0, .int .i64 0, .int .i64 0, .int .i64 0, .int .i64 0])]) (.seq (.seq (.ops [dO 74 (.load none (tM 3)), dO 75 (.range (tM 74))]) (.block 4 (.loop (.seq (.ops [dO 76 (.next (tM 75)), dO 77 (.extract (tM 76) 0)]) (.seq (.cond (tM 77) .skip (.exit 4)) (.block 5 (.seq (.ops [dO 78 (.entry (tM 75)), dO 79 (.extract (tM 78) 0), dO 11 (.alloc [.int .i64 0]), eO (.store 1 (tM 11) (tM 79))]) (.ops [dO 80 (.fieldAddr 0 (tM 11)), dO 81 (.load none (tM 80)), dO 82 (.indexAddrA 10 1 (tM 10) (tM 81)), eO (.store 1 (tM 82) (cI 1))])))))))) (.seq (.seq (.ops [dO 83 (.load (some 10) (tM 10)), dO 84 (.build [.int .i64 0, .int .i64 0, .int .i64 0, .int .i64 0, .int .i64 0, .int .i64 0, .int .i64 0, .int .i64 0, .int .i64 0, .int .i64 0] []), dO 85 (.eqAgg 10 false (tM 83) (tM 84))]) (.cond (tM 85) (.seq (.ops [dO 86 (.build [.int .i64 0, .int .i64 0, .int .i64 0, .int .i64 0, .int .i64 0, .int .i64 0, .int .i64 0, .int .i64 0, .int .i64 0, .int .i64 0] []), eO (.store 10 (tM 2) (tM 86))]) .ret) .skip)) (.seq (.ops [dO 87 (.load (some 10) (tM 10)), eO (.store 10 (tM 2) (tM 87))]) .ret)))))))⟩
theorem k75 : (cfgOf Tryz.prog byr).fns 213 = some c75 := by kernel_rfl
theorem t75 : T.fns 213 = some c75 := T_fns k75 (by decide) (by decide)
def c77 : IFunc := ⟨9, [.tmp 4], .seq (.ops [dO 4 (.mv (cB false))]) (.seq (.ops [dO 5 (.mv (tM 0)), dO 6 (.mv (tM 1)), dO 7 (.callF false 43 [tM 5, tM 6]), dO 8 (.bin .geq (tM 7) (cI 0)), dO 4 (.mv (tM 8))]) .ret)⟩
theorem k77 : (cfgOf Tryz.prog byr).fns 112 = some c77 := by kernel_rfl
theorem t77 : T.fns 112 = some c77 := T_fns k77 (by decide) (by decide)
def c79 : IFunc := ⟨125, [.tmp 6], .seq (.ops [dO 6 (.mv (cI 0))]) (.seq (.ops [dO 14 (.buildSlice none [.int .i64 0] [(0, (1, cI 0))]), dO 7 (.mv (tM 14))]) (.seq (.seq (.ops [dO 15 (.mv (tM 0)), dO 16 (.nilCheck (tM 15)), dO 17 (.fieldAddr 0 (tM 16)), dO 18 (.load (some 1) (tM 17)), dO 19 (.callF false 53 [tM 18]), dO 20 (.len (tM 19)), dO 21 (.mv (cI 0))]) (.block 0 (.loop (.seq (.ops [dO 22 (.bin .lss (tM 21) (tM 20))]) (.seq (.cond (tM 22) .skip (.exit 0)) (.seq (.block 1 (.seq (.ops [dO 23 (.indexAddr 1 (tM 19) (tM 21)), dO 24 (.load none (tM 23)), dO 9 (.mv (tM 24))]) (.seq (.seq (.ops [dO 25 (.mv (tM 9)), dO 26 (.mv (tM 2)), dO 27 (.bin .eql (tM 25) (tM 26))]) (.cond (tM 27) (.exit 1) .skip)) (.seq (.ops [dO 28 (.mv (tM 7)), dO 29 (.len (tM 28)), dO 30 (.bin .add (tM 29) (cI 1)), dO 31 (.mkSlice none [.int .i64 0] 8 (tM 30) (tM 30)), dO 10 (.mv (tM 31))]) (.seq .skip (.seq (.seq (.ops [dO 32 (.mv (tM 10)), dO 33 (.len (tM 32)), dO 34 (.mv (cI 0))]) (.block 2 (.loop (.seq (.ops [dO 35 (.bin .lss (tM 34) (tM 33))]) (.seq (.cond (tM 35) .skip (.exit 2)) (.seq (.block 3 (.seq (.ops [dO 36 (.mv (tM 34)), dO 11 (.mv (tM 36))]) (.seq (.ops [dO 37 (.mv (tM 10)), dO 38 (.mv (tM 11)), dO 39 (.indexAddr 1 (tM 37) (tM 38)), eO (.store 1 (tM 39) (cI (-1)))]) (.seq (.seq (.ops [dO 40 (.mv (tM 11)), dO 41 (.mv (tM 7)), dO 42 (.len (tM 41)), dO 43 (.bin .lss (tM 40) (tM 42)), dO 44 (.mv (tM 43)), gO 45 (.mv (tM 9)) 44 true, gO 46 (.mv (tM 1)) 44 true, gO 47 (.bin .neq (tM 45) (tM 46)) 44 true, dO 48 (.pick (tM 44) (tM 47) (cB false))]) (.cond (tM 48) (.ops [dO 49 (.mv (tM 10)), dO 50 (.mv (tM 11)), dO 51 (.mv (tM 7)), dO 52 (.mv (tM 11)), dO 53 (.indexAddr 1 (tM 51) (tM 52)), dO 54 (.load none (tM 53)), dO 55 (.indexAddr 1 (tM 49) (tM 50)), eO (.store 1 (tM 55) (tM 54))]) .skip)) (.seq (.seq (.ops [dO 56 (.mv (tM 11)), dO 57 (.bin .eql (tM 56) (cI 0)), dO 58 (.mv (tM 57)), gO 59 (.mv (tM 7)) 58 false, gO 60 (.mv (tM 11)) 58 false, gO 61 (.bin .sub (tM 60) (cI 1)) 58 false, gO 62 (.indexAddr 1 (tM 59) (tM 61)) 58 false, gO 63 (.load none (tM 62)) 58 false, gO 64 (.bin .lss (tM 63) (cI 0)) 58 false, dO 65 (.pick (tM 58) (cB true) (tM 64))]) (.cond (tM 65) (.exit 3) .skip)) (.seq (.ops [dO 66 (.mv (tM 7)), dO 67 (.mv (tM 11)), dO 68 (.bin .sub (tM 67) (cI 1)), dO 69 (.indexAddr 1 (tM 66) (tM 68)), dO 70 (.load none (tM 69)), dO 71 (.mv (tM 0)), dO 72 (.nilCheck (tM 71)), dO 73 (.fieldAddr 1 (tM 72)), dO 74 (.load none (tM 73)), dO 75 (.mv (tM 9)), dO 76 (.indexAddr 1 (tM 74) (tM 75)), dO 77 (.load none (tM 76)), dO 78 (.bin .add (tM 70) (tM 77)), dO 12 (.mv (tM 78))]) (.seq (.ops [dO 79 (.mv (tM 12)), dO 80 (.mv (tM 0)), dO 81 (.nilCheck (tM 80)), dO 82 (.fieldAddr 0 (tM 81)), dO 83 (.fieldAddr 0 (tM 82)), dO 84 (.load none (tM 83)), dO 85 (.mv (tM 9)), dO 86 (.indexAddr 3 (tM 84) (tM 85)), dO 87 (.fieldAddr 2 (tM 86)), dO 88 (.load none (tM 87)), dO 89 (.bin .leq (tM 79) (tM 88)), dO 90 (.mv (tM 89)), gO 91 (.mv (tM 10)) 90 true, gO 92 (.mv (tM 11)) 90 true, gO 93 (.indexAddr 1 (tM 91) (tM 92)) 90 true, gO 94 (.load none (tM 93)) 90 true, gO 95 (.bin .lss (tM 94) (cI 0)) 90 true, gO 96 (.mv (tM 95)) 90 true, gO 97 (.mv (tM 12)) 96 false, gO 98 (.mv (tM 10)) 96 false, gO 99 (.mv (tM 11)) 96 false, gO 100 (.indexAddr 1 (tM 98) (tM 99)) 96 false, gO 101 (.load none (tM 100)) 96 false, gO 102 (.bin .lss (tM 97) (tM 101)) 96 false, gO 103 (.pick (tM 96) (cB true) (tM 102)) 90 true, dO 104 (.pick (tM 90) (tM 103) (cB false))]) (.cond (tM 104) (.ops [dO 105 (.mv (tM 10)), dO 106 (.mv (tM 11)), dO 107 (.mv (tM 12)), dO 108 (.indexAddr 1 (tM 105) (tM 106)), eO (.store 1 (tM 108) (tM 107))]) .skip)))))))) (.ops [dO 109 (.bin .add (tM 34) (cI 1)), dO 34 (.mv (tM 109))]))))))) (.ops [dO 110 (.mv (tM 10)), dO 7 (.mv (tM 110))]))))))) (.ops [dO 111 (.bin .add (tM 21) (cI 1)), dO 21 (.mv (tM 111))]))))))) (.seq (.seq (.ops [dO 112 (.mv (tM 7)), dO 113 (.len (tM 112)), dO 114 (.bin .sub (tM 113) (cI 1)), dO 13 (.mv (tM 114))]) (.block 4 (.loop (.seq (.seq (.ops [dO 115 (.mv (tM 13)), dO 116 (.bin .geq (tM 115) (cI 0))]) (.cond (tM 116) .skip (.exit 4))) (.seq (.block 5 (.seq (.ops [dO 119 (.mv (tM 7)), dO 120 (.mv (tM 13)), dO 121 (.indexAddr 1 (tM 119) (tM 120)), dO 122 (.load none (tM 121)), dO 123 (.bin .geq (tM 122) (cI 0))]) (.cond (tM 123) (.seq (.ops [dO 124 (.mv (tM 13)), dO 6 (.mv (tM 124))]) .ret) .skip))) (.ops [dO 117 (.mv (tM 13)), dO 118 (.bin .sub (tM 117) (cI 1)), dO 13 (.mv (tM 118))])))))) (.seq (.ops [dO 6 (.mv (cI (-1)))]) .ret))))⟩
theorem k79 : (cfgOf Tryz.prog byr).fns 214 = some c79 := by kernel_rfl
theorem t79 : T.fns 214 = some c79 := T_fns k79 (by decide) (by decide)
def c82 : IFunc := ⟨9, [.tmp 4], .seq (.ops [dO 4 (.mv (cB false))]) (.seq (.ops [dO 5 (.mv (tM 0)), dO 6 (.mv (tM 1)), dO 7 (.callF false 220 [tM 5, tM 6]), dO 8 (.bin .geq (tM 7) (cI 0)), dO 4 (.mv (tM 8))]) .ret)⟩
theorem k82 : (cfgOf Tryz.prog byr).fns 177 = some c82 := by kernel_rfl
theorem t82 : T.fns 177 = some c82 := T_fns k82 (by decide) (by decide)
def c83 : IFunc := ⟨13, [.tmp 4], .seq (.ops [dO 4 (.mv (cB false))]) (.seq (.ops [dO 5 (.mv (tM 0)), dO 6 (.load none (tM 1)), dO 7 (.bin .lss (tM 5) (tM 6)), dO 8 (.mv (tM 7)), gO 9 (.mv (tM 0)) 8 false, gO 10 (.load none (tM 2)) 8 false, gO 11 (.bin .gtr (tM 9) (tM 10)) 8 false, dO 12 (.pick (tM 8) (cB true) (tM 11)), dO 4 (.mv (tM 12))]) .ret)⟩
theorem k83 : (cfgOf Tryz.prog byr).fns 178 = some c83 := by kernel_rfl
theorem t83 : T.fns 178 = some c83 := T_fns k83 (by decide) (by decide)
def c84 : IFunc := ⟨19, [.tmp 4], .seq (.ops [dO 4 (.mv (cI 0))]) (.seq (.seq (.ops [dO 6 (.mv (tM 0)), dO 7 (.len (tM 6)), dO 8 (.mv (cI 0))]) (.block 0 (.loop (.seq (.ops [dO 9 (.bin .lss (tM 8) (tM 7))]) (.seq (.cond (tM 9) .skip (.exit 0)) (.seq (.block 1 (.seq (.ops [dO 10 (.mv (tM 8)), dO 5 (.mv (tM 10))]) (.seq (.ops [dO 11 (.mv (tM 1)), dO 12 (.mv (tM 0)), dO 13 (.mv (tM 5)), dO 14 (.indexAddr 3 (tM 12) (tM 13)), dO 15 (.load (some 3) (tM 14)), dO 16 (.call false (tM 11) [tM 15])]) (.cond (tM 16) (.seq (.ops [dO 17 (.mv (tM 5)), dO 4 (.mv (tM 17))]) .ret) .skip)))) (.ops [dO 18 (.bin .add (tM 8) (cI 1)), dO 8 (.mv (tM 18))]))))))) (.seq (.ops [dO 4 (.mv (cI (-1)))]) .ret))⟩
theorem k84 : (cfgOf Tryz.prog byr).fns 179 = some c84 := by kernel_rfl
theorem t84 : T.fns 179 = some c84 := T_fns k84 (by decide) (by decide)
def c85 : IFunc := ⟨9, [], .ops [dO 4 (.mv (tM 0)), dO 5 (.mv (tM 0)), dO 6 (.len (tM 5)), dO 7 (.mv (tM 1)), dO 8 (.callF true 180 [tM 4, tM 6, tM 7])]⟩
theorem k85 : (cfgOf Tryz.prog byr).fns 116 = some c85 := by kernel_rfl
theorem t85 : T.fns 116 = some c85 := T_fns k85 (by decide) (by decide)
def c86 : IFunc := ⟨19, [.tmp 5], .seq (.ops [dO 5 (.mv (cI 0))]) (.seq (.ops [dO 6 (.fieldAddr 0 (tM 2)), dO 7 (.load none (tM 6)), dO 8 (.mv (tM 0)), dO 9 (.indexAddr 3 (tM 7) (tM 8)), dO 10 (.fieldAddr 2 (tM 9)), dO 11 (.load none (tM 10)), dO 12 (.fieldAddr 0 (tM 2)), dO 13 (.load none (tM 12)), dO 14 (.mv (tM 1)), dO 15 (.indexAddr 3 (tM 13) (tM 14)), dO 16 (.fieldAddr 2 (tM 15)), dO 17 (.load none (tM 16)), dO 18 (.callF false 118 [tM 11, tM 17]), dO 5 (.mv (tM 18))]) .ret)⟩
theorem k86 : (cfgOf Tryz.prog byr).fns 117 = some c86 := by kernel_rfl
theorem t86 : T.fns 117 = some c86 := T_fns k86 (by decide) (by decide)
def c87 : IFunc := ⟨20, [.tmp 4], .seq (.ops [dO 4 (.mv (cI 0))]) (.seq (.ops [dO 7 (.mv (tM 0)), dO 8 (.callF false 181 [tM 7]), dO 5 (.mv (tM 8))]) (.seq (.ops [dO 9 (.mv (tM 1)), dO 10 (.callF false 181 [tM 9]), dO 6 (.mv (tM 10))]) (.seq (.seq (.ops [dO 11 (.mv (tM 5))]) (.cond (tM 11) (.seq (.seq (.ops [dO 12 (.mv (tM 6))]) (.cond (tM 12) (.seq (.ops [dO 4 (.mv (cI 0))]) .ret) .skip)) (.seq (.ops [dO 4 (.mv (cI (-1)))]) .ret)) .skip)) (.seq (.seq (.ops [dO 13 (.mv (tM 6))]) (.cond (tM 13) (.seq (.ops [dO 4 (.mv (cI 1))]) .ret) .skip)) (.seq (.seq (.ops [dO 14 (.mv (tM 0)), dO 15 (.mv (tM 1)), dO 16 (.bin .lss (tM 14) (tM 15))]) (.cond (tM 16) (.seq (.ops [dO 4 (.mv (cI (-1)))]) .ret) .skip)) (.seq (.seq (.ops [dO 17 (.mv (tM 0)), dO 18 (.mv (tM 1)), dO 19 (.bin .gtr (tM 17) (tM 18))]) (.cond (tM 19) (.seq (.ops [dO 4 (.mv (cI 1))]) .ret) .skip)) (.seq (.ops [dO 4 (.mv (cI 0))]) .ret)))))))⟩
theorem k87 : (cfgOf Tryz.prog byr).fns 118 = some c87 := by kernel_rfl
theorem t87 : T.fns 118 = some c87 := T_fns k87 (by decide) (by decide)
def c88 : IFunc := ⟨4, [.tmp 2], .seq (.ops [dO 1 (.box (tM 0)), dO 2 (.mv (.const .nilfn))]) (.seq (.ops [dO 3 (.mkFunc 182 [] [tM 1]), dO 2 (.mv (tM 3))]) .ret)⟩
theorem k88 : (cfgOf Tryz.prog byr).fns 123 = some c88 := by kernel_rfl
theorem t88 : T.fns 123 = some c88 := T_fns k88 (by decide) (by decide)
def c89 : IFunc := ⟨25, [.cell 4 (some 1)], .seq (.ops [dO 4 (.alloc [.int .i64 0])]) (.seq (.ops [dO 8 (.mv (tM 0)), dO 9 (.indexAddr 1 (tM 8) (cI 0)), dO 10 (.load (some 1) (tM 9)), dO 5 (.alloc [.int .i64 0]), eO (.store 1 (tM 5) (tM 10))]) (.seq (.seq (.ops [dO 11 (.mv (tM 0)), dO 12 (.slice (some 1) (tM 11) (some (cI 1)) none none), dO 13 (.len (tM 12)), dO 14 (.mv (cI 0))]) (.block 0 (.loop (.seq (.ops [dO 15 (.bin .lss (tM 14) (tM 13))]) (.seq (.cond (tM 15) .skip (.exit 0)) (.seq (.block 1 (.seq (.ops [dO 16 (.indexAddr 1 (tM 12) (tM 14)), dO 17 (.load (some 1) (tM 16)), dO 7 (.alloc [.int .i64 0]), eO (.store 1 (tM 7) (tM 17))]) (.seq (.ops [dO 18 (.mv (tM 1)), dO 19 (.load (some 1) (tM 7)), dO 20 (.load (some 1) (tM 5)), dO 21 (.call false (tM 18) [tM 19, tM 20])]) (.cond (tM 21) (.ops [dO 22 (.load (some 1) (tM 7)), eO (.store 1 (tM 5) (tM 22))]) .skip)))) (.ops [dO 23 (.bin .add (tM 14) (cI 1)), dO 14 (.mv (tM 23))]))))))) (.seq (.ops [dO 24 (.load (some 1) (tM 5)), eO (.store 1 (tM 4) (tM 24))]) .ret)))⟩
theorem k89 : (cfgOf Tryz.prog byr).fns 287 = some c89 := by kernel_rfl
theorem t89 : T.fns 287 = some c89 := T_fns k89 (by decide) (by decide)
def c90 : IFunc := ⟨34, [.tmp 6], .seq (.ops [dO 4 (.box (tM 0)), dO 5 (.box (tM 1)), dO 6 (.mv (cB false))]) (.seq (.ops [dO 7 (.load none (tM 2)), dO 8 (.nilCheck (tM 7)), dO 9 (.fieldAddr 1 (tM 8)), dO 10 (.load none (tM 9)), dO 11 (.fieldAddr 0 (tM 4)), dO 12 (.load none (tM 11)), dO 13 (.indexAddr 1 (tM 10) (tM 12)), dO 14 (.load none (tM 13)), dO 15 (.load none (tM 2)), dO 16 (.nilCheck (tM 15)), dO 17 (.fieldAddr 1 (tM 16)), dO 18 (.load none (tM 17)), dO 19 (.fieldAddr 0 (tM 5)), dO 20 (.load none (tM 19)), dO 21 (.indexAddr 1 (tM 18) (tM 20)), dO 22 (.load none (tM 21)), dO 23 (.callF false 118 [tM 14, tM 22]), dO 24 (.load none (tM 3)), dO 25 (.load (some 1) (tM 4)), dO 26 (.lookup (some 1) (.int .i64 0) false (tM 24) (tM 25)), dO 27 (.load none (tM 3)), dO 28 (.load (some 1) (tM 5)), dO 29 (.lookup (some 1) (.int .i64 0) false (tM 27) (tM 28)), dO 30 (.callF false 290 [tM 26, tM 29]), dO 31 (.buildSlice none [.int .i64 0, .int .i64 0] [(0, (1, tM 23)), (1, (1, tM 30))]), dO 32 (.callF false 289 [tM 31]), dO 33 (.bin .gtr (tM 32) (cI 0)), dO 6 (.mv (tM 33))]) .ret)⟩
theorem k90 : (cfgOf Tryz.prog byr).fns 288 = some c90 := by kernel_rfl
theorem t90 : T.fns 288 = some c90 := T_fns k90 (by decide) (by decide)
def c91 : IFunc := ⟨18, [.tmp 2], .seq (.ops [dO 2 (.mv (cI 0))]) (.seq (.ops [dO 3 (.mv (cI 0))]) (.seq (.seq (.ops [dO 6 (.mv (tM 0)), dO 7 (.len (tM 6)), dO 8 (.mv (cI 0))]) (.block 0 (.loop (.seq (.ops [dO 9 (.bin .lss (tM 8) (tM 7))]) (.seq (.cond (tM 9) .skip (.exit 0)) (.seq (.block 1 (.seq (.ops [dO 10 (.indexAddr 1 (tM 6) (tM 8)), dO 11 (.load none (tM 10)), dO 5 (.mv (tM 11))]) (.seq (.ops [dO 12 (.mv (tM 5)), dO 13 (.mv (tM 3)), dO 14 (.bin .neq (tM 12) (tM 13))]) (.cond (tM 14) (.seq (.ops [dO 15 (.mv (tM 5)), dO 2 (.mv (tM 15))]) .ret) .skip)))) (.ops [dO 16 (.bin .add (tM 8) (cI 1)), dO 8 (.mv (tM 16))]))))))) (.seq (.ops [dO 17 (.mv (tM 3)), dO 2 (.mv (tM 17))]) .ret)))⟩
theorem k91 : (cfgOf Tryz.prog byr).fns 289 = some c91 := by kernel_rfl
theorem t91 : T.fns 289 = some c91 := T_fns k91 (by decide) (by decide)
def c92 : IFunc := ⟨20, [.tmp 4], .seq (.ops [dO 4 (.mv (cI 0))]) (.seq (.ops [dO 7 (.mv (tM 0)), dO 8 (.callF false 358 [tM 7]), dO 5 (.mv (tM 8))]) (.seq (.ops [dO 9 (.mv (tM 1)), dO 10 (.callF false 358 [tM 9]), dO 6 (.mv (tM 10))]) (.seq (.seq (.ops [dO 11 (.mv (tM 5))]) (.cond (tM 11) (.seq (.seq (.ops [dO 12 (.mv (tM 6))]) (.cond (tM 12) (.seq (.ops [dO 4 (.mv (cI 0))]) .ret) .skip)) (.seq (.ops [dO 4 (.mv (cI (-1)))]) .ret)) .skip)) (.seq (.seq (.ops [dO 13 (.mv (tM 6))]) (.cond (tM 13) (.seq (.ops [dO 4 (.mv (cI 1))]) .ret) .skip)) (.seq (.seq (.ops [dO 14 (.mv (tM 0)), dO 15 (.mv (tM 1)), dO 16 (.bin .lss (tM 14) (tM 15))]) (.cond (tM 16) (.seq (.ops [dO 4 (.mv (cI (-1)))]) .ret) .skip)) (.seq (.seq (.ops [dO 17 (.mv (tM 0)), dO 18 (.mv (tM 1)), dO 19 (.bin .gtr (tM 17) (tM 18))]) (.cond (tM 19) (.seq (.ops [dO 4 (.mv (cI 1))]) .ret) .skip)) (.seq (.ops [dO 4 (.mv (cI 0))]) .ret)))))))⟩
theorem k92 : (cfgOf Tryz.prog byr).fns 290 = some c92 := by kernel_rfl
theorem t92 : T.fns 290 = some c92 := T_fns k92 (by decide) (by decide)
def c93 : IFunc := ⟨19, [.tmp 4], .seq (.ops [dO 4 (.mv (cI 0))]) (.seq (.seq (.ops [dO 6 (.mv (tM 0)), dO 7 (.len (tM 6)), dO 8 (.mv (cI 0))]) (.block 0 (.loop (.seq (.ops [dO 9 (.bin .lss (tM 8) (tM 7))]) (.seq (.cond (tM 9) .skip (.exit 0)) (.seq (.block 1 (.seq (.ops [dO 10 (.mv (tM 8)), dO 5 (.mv (tM 10))]) (.seq (.ops [dO 11 (.mv (tM 1)), dO 12 (.mv (tM 0)), dO 13 (.mv (tM 5)), dO 14 (.indexAddr 1 (tM 12) (tM 13)), dO 15 (.load none (tM 14)), dO 16 (.bin .eql (tM 11) (tM 15))]) (.cond (tM 16) (.seq (.ops [dO 17 (.mv (tM 5)), dO 4 (.mv (tM 17))]) .ret) .skip)))) (.ops [dO 18 (.bin .add (tM 8) (cI 1)), dO 8 (.mv (tM 18))]))))))) (.seq (.ops [dO 4 (.mv (cI (-1)))]) .ret))⟩
theorem k93 : (cfgOf Tryz.prog byr).fns 43 = some c93 := by kernel_rfl
theorem t93 : T.fns 43 = some c93 := T_fns k93 (by decide) (by decide)
def c95 : IFunc := ⟨19, [.tmp 4], .seq (.ops [dO 4 (.mv (cI 0))]) (.seq (.seq (.ops [dO 6 (.mv (tM 0)), dO 7 (.len (tM 6)), dO 8 (.mv (cI 0))]) (.block 0 (.loop (.seq (.ops [dO 9 (.bin .lss (tM 8) (tM 7))]) (.seq (.cond (tM 9) .skip (.exit 0)) (.seq (.block 1 (.seq (.ops [dO 10 (.mv (tM 8)), dO 5 (.mv (tM 10))]) (.seq (.ops [dO 11 (.mv (tM 1)), dO 12 (.mv (tM 0)), dO 13 (.mv (tM 5)), dO 14 (.indexAddr 1 (tM 12) (tM 13)), dO 15 (.load none (tM 14)), dO 16 (.call false (tM 11) [tM 15])]) (.cond (tM 16) (.seq (.ops [dO 17 (.mv (tM 5)), dO 4 (.mv (tM 17))]) .ret) .skip)))) (.ops [dO 18 (.bin .add (tM 8) (cI 1)), dO 8 (.mv (tM 18))]))))))) (.seq (.ops [dO 4 (.mv (cI (-1)))]) .ret))⟩
theorem k95 : (cfgOf Tryz.prog byr).fns 220 = some c95 := by kernel_rfl
theorem t95 : T.fns 220 = some c95 := T_fns k95 (by decide) (by decide)
def c96 : IFunc := ⟨63, [], .seq (.ops [dO 6 (.mv (cI 20))]) (.seq (.ops [dO 10 (.mv (tM 6)), dO 7 (.mv (cI 0)), dO 8 (.mv (tM 10))]) (.seq (.block 0 (.loop (.seq (.seq (.ops [dO 11 (.mv (tM 8)), dO 12 (.mv (tM 1)), dO 13 (.bin .leq (tM 11) (tM 12))]) (.cond (tM 13) .skip (.exit 0))) (.block 1 (.seq (.ops [dO 14 (.mv (tM 0)), dO 15 (.mv (tM 7)), dO 16 (.mv (tM 8)), dO 17 (.mv (tM 2)), dO 18 (.callF true 221 [tM 14, tM 15, tM 16, tM 17])]) (.seq (.ops [dO 19 (.mv (tM 8)), dO 7 (.mv (tM 19))]) (.ops [dO 20 (.mv (tM 8)), dO 21 (.mv (tM 6)), dO 22 (.bin .add (tM 20) (tM 21)), dO 8 (.mv (tM 22))]))))))) (.seq (.ops [dO 23 (.mv (tM 0)), dO 24 (.mv (tM 7)), dO 25 (.mv (tM 1)), dO 26 (.mv (tM 2)), dO 27 (.callF true 221 [tM 23, tM 24, tM 25, tM 26])]) (.block 2 (.loop (.seq (.seq (.ops [dO 28 (.mv (tM 6)), dO 29 (.mv (tM 1)), dO 30 (.bin .lss (tM 28) (tM 29))]) (.cond (tM 30) .skip (.exit 2))) (.block 3 (.seq (.ops [dO 31 (.mv (tM 6)), dO 32 (.bin .mul (cI 2) (tM 31)), dO 7 (.mv (cI 0)), dO 8 (.mv (tM 32))]) (.seq (.block 4 (.loop (.seq (.seq (.ops [dO 33 (.mv (tM 8)), dO 34 (.mv (tM 1)), dO 35 (.bin .leq (tM 33) (tM 34))]) (.cond (tM 35) .skip (.exit 4))) (.block 5 (.seq (.ops [dO 36 (.mv (tM 0)), dO 37 (.mv (tM 7)), dO 38 (.mv (tM 7)), dO 39 (.mv (tM 6)), dO 40 (.bin .add (tM 38) (tM 39)), dO 41 (.mv (tM 8)), dO 42 (.mv (tM 2)), dO 43 (.callF true 222 [tM 36, tM 37, tM 40, tM 41, tM 42])]) (.seq (.ops [dO 44 (.mv (tM 8)), dO 7 (.mv (tM 44))]) (.ops [dO 45 (.mv (tM 8)), dO 46 (.mv (tM 6)), dO 47 (.bin .mul (cI 2) (tM 46)), dO 48 (.bin .add (tM 45) (tM 47)), dO 8 (.mv (tM 48))]))))))) (.seq (.seq (.ops [dO 49 (.mv (tM 7)), dO 50 (.mv (tM 6)), dO 51 (.bin .add (tM 49) (tM 50)), dO 9 (.mv (tM 51))]) (.seq (.ops [dO 52 (.mv (tM 9)), dO 53 (.mv (tM 1)), dO 54 (.bin .lss (tM 52) (tM 53))]) (.cond (tM 54) (.ops [dO 55 (.mv (tM 0)), dO 56 (.mv (tM 7)), dO 57 (.mv (tM 9)), dO 58 (.mv (tM 1)), dO 59 (.mv (tM 2)), dO 60 (.callF true 222 [tM 55, tM 56, tM 57, tM 58, tM 59])]) .skip))) (.ops [dO 61 (.mv (tM 6)), dO 62 (.bin .mul (tM 61) (cI 2)), dO 6 (.mv (tM 62))])))))))))))⟩
theorem k96 : (cfgOf Tryz.prog byr).fns 180 = some c96 := by kernel_rfl
theorem t96 : T.fns 180 = some c96 := T_fns k96 (by decide) (by decide)
def c97 : IFunc := ⟨6, [.tmp 2], .seq (.ops [dO 2 (.mv (cB false))]) (.seq (.ops [dO 3 (.mv (tM 0)), dO 4 (.mv (tM 0)), dO 5 (.bin .neq (tM 3) (tM 4)), dO 2 (.mv (tM 5))]) .ret)⟩
theorem k97 : (cfgOf Tryz.prog byr).fns 181 = some c97 := by kernel_rfl
theorem t97 : T.fns 181 = some c97 := T_fns k97 (by decide) (by decide)
def c98 : IFunc := ⟨29, [], .seq (.ops [dO 3 (.mv (cI (-1)))]) (.seq (.ops [dO 7 (.load (some 1) (tM 1)), dO 8 (.callF false 53 [tM 7]), dO 9 (.len (tM 8)), dO 10 (.mv (cI 0))]) (.block 0 (.loop (.seq (.ops [dO 11 (.bin .lss (tM 10) (tM 9))]) (.seq (.cond (tM 11) .skip (.exit 0)) (.seq (.block 1 (.seq (.ops [dO 12 (.indexAddr 1 (tM 8) (tM 10)), dO 13 (.load none (tM 12)), dO 5 (.mv (tM 13))]) (.seq (.ops [dO 14 (.fieldAddr 0 (tM 1)), dO 15 (.load none (tM 14)), dO 16 (.mv (tM 5)), dO 17 (.indexAddr 3 (tM 15) (tM 16)), dO 18 (.fieldAddr 2 (tM 17)), dO 19 (.load none (tM 18)), dO 6 (.mv (tM 19))]) (.seq (.ops [dO 20 (.mv (tM 6)), dO 21 (.mv (tM 3)), dO 22 (.bin .gtr (tM 20) (tM 21))]) (.cond (tM 22) (.seq (.seq (.ops [dO 23 (.mv (tM 0)), dO 24 (.mv (tM 6)), dO 25 (.call true (tM 23) [tM 24]), dO 26 (.un .not (tM 25))]) (.cond (tM 26) .ret .skip)) (.ops [dO 27 (.mv (tM 6)), dO 3 (.mv (tM 27))])) .skip))))) (.ops [dO 28 (.bin .add (tM 10) (cI 1)), dO 10 (.mv (tM 28))])))))))⟩
theorem k98 : (cfgOf Tryz.prog byr).fns 182 = some c98 := by kernel_rfl
theorem t98 : T.fns 182 = some c98 := T_fns k98 (by decide) (by decide)
def c99 : IFunc := ⟨6, [.tmp 2], .seq (.ops [dO 2 (.mv (cB false))]) (.seq (.ops [dO 3 (.mv (tM 0)), dO 4 (.mv (tM 0)), dO 5 (.bin .neq (tM 3) (tM 4)), dO 2 (.mv (tM 5))]) .ret)⟩
theorem k99 : (cfgOf Tryz.prog byr).fns 358 = some c99 := by kernel_rfl
theorem t99 : T.fns 358 = some c99 := T_fns k99 (by decide) (by decide)
def c100 : IFunc := ⟨53, [], .seq (.ops [dO 10 (.mv (tM 1)), dO 11 (.bin .add (tM 10) (cI 1)), dO 8 (.mv (tM 11))]) (.block 0 (.loop (.seq (.seq (.ops [dO 12 (.mv (tM 8)), dO 13 (.mv (tM 2)), dO 14 (.bin .lss (tM 12) (tM 13))]) (.cond (tM 14) .skip (.exit 0))) (.seq (.block 1 (.seq (.ops [dO 17 (.mv (tM 8)), dO 9 (.mv (tM 17))]) (.block 2 (.loop (.seq (.seq (.ops [dO 18 (.mv (tM 9)), dO 19 (.mv (tM 1)), dO 20 (.bin .gtr (tM 18) (tM 19)), dO 21 (.mv (tM 20)), gO 22 (.mv (tM 3)) 21 true, gO 23 (.mv (tM 0)) 21 true, gO 24 (.mv (tM 9)) 21 true, gO 25 (.indexAddr 1 (tM 23) (tM 24)) 21 true, gO 26 (.load none (tM 25)) 21 true, gO 27 (.mv (tM 0)) 21 true, gO 28 (.mv (tM 9)) 21 true, gO 29 (.bin .sub (tM 28) (cI 1)) 21 true, gO 30 (.indexAddr 1 (tM 27) (tM 29)) 21 true, gO 31 (.load none (tM 30)) 21 true, gO 32 (.call false (tM 22) [tM 26, tM 31]) 21 true, gO 33 (.bin .lss (tM 32) (cI 0)) 21 true, dO 34 (.pick (tM 21) (tM 33) (cB false))]) (.cond (tM 34) .skip (.exit 2))) (.seq (.block 3 (.ops [dO 37 (.mv (tM 0)), dO 38 (.mv (tM 9)), dO 39 (.mv (tM 0)), dO 40 (.mv (tM 9)), dO 41 (.bin .sub (tM 40) (cI 1)), dO 42 (.mv (tM 0)), dO 43 (.mv (tM 9)), dO 44 (.bin .sub (tM 43) (cI 1)), dO 45 (.indexAddr 1 (tM 42) (tM 44)), dO 46 (.load none (tM 45)), dO 47 (.mv (tM 0)), dO 48 (.mv (tM 9)), dO 49 (.indexAddr 1 (tM 47) (tM 48)), dO 50 (.load none (tM 49)), dO 51 (.indexAddr 1 (tM 37) (tM 38)), eO (.store 1 (tM 51) (tM 46)), dO 52 (.indexAddr 1 (tM 39) (tM 41)), eO (.store 1 (tM 52) (tM 50))])) (.ops [dO 35 (.mv (tM 9)), dO 36 (.bin .sub (tM 35) (cI 1)), dO 9 (.mv (tM 36))]))))))) (.ops [dO 15 (.mv (tM 8)), dO 16 (.bin .add (tM 15) (cI 1)), dO 8 (.mv (tM 16))])))))⟩
theorem k100 : (cfgOf Tryz.prog byr).fns 221 = some c100 := by kernel_rfl
theorem t100 : T.fns 221 = some c100 := T_fns k100 (by decide) (by decide)
def c102 : IFunc := ⟨58, [], .seq (.ops [dO 12 (.mv (tM 2)), dO 13 (.mv (tM 1)), dO 14 (.bin .sub (tM 12) (tM 13)), dO 10 (.mv (tM 14))]) (.seq (.ops [dO 15 (.mv (tM 3)), dO 16 (.mv (tM 2)), dO 17 (.bin .sub (tM 15) (tM 16)), dO 11 (.mv (tM 17))]) (.seq (.block 0 (.loop (.seq (.seq (.ops [dO 18 (.mv (tM 10)), dO 19 (.mv (tM 11)), dO 20 (.bin .neq (tM 18) (tM 19))]) (.cond (tM 20) .skip (.exit 0))) (.block 1 (.seq (.ops [dO 21 (.mv (tM 10)), dO 22 (.mv (tM 11)), dO 23 (.bin .gtr (tM 21) (tM 22))]) (.cond (tM 23) (.seq (.ops [dO 24 (.mv (tM 0)), dO 25 (.mv (tM 2)), dO 26 (.mv (tM 10)), dO 27 (.bin .sub (tM 25) (tM 26)), dO 28 (.mv (tM 2)), dO 29 (.mv (tM 11)), dO 30 (.mv (tM 4)), dO 31 (.callF true 364 [tM 24, tM 27, tM 28, tM 29, tM 30])]) (.ops [dO 32 (.mv (tM 10)), dO 33 (.mv (tM 11)), dO 34 (.bin .sub (tM 32) (tM 33)), dO 10 (.mv (tM 34))])) (.seq (.ops [dO 35 (.mv (tM 0)), dO 36 (.mv (tM 2)), dO 37 (.mv (tM 10)), dO 38 (.bin .sub (tM 36) (tM 37)), dO 39 (.mv (tM 2)), dO 40 (.mv (tM 11)), dO 41 (.bin .add (tM 39) (tM 40)), dO 42 (.mv (tM 10)), dO 43 (.bin .sub (tM 41) (tM 42)), dO 44 (.mv (tM 10)), dO 45 (.mv (tM 4)), dO 46 (.callF true 364 [tM 35, tM 38, tM 43, tM 44, tM 45])]) (.ops [dO 47 (.mv (tM 11)), dO 48 (.mv (tM 10)), dO 49 (.bin .sub (tM 47) (tM 48)), dO 11 (.mv (tM 49))])))))))) (.ops [dO 50 (.mv (tM 0)), dO 51 (.mv (tM 2)), dO 52 (.mv (tM 10)), dO 53 (.bin .sub (tM 51) (tM 52)), dO 54 (.mv (tM 2)), dO 55 (.mv (tM 10)), dO 56 (.mv (tM 4)), dO 57 (.callF true 364 [tM 50, tM 53, tM 54, tM 55, tM 56])])))⟩
theorem k102 : (cfgOf Tryz.prog byr).fns 301 = some c102 := by kernel_rfl
theorem t102 : T.fns 301 = some c102 := T_fns k102 (by decide) (by decide)
end Go.Ev.YtgehhippjhealaaGreatC.P5
set_option linter.unusedSimpArgs false
set_option linter.unusedVariables false
namespace Go.Ev.YtgehhippjhealaaGreatC.P5
open Go
structure Order where
 lo : Int
 hi : Int
 due : Int
def okO (o : Order) : Bool := !(decide (o.lo < 1) || decide (o.hi > 100) || decide (o.lo > o.hi) || decide (o.due < 0) || decide (o.due > 2000))
def chk (l : List Order) : Int := if 10 < l.length then 6 else if l.all okO then 0 else 3
structure Ok (o : Order) : Prop where
 lo : 1 ≤ o.lo
 lh : o.lo ≤ o.hi
 hi : o.hi ≤ 100
 d0 : 0 ≤ o.due
 d1 : o.due ≤ 2000
theorem okO_iff (o : Order) : okO o = true ↔ Ok o := by
 simp only [okO, Bool.not_eq_true', Bool.or_eq_false_iff, decide_eq_false_iff_not]
 constructor
 ·rintro ⟨⟨⟨⟨a, b⟩, c⟩, d⟩, e⟩
  exact ⟨by omega, by omega, by omega, by omega, by omega⟩
 ·rintro ⟨a, b, c, d, e⟩
  omega
structure Valid (l : List Order) : Prop where
 len : l.length ≤ 10
 ok : ∀ o ∈ l, Ok o
theorem chk_zero (l : List Order) : chk l = 0 ↔ Valid l := by
 unfold chk
 constructor
 ·intro h
  split at h
  ·cases h
  ·split at h
   ·next h1 h2 => exact ⟨by omega, fun o ho => (okO_iff o).1 (List.all_eq_true.1 h2 o ho)⟩
   ·cases h
 ·rintro ⟨h1, h2⟩
  rw [if_neg (by omega), if_pos (List.all_eq_true.2 fun o ho => (okO_iff o).2 (h2 o ho))]
def placeFrom (n : Int) : List Int → Int → Int
 | [], _ => -1
 | x :: r, i => if x = n then i else placeFrom n r (i + 1)
def place (l : List Int) (n : Int) : Int := placeFrom n l 0
def hasAll (n : Nat) (s : List Int) : Bool := (List.range n).all fun i => s.contains (i : Int)
def chkSeq (l : List Order) (s : List Int) : Int := if chk l ≠ 0 then chk l else if s.length ≠ l.length then 15 else if hasAll l.length s then 0 else 2
def workOk : List Order → List Int → Bool
 | o :: l, w :: r => decide (o.lo ≤ w) && decide (w ≤ o.hi) && workOk l r
 | _, _ => true
def chkWork (l : List Order) (s w : List Int) : Int := if chkSeq l s ≠ 0 then chkSeq l s else if w.length ≠ l.length then 15 else if workOk l w then 0 else 3
def runEnds (work : List Int) : List Int → Int → List Int → List Int
 | [], _, out => out
 | i :: r, day, out => runEnds work r (day + work.getD i.toNat 0) (out.set i.toNat (day + work.getD i.toNat 0))
def endsOf (seq work : List Int) : List Int := runEnds work seq 0 (List.replicate seq.length 0)
theorem placeFrom_mem (n : Int) : ∀ (l : List Int) (i : Int), 0 ≤ i → (0 ≤ placeFrom n l i ↔ n ∈ l)
 | [], i, _ => by simp [placeFrom]
 | x :: r, i, hi => by
  unfold placeFrom
  split
  ·next h => simp [h, hi]
  ·next h =>
   rw [placeFrom_mem n r (i + 1) (by omega)]
   simp [Ne.symm h]
theorem place_mem (l : List Int) (n : Int) : 0 ≤ place l n ↔ n ∈ l := placeFrom_mem n l 0 (by omega)
structure Seq (n : Nat) (s : List Int) : Prop where
 len : s.length = n
 has : ∀ i : Nat, i < n → (i : Int) ∈ s
theorem chkSeq_zero (l : List Order) (s : List Int) : chkSeq l s = 0 ↔ Valid l ∧ Seq l.length s := by
 unfold chkSeq
 constructor
 ·intro h
  split at h
  ·next h1 => exact (h1 h).elim
  ·next h1 =>
   split at h
   ·cases h
   ·split at h
    ·next h2 h3 =>
     refine ⟨(chk_zero l).1 (by omega), by omega, fun i hi => ?_⟩
     have := List.all_eq_true.1 h3 i (List.mem_range.2 hi)
     simpa using this
    ·cases h
 ·rintro ⟨h1, h2, h3⟩
  rw [if_neg (by simp [(chk_zero l).2 h1]), if_neg (by omega), if_pos]
  refine List.all_eq_true.2 fun i hi => ?_
  simpa using h3 i (List.mem_range.1 hi)
theorem Seq.lt : ∀ {n : Nat} {s : List Int}, Seq n s → (∀ x ∈ s, 0 ≤ x ∧ x < n) ∧ s.Nodup
 | 0, s, h => by
  have := h.len
  obtain rfl : s = [] := by simpa using this
  simp
 | n + 1, s, h => by
  have hn := h.has n (by omega)
  have h' : Seq n (s.erase (n : Int)) := by
   refine ⟨by rw [List.length_erase_of_mem hn, h.len]; rfl, fun i hi => ?_⟩
   exact (List.mem_erase_of_ne (by omega)).2 (h.has i (by omega))
  obtain ⟨h1, h2⟩ := Seq.lt h'
  have hp := List.perm_cons_erase hn
  constructor
  ·intro x hx
   rcases List.mem_cons.1 (hp.mem_iff.1 hx) with rfl | hx
   ·omega
   ·have := h1 x hx
    omega
  ·rw [hp.nodup_iff, List.nodup_cons]
   exact ⟨fun hm => by have := h1 _ hm; omega, h2⟩
def maxL : List Int → Int
 | [] => 0
 | a :: r => r.foldl (fun m x => if x > m then x else m) a
def delays (l : List Order) (ends : List Int) : List Int := List.zipWith (fun o e => e - o.due) l ends
def delayOf (l : List Order) (s w : List Int) : Int := maxL (delays l (endsOf s w))
theorem runEnds_length (w : List Int) : ∀ (s : List Int) (d : Int) (out : List Int), (runEnds w s d out).length = out.length
 | [], _, _ => rfl
 | i :: r, d, out => by rw [runEnds, runEnds_length w r]; simp
theorem endsOf_length (s w : List Int) : (endsOf s w).length = s.length := by simp [endsOf, runEnds_length]
theorem runEnds_bd {w : List Int} (hv : ∀ x ∈ w, 0 ≤ x ∧ x ≤ 1000) : ∀ (s : List Int) (d : Int) (out : List Int), 0 ≤ d → (∀ x ∈ out, 0 ≤ x ∧ x ≤ d) → ∀ x ∈ runEnds w s d out, 0 ≤ x ∧ x ≤ d + 1000 * s.length
 | [], d, out, _, ho => by intro x hx; have := ho x hx; simp; omega
 | i :: r, d, out, hd, ho => by
  have hy : 0 ≤ w.getD i.toNat 0 ∧ w.getD i.toNat 0 ≤ 1000 := by
   rw [List.getD_eq_getElem?_getD]
   cases h : w[i.toNat]? with
   | none => simp
   | some y => exact hv y (List.mem_of_getElem? h)
  intro x hx
  rw [runEnds] at hx
  have ih := runEnds_bd hv r (d + w.getD i.toNat 0) (out.set i.toNat (d + w.getD i.toNat 0)) (by omega) (fun x hx => by
   rcases List.mem_or_eq_of_mem_set hx with hx | rfl
   ·have := ho x hx
    omega
   ·omega) x hx
  simp only [List.length_cons]
  omega
theorem endsOf_bd {w : List Int} (hv : ∀ x ∈ w, 0 ≤ x ∧ x ≤ 1000) (s : List Int) (hs : s.length ≤ 15) : ∀ x ∈ endsOf s w, 0 ≤ x ∧ x ≤ 100000 := fun x hx => by
 have := runEnds_bd hv s 0 _ (by omega) (fun x hx => by simp at hx; omega) x hx
 omega
def refDelay (l : List Order) (s w : List Int) : Int × Int := if chkWork l s w ≠ 0 then (0, chkWork l s w) else if l.length = 0 then (0, 5) else (delayOf l s w, 0)
def bub (f : Int → Int) : List Int → Int → List Int → List Int
 | [], x, post => x :: post
 | y :: r, x, post => if f x < f y then bub f r x (y :: post) else r.reverse ++ y :: x :: post
def isort (f : Int → Int) : List Int → List Int → List Int
 | done, [] => done
 | done, x :: r => isort f (bub f done.reverse x []) r
def dueOf (l : List Order) (i : Int) : Int := match l[i.toNat]? with | some o => o.due | none => 0
def idx (n : Nat) : List Int := (List.range n).map fun i : Nat => (i : Int)
def seqOf (l : List Order) : List Int := isort (dueOf l) [] (idx l.length)
theorem bub_length (f : Int → Int) : ∀ (r : List Int) (x : Int) (post : List Int), (bub f r x post).length = r.length + 1 + post.length
 | [], x, post => by simp [bub]; omega
 | y :: r, x, post => by
  unfold bub
  split
  ·rw [bub_length f r]; simp; omega
  ·simp; omega
theorem bub_perm (f : Int → Int) : ∀ (r : List Int) (x : Int) (post : List Int), (bub f r x post).Perm (r.reverse ++ x :: post)
 | [], x, post => by simp [bub]
 | y :: r, x, post => by
  unfold bub
  split
  ·refine (bub_perm f r x (y :: post)).trans ?_
   simp only [List.reverse_cons, List.append_assoc, List.singleton_append]
   exact List.Perm.append_left _ (List.Perm.swap ..)
  ·simp
theorem isort_perm (f : Int → Int) : ∀ (r done : List Int), (isort f done r).Perm (done ++ r)
 | [], done => by simp [isort]
 | x :: r, done => by
  unfold isort
  refine (isort_perm f r _).trans ?_
  have := bub_perm f done.reverse x []
  rw [List.reverse_reverse] at this
  refine (this.append_right r).trans ?_
  simp
theorem idx_mem {n : Nat} {x : Int} : x ∈ idx n ↔ 0 ≤ x ∧ x < n := by
 simp only [idx, List.mem_map, List.mem_range]
 constructor
 ·rintro ⟨i, hi, rfl⟩; omega
 ·intro h; exact ⟨x.toNat, by omega, by omega⟩
theorem idx_length (n : Nat) : (idx n).length = n := by simp [idx]
theorem seqOf_perm (l : List Order) : (seqOf l).Perm (idx l.length) := by
 have := isort_perm (dueOf l) (idx l.length) []
 simpa [seqOf] using this
theorem seqOf_length (l : List Order) : (seqOf l).length = l.length := by rw [(seqOf_perm l).length_eq, idx_length]
theorem seqOf_mem {l : List Order} {x : Int} : x ∈ seqOf l ↔ 0 ≤ x ∧ x < l.length := by rw [(seqOf_perm l).mem_iff, idx_mem]
theorem idx_nodup (n : Nat) : (idx n).Nodup := List.Pairwise.map _ (fun a b h => by omega) List.nodup_range
theorem seqOf_nodup (l : List Order) : (seqOf l).Nodup := (seqOf_perm l).nodup_iff.2 (idx_nodup _)
theorem idxOf_at {l : List Int} (hn : l.Nodup) {k : Nat} {x : Int} (h : l[k]? = some x) : l.idxOf x = k := by
 obtain ⟨hk, rfl⟩ := List.getElem?_eq_some_iff.1 h
 exact hn.idxOf_getElem k hk
theorem take_lt {l : List Int} (hn : l.Nodup) {k : Nat} {x : Int} (h : x ∈ l.take k) : l.idxOf x < k := by
 obtain ⟨i, hi, he⟩ := List.mem_iff_getElem.1 h
 rw [List.getElem_take] at he
 rw [List.length_take] at hi
 have := idxOf_at hn (List.getElem?_eq_some_iff.2 ⟨by omega, he⟩)
 omega
theorem not_take {l : List Int} (hn : l.Nodup) {k : Nat} {x : Int} (h : l[k]? = some x) : x ∉ l.take k := by
 obtain ⟨hk, rfl⟩ := List.getElem?_eq_some_iff.1 h
 intro hm
 have h2 : l.take k ++ l.drop k = l := List.take_append_drop k l
 rw [← h2, List.nodup_append] at hn
 refine hn.2.2 _ hm _ ?_ rfl
 rw [List.drop_eq_getElem_cons hk]
 exact List.mem_cons_self
def side (l : List Order) (s : Int) : List Int := l.map fun o => if s = 1 then o.hi else o.lo
def wk (w : List Int) (i : Int) : Int := w.getD i.toNat 0
def sumW (w : List Int) (ks : List Int) : Int := (ks.map (wk w)).sum
def pickL (w : List Int) : List Int → Int
 | [] => 0
 | a :: r => r.foldl (fun m x => if wk w x ≥ wk w m then x else m) a
def keptGo (l : List Order) (w : List Int) : List Int → List Int → Int → List Int
 | [], ks, _ => ks
 | i :: r, ks, day =>
  if day + wk w i ≤ dueOf l i then keptGo l w r (ks ++ [i]) (day + wk w i)
  else keptGo l w r ((ks ++ [i]).erase (pickL w (ks ++ [i]))) (day + wk w i - wk w (pickL w (ks ++ [i])))
def keptOf (l : List Order) (s : Int) : List Int := keptGo l (side l s) (seqOf l) [] 0
theorem pickL_mem (w : List Int) : ∀ ks : List Int, ks ≠ [] → pickL w ks ∈ ks
 | [], h => (h rfl).elim
 | a :: r, _ => by
  have : ∀ (r : List Int) (a : Int), r.foldl (fun m x => if wk w x ≥ wk w m then x else m) a ∈ a :: r := by
   intro r
   induction r with
   | nil => intro a; simp
   | cons b r ih =>
    intro a
    rw [List.foldl_cons]
    have := ih (if wk w b ≥ wk w a then b else a)
    rcases List.mem_cons.1 this with h | h
    ·rw [h]; split <;> simp
    ·simp [h]
  exact this r a
theorem pickL_best (w : List Int) (rk : Int → Nat) : ∀ ks : List Int, ks.Pairwise (fun a b => rk a < rk b) → ∀ x ∈ ks, x = pickL w ks ∨ wk w x < wk w (pickL w ks) ∨ (wk w x = wk w (pickL w ks) ∧ rk x < rk (pickL w ks))
 | [], _, x, hx => by cases hx
 | a :: r, hp, x, hx => by
  have main : ∀ (r : List Int) (a : Int), (a :: r).Pairwise (fun a b => rk a < rk b) → ∀ x ∈ a :: r, x = r.foldl (fun m x => if wk w x ≥ wk w m then x else m) a ∨ wk w x < wk w (r.foldl (fun m x => if wk w x ≥ wk w m then x else m) a) ∨ (wk w x = wk w (r.foldl (fun m x => if wk w x ≥ wk w m then x else m) a) ∧ rk x < rk (r.foldl (fun m x => if wk w x ≥ wk w m then x else m) a)) := by
   intro r
   induction r with
   | nil => intro a _ x hx; left; simpa using hx
   | cons b r ih =>
    intro a hp x hx
    rw [List.foldl_cons]
    obtain ⟨h1, h2⟩ := List.pairwise_cons.1 hp
    obtain ⟨h3, h4⟩ := List.pairwise_cons.1 h2
    by_cases hb : wk w b ≥ wk w a
    ·rw [if_pos hb]
     have hb' := ih b h2 b List.mem_cons_self
     rcases List.mem_cons.1 hx with rfl | hx
     ·have hab := h1 b List.mem_cons_self
      right
      rcases hb' with h | h | ⟨h, h'⟩
      ·rw [← h]
       omega
      ·left; omega
      ·omega
     ·exact ih b h2 x hx
    ·rw [if_neg hb]
     have hpa : (a :: r).Pairwise (fun a b => rk a < rk b) := List.pairwise_cons.2 ⟨fun y hy => h1 y (List.mem_cons_of_mem _ hy), h4⟩
     have ha := ih a hpa a List.mem_cons_self
     rcases List.mem_cons.1 hx with rfl | hx
     ·exact ih x hpa x List.mem_cons_self
     ·rcases List.mem_cons.1 hx with rfl | hx
      ·right; left
       rcases ha with h | h | ⟨h, h'⟩
       ·rw [← h]; omega
       ·omega
       ·omega
      ·exact ih a hpa x (List.mem_cons_of_mem _ hx)
  exact main r a hp x hx
theorem keptGo_cons (l : List Order) (w : List Int) (i : Int) (r ks : List Int) (day : Int) : keptGo l w (i :: r) ks day = if day + wk w i ≤ dueOf l i then keptGo l w r (ks ++ [i]) (day + wk w i) else keptGo l w r ((ks ++ [i]).erase (pickL w (ks ++ [i]))) (day + wk w i - wk w (pickL w (ks ++ [i]))) := rfl
theorem sumW_append (w : List Int) (a b : List Int) : sumW w (a ++ b) = sumW w a + sumW w b := by simp [sumW]
theorem sumW_erase (w : List Int) : ∀ (ks : List Int) (x : Int), x ∈ ks → sumW w (ks.erase x) = sumW w ks - wk w x
 | [], x, h => by cases h
 | a :: r, x, h => by
  by_cases hax : a = x
  ·subst hax
   simp only [List.erase_cons_head, sumW, List.map_cons, List.sum_cons]
   omega
  ·have hr : x ∈ r := by
    rcases List.mem_cons.1 h with h | h
    ·exact (hax h.symm).elim
    ·exact h
   rw [List.erase_cons_tail (by simpa using hax)]
   have := sumW_erase w r x hr
   simp only [sumW, List.map_cons, List.sum_cons] at this ⊢
   omega
theorem sumW_nonneg {w : List Int} (hw : ∀ x ∈ w, 0 ≤ x) (ks : List Int) : 0 ≤ sumW w ks := by
 induction ks with
 | nil => simp [sumW]
 | cons a r ih =>
  have : 0 ≤ wk w a := by
   unfold wk
   rw [List.getD_eq_getElem?_getD]
   cases h : w[a.toNat]? with
   | none => simp
   | some y => exact hw y (List.mem_of_getElem? h)
  simp only [sumW, List.map_cons, List.sum_cons] at ih ⊢
  omega
theorem wk_bd {w : List Int} {b : Int} (hb : 0 ≤ b) (hw : ∀ x ∈ w, 0 ≤ x ∧ x ≤ b) (i : Int) : 0 ≤ wk w i ∧ wk w i ≤ b := by
 unfold wk
 rw [List.getD_eq_getElem?_getD]
 cases h : w[i.toNat]? with
 | none => simp [hb]
 | some y => exact hw y (List.mem_of_getElem? h)
theorem fold_best (w : List Int) (rk : Int → Nat) (bt : Int → Int → Bool) (hbt : ∀ a b, bt a b = (decide (wk w a > wk w b) || (decide (wk w a = wk w b) && decide (rk a > rk b)))) : ∀ (xs : List Int) (a : Int),
  xs.foldl (fun m x => if bt x m then x else m) a ∈ a :: xs ∧ ∀ x ∈ a :: xs, bt x (xs.foldl (fun m x => if bt x m then x else m) a) = false
 | [], a => by
  refine ⟨by simp, fun x hx => ?_⟩
  obtain rfl : x = a := by simpa using hx
  simp [hbt]
 | b :: r, a => by
  obtain ⟨h1, h2⟩ := fold_best w rk bt hbt r (if bt b a then b else a)
  rw [List.foldl_cons]
  generalize List.foldl (fun m x => if bt x m then x else m) (if bt b a then b else a) r = f at h1 h2 ⊢
  refine ⟨?_, ?_⟩
  ·rcases List.mem_cons.1 h1 with h | h
   ·rw [h]; split <;> simp
   ·simp [h]
  ·have hh := h2 (if bt b a then b else a) List.mem_cons_self
   intro x hx
   by_cases hba : bt b a = true
   ·rw [if_pos hba] at hh h2
    rcases List.mem_cons.1 hx with rfl | hx
    ·rw [hbt] at hh hba ⊢
     simp only [Bool.or_eq_true, Bool.and_eq_true, decide_eq_true_eq, Bool.or_eq_false_iff, Bool.and_eq_false_iff, decide_eq_false_iff_not] at hh hba ⊢
     omega
    ·exact h2 x hx
   ·have hba' : bt b a = false := by simpa using hba
    rw [if_neg hba] at hh h2
    rcases List.mem_cons.1 hx with rfl | hx
    ·exact hh
    ·rcases List.mem_cons.1 hx with rfl | hx
     ·rw [hbt] at hh hba' ⊢
      simp only [Bool.or_eq_false_iff, Bool.and_eq_false_iff, decide_eq_false_iff_not] at hh hba' ⊢
      omega
     ·exact h2 x (List.mem_cons_of_mem _ hx)
theorem best_pick (w : List Int) (rk : Int → Nat) (bt : Int → Int → Bool) (hbt : ∀ a b, bt a b = (decide (wk w a > wk w b) || (decide (wk w a = wk w b) && decide (rk a > rk b)))) (ks xs : List Int) (hp : ks.Pairwise (fun a b => rk a < rk b)) (hm : ∀ x, x ∈ xs ↔ x ∈ ks) (h0 : xs ≠ []) :
  xs.tail.foldl (fun m x => if bt x m then x else m) (xs.headD 0) = pickL w ks := by
 cases xs with
 | nil => exact (h0 rfl).elim
 | cons a r =>
  obtain ⟨h1, h2⟩ := fold_best w rk bt hbt r a
  simp only [List.tail_cons, List.headD_cons]
  generalize List.foldl (fun m x => if bt x m then x else m) a r = f at h1 h2 ⊢
  have hk : ks ≠ [] := by
   intro h
   have := (hm a).1 List.mem_cons_self
   rw [h] at this
   cases this
  have hpm := pickL_mem w ks hk
  have hb := h2 _ ((hm _).2 hpm)
  rcases pickL_best w rk ks hp f ((hm f).1 h1) with h | h
  ·exact h
  ·rw [hbt] at hb
   simp only [Bool.or_eq_false_iff, Bool.and_eq_false_iff, decide_eq_false_iff_not] at hb
   omega
theorem filter_lt {α : Type} (p q : α → Bool) (hqp : ∀ t, q t = true → p t = true) (t0 : α) (hp : p t0 = true) (hq : q t0 = false) : ∀ l : List α, t0 ∈ l → (l.filter q).length < (l.filter p).length
 | [], h => by cases h
 | a :: r, h => by
  have hle : ∀ l : List α, (l.filter q).length ≤ (l.filter p).length := by
   intro l
   induction l with
   | nil => simp
   | cons a r ih =>
    simp only [List.filter_cons]
    by_cases ha : q a = true
    ·simp [ha, hqp a ha, ih]
    ·by_cases hb : p a = true
     ·simp [ha, hb]; omega
     ·simp [ha, hb, ih]
  simp only [List.filter_cons]
  rcases List.mem_cons.1 h with rfl | h
  ·simp [hp, hq]
   have := hle r
   omega
  ·have ih := filter_lt p q hqp t0 hp hq r h
   by_cases ha : q a = true
   ·simp [ha, hqp a ha, ih]
   ·by_cases hb : p a = true
    ·simp [ha, hb]; omega
    ·simp [ha, hb, ih]
theorem snd_inj {E : List (Int × Nat)} (hn : (E.map Prod.snd).Nodup) {u t : Int × Nat} (hu : u ∈ E) (ht : t ∈ E) (h : u.2 = t.2) : u = t := by
 induction E with
 | nil => cases hu
 | cons a r ih =>
  rw [List.map_cons, List.nodup_cons] at hn
  rcases List.mem_cons.1 hu with hu' | hu'
  ·rcases List.mem_cons.1 ht with ht' | ht'
   ·rw [hu', ht']
   ·exact (hn.1 (by rw [← hu', h]; exact List.mem_map_of_mem ht')).elim
  ·rcases List.mem_cons.1 ht with ht' | ht'
   ·exact (hn.1 (by rw [← ht', ← h]; exact List.mem_map_of_mem hu')).elim
   ·exact ih hn.2 hu' ht'
def marks (ks : List Int) : List Int := (List.range 10).map fun j : Nat => if ks.contains (j : Int) then 1 else 0
theorem marks_length (ks : List Int) : (marks ks).length = 10 := by simp [marks]
theorem marks_get (ks : List Int) (j : Nat) (hj : j < 10) : (marks ks)[j]? = some (if ks.contains (j : Int) then 1 else 0) := by
 simp [marks, hj]
theorem marks_congr {a b : List Int} (h : ∀ x, x ∈ a ↔ x ∈ b) : marks a = marks b := by
 unfold marks
 refine List.map_congr_left fun j _ => ?_
 have : a.contains (j : Int) = b.contains (j : Int) := by
  rw [Bool.eq_iff_iff]
  simp [h]
 rw [this]
theorem marks_set (ks : List Int) (j : Nat) (hj : j < 10) : (marks ks).set j 1 = marks (ks ++ [(j : Int)]) := by
 apply List.ext_getElem?
 intro i
 by_cases hi : i < 10
 ·rw [List.getElem?_set, marks_get _ _ hi, marks_get _ _ hi, marks_length]
  by_cases hij : j = i
  ·subst hij
   simp [hi]
  ·rw [if_neg hij]
   have : (ks ++ [(j : Int)]).contains (i : Int) = ks.contains (i : Int) := by
    rw [Bool.eq_iff_iff]
    simp
    omega
   rw [this]
 ·rw [List.getElem?_eq_none (by simp [marks_length]; omega), List.getElem?_eq_none (by simp [marks_length]; omega)]
def dueN (l : List Order) (i : Nat) : Int := match l[i]? with | some o => o.due | none => 0
def tm (l : List Order) (s : List Int) (sd : Int) (i : Nat) : Int := if (endsOf s (side l sd)).getD i 0 ≤ dueN l i then 1 else 0
end Go.Ev.YtgehhippjhealaaGreatC.P5
namespace Go.Ev.YtgehhippjhealaaGreatC.P5
open Go
theorem sumW_perm (w : List Int) {a b : List Int} (h : a.Perm b) : sumW w a = sumW w b := by
 induction h with
 | nil => rfl
 | cons x _ ih => simp only [sumW, List.map_cons, List.sum_cons] at ih ⊢; omega
 | swap x y l => simp only [sumW, List.map_cons, List.sum_cons]; omega
 | trans _ _ ih1 ih2 => omega
theorem sumW_cons (w : List Int) (a : Int) (r : List Int) : sumW w (a :: r) = wk w a + sumW w r := rfl
theorem sumW_filter_le {w : List Int} (hw : ∀ x ∈ w, 0 ≤ x) (p : Int → Bool) : ∀ l : List Int, sumW w (l.filter p) ≤ sumW w l
 | [] => Int.le_refl _
 | a :: r => by
  have ih := sumW_filter_le hw p r
  have ha : 0 ≤ wk w a := by
   have := sumW_nonneg hw [a]
   simpa [sumW] using this
  rw [List.filter_cons]
  split
  ·rw [sumW_cons, sumW_cons]; omega
  ·rw [sumW_cons]; omega
theorem maxL_spec : ∀ (L : List Int), L ≠ [] → maxL L ∈ L ∧ ∀ x ∈ L, x ≤ maxL L
 | [], h => (h rfl).elim
 | a :: r, _ => by
  have : ∀ (r : List Int) (a : Int), r.foldl (fun m x => if x > m then x else m) a ∈ a :: r ∧ ∀ x ∈ a :: r, x ≤ r.foldl (fun m x => if x > m then x else m) a := by
   intro r
   induction r with
   | nil => intro a; simp
   | cons b r ih =>
    intro a
    rw [List.foldl_cons]
    obtain ⟨h1, h2⟩ := ih (if b > a then b else a)
    have h3 := h2 _ List.mem_cons_self
    generalize List.foldl (fun m x => if x > m then x else m) (if b > a then b else a) r = g at *
    refine ⟨?_, fun x hx => ?_⟩
    ·rcases List.mem_cons.1 h1 with h | h
     ·rw [h]; split <;> simp
     ·simp [h]
    ·rcases List.mem_cons.1 hx with rfl | hx
     ·split at h3 <;> omega
     ·rcases List.mem_cons.1 hx with rfl | hx
      ·split at h3 <;> omega
      ·exact h2 x (List.mem_cons_of_mem _ hx)
  exact this r a
theorem runEnds_notin (w : List Int) : ∀ (s : List Int) (d : Int) (out : List Int) (j : Nat), (∀ x ∈ s, x.toNat ≠ j) → (runEnds w s d out)[j]? = out[j]?
 | [], _, _, _, _ => rfl
 | i :: r, d, out, j, h => by
  rw [runEnds, runEnds_notin w r _ _ j fun x hx => h x (List.mem_cons_of_mem _ hx), List.getElem?_set, if_neg (h i List.mem_cons_self)]
theorem runEnds_at (w : List Int) : ∀ (s : List Int) (d : Int) (out : List Int), s.Nodup → (∀ x ∈ s, 0 ≤ x ∧ x < out.length) → ∀ (k : Nat) (i : Int), s[k]? = some i → (runEnds w s d out)[i.toNat]? = some (d + sumW w (s.take (k + 1)))
 | [], _, _, _, _, _, _, h => by simp at h
 | a :: r, d, out, hn, hb, k, i, h => by
  rw [List.nodup_cons] at hn
  have ha := hb a List.mem_cons_self
  rw [runEnds]
  cases k with
  | zero =>
   simp at h
   subst h
   rw [runEnds_notin]
   ·rw [List.getElem?_set, if_pos rfl, if_pos (by omega)]
    simp [sumW, wk]
   ·intro x hx he
    have hxb := hb x (List.mem_cons_of_mem _ hx)
    have : x = a := by omega
    exact hn.1 (this ▸ hx)
  | succ k =>
   simp only [List.getElem?_cons_succ] at h
   rw [runEnds_at w r _ _ hn.2 (fun x hx => by rw [List.length_set]; exact hb x (List.mem_cons_of_mem _ hx)) k i h, List.take_succ_cons, sumW_cons]
   have : w.getD a.toNat 0 = wk w a := rfl
   rw [this]
   congr 1
   omega
theorem endsOf_at {n : Nat} {s : List Int} (w : List Int) (hs : Seq n s) {k : Nat} {i : Int} (h : s[k]? = some i) : (endsOf s w)[i.toNat]? = some (sumW w (s.take (k + 1))) := by
 have := runEnds_at w s 0 (List.replicate s.length 0) hs.lt.2 (fun x hx => by rw [List.length_replicate, hs.len]; exact hs.lt.1 x hx) k i h
 rw [endsOf, this]
 simp
theorem Seq.pos {n : Nat} {s : List Int} (hs : Seq n s) {i : Nat} (hi : i < n) : ∃ k : Nat, s[k]? = some (i : Int) := List.mem_iff_getElem?.1 (hs.has i hi)
theorem dueOf_nat {l : List Order} {i : Nat} {o : Order} (h : l[i]? = some o) : dueOf l (i : Int) = o.due := by simp [dueOf, h]
theorem delays_mem {l : List Order} {s w : List Int} (hs : Seq l.length s) (x : Int) : x ∈ delays l (endsOf s w) ↔ ∃ (k : Nat) (i : Int), s[k]? = some i ∧ x = sumW w (s.take (k + 1)) - dueOf l i := by
 have hel : (endsOf s w).length = l.length := by rw [endsOf_length, hs.len]
 constructor
 ·intro hx
  obtain ⟨j, hj⟩ := List.mem_iff_getElem?.1 hx
  simp only [delays, List.getElem?_zipWith] at hj
  cases ho : l[j]? with
  | none => simp [ho] at hj
  | some o =>
   have hjl := (List.getElem?_eq_some_iff.1 ho).1
   obtain ⟨k, hk⟩ := hs.pos hjl
   have he := endsOf_at w hs hk
   simp only [Int.toNat_natCast] at he
   simp only [ho, he] at hj
   refine ⟨k, j, hk, ?_⟩
   rw [dueOf_nat ho]
   simpa using hj.symm
 ·rintro ⟨k, i, hk, rfl⟩
  have hib := hs.lt.1 i (List.mem_of_getElem? hk)
  obtain ⟨j, rfl⟩ := Int.eq_ofNat_of_zero_le hib.1
  have he := endsOf_at w hs hk
  simp only [Int.toNat_natCast] at he
  obtain ⟨o, ho⟩ : ∃ o, l[j]? = some o := ⟨_, List.getElem?_eq_getElem (by omega)⟩
  rw [dueOf_nat ho]
  refine List.mem_iff_getElem?.2 ⟨j, ?_⟩
  simp [delays, List.getElem?_zipWith, ho, he]
theorem delay_spec {l : List Order} {s w : List Int} (hs : Seq l.length s) (h0 : 0 < l.length) :
  (∃ (k : Nat) (i : Int), s[k]? = some i ∧ delayOf l s w = sumW w (s.take (k + 1)) - dueOf l i) ∧ ∀ (k : Nat) (i : Int), s[k]? = some i → sumW w (s.take (k + 1)) - dueOf l i ≤ delayOf l s w := by
 have hne : delays l (endsOf s w) ≠ [] := by
  obtain ⟨k, hk⟩ := hs.pos h0
  exact List.ne_nil_of_mem ((delays_mem (w := w) hs _).2 ⟨k, _, hk, rfl⟩)
 obtain ⟨h1, h2⟩ := maxL_spec _ hne
 exact ⟨(delays_mem hs _).1 h1, fun k i hk => h2 _ ((delays_mem hs _).2 ⟨k, i, hk, rfl⟩)⟩
def bd (l : List Order) (w : List Int) (d : Int) : Int := sumW w ((idx l.length).filter fun i => decide (dueOf l i ≤ d)) - d
def someDue (l : List Order) (d : Int) : Bool := (idx l.length).any fun i => decide (dueOf l i ≤ d)
theorem Seq.perm {n : Nat} {s : List Int} (hs : Seq n s) : s.Perm (idx n) := by
 rw [List.perm_ext_iff_of_nodup hs.lt.2 (idx_nodup n)]
 intro a
 rw [idx_mem]
 constructor
 ·exact hs.lt.1 a
 ·intro h
  obtain ⟨j, rfl⟩ := Int.eq_ofNat_of_zero_le h.1
  exact hs.has j (by omega)
theorem last_of (p : Int → Bool) : ∀ s : List Int, (∃ x ∈ s, p x = true) → ∃ (k : Nat) (x : Int), s[k]? = some x ∧ p x = true ∧ (s.drop (k + 1)).filter p = []
 | [], h => by obtain ⟨x, hx, _⟩ := h; cases hx
 | a :: r, h => by
  by_cases hr : ∃ x ∈ r, p x = true
  ·obtain ⟨k, x, h1, h2, h3⟩ := last_of p r hr
   exact ⟨k + 1, x, h1, h2, h3⟩
  ·refine ⟨0, a, rfl, ?_, ?_⟩
   ·obtain ⟨x, hx, hp⟩ := h
    rcases List.mem_cons.1 hx with rfl | hx
    ·exact hp
    ·exact (hr ⟨x, hx, hp⟩).elim
   ·rw [List.drop_succ_cons, List.drop_zero, List.filter_eq_nil_iff]
    exact fun x hx hp => hr ⟨x, hx, hp⟩
theorem bd_le {l : List Order} {s w : List Int} (hs : Seq l.length s) (hw : ∀ x ∈ w, 0 ≤ x) {d : Int} (hd : someDue l d = true) : bd l w d ≤ delayOf l s w := by
 obtain ⟨x, hx, hxd⟩ := List.any_eq_true.1 hd
 have h0 : 0 < l.length := by have := idx_mem.1 hx; omega
 obtain ⟨k, i, hk, hp, hdrop⟩ := last_of (fun i => decide (dueOf l i ≤ d)) s ⟨x, hs.perm.mem_iff.2 hx, hxd⟩
 have h1 := (delay_spec (w := w) hs h0).2 k i hk
 have h2 : sumW w ((idx l.length).filter fun i => decide (dueOf l i ≤ d)) = sumW w (s.filter fun i => decide (dueOf l i ≤ d)) := sumW_perm w ((hs.perm.symm).filter _)
 have h3 : s.filter (fun i => decide (dueOf l i ≤ d)) = (s.take (k + 1)).filter fun i => decide (dueOf l i ≤ d) := by
  conv => lhs; rw [← List.take_append_drop (k + 1) s]
  rw [List.filter_append, hdrop, List.append_nil]
 have h4 := sumW_filter_le hw (fun i => decide (dueOf l i ≤ d)) (s.take (k + 1))
 have h5 : dueOf l i ≤ d := by simpa using hp
 unfold bd
 rw [h2, h3]
 omega
theorem bub_sorted (f : Int → Int) : ∀ (pr : List Int) (x : Int) (post : List Int), (pr.reverse ++ post).Pairwise (fun a b => f a ≤ f b) → (∀ y ∈ post, f x ≤ f y) → (bub f pr x post).Pairwise fun a b => f a ≤ f b
 | [], x, post, hp, hx => by
  rw [bub, List.pairwise_cons]
  exact ⟨hx, by simpa using hp⟩
 | y :: r, x, post, hp, hx => by
  unfold bub
  rw [List.reverse_cons, List.append_assoc, List.singleton_append] at hp
  split
  ·refine bub_sorted f r x (y :: post) hp fun z hz => ?_
   rcases List.mem_cons.1 hz with rfl | hz
   ·omega
   ·exact hx z hz
  ·next hxy =>
   rw [List.pairwise_append] at hp ⊢
   obtain ⟨h1, h2, h3⟩ := hp
   obtain ⟨h4, h5⟩ := List.pairwise_cons.1 h2
   refine ⟨h1, ?_, ?_⟩
   ·rw [List.pairwise_cons, List.pairwise_cons]
    refine ⟨fun z hz => ?_, hx, h5⟩
    rcases List.mem_cons.1 hz with rfl | hz
    ·omega
    ·exact h4 z hz
   ·intro a ha b hb
    rcases List.mem_cons.1 hb with rfl | hb
    ·exact h3 a ha _ List.mem_cons_self
    ·rcases List.mem_cons.1 hb with rfl | hb
     ·have := h3 a ha y List.mem_cons_self
      omega
     ·exact h3 a ha b (List.mem_cons_of_mem _ hb)
theorem isort_sorted (f : Int → Int) : ∀ (r done : List Int), done.Pairwise (fun a b => f a ≤ f b) → (isort f done r).Pairwise fun a b => f a ≤ f b
 | [], done, h => h
 | x :: r, done, h => isort_sorted f r _ (bub_sorted f done.reverse x [] (by simpa using h) (by simp))
theorem seqOf_sorted (l : List Order) : (seqOf l).Pairwise fun a b => dueOf l a ≤ dueOf l b := isort_sorted _ _ _ List.Pairwise.nil
theorem seqOf_seq (l : List Order) : Seq l.length (seqOf l) := ⟨seqOf_length l, fun i hi => seqOf_mem.2 (by omega)⟩
theorem pre_le_bd {l : List Order} {s w : List Int} (hs : Seq l.length s) (hso : s.Pairwise fun a b => dueOf l a ≤ dueOf l b) (hw : ∀ x ∈ w, 0 ≤ x) {k : Nat} {i : Int} (hk : s[k]? = some i) : sumW w (s.take (k + 1)) - dueOf l i ≤ bd l w (dueOf l i) := by
 have h2 : sumW w ((idx l.length).filter fun j => decide (dueOf l j ≤ dueOf l i)) = sumW w (s.filter fun j => decide (dueOf l j ≤ dueOf l i)) := sumW_perm w ((hs.perm.symm).filter _)
 have h3 : (s.take (k + 1)).filter (fun j => decide (dueOf l j ≤ dueOf l i)) = s.take (k + 1) := by
  rw [List.filter_eq_self]
  intro a ha
  rw [List.take_add_one, hk] at ha
  rcases List.mem_append.1 ha with ha | ha
  ·have h4 : s = s.take k ++ i :: s.drop (k + 1) := by
    obtain ⟨hk', rfl⟩ := List.getElem?_eq_some_iff.1 hk
    rw [← List.drop_eq_getElem_cons hk', List.take_append_drop]
   rw [h4, List.pairwise_append] at hso
   simpa using hso.2.2 a ha i List.mem_cons_self
  ·obtain rfl : a = i := by simpa using ha
   simp
 have h4 : sumW w (s.filter fun j => decide (dueOf l j ≤ dueOf l i)) = sumW w ((s.take (k + 1)).filter fun j => decide (dueOf l j ≤ dueOf l i)) + sumW w ((s.drop (k + 1)).filter fun j => decide (dueOf l j ≤ dueOf l i)) := by
  conv => lhs; rw [← List.take_append_drop (k + 1) s]
  rw [List.filter_append, sumW_append]
 have h5 := sumW_nonneg hw ((s.drop (k + 1)).filter fun j => decide (dueOf l j ≤ dueOf l i))
 unfold bd
 rw [h2, h4, h3]
 omega
end Go.Ev.YtgehhippjhealaaGreatC.P5
namespace Go.Ev.YtgehhippjhealaaGreatC.P5
open Go
def daysGo (f : Int → Int) : Int → List Int → List Int
 | _, [] => []
 | last, i :: r => if f i > last then f i :: daysGo f (f i) r else daysGo f last r
def daysOf (l : List Order) : List Int := daysGo (dueOf l) (-1) (seqOf l)
def tightStep (b : Int → Int) : Option (Int × Int) → Int → Option (Int × Int)
 | none, d => some (d, b d)
 | some (a, m), d => if b d > m then some (d, b d) else some (a, m)
def tightOf (l : List Order) (s : Int) : Option (Int × Int) := (daysOf l).foldl (tightStep (bd l (side l s))) none
theorem daysGo_mem (f : Int → Int) : ∀ (r : List Int) (last d : Int), r.Pairwise (fun a b => f a ≤ f b) → (d ∈ daysGo f last r ↔ (∃ i ∈ r, f i = d) ∧ last < d)
 | [], last, d, _ => by simp [daysGo]
 | i :: r, last, d, hp => by
  obtain ⟨h1, h2⟩ := List.pairwise_cons.1 hp
  unfold daysGo
  split
  ·next h =>
   rw [List.mem_cons, daysGo_mem f r (f i) d h2]
   constructor
   ·rintro (rfl | ⟨⟨j, hj, rfl⟩, hlt⟩)
    ·exact ⟨⟨i, List.mem_cons_self, rfl⟩, h⟩
    ·exact ⟨⟨j, List.mem_cons_of_mem _ hj, rfl⟩, by omega⟩
   ·rintro ⟨⟨j, hj, rfl⟩, hlt⟩
    rcases List.mem_cons.1 hj with rfl | hj
    ·exact .inl rfl
    ·have := h1 j hj
     by_cases he : f j = f i
     ·exact .inl he
     ·exact .inr ⟨⟨j, hj, rfl⟩, by omega⟩
  ·next h =>
   rw [daysGo_mem f r last d h2]
   constructor
   ·rintro ⟨⟨j, hj, rfl⟩, hlt⟩
    exact ⟨⟨j, List.mem_cons_of_mem _ hj, rfl⟩, hlt⟩
   ·rintro ⟨⟨j, hj, rfl⟩, hlt⟩
    rcases List.mem_cons.1 hj with rfl | hj
    ·omega
    ·exact ⟨⟨j, hj, rfl⟩, hlt⟩
theorem daysGo_asc (f : Int → Int) : ∀ (r : List Int) (last : Int), (last :: daysGo f last r).Pairwise (· < ·)
 | [], last => by simp [daysGo]
 | i :: r, last => by
  unfold daysGo
  split
  ·next h =>
   have ih := daysGo_asc f r (f i)
   rw [List.pairwise_cons]
   refine ⟨fun a ha => ?_, ih⟩
   rcases List.mem_cons.1 ha with rfl | ha
   ·exact h
   ·have := (List.pairwise_cons.1 ih).1 a ha
    omega
  ·exact daysGo_asc f r last
theorem daysOf_mem (l : List Order) (hv : Valid l) (d : Int) : d ∈ daysOf l ↔ ∃ i ∈ seqOf l, dueOf l i = d := by
 rw [daysOf, daysGo_mem _ _ _ _ (seqOf_sorted l)]
 constructor
 ·exact fun h => h.1
 ·rintro ⟨i, hi, rfl⟩
  refine ⟨⟨i, hi, rfl⟩, ?_⟩
  have hb := seqOf_mem.1 hi
  obtain ⟨j, rfl⟩ := Int.eq_ofNat_of_zero_le hb.1
  obtain ⟨o, ho⟩ : ∃ o, l[j]? = some o := ⟨_, List.getElem?_eq_getElem (by omega)⟩
  rw [dueOf_nat ho]
  have := (hv.ok o (List.mem_of_getElem? ho)).d0
  omega
theorem daysOf_asc (l : List Order) : (daysOf l).Pairwise (· < ·) := (List.pairwise_cons.1 (daysGo_asc (dueOf l) (seqOf l) (-1))).2
theorem fold_tight (b : Int → Int) : ∀ (D : List Int) (a : Int), (a :: D).Pairwise (· < ·) → ∃ a', D.foldl (tightStep b) (some (a, b a)) = some (a', b a') ∧ a' ∈ a :: D ∧ (∀ d ∈ a :: D, b d ≤ b a') ∧ ∀ d ∈ a :: D, d < a' → b d < b a'
 | [], a, _ => ⟨a, rfl, by simp, by simp, by intro d hd hlt; simp at hd; omega⟩
 | d :: r, a, hp => by
  obtain ⟨h1, h2⟩ := List.pairwise_cons.1 hp
  obtain ⟨h3, h4⟩ := List.pairwise_cons.1 h2
  rw [List.foldl_cons]
  simp only [tightStep]
  split
  ·next hgt =>
   obtain ⟨a', e1, e2, e3, e4⟩ := fold_tight b r d h2
   have hd := e3 d List.mem_cons_self
   refine ⟨a', e1, List.mem_cons_of_mem _ e2, fun x hx => ?_, fun x hx hlt => ?_⟩
   ·rcases List.mem_cons.1 hx with rfl | hx
    ·omega
    ·exact e3 x hx
   ·rcases List.mem_cons.1 hx with rfl | hx
    ·omega
    ·exact e4 x hx hlt
  ·next hgt =>
   obtain ⟨a', e1, e2, e3, e4⟩ := fold_tight b r a (List.pairwise_cons.2 ⟨fun x hx => h1 x (List.mem_cons_of_mem _ hx), h4⟩)
   have ha := e3 a List.mem_cons_self
   refine ⟨a', e1, ?_, fun x hx => ?_, fun x hx hlt => ?_⟩
   ·rcases List.mem_cons.1 e2 with h | h
    ·simp [h]
    ·simp [h]
   ·rcases List.mem_cons.1 hx with rfl | hx
    ·exact ha
    ·rcases List.mem_cons.1 hx with rfl | hx
     ·omega
     ·exact e3 x (List.mem_cons_of_mem _ hx)
   ·rcases List.mem_cons.1 hx with rfl | hx
    ·exact e4 x List.mem_cons_self hlt
    ·rcases List.mem_cons.1 hx with rfl | hx
     ·have hax := h1 x List.mem_cons_self
      have := e4 a List.mem_cons_self (by omega)
      omega
     ·exact e4 x (List.mem_cons_of_mem _ hx) hlt
theorem someDue_of {l : List Order} {i : Int} {d : Int} (hi : i ∈ seqOf l) (hd : dueOf l i ≤ d) : someDue l d = true :=
 List.any_eq_true.2 ⟨i, (seqOf_perm l).mem_iff.1 hi, by simpa using hd⟩
theorem side_pos {l : List Order} (hv : Valid l) (s : Int) : ∀ x ∈ side l s, 0 ≤ x := fun x hx => by
 obtain ⟨o, ho, rfl⟩ := List.mem_map.1 hx
 have := hv.ok o ho
 have h1 := this.lo
 have h2 := this.lh
 split <;> omega
theorem tight_spec {l : List Order} (hv : Valid l) (h0 : 0 < l.length) (s : Int) : ∃ a, tightOf l s = some (a, bd l (side l s) a) ∧ bd l (side l s) a = delayOf l (seqOf l) (side l s) ∧ someDue l a = true ∧ 0 ≤ a ∧ a ≤ 2000 ∧
  ∀ d, d < a → ¬ (someDue l d = true ∧ bd l (side l s) d = bd l (side l s) a) := by
 have hs := seqOf_seq l
 have hw := side_pos hv s
 obtain ⟨k0, hk0⟩ := hs.pos h0
 have hne : daysOf l ≠ [] := List.ne_nil_of_mem ((daysOf_mem l hv _).2 ⟨_, List.mem_of_getElem? hk0, rfl⟩)
 have hasc := daysOf_asc l
 have hmem := daysOf_mem l hv
 cases hD : daysOf l with
 | nil => exact (hne hD).elim
 | cons a D =>
  rw [hD] at hasc
  obtain ⟨a', e1, e2, e3, e4⟩ := fold_tight (bd l (side l s)) D a hasc
  rw [← hD] at e2 e3 e4
  obtain ⟨i, hi, hia⟩ := (hmem a').1 e2
  have hsd : someDue l a' = true := someDue_of hi (by omega)
  obtain ⟨⟨k, j, hk, hdel⟩, _⟩ := delay_spec (w := side l s) hs h0
  have hle := pre_le_bd hs (seqOf_sorted l) hw hk
  have hm := e3 (dueOf l j) ((hmem _).2 ⟨j, List.mem_of_getElem? hk, rfl⟩)
  have hb := bd_le hs hw hsd
  have heq : bd l (side l s) a' = delayOf l (seqOf l) (side l s) := by omega
  have hbi := seqOf_mem.1 hi
  obtain ⟨n, rfl⟩ := Int.eq_ofNat_of_zero_le hbi.1
  obtain ⟨o, ho⟩ : ∃ o, l[n]? = some o := ⟨_, List.getElem?_eq_getElem (by omega)⟩
  have hok := hv.ok o (List.mem_of_getElem? ho)
  rw [dueOf_nat ho] at hia
  have hd0 := hok.d0
  have hd1 := hok.d1
  refine ⟨a', ?_, heq, hsd, by omega, by omega, fun d hlt => ?_⟩
  ·rw [tightOf, hD, List.foldl_cons]
   exact e1
  ·rintro ⟨hs1, hs2⟩
   obtain ⟨x, hx, hxd⟩ := List.any_eq_true.1 hs1
   obtain ⟨k, i, hk, hp, hdrop⟩ := last_of (fun i => decide (dueOf l i ≤ d)) (seqOf l) ⟨x, (seqOf_perm l).mem_iff.2 hx, hxd⟩
   have hid : dueOf l i ≤ d := by simpa using hp
   have him := List.mem_of_getElem? hk
   have hiD := (hmem (dueOf l i)).2 ⟨i, him, rfl⟩
   by_cases hde : dueOf l i = d
   ·have := e4 d (hde ▸ hiD) hlt
    omega
   ·have hsame : (idx l.length).filter (fun j => decide (dueOf l j ≤ d)) = (idx l.length).filter fun j => decide (dueOf l j ≤ dueOf l i) := by
     apply List.filter_congr
     intro j hj
     rw [Bool.eq_iff_iff, decide_eq_true_eq, decide_eq_true_eq]
     constructor
     ·intro hjd
      have hjs := (seqOf_perm l).mem_iff.2 hj
      obtain ⟨m, hm⟩ := List.mem_iff_getElem?.1 hjs
      by_cases hmk : m ≤ k
      ·by_cases hmk' : m = k
       ·subst hmk'
        rw [hk] at hm
        cases hm
        omega
       ·obtain ⟨hm1, hm2⟩ := List.getElem?_eq_some_iff.1 hm
        obtain ⟨hk1, hk2⟩ := List.getElem?_eq_some_iff.1 hk
        have := List.pairwise_iff_getElem.1 (seqOf_sorted l) m k hm1 hk1 (by omega)
        rw [hm2, hk2] at this
        exact this
      ·have : j ∈ (seqOf l).drop (k + 1) := by
        refine List.mem_iff_getElem?.2 ⟨m - (k + 1), ?_⟩
        rw [List.getElem?_drop, show k + 1 + (m - (k + 1)) = m by omega]
        exact hm
       have := (List.filter_eq_nil_iff.1 hdrop) j this
       simp at this
       omega
     ·intro h; omega
    have h3 := e3 _ hiD
    have : bd l (side l s) (dueOf l i) = bd l (side l s) d + (d - dueOf l i) := by
     unfold bd
     rw [hsame]
     omega
    omega
end Go.Ev.YtgehhippjhealaaGreatC.P5
namespace Go.Ev.YtgehhippjhealaaGreatC.P5
open Go
def Feas (l : List Order) (w : List Int) (ks : List Int) : Prop := ∀ d : Int, (∃ i ∈ ks, dueOf l i ≤ d) → sumW w (ks.filter fun i => decide (dueOf l i ≤ d)) ≤ d
theorem Feas.perm {l : List Order} {w : List Int} {a b : List Int} (h : a.Perm b) (hf : Feas l w a) : Feas l w b := fun d hd => by
 rw [← sumW_perm w (h.filter _)]
 refine hf d ?_
 obtain ⟨i, hi, h1⟩ := hd
 exact ⟨i, h.mem_iff.2 hi, h1⟩
theorem sumW_sublist {w : List Int} (hw : ∀ x ∈ w, 0 ≤ x) {a b : List Int} (h : a.Sublist b) : sumW w a ≤ sumW w b := by
 induction h with
 | slnil => exact Int.le_refl _
 | cons x _ ih =>
  have := sumW_nonneg hw [x]
  have h1 : sumW w [x] = wk w x := by simp [sumW]
  rw [sumW_cons]; omega
 | cons_cons x _ ih => rw [sumW_cons, sumW_cons]; omega
theorem Feas.sub {l : List Order} {w : List Int} (hw : ∀ x ∈ w, 0 ≤ x) {a b : List Int} (h : a.Sublist b) (hf : Feas l w b) : Feas l w a := fun d hd => by
 obtain ⟨i, hi, h1⟩ := hd
 have := hf d ⟨i, h.subset hi, h1⟩
 have h2 := sumW_sublist hw (h.filter fun i => decide (dueOf l i ≤ d))
 omega
theorem Feas.nil (l : List Order) (w : List Int) : Feas l w [] := fun d hd => by obtain ⟨i, hi, _⟩ := hd; cases hi
def feasGo (l : List Order) (w : List Int) : Int → List Int → Bool
 | _, [] => true
 | day, i :: r => decide (day + wk w i ≤ dueOf l i) && feasGo l w (day + wk w i) r
theorem feasGo_iff_pre (l : List Order) (w : List Int) : ∀ (T : List Int) (day : Int), feasGo l w day T = true ↔ ∀ (k : Nat) (i : Int), T[k]? = some i → day + sumW w (T.take (k + 1)) ≤ dueOf l i
 | [], day => by simp [feasGo]
 | a :: r, day => by
  rw [feasGo, Bool.and_eq_true, decide_eq_true_eq, feasGo_iff_pre l w r]
  constructor
  ·rintro ⟨h1, h2⟩ k i hk
   cases k with
   | zero =>
    simp at hk
    subst hk
    simpa [sumW] using h1
   | succ k =>
    simp only [List.getElem?_cons_succ] at hk
    have := h2 k i hk
    rw [List.take_succ_cons, sumW_cons]
    omega
  ·intro h
   refine ⟨?_, fun k i hk => ?_⟩
   ·have := h 0 a rfl
    simpa [sumW] using this
   ·have := h (k + 1) i (by simpa using hk)
    rw [List.take_succ_cons, sumW_cons] at this
    omega
theorem feasGo_iff {l : List Order} {w : List Int} (hw : ∀ x ∈ w, 0 ≤ x) {T : List Int} (hs : T.Pairwise fun a b => dueOf l a ≤ dueOf l b) : feasGo l w 0 T = true ↔ Feas l w T := by
 rw [feasGo_iff_pre]
 constructor
 ·intro h d hd
  obtain ⟨x, hx, hxd⟩ := hd
  obtain ⟨k, i, hk, hp, hdrop⟩ := last_of (fun i => decide (dueOf l i ≤ d)) T ⟨x, hx, by simpa using hxd⟩
  have h3 : T.filter (fun i => decide (dueOf l i ≤ d)) = (T.take (k + 1)).filter fun i => decide (dueOf l i ≤ d) := by
   conv => lhs; rw [← List.take_append_drop (k + 1) T]
   rw [List.filter_append, hdrop, List.append_nil]
  have h4 := sumW_filter_le hw (fun i => decide (dueOf l i ≤ d)) (T.take (k + 1))
  have h5 := h k i hk
  have h6 : dueOf l i ≤ d := by simpa using hp
  rw [h3]
  omega
 ·intro h k i hk
  have h1 := h (dueOf l i) ⟨i, List.mem_of_getElem? hk, Int.le_refl _⟩
  have h3 : (T.take (k + 1)).filter (fun j => decide (dueOf l j ≤ dueOf l i)) = T.take (k + 1) := by
   rw [List.filter_eq_self]
   intro a ha
   rw [List.take_add_one, hk] at ha
   rcases List.mem_append.1 ha with ha | ha
   ·have h4 : T = T.take k ++ i :: T.drop (k + 1) := by
     obtain ⟨hk', rfl⟩ := List.getElem?_eq_some_iff.1 hk
     rw [← List.drop_eq_getElem_cons hk', List.take_append_drop]
    rw [h4, List.pairwise_append] at hs
    simpa using hs.2.2 a ha i List.mem_cons_self
   ·obtain rfl : a = i := by simpa using ha
    simp
  have h4 : sumW w (T.filter fun j => decide (dueOf l j ≤ dueOf l i)) = sumW w ((T.take (k + 1)).filter fun j => decide (dueOf l j ≤ dueOf l i)) + sumW w ((T.drop (k + 1)).filter fun j => decide (dueOf l j ≤ dueOf l i)) := by
   conv => lhs; rw [← List.take_append_drop (k + 1) T]
   rw [List.filter_append, sumW_append]
  have h5 := sumW_nonneg hw ((T.drop (k + 1)).filter fun j => decide (dueOf l j ≤ dueOf l i))
  rw [h3] at h4
  omega
theorem feasGo_append (l : List Order) (w : List Int) : ∀ (a b : List Int) (d : Int), feasGo l w d (a ++ b) = (feasGo l w d a && feasGo l w (d + sumW w a) b)
 | [], b, d => by simp [feasGo, sumW]
 | x :: a, b, d => by
  rw [List.cons_append, feasGo, feasGo, feasGo_append l w a b, sumW_cons, Bool.and_assoc]
  congr 3
  omega
end Go.Ev.YtgehhippjhealaaGreatC.P5
namespace Go.Ev.YtgehhippjhealaaGreatC.P5
open Go
def dpOld (wi i : Int) (least : List Int) (n : Nat) : Int := if n < least.length ∧ i ≠ wi then least.getD n 0 else -1
def dpCell (l : List Order) (w : List Int) (wi i : Int) (least : List Int) (n : Nat) : Int :=
 if n = 0 ∨ least.getD (n - 1) 0 < 0 then dpOld wi i least n
 else if least.getD (n - 1) 0 + wk w i ≤ dueOf l i ∧ (dpOld wi i least n < 0 ∨ least.getD (n - 1) 0 + wk w i < dpOld wi i least n) then least.getD (n - 1) 0 + wk w i else dpOld wi i least n
def dpStep (l : List Order) (w : List Int) (wi i : Int) (least : List Int) : List Int := (List.range (least.length + 1)).map (dpCell l w wi i least)
def Allowed (l : List Order) (w : List Int) (wi wo : Int) (P T : List Int) : Prop := T.Sublist P ∧ feasGo l w 0 T = true ∧ (wi ∈ P → wi ∈ T) ∧ wo ∉ T
structure DpOk (l : List Order) (w : List Int) (wi wo : Int) (P least : List Int) : Prop where
 ex : ∀ n, n < least.length → 0 ≤ least.getD n 0 → ∃ T, Allowed l w wi wo P T ∧ T.length = n ∧ sumW w T = least.getD n 0
 le : ∀ T, Allowed l w wi wo P T → T.length < least.length ∧ 0 ≤ least.getD T.length 0 ∧ least.getD T.length 0 ≤ sumW w T
theorem sublist_snoc {T P : List Int} {i : Int} (h : T.Sublist (P ++ [i])) : T.Sublist P ∨ ∃ T', T = T' ++ [i] ∧ T'.Sublist P := by
 obtain ⟨a, b, rfl, h1, h2⟩ := List.sublist_append_iff.1 h
 cases b with
 | nil => left; simpa using h1
 | cons x r =>
  have hl := h2.length_le
  simp at hl
  subst hl
  have : x = i := by simpa using h2.subset (List.mem_cons_self)
  subst this
  exact .inr ⟨a, rfl, h1⟩
theorem feas_last {l : List Order} {w : List Int} {T : List Int} {i : Int} : feasGo l w 0 (T ++ [i]) = true ↔ feasGo l w 0 T = true ∧ sumW w T + wk w i ≤ dueOf l i := by
 rw [feasGo_append, Bool.and_eq_true]
 simp [feasGo]
theorem dpStep_get (l : List Order) (w : List Int) (wi i : Int) (least : List Int) (n : Nat) (hn : n < least.length + 1) : (dpStep l w wi i least).getD n 0 = dpCell l w wi i least n := by
 rw [List.getD_eq_getElem?_getD, dpStep, List.getElem?_map, List.getElem?_range hn]
 rfl
theorem dpStep_length (l : List Order) (w : List Int) (wi i : Int) (least : List Int) : (dpStep l w wi i least).length = least.length + 1 := by simp [dpStep]
theorem DpOk.step {l : List Order} {w : List Int} {wi wo i : Int} {P least : List Int} (h : DpOk l w wi wo P least) (hw : ∀ x ∈ w, 0 ≤ x) (hi : i ∉ P) (ho : i ≠ wo) : DpOk l w wi wo (P ++ [i]) (dpStep l w wi i least) := by
 have hwi : 0 ≤ wk w i := by
  have := sumW_nonneg hw [i]
  simpa [sumW] using this
 constructor
 ·intro n hn hge
  rw [dpStep_length] at hn
  rw [dpStep_get _ _ _ _ _ _ hn] at hge ⊢
  have old : 0 ≤ dpOld wi i least n → ∃ T, Allowed l w wi wo (P ++ [i]) T ∧ T.length = n ∧ sumW w T = dpOld wi i least n := by
   intro h0
   unfold dpOld at h0 ⊢
   split at h0
   ·next hc =>
    obtain ⟨T, ⟨t1, t2, t3, t4⟩, h2, h3⟩ := h.ex n hc.1 h0
    refine ⟨T, ⟨t1.trans (List.sublist_append_left ..), t2, fun hm => ?_, t4⟩, h2, by rw [if_pos hc]; exact h3⟩
    rcases List.mem_append.1 hm with hm | hm
    ·exact t3 hm
    ·have hm' : wi = i := by simpa using hm
     exact (hc.2 hm'.symm).elim
   ·omega
  unfold dpCell at hge ⊢
  generalize dpOld wi i least n = a at *
  by_cases hz : n = 0 ∨ least.getD (n - 1) 0 < 0
  ·rw [if_pos hz] at hge ⊢; exact old hge
  ·rw [if_neg hz] at hge ⊢
   by_cases hc : least.getD (n - 1) 0 + wk w i ≤ dueOf l i ∧ (a < 0 ∨ least.getD (n - 1) 0 + wk w i < a)
   ·rw [if_pos hc]
    have hn1 : n - 1 < least.length := by omega
    obtain ⟨T, ⟨t1, t2, t3, t4⟩, h2, h3⟩ := h.ex (n - 1) hn1 (by omega)
    refine ⟨T ++ [i], ⟨t1.append (List.Sublist.refl _), feas_last.2 ⟨t2, by rw [h3]; exact hc.1⟩, fun hm => ?_, ?_⟩, by simp; omega, by rw [sumW_append, h3]; simp [sumW]⟩
    ·rcases List.mem_append.1 hm with hm | hm
     ·exact List.mem_append_left _ (t3 hm)
     ·exact List.mem_append_right _ hm
    ·intro hm
     rcases List.mem_append.1 hm with hm | hm
     ·exact t4 hm
     ·have hm' : wo = i := by simpa using hm
      exact ho hm'.symm
   ·rw [if_neg hc] at hge ⊢; exact old hge
 ·rintro T ⟨t1, t2, t3, t4⟩
  rw [dpStep_length]
  rcases sublist_snoc t1 with hT | ⟨T', rfl, hT'⟩
  ·have hiT : i ∉ T := fun hm => hi (hT.subset hm)
   have hne : i ≠ wi := fun he => hiT (he ▸ t3 (by rw [← he]; simp))
   obtain ⟨h1, h2, h3⟩ := h.le T ⟨hT, t2, fun hm => t3 (List.mem_append_left _ hm), t4⟩
   refine ⟨by omega, ?_⟩
   rw [dpStep_get _ _ _ _ _ _ (by omega)]
   have hold : dpOld wi i least T.length = least.getD T.length 0 := by rw [dpOld, if_pos ⟨h1, hne⟩]
   unfold dpCell
   rw [hold]
   split
   ·exact ⟨h2, h3⟩
   ·split
    ·next hd =>
     refine ⟨by omega, ?_⟩
     rcases hd.2 with h | h <;> omega
    ·exact ⟨h2, h3⟩
  ·obtain ⟨f1, f2⟩ := feas_last.1 t2
   have hwoT : wo ∉ T' := fun hm => t4 (List.mem_append_left _ hm)
   obtain ⟨h1, h2, h3⟩ := h.le T' ⟨hT', f1, fun hm => by
    rcases List.mem_append.1 (t3 (List.mem_append_left _ hm)) with h | h
    ·exact h
    ·have : wi = i := by simpa using h
     exact (hi (this ▸ hm)).elim, hwoT⟩
   have hl : (T' ++ [i]).length = T'.length + 1 := by simp
   rw [hl, sumW_append]
   have hs1 : sumW w [i] = wk w i := by simp [sumW]
   rw [hs1]
   refine ⟨by omega, ?_⟩
   rw [dpStep_get _ _ _ _ _ _ (by omega)]
   unfold dpCell
   simp only [Nat.add_sub_cancel]
   rw [if_neg (by omega)]
   generalize dpOld wi i least (T'.length + 1) = a
   split <;> omega
theorem DpOk.skip {l : List Order} {w : List Int} {wi i : Int} {P least : List Int} (h : DpOk l w wi i P least) (hne : wi ≠ i) : DpOk l w wi i (P ++ [i]) least := by
 constructor
 ·intro n hn hge
  obtain ⟨T, ⟨t1, t2, t3, t4⟩, h2, h3⟩ := h.ex n hn hge
  refine ⟨T, ⟨t1.trans (List.sublist_append_left ..), t2, fun hm => ?_, t4⟩, h2, h3⟩
  rcases List.mem_append.1 hm with hm | hm
  ·exact t3 hm
  ·exact (hne (by simpa using hm)).elim
 ·rintro T ⟨t1, t2, t3, t4⟩
  rcases sublist_snoc t1 with hT | ⟨T', rfl, hT'⟩
  ·exact h.le T ⟨hT, t2, fun hm => t3 (List.mem_append_left _ hm), t4⟩
  ·exact (t4 (by simp)).elim
end Go.Ev.YtgehhippjhealaaGreatC.P5
namespace Go.Ev.YtgehhippjhealaaGreatC.P5
open Go
def bitB (b i : Nat) : Bool := decide (b / 2 ^ i % 2 = 1)
def listed (b n : Nat) : List Int := (idx n).filter fun i => bitB b i.toNat
def tb (p : Nat → Bool) : Nat → Nat
 | 0 => 0
 | n + 1 => tb p n + if p n then 2 ^ n else 0
end Go.Ev.YtgehhippjhealaaGreatC.P5
set_option linter.unusedSimpArgs false
set_option linter.unusedVariables false
namespace Go.Ev.YtgehhippjhealaaGreatC.P5
open Go
open Go Go.Proofs
def ocells (o : Order) : List (IntKind × Int) := [(.i64, o.lo), (.i64, o.hi), (.i64, o.due)]
def OWf (o : Order) : Prop := (Lit.int .i64 o.lo).wf = true ∧ (Lit.int .i64 o.hi).wf = true ∧ (Lit.int .i64 o.due).wf = true
set_option maxRecDepth 100000 in
abbrev ints (l : List Int) : AV := .slice none (l.map (.int .i64)) false
def oAV (o : Order) : AV := .agg [.int .i64 o.lo, .int .i64 o.hi, .int .i64 o.due]
abbrev ords (l : List Order) : AV := .slice (some 3) (l.map oAV) false
end Go.Ev.YtgehhippjhealaaGreatC.P5
set_option linter.unusedSimpArgs false
set_option linter.unusedVariables false
namespace Go.Ev.YtgehhippjhealaaGreatC.P5
open Go
open Go Go.Proofs
attribute [local irreducible] Res.all evC evLoop evOps evOper evOp evFn evCall freeze G GO GV GP GC R
set_option maxRecDepth 100000
theorem all_drop {l : List Order} {k : Nat} {o : Order} (h : l[k]? = some o) : (l.drop k).all okO = (okO o && (l.drop (k + 1)).all okO) := by
 rw [drop_cons h, List.all_cons]
theorem con_24 (l : List Order) (hl : l.length ≤ 15) : Con T 1 17 [ords l] (.int .i64 (chk l)) := by
 refine con_intro t24 fun n hn V hV => ?_
 by_cases h10 : 10 < l.length
 ·have h10' : (10 : Int) < l.length := by omega
  simp (disch := first | assumption | omega) only [c24, go_sem, ↓reduceIte, gt_iff_lt, h10']
  exact hV _ _ (by rw [frz_int, chk, if_pos h10])
 have h10' : ¬ (10 : Int) < l.length := by omega
 simp (disch := first | assumption | omega) only [c24, go_sem, ↓reduceIte, gt_iff_lt, h10']
 refine m_loop (fun M s => ∃ k : Nat, M = l.length - k ∧ k ≤ l.length ∧ At s.env [(0, ords l), (3, .int .i64 k)] ∧ l.all okO = (l.drop k).all okO) l.length (by omega) ⟨0, by simp, by omega, by simp [go_sem, ↓reduceIte], rfl⟩ ?_
 rintro M e h hM ⟨k, rfl, hk, hE, hA⟩ P hP
 simp only [At_cons, At_nil] at hE
 obtain ⟨h0, h3, -⟩ := hE
 by_cases hlt : k < l.length
 ·obtain ⟨o, ho⟩ := get_ex hlt
  rw [all_drop ho] at hA
  by_cases hok : okO o = true
  ·have hok' := (okO_iff o).1 hok
   have g1 : ¬ o.lo < 1 := by have := hok'.lo; omega
   have g2 : ¬ 100 < o.hi := by have := hok'.hi; omega
   have g3 : ¬ o.hi < o.lo := by have := hok'.lh; omega
   have g4 : ¬ o.due < 0 := by have := hok'.d0; omega
   have g5 : ¬ 2000 < o.due := by have := hok'.d1; omega
   simp (disch := first | assumption | omega) only [go_sem, ↓reduceIte, h0, h3, hlt, ho, oAV, gt_iff_lt, g1, g2, g3, g4, g5]
   exact hP (l.length - (k + 1)) _ (by omega) ⟨k + 1, rfl, by omega, by simp only [go_sem, ↓reduceIte, h0], by rw [hA, hok, Bool.true_and]⟩
  ·have hb : l.all okO = false := by rw [hA]; simp [hok]
   have fin : ∀ h, V (.int .i64 3, h) := fun h => hV _ _ (by rw [frz_int, chk, if_neg h10, hb]; rfl)
   by_cases g1 : o.lo < 1
   ·simp (disch := first | assumption | omega) only [go_sem, ↓reduceIte, h0, h3, hlt, ho, oAV, gt_iff_lt, g1]
    exact fin _
   by_cases g2 : 100 < o.hi
   ·simp (disch := first | assumption | omega) only [go_sem, ↓reduceIte, h0, h3, hlt, ho, oAV, gt_iff_lt, g1, g2]
    exact fin _
   by_cases g3 : o.hi < o.lo
   ·simp (disch := first | assumption | omega) only [go_sem, ↓reduceIte, h0, h3, hlt, ho, oAV, gt_iff_lt, g1, g2, g3]
    exact fin _
   by_cases g4 : o.due < 0
   ·simp (disch := first | assumption | omega) only [go_sem, ↓reduceIte, h0, h3, hlt, ho, oAV, gt_iff_lt, g1, g2, g3, g4]
    exact fin _
   by_cases g5 : 2000 < o.due
   ·simp (disch := first | assumption | omega) only [go_sem, ↓reduceIte, h0, h3, hlt, ho, oAV, gt_iff_lt, g1, g2, g3, g4, g5]
    exact fin _
   exact (hok ((okO_iff o).2 ⟨by omega, by omega, by omega, by omega, by omega⟩)).elim
 ·simp (disch := first | assumption | omega) only [go_sem, ↓reduceIte, h0, h3, hlt]
  exact hV _ _ (by rw [frz_int, chk, if_neg h10, hA, List.drop_eq_nil_of_le (by omega)]; rfl)
theorem hasAll_step {s : List Int} {n k : Nat} (hk : k < n) : ((List.range n).drop k).all (fun i => s.contains (i : Int)) = (s.contains (k : Int) && ((List.range n).drop (k + 1)).all fun i => s.contains (i : Int)) := by
 rw [drop_cons (x := k) (by simp [hk]), List.all_cons]
theorem workOk_step {l : List Order} {w : List Int} {k : Nat} {o : Order} {x : Int} (ho : l[k]? = some o) (hx : w[k]? = some x) : workOk (l.drop k) (w.drop k) = (decide (o.lo ≤ x) && decide (x ≤ o.hi) && workOk (l.drop (k + 1)) (w.drop (k + 1))) := by
 rw [drop_cons ho, drop_cons hx, workOk]
end Go.Ev.YtgehhippjhealaaGreatC.P5
set_option linter.unusedSimpArgs false
set_option linter.unusedVariables false
namespace Go.Ev.YtgehhippjhealaaGreatC.P5
open Go
open Go Go.Proofs
attribute [local irreducible] Res.all evC evLoop evOps evOper evOp evFn evCall freeze G GO GV GP GC R
set_option maxRecDepth 100000
theorem con_95 {k f : Nat} {first cap : List AV} {p : Int → Bool} (xs : List Int) (hl : xs.length ≤ 1000) (hc : ∀ x ∈ xs, Con T k f (first ++ [.int .i64 x] ++ cap) (.bool (p x))) (hz : ∀ h x, fz h (first ++ [.int .i64 x] ++ cap) = .ret (first ++ [.int .i64 x] ++ cap)) :
  Con T (k + 1) 220 [ints xs, .clo f first cap] (.int .i64 (idxB p xs 0)) := by
 refine con_intro t95 fun n hn V hV => ?_
 simp (disch := first | assumption | omega) only [c95, go_sem, ↓reduceIte]
 refine m_loop (fun M s => ∃ k : Nat, M = xs.length - k ∧ k ≤ xs.length ∧ At s.env [(0, ints xs), (1, .clo f first cap), (7, .int .i64 xs.length), (8, .int .i64 k)] ∧ idxB p xs 0 = idxB p (xs.drop k) k) xs.length (by omega) ⟨0, by simp, by omega, by simp [go_sem, ↓reduceIte], rfl⟩ ?_
 rintro M e h hM ⟨k, rfl, hk, hE, hA⟩ P hP
 simp only [At_cons, At_nil] at hE
 obtain ⟨h0, h1, h7, h8, -⟩ := hE
 by_cases hlt : k < xs.length
 ·obtain ⟨y, hy⟩ := get_ex hlt
  rw [drop_cons hy, idxB] at hA
  simp (disch := first | assumption | omega) only [go_sem, ↓reduceIte, h0, h1, h7, h8, hlt, hy]
  refine gp_con (hc y (List.mem_of_getElem? hy)) hn (hz _ _) (or_pb _ _) ?_
  by_cases hp : p y = true
  ·simp (disch := first | assumption | omega) only [go_sem, ↓reduceIte, h0, h1, h7, h8, hp]
   exact hV _ _ (by rw [frz_int, hA, if_pos hp])
  ·simp (disch := first | assumption | omega) only [go_sem, ↓reduceIte, h0, h1, h7, h8, hp]
   exact hP (xs.length - (k + 1)) _ (by omega) ⟨k + 1, rfl, by omega, by simp only [go_sem, ↓reduceIte, h0, h1, h7], by rw [hA, if_neg hp]; rfl⟩
 ·simp (disch := first | assumption | omega) only [go_sem, ↓reduceIte, h0, h1, h7, h8, hlt]
  exact hV _ _ (by rw [frz_int, hA, List.drop_eq_nil_of_le (by omega)]; rfl)
theorem con_82 {k f : Nat} {first cap : List AV} {p : Int → Bool} (xs : List Int) (hl : xs.length ≤ 1000) (hc : ∀ x ∈ xs, Con T k f (first ++ [.int .i64 x] ++ cap) (.bool (p x))) (hz : ∀ h x, fz h (first ++ [.int .i64 x] ++ cap) = .ret (first ++ [.int .i64 x] ++ cap))
  (hf : ∀ h, freeze h 8 (.clo f first cap) = .ret (.clo f first cap)) : Con T (k + 2) 177 [ints xs, .clo f first cap] (.bool (xs.any p)) := by
 refine con_intro t82 fun n hn V hV => ?_
 simp (disch := first | assumption | omega) only [c82, go_sem, ↓reduceIte]
 refine gp_con (con_95 xs hl hc hz) hn (fz_slice _ _ _ _ (fz_cons (hf _) (fz_nil _))) (or_pi _ _ _) ?_
 simp (disch := first | assumption | omega) only [go_sem, ↓reduceIte, idxB_any]
 exact hV _ _ (frz_bool _ _ _)
theorem con_83 (x lo hi : Int) : Con T 1 178 ([] ++ [.int .i64 x] ++ [.ptr [.int .i64 lo] 0, .ptr [.int .i64 hi] 0]) (.bool (decide (x < lo) || decide (x > hi))) := by
 refine con_intro t83 fun n hn V hV => ?_
 by_cases g1 : x < lo
 ·simp (disch := first | assumption | omega) only [c83, go_sem, ↓reduceIte, g1, List.cons_append]
  refine hV _ _ ?_
  simp [g1, frz_bool]
 ·simp (disch := first | assumption | omega) only [c83, go_sem, ↓reduceIte, g1, List.cons_append]
  refine hV _ _ ?_
  simp [g1, frz_bool]
def withinB (lo hi : Int) (xs : List Int) : Bool := !xs.any fun x => decide (x < lo) || decide (x > hi)
theorem con_58 (lo hi : Int) (xs : List Int) (hl : xs.length ≤ 1000) : Con T 4 114 [.int .i64 lo, .int .i64 hi, ints xs] (.bool (withinB lo hi xs)) := by
 refine con_intro t58 fun n hn V hV => ?_
 simp (disch := first | assumption | omega) only [c58, go_sem, ↓reduceIte]
 refine gp_con (con_82 (p := fun x => decide (x < lo) || decide (x > hi)) xs hl (fun x _ => con_83 x lo hi) (fun h x => ?_) (fun h => ?_)) hn (fz_slice _ _ _ _ (fz_cons (frz_clo (mz_nil _ _) (mz_cons (frz_optr (cs := [.int .i64 lo]) (by simp [go_sem, ↓reduceIte]) (mz_cons (frz_int _ _ _ _) (mz_nil _ _))) (mz_cons (frz_optr (cs := [.int .i64 hi]) (by simp [go_sem, ↓reduceIte]) (mz_cons (frz_int _ _ _ _) (mz_nil _ _))) (mz_nil _ _)))) (fz_nil _))) (or_pb _ _) ?_
 ·exact fz_int _ _ _ (fz_cons (frz_ptr _ _ _ _) (fz_cons (frz_ptr _ _ _ _) (fz_nil _)))
 ·exact frz_clo (mz_nil _ _) (mz_cons (frz_ptr _ _ _ _) (mz_cons (frz_ptr _ _ _ _) (mz_nil _ _)))
 simp (disch := first | assumption | omega) only [go_sem, ↓reduceIte]
 exact hV _ _ (frz_bool _ _ _)
theorem cs_58 {n base : Nat} {Q : EX × St → Prop} {d : Option Nat} {L : List IOper} {ks : List Kont} {e : Env} {h : Heap} {lo hi : Int} {xs : List Int} {x : Bool} (hn : 4 ≤ n) (hl : xs.length ≤ 1000) :
  GP (evCall T n) base Q d L ks e (evCall T n false (.fn 114) [.int .i64 lo, .int .i64 hi, .slice none (xs.map (.int .i64)) x] h) = GO (evCall T n) base Q L ks ⟨setDst e d (.bool (withinB lo hi xs)), h⟩ :=
 gp_eq (con_58 lo hi xs hl) hn (by repeat (first | exact fz_nil _ | refine fz_slice _ _ _ _ ?_ | refine fz_int _ _ _ ?_)) rfl
theorem con_84 {k f : Nat} {first cap : List AV} {p : Order → Bool} (xs : List Order) (hl : xs.length ≤ 1000) (hc : ∀ x ∈ xs, Con T k f (first ++ [oAV x] ++ cap) (.bool (p x))) (hz : ∀ h x, fz h (first ++ [oAV x] ++ cap) = .ret (first ++ [oAV x] ++ cap)) :
  Con T (k + 1) 179 [ords xs, .clo f first cap] (.int .i64 (idxB p xs 0)) := by
 refine con_intro t84 fun n hn V hV => ?_
 simp (disch := first | assumption | omega) only [c84, go_sem, ↓reduceIte]
 refine m_loop (fun M s => ∃ k : Nat, M = xs.length - k ∧ k ≤ xs.length ∧ At s.env [(0, ords xs), (1, .clo f first cap), (7, .int .i64 xs.length), (8, .int .i64 k)] ∧ idxB p xs 0 = idxB p (xs.drop k) k) xs.length (by omega) ⟨0, by simp, by omega, by simp [go_sem, ↓reduceIte], rfl⟩ ?_
 rintro M e h hM ⟨k, rfl, hk, hE, hA⟩ P hP
 simp only [At_cons, At_nil] at hE
 obtain ⟨h0, h1, h7, h8, -⟩ := hE
 by_cases hlt : k < xs.length
 ·obtain ⟨y, hy⟩ := get_ex hlt
  rw [drop_cons hy, idxB] at hA
  simp (disch := first | assumption | omega) only [go_sem, ↓reduceIte, h0, h1, h7, h8, hlt, hy, oAV, Nat.le_refl]
  refine gp_con (hc y (List.mem_of_getElem? hy)) hn (hz _ _) (or_pb _ _) ?_
  by_cases hp : p y = true
  ·simp (disch := first | assumption | omega) only [go_sem, ↓reduceIte, h0, h1, h7, h8, hp]
   exact hV _ _ (by rw [frz_int, hA, if_pos hp])
  ·simp (disch := first | assumption | omega) only [go_sem, ↓reduceIte, h0, h1, h7, h8, hp]
   exact hP (xs.length - (k + 1)) _ (by omega) ⟨k + 1, rfl, by omega, by simp only [go_sem, ↓reduceIte, h0, h1, h7], by rw [hA, if_neg hp]; rfl⟩
 ·simp (disch := first | assumption | omega) only [go_sem, ↓reduceIte, h0, h1, h7, h8, hlt]
  exact hV _ _ (by rw [frz_int, hA, List.drop_eq_nil_of_le (by omega)]; rfl)
theorem con_66 {k f : Nat} {first cap : List AV} {p : Order → Bool} (xs : List Order) (hl : xs.length ≤ 1000) (hc : ∀ x ∈ xs, Con T k f (first ++ [oAV x] ++ cap) (.bool (p x))) (hz : ∀ h x, fz h (first ++ [oAV x] ++ cap) = .ret (first ++ [oAV x] ++ cap))
  (hf : ∀ h, freeze h 8 (.clo f first cap) = .ret (.clo f first cap)) : Con T (k + 2) 115 [ords xs, .clo f first cap] (.bool (xs.any p)) := by
 refine con_intro t66 fun n hn V hV => ?_
 simp (disch := first | assumption | omega) only [c66, go_sem, ↓reduceIte]
 refine gp_con (con_84 xs hl hc hz) hn (fz_slice _ _ _ _ (fz_cons (hf _) (fz_nil _))) (or_pi _ _ _) ?_
 simp (disch := first | assumption | omega) only [go_sem, ↓reduceIte, idxB_any]
 exact hV _ _ (frz_bool _ _ _)
theorem frz_oAV (h : Heap) (o : Order) : freeze h 8 (oAV o) = .ret (oAV o) := by
 unfold oAV
 rw [freeze]
 simp only [mz_cons (frz_int _ _ _ _) (mz_cons (frz_int _ _ _ _) (mz_cons (frz_int _ _ _ _) (mz_nil _ _)))]
 rfl
theorem con_65 (o : Order) : Con T 5 113 ([] ++ [oAV o] ++ []) (.bool (!okO o)) := by
 refine con_intro t65 fun n hn V hV => ?_
 have w1 : withinB 1 100 [o.lo, o.hi] = (!(decide (o.lo < 1) || decide (o.lo > 100) || (decide (o.hi < 1) || decide (o.hi > 100)))) := by simp [withinB]
 have w2 : withinB 0 2000 [o.due] = (!(decide (o.due < 0) || decide (o.due > 2000))) := by simp [withinB]
 have c1 : ∀ (e : Env) (h : Heap) (Q : EX × St → Prop) (d : Option Nat) (L : List IOper) (ks : List Kont), GP (evCall T n) 0 Q d L ks e (evCall T n false (.fn 114) [.int .i64 1, .int .i64 100, .slice none [.int .i64 o.lo, .int .i64 o.hi] true] h) = GO (evCall T n) 0 Q L ks ⟨setDst e d (.bool (withinB 1 100 [o.lo, o.hi])), h⟩ := fun e h Q d L ks => cs_58 (xs := [o.lo, o.hi]) hn (by simp)
 have c2 : ∀ (e : Env) (h : Heap) (Q : EX × St → Prop) (d : Option Nat) (L : List IOper) (ks : List Kont), GP (evCall T n) 0 Q d L ks e (evCall T n false (.fn 114) [.int .i64 0, .int .i64 2000, .slice none [.int .i64 o.due] true] h) = GO (evCall T n) 0 Q L ks ⟨setDst e d (.bool (withinB 0 2000 [o.due])), h⟩ := fun e h Q d L ks => cs_58 (xs := [o.due]) hn (by simp)
 have hok : okO o = (withinB 1 100 [o.lo, o.hi] && !decide (o.lo > o.hi) && withinB 0 2000 [o.due]) := by
  rw [w1, w2, Bool.eq_iff_iff, okO_iff]
  simp
  constructor
  ·rintro ⟨a, b, c, d, e⟩
   omega
  ·intro h
   exact ⟨by omega, by omega, by omega, by omega, by omega⟩
 by_cases g1 : withinB 1 100 [o.lo, o.hi] = true
 ·by_cases g2 : o.hi < o.lo
  ·simp (disch := first | assumption | omega) only [c65, go_sem, ↓reduceIte, oAV, fillParts, c1, c2, gt_iff_lt, g1, g2]
   refine hV _ _ ?_
   rw [frz_bool, hok]
   simp [g1, g2]
  ·simp (disch := first | assumption | omega) only [c65, go_sem, ↓reduceIte, oAV, fillParts, c1, c2, gt_iff_lt, g1, g2]
   refine hV _ _ ?_
   rw [frz_bool, hok]
   simp [g1, g2]
 ·simp (disch := first | assumption | omega) only [c65, go_sem, ↓reduceIte, oAV, fillParts, c1, c2, gt_iff_lt, g1]
  refine hV _ _ ?_
  rw [frz_bool, hok]
  simp [g1]
theorem okO_not (l : List Order) : (l.any fun o => !okO o) = !l.all okO := by
 induction l with
 | nil => rfl
 | cons a l ih => simp [ih]
theorem con_23 (l : List Order) (hl : l.length ≤ 15) : Con T 9 51 [ords l] (.int .i64 (chk l)) := by
 refine con_intro t23 fun n hn V hV => ?_
 by_cases h10 : 10 < l.length
 ·have h10' : (10 : Int) < l.length := by omega
  simp (disch := first | assumption | omega) only [c23, go_sem, ↓reduceIte, gt_iff_lt, h10']
  exact hV _ _ (by rw [frz_int, chk, if_pos h10])
 have h10' : ¬ (10 : Int) < l.length := by omega
 simp (disch := first | assumption | omega) only [c23, go_sem, ↓reduceIte, gt_iff_lt, h10']
 refine gp_con (con_66 l (by omega) (fun x _ => con_65 x) (fun h x => ?_) (fun h => ?_)) (by omega) (fz_slice _ _ _ _ (fz_cons (frz_clo (mz_nil _ _) (mz_nil _ _)) (fz_nil _))) (or_pb _ _) ?_
 ·exact fz_cons (frz_oAV _ _) (fz_nil _)
 ·exact frz_clo (mz_nil _ _) (mz_nil _ _)
 rw [okO_not]
 by_cases ha : l.all okO = true
 ·simp (disch := first | assumption | omega) only [go_sem, ↓reduceIte, ha]
  exact hV _ _ (by rw [frz_int, chk, if_neg h10, if_pos ha])
 ·simp (disch := first | assumption | omega) only [go_sem, ↓reduceIte, ha]
  exact hV _ _ (by rw [frz_int, chk, if_neg h10, if_neg ha])
theorem cs_23 {n base : Nat} {Q : EX × St → Prop} {d : Option Nat} {L : List IOper} {ks : List Kont} {e : Env} {h : Heap} {l : List Order} {x : Bool} (hn : 9 ≤ n) (hl : l.length ≤ 15) : GP (evCall T n) base Q d L ks e (evCall T n false (.fn 51) [.slice (some 3) (l.map oAV) x] h) = GO (evCall T n) base Q L ks ⟨setDst e d (.int .i64 (chk l)), h⟩ :=
 gp_eq (con_23 l hl) hn (by repeat (first | exact fz_nil _ | refine fz_slice _ _ _ _ ?_ | refine fz_int _ _ _ ?_)) rfl
theorem con_93 (l : List Int) (x : Int) (hl : l.length ≤ 1000) : Con T 1 43 [ints l, .int .i64 x] (.int .i64 (place l x)) := by
 refine con_intro t93 fun n hn V hV => ?_
 simp (disch := first | assumption | omega) only [c93, go_sem, ↓reduceIte]
 refine m_loop (fun M s => ∃ k : Nat, M = l.length - k ∧ k ≤ l.length ∧ At s.env [(0, ints l), (1, .int .i64 x), (7, .int .i64 l.length), (8, .int .i64 k)] ∧ place l x = placeFrom x (l.drop k) k) l.length (by omega) ⟨0, by simp, by omega, by simp [go_sem, ↓reduceIte], rfl⟩ ?_
 rintro M e h hM ⟨k, rfl, hk, hE, hA⟩ P hP
 simp only [At_cons, At_nil] at hE
 obtain ⟨h0, h1, h7, h8, -⟩ := hE
 by_cases hlt : k < l.length
 ·obtain ⟨y, hy⟩ := get_ex hlt
  rw [drop_cons hy, placeFrom] at hA
  by_cases hxy : y = x
  ·subst hxy
   simp (disch := first | assumption | omega) only [go_sem, ↓reduceIte, h0, h1, h7, h8, hlt, hy, beq_self_eq_true]
   exact hV _ _ (by rw [frz_int, hA, if_pos rfl])
  ·have hb : (x == y) = false := by simpa using fun h => hxy h.symm
   simp (disch := first | assumption | omega) only [go_sem, ↓reduceIte, h0, h1, h7, h8, hlt, hy, hb]
   exact hP (l.length - (k + 1)) _ (by omega) ⟨k + 1, rfl, by omega, by simp only [go_sem, ↓reduceIte, h0, h1, h7], by rw [hA, if_neg hxy]; rfl⟩
 ·simp (disch := first | assumption | omega) only [go_sem, ↓reduceIte, h0, h1, h7, h8, hlt]
  exact hV _ _ (by rw [frz_int, hA, List.drop_eq_nil_of_le (by omega)]; rfl)
theorem con_77 (l : List Int) (x : Int) (hl : l.length ≤ 1000) : Con T 2 112 [ints l, .int .i64 x] (.bool (l.contains x)) := by
 refine con_intro t77 fun n hn V hV => ?_
 simp (disch := first | assumption | omega) only [c77, go_sem, ↓reduceIte]
 refine gp_con (con_93 l x hl) hn (by repeat (first | exact fz_nil _ | refine fz_slice _ _ _ _ ?_ | refine fz_int _ _ _ ?_)) (or_pi _ _ _) ?_
 have hp : decide (place l x ≥ 0) = l.contains x := by
  rw [Bool.eq_iff_iff]
  simp [place_mem]
 simp (disch := first | assumption | omega) only [go_sem, ↓reduceIte, hp]
 exact hV _ _ (frz_bool _ _ _)
theorem cs_77 {n base : Nat} {Q : EX × St → Prop} {d : Option Nat} {L : List IOper} {ks : List Kont} {e : Env} {h : Heap} {l : List Int} {x : Bool} {y : Int} (hn : 2 ≤ n) (hl : l.length ≤ 1000) : GP (evCall T n) base Q d L ks e (evCall T n false (.fn 112) [.slice none (l.map (.int .i64)) x, .int .i64 y] h) = GO (evCall T n) base Q L ks ⟨setDst e d (.bool (l.contains y)), h⟩ :=
 gp_eq (con_77 l y hl) hn (by repeat (first | exact fz_nil _ | refine fz_slice _ _ _ _ ?_ | refine fz_int _ _ _ ?_)) rfl
theorem con_57 (l : List Order) (s : List Int) (hl : l.length ≤ 15) (hs : s.length ≤ 15) : Con T 10 120 [ords l, ints s] (.int .i64 (chkSeq l s)) := by
 refine con_intro t57 fun n hn V hV => ?_
 by_cases hc : chk l = 0
 ·have hc' : (chk l != 0) = false := by simp [hc]
  by_cases hlen : s.length = l.length
  ·have hlen' : ((s.length : Int) != l.length) = false := by simp [hlen]
   simp (disch := first | assumption | omega) only [c57, go_sem, ↓reduceIte, cs_23, hc', hlen']
   have hcs : chkSeq l s = if hasAll l.length s then 0 else 2 := by
    rw [chkSeq, if_neg (by simp [hc]), if_neg (by simp [hlen])]
   refine m_loop (fun M st => ∃ k : Nat, M = l.length - k ∧ k ≤ l.length ∧ At st.env [(0, ords l), (1, ints s), (20, .int .i64 l.length), (21, .int .i64 k)] ∧ hasAll l.length s = ((List.range l.length).drop k).all fun i => s.contains (i : Int)) l.length (by omega) ⟨0, by simp, by omega, by simp [go_sem, ↓reduceIte], rfl⟩ ?_
   rintro M e h hM ⟨k, rfl, hk, hE, hA⟩ P hP
   simp only [At_cons, At_nil] at hE
   obtain ⟨h0, h1, h20, h21, -⟩ := hE
   by_cases hlt : k < l.length
   ·rw [hasAll_step hlt] at hA
    by_cases hp : s.contains (k : Int) = true
    ·simp (disch := first | assumption | omega) only [go_sem, ↓reduceIte, h0, h1, h20, h21, hlt, cs_77, hp]
     exact hP (l.length - (k + 1)) _ (by omega) ⟨k + 1, rfl, by omega, by simp only [go_sem, ↓reduceIte, h0, h1, h20], by rw [hA, hp, Bool.true_and]⟩
    ·simp (disch := first | assumption | omega) only [go_sem, ↓reduceIte, h0, h1, h20, h21, hlt, cs_77, hp]
     exact hV _ _ (by rw [frz_int, hcs, hA, Bool.eq_false_iff.2 hp]; rfl)
   ·simp (disch := first | assumption | omega) only [go_sem, ↓reduceIte, h0, h1, h20, h21, hlt]
    exact hV _ _ (by rw [frz_int, hcs, hA, List.drop_eq_nil_of_le (by simp; omega)]; rfl)
  ·have hlen' : ((s.length : Int) != l.length) = true := by simp; omega
   simp (disch := first | assumption | omega) only [c57, go_sem, ↓reduceIte, cs_23, hc', hlen']
   exact hV _ _ (by rw [frz_int, chkSeq, if_neg (by simp [hc]), if_pos (by omega)])
 ·have hc' : (chk l != 0) = true := by simp [hc]
  simp (disch := first | assumption | omega) only [c57, go_sem, ↓reduceIte, cs_23, hc']
  exact hV _ _ (by rw [frz_int, chkSeq, if_pos hc])
theorem cs_57 {n base : Nat} {Q : EX × St → Prop} {d : Option Nat} {L : List IOper} {ks : List Kont} {e : Env} {h : Heap} {l : List Order} {s : List Int} {x y : Bool} (hn : 10 ≤ n) (hl : l.length ≤ 15) (hs : s.length ≤ 15) : GP (evCall T n) base Q d L ks e (evCall T n false (.fn 120) [.slice (some 3) (l.map oAV) x, .slice none (s.map (.int .i64)) y] h) = GO (evCall T n) base Q L ks ⟨setDst e d (.int .i64 (chkSeq l s)), h⟩ :=
 gp_eq (con_57 l s hl hs) hn (by repeat (first | exact fz_nil _ | refine fz_slice _ _ _ _ ?_ | refine fz_int _ _ _ ?_)) rfl
end Go.Ev.YtgehhippjhealaaGreatC.P5
set_option linter.unusedSimpArgs false
set_option linter.unusedVariables false
namespace Go.Ev.YtgehhippjhealaaGreatC.P5
open Go
open Go Go.Proofs
attribute [local irreducible] Res.all evC evLoop evOps evOper evOp evFn evCall freeze G GO GV GP GC R
set_option maxRecDepth 100000
theorem getH_new (h : Heap) (n k : Nat) : getH (h ++ List.replicate n .none) (h.length + k) = .none := by
 rw [getH_append_none]
 exact getH_ge _ _ (by omega)
def P59 (s w : List Int) (h : Heap) (v : AV) (h' : Heap) : Prop := ∃ key ver, h.length ≤ key ∧ v = .oslice key ver none 0 s.length (some s.length) ∧ getH h' key = .cells ver ((endsOf s w).map (.int .i64))
theorem g_59 (s w : List Int) (hl : s.length ≤ 15) (hw : w.length = s.length) (hs : ∀ x ∈ s, 0 ≤ x ∧ x < s.length) (hv : ∀ x ∈ w, 0 ≤ x ∧ x ≤ 1000) : ∀ n, 0 ≤ n → ∀ (h : Heap) (V : AV × Heap → Prop), (∀ v h', P59 s w h v h' → V (v, h')) →
  G (evCall T n) h.length (Fin c59.results V) c59.body [] ⟨[ints s, ints w], h ++ List.replicate c59.ntmps .none⟩ := by
 intro n hn h0 V hV
 have hnew := getH_new h0 30 30
 simp (disch := first | assumption | omega) only [c59, go_sem, ↓reduceIte, hnew]
 refine m_loop (fun M st => ∃ (k : Nat) (day : Int) (out : List Int), M = s.length - k ∧ k ≤ s.length ∧ 0 ≤ day ∧ day ≤ 1000 * k ∧ out.length = s.length ∧
  At st.env [(0, ints s), (1, ints w), (5, .oslice (h0.length + 30) 0 none 0 s.length (some s.length)), (6, .int .i64 day), (12, ints s), (13, .int .i64 s.length), (14, .int .i64 k)] ∧ getH st.heap (h0.length + 30) = .cells 0 (out.map (.int .i64)) ∧ runEnds w (s.drop k) day out = endsOf s w) s.length (by omega)
  ⟨0, 0, List.replicate s.length 0, by simp, by omega, by simp, by simp, by simp, by simp [go_sem, ↓reduceIte], by simp [go_sem, ↓reduceIte], rfl⟩ ?_
 rintro M e h hM ⟨k, day, out, rfl, hk, hd0, hd1, ho, hE, hH, hR⟩ P hP
 simp only [At_cons, At_nil] at hE hH
 obtain ⟨h0, h1, h5, h6, h12, h13, h14, -⟩ := hE
 by_cases hlt : k < s.length
 ·obtain ⟨x, hx⟩ := get_ex hlt
  have hx' := hs x (List.mem_of_getElem? hx)
  obtain ⟨i, rfl⟩ := Int.eq_ofNat_of_zero_le hx'.1
  obtain ⟨y, hy⟩ := get_ex (l := w) (i := i) (by omega)
  have hy' := hv y (List.mem_of_getElem? hy)
  simp (disch := first | assumption | omega) only [go_sem, ↓reduceIte, h0, h1, h5, h6, h12, h13, h14, hH, hlt, hx, hy]
  refine ⟨by omega, by omega, hP (s.length - (k + 1)) _ (by omega) ⟨k + 1, day + y, out.set i (day + y), rfl, by omega, by omega, by omega, by simp [ho], by simp only [go_sem, ↓reduceIte, h0, h1, h5, h12, h13], by simp only [go_sem, ↓reduceIte], ?_⟩⟩
  rw [← hR, drop_cons hx, runEnds]
  simp [hy]
 ·simp (disch := first | assumption | omega) only [go_sem, ↓reduceIte, h0, h1, h5, h6, h12, h13, h14, hH, hlt]
  refine hV _ _ ⟨_, _, Nat.le_add_right _ _, rfl, ?_⟩
  rw [List.drop_eq_nil_of_le (by omega)] at hR
  rw [hH, ← hR]
  rfl
theorem raw_59 (s w : List Int) (hl : s.length ≤ 15) (hw : w.length = s.length) (hs : ∀ x ∈ s, 0 ≤ x ∧ x < s.length) (hv : ∀ x ∈ w, 0 ≤ x ∧ x ≤ 1000) : Raw T 1 121 [ints s, ints w] (P59 s w) := raw_intro t59 (g_59 s w hl hw hs hv)
def P19 (l : List Order) (s w : List Int) (h : Heap) (v : AV) (h' : Heap) : Prop :=
 (chkWork l s w ≠ 0 ∧ v = .tuple [.slice none [] true, .int .i64 (chkWork l s w)]) ∨
 (chkWork l s w = 0 ∧ ∃ key ver, h.length ≤ key ∧ v = .tuple [.oslice key ver none 0 s.length (some s.length), .int .i64 0] ∧ getH h' key = .cells ver ((endsOf s w).map (.int .i64)))
theorem workOk_of {l : List Order} {w : List Int} (hl : w.length = l.length) (h : workOk l w = true) (ho : ∀ o ∈ l, Ok o) : ∀ x ∈ w, 0 ≤ x ∧ x ≤ 1000 := by
 induction l generalizing w with
 | nil => intro x hx; simp at hl; subst hl; cases hx
 | cons o l ih =>
  cases w with
  | nil => simp at hl
  | cons y w =>
   simp only [workOk, Bool.and_eq_true, decide_eq_true_eq] at h
   intro x hx
   rcases List.mem_cons.1 hx with rfl | hx
   ·have := ho o List.mem_cons_self
    have h1 := this.lo
    have h2 := this.hi
    omega
   ·exact ih (by simpa using hl) h.2 (fun o h => ho o (List.mem_cons_of_mem _ h)) x hx
theorem withinB_one (lo hi x : Int) : withinB lo hi [x] = (decide (lo ≤ x) && decide (x ≤ hi)) := by
 rw [Bool.eq_iff_iff]
 simp [withinB]
theorem cs_58' {n base : Nat} {Q : EX × St → Prop} {d : Option Nat} {L : List IOper} {ks : List Kont} {e : Env} {h : Heap} {lo hi x : Int} (hn : 4 ≤ n) :
  GP (evCall T n) base Q d L ks e (evCall T n false (.fn 114) [.int .i64 lo, .int .i64 hi, .slice none [.int .i64 x] true] h) = GO (evCall T n) base Q L ks ⟨setDst e d (.bool (decide (lo ≤ x) && decide (x ≤ hi))), h⟩ := by
 rw [← withinB_one]
 exact cs_58 (xs := [x]) hn (by simp)
theorem g_19 (l : List Order) (s w : List Int) (hl : l.length ≤ 15) (hs : s.length ≤ 15) : ∀ n, 10 ≤ n → ∀ (h : Heap) (V : AV × Heap → Prop), (∀ v h', P19 l s w h v h' → V (v, h')) →
  G (evCall T n) h.length (Fin c19.results V) c19.body [] ⟨[ords l, ints s, ints w], h ++ List.replicate c19.ntmps .none⟩ := by
 intro n hn hp V hV
 by_cases hc : chkSeq l s = 0
 ·have hc' : (chkSeq l s != 0) = false := by simp [hc]
  obtain ⟨hval, hseq⟩ := (chkSeq_zero l s).1 hc
  have hsl := hseq.len
  have hslt : ∀ x ∈ s, 0 ≤ x ∧ x < s.length := by rw [hsl]; exact hseq.lt.1
  by_cases hlen : w.length = l.length
  ·have hlen' : ((w.length : Int) != l.length) = false := by simp [hlen]
   simp (disch := first | assumption | omega) only [c19, go_sem, ↓reduceIte, cs_57, hc', hlen']
   have hcs : chkWork l s w = if workOk l w then 0 else 3 := by
    rw [chkWork, if_neg (by simp [hc]), if_neg (by simp [hlen])]
   refine m_loop (fun M st => ∃ k : Nat, M = l.length - k ∧ k ≤ l.length ∧ hp.length ≤ st.heap.length ∧ At st.env [(0, ords l), (1, ints s), (2, ints w), (24, ords l), (25, .int .i64 l.length), (26, .int .i64 k)] ∧ workOk l w = workOk (l.drop k) (w.drop k)) l.length (by omega) ⟨0, by simp, by omega, by simp, by simp [go_sem, ↓reduceIte], rfl⟩ ?_
   rintro M e h hM ⟨k, rfl, hk, hhp, hE, hA⟩ P hP
   simp only [At_cons, At_nil] at hE hhp
   obtain ⟨h0, h1, h2, h24, h25, h26, -⟩ := hE
   by_cases hlt : k < l.length
   ·obtain ⟨o, ho⟩ := get_ex hlt
    obtain ⟨x, hx⟩ := get_ex (l := w) (i := k) (by omega)
    rw [workOk_step ho hx] at hA
    by_cases g1 : (decide (o.lo ≤ x) && decide (x ≤ o.hi)) = true
    ·simp (disch := first | assumption | omega) only [go_sem, ↓reduceIte, h0, h1, h2, h24, h25, h26, hlt, ho, hx, oAV, cs_58', g1]
     exact hP (l.length - (k + 1)) _ (by omega) ⟨k + 1, rfl, by omega, by simp only [go_sem, ↓reduceIte]; omega, by simp only [go_sem, ↓reduceIte, h0, h1, h2, h24, h25], by rw [hA, g1, Bool.true_and]⟩
    ·simp (disch := first | assumption | omega) only [go_sem, ↓reduceIte, h0, h1, h2, h24, h25, h26, hlt, ho, hx, oAV, cs_58', g1]
     have : chkWork l s w = 3 := by rw [hcs, hA, Bool.eq_false_iff.2 g1]; rfl
     exact hV _ _ (.inl ⟨by omega, by rw [this]⟩)
   ·simp (disch := first | assumption | omega) only [go_sem, ↓reduceIte, h0, h1, h2, h24, h25, h26, hlt]
    have hok : workOk l w = true := by rw [hA, List.drop_eq_nil_of_le (by omega)]; rfl
    refine gp_raw (raw_59 s w hs (by omega) hslt (workOk_of hlen hok hval.ok)) (by omega) ?_
    rintro v h' ⟨key, ver, hkey, rfl, hH⟩
    simp (disch := first | assumption | omega) only [go_sem, ↓reduceIte]
    exact hV _ _ (.inr ⟨by rw [hcs, hok]; rfl, key, ver, by omega, rfl, hH⟩)
  ·have hlen' : ((w.length : Int) != l.length) = true := by simp; omega
   simp (disch := first | assumption | omega) only [c19, go_sem, ↓reduceIte, cs_57, hc', hlen']
   have : chkWork l s w = 15 := by rw [chkWork, if_neg (by simp [hc]), if_pos (by omega)]
   exact hV _ _ (.inl ⟨by omega, by rw [this]⟩)
 ·have hc' : (chkSeq l s != 0) = true := by simp [hc]
  simp (disch := first | assumption | omega) only [c19, go_sem, ↓reduceIte, cs_57, hc']
  have : chkWork l s w = chkSeq l s := by rw [chkWork, if_pos hc]
  exact hV _ _ (.inl ⟨by omega, by rw [this]⟩)
theorem raw_19 (l : List Order) (s w : List Int) (hl : l.length ≤ 15) (hs : s.length ≤ 15) : Raw T 11 60 [ords l, ints s, ints w] (P19 l s w) := raw_intro t19 (g_19 l s w hl hs)
end Go.Ev.YtgehhippjhealaaGreatC.P5
