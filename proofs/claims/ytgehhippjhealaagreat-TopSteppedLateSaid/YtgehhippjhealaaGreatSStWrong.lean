/- The code of functions that are walked, compiled for the evaluator, as text. Circles of a list that leads each place to one: plain lists, no program. What is done several times; exchanges that put circles right; how often until all is as before. What small functions of layer 6 answer: within, the checks of joints, the program's and the reference's. Steps of neighbours put a list in its order; each takes away one wrong pair. The bench of valid joints, handed over; flutes; the first of several; neighbours exchanged. What the reference's check of joints answers, and what it means. Steps of layer 6. Wrong of layer 6. No condition but those that stand in each. -/
import Derived.Test.YtgehhippjhealaaGreatSTopW
import Derived.Test.YtgehhippjhealaaGreatSEvComp
import Derived.Test.YtgehhippjhealaaGreatSTopShd
import Derived.Test.YtgehhippjhealaaGreatSTopKnx
set_option linter.unusedSimpArgs false
set_option linter.unusedVariables false
set_option maxRecDepth 100000
namespace Go.Ev.YtgehhippjhealaaGreatC
open Go.Proofs
def c7 : IFunc := ⟨5, [.tmp 2], .seq (.ops [dO 2 (.mv (cI 0))]) (.seq (.ops [dO 3 (.mv (tM 0)), dO 4 (.callF false 33 [tM 3, cI 0]), dO 2 (.mv (tM 4))]) .ret)⟩
theorem k7 : (cfgOf Tryz.prog byr).fns 7 = some c7 := by kernel_rfl
theorem t7 : T.fns 7 = some c7 := T_fns k7 (by decide) (by decide)
def c33 : IFunc := ⟨64, [.tmp 4], .seq (.ops [dO 4 (.mv (cI 0))]) (.seq (.seq (.ops [dO 8 (.mv (tM 0)), dO 9 (.len (tM 8)), dO 10 (.bin .lss (tM 9) (cI 1)), dO 11 (.mv (tM 10)), gO 12 (.mv (tM 0)) 11 false, gO 13 (.len (tM 12)) 11 false, gO 14 (.bin .gtr (tM 13) (cI 10)) 11 false, dO 15 (.pick (tM 11) (cB true) (tM 14))]) (.cond (tM 15) (.seq (.ops [dO 4 (.mv (cI 6))]) .ret) .skip)) (.seq (.seq (.ops [dO 5 (.mv (cI 0))]) (.block 0 (.loop (.seq (.seq (.ops [dO 16 (.mv (tM 5)), dO 17 (.mv (tM 0)), dO 18 (.len (tM 17)), dO 19 (.bin .lss (tM 16) (tM 18))]) (.cond (tM 19) .skip (.exit 0))) (.seq (.block 1 (.seq (.ops [dO 22 (.mv (tM 0)), dO 23 (.mv (tM 5)), dO 24 (.indexAddr 1 (tM 22) (tM 23)), dO 25 (.load none (tM 24)), dO 26 (.mv (tM 1)), dO 27 (.bin .lss (tM 25) (tM 26)), dO 28 (.mv (tM 27)), gO 29 (.mv (tM 0)) 28 false, gO 30 (.mv (tM 5)) 28 false, gO 31 (.indexAddr 1 (tM 29) (tM 30)) 28 false, gO 32 (.load none (tM 31)) 28 false, gO 33 (.mv (tM 0)) 28 false, gO 34 (.len (tM 33)) 28 false, gO 35 (.bin .geq (tM 32) (tM 34)) 28 false, dO 36 (.pick (tM 28) (cB true) (tM 35))]) (.cond (tM 36) (.seq (.ops [dO 4 (.mv (cI 3))]) .ret) .skip))) (.ops [dO 20 (.mv (tM 5)), dO 21 (.bin .add (tM 20) (cI 1)), dO 5 (.mv (tM 21))])))))) (.seq (.seq (.ops [dO 6 (.mv (cI 0))]) (.block 2 (.loop (.seq (.seq (.ops [dO 37 (.mv (tM 6)), dO 38 (.mv (tM 0)), dO 39 (.len (tM 38)), dO 40 (.bin .lss (tM 37) (tM 39))]) (.cond (tM 40) .skip (.exit 2))) (.seq (.block 3 (.seq (.ops [dO 7 (.mv (cI 0))]) (.block 4 (.loop (.seq (.seq (.ops [dO 43 (.mv (tM 7)), dO 44 (.mv (tM 6)), dO 45 (.bin .lss (tM 43) (tM 44))]) (.cond (tM 45) .skip (.exit 4))) (.seq (.block 5 (.seq (.ops [dO 48 (.mv (tM 0)), dO 49 (.mv (tM 7)), dO 50 (.indexAddr 1 (tM 48) (tM 49)), dO 51 (.load none (tM 50)), dO 52 (.mv (tM 0)), dO 53 (.mv (tM 6)), dO 54 (.indexAddr 1 (tM 52) (tM 53)), dO 55 (.load none (tM 54)), dO 56 (.bin .eql (tM 51) (tM 55)), dO 57 (.mv (tM 56)), gO 58 (.mv (tM 0)) 57 true, gO 59 (.mv (tM 6)) 57 true, gO 60 (.indexAddr 1 (tM 58) (tM 59)) 57 true, gO 61 (.load none (tM 60)) 57 true, gO 62 (.bin .geq (tM 61) (cI 0)) 57 true, dO 63 (.pick (tM 57) (tM 62) (cB false))]) (.cond (tM 63) (.seq (.ops [dO 4 (.mv (cI 11))]) .ret) .skip))) (.ops [dO 46 (.mv (tM 7)), dO 47 (.bin .add (tM 46) (cI 1)), dO 7 (.mv (tM 47))]))))))) (.ops [dO 41 (.mv (tM 6)), dO 42 (.bin .add (tM 41) (cI 1)), dO 6 (.mv (tM 42))])))))) (.seq (.ops [dO 4 (.mv (cI 0))]) .ret))))⟩
theorem k33 : (cfgOf Tryz.prog byr).fns 33 = some c33 := by kernel_rfl
theorem t33 : T.fns 33 = some c33 := T_fns k33 (by decide) (by decide)
def c15 : IFunc := ⟨6, [.tmp 2], .seq (.ops [dO 2 (.mv (.const (.slice none [] true)))]) (.seq (.ops [dO 3 (.buildSlice none [] []), dO 4 (.mv (tM 0)), dO 5 (.append none 8 (tM 3) (tM 4)), dO 2 (.mv (tM 5))]) .ret)⟩
theorem k15 : (cfgOf Tryz.prog byr).fns 15 = some c15 := by kernel_rfl
theorem t15 : T.fns 15 = some c15 := T_fns k15 (by decide) (by decide)
def c14 : IFunc := ⟨8, [.tmp 4], .seq (.ops [dO 4 (.mv (cB false))]) (.seq (.ops [dO 5 (.mv (tM 0)), dO 6 (.mv (tM 1)), dO 7 (.callF false 32 [tM 5, tM 6]), dO 4 (.mv (tM 7))]) .ret)⟩
theorem k14 : (cfgOf Tryz.prog byr).fns 14 = some c14 := by kernel_rfl
theorem t14 : T.fns 14 = some c14 := T_fns k14 (by decide) (by decide)
def c32 : IFunc := ⟨26, [.tmp 4], .seq (.ops [dO 4 (.mv (cB false))]) (.seq (.seq (.ops [dO 6 (.mv (tM 0)), dO 7 (.len (tM 6)), dO 8 (.mv (tM 1)), dO 9 (.len (tM 8)), dO 10 (.bin .neq (tM 7) (tM 9))]) (.cond (tM 10) (.seq (.ops [dO 4 (.mv (cB false))]) .ret) .skip)) (.seq (.seq (.ops [dO 5 (.mv (cI 0))]) (.block 0 (.loop (.seq (.seq (.ops [dO 11 (.mv (tM 5)), dO 12 (.mv (tM 0)), dO 13 (.len (tM 12)), dO 14 (.bin .lss (tM 11) (tM 13))]) (.cond (tM 14) .skip (.exit 0))) (.seq (.block 1 (.seq (.ops [dO 17 (.mv (tM 0)), dO 18 (.mv (tM 5)), dO 19 (.indexAddr 1 (tM 17) (tM 18)), dO 20 (.load none (tM 19)), dO 21 (.mv (tM 1)), dO 22 (.mv (tM 5)), dO 23 (.indexAddr 1 (tM 21) (tM 22)), dO 24 (.load none (tM 23)), dO 25 (.bin .neq (tM 20) (tM 24))]) (.cond (tM 25) (.seq (.ops [dO 4 (.mv (cB false))]) .ret) .skip))) (.ops [dO 15 (.mv (tM 5)), dO 16 (.bin .add (tM 15) (cI 1)), dO 5 (.mv (tM 16))])))))) (.seq (.ops [dO 4 (.mv (cB true))]) .ret)))⟩
theorem k32 : (cfgOf Tryz.prog byr).fns 32 = some c32 := by kernel_rfl
theorem t32 : T.fns 32 = some c32 := T_fns k32 (by decide) (by decide)
def c59 : IFunc := ⟨5, [.tmp 2], .seq (.ops [dO 2 (.mv (cI 0))]) (.seq (.ops [dO 3 (.mv (tM 0)), dO 4 (.callF false 119 [tM 3, cI 0]), dO 2 (.mv (tM 4))]) .ret)⟩
theorem k59 : (cfgOf Tryz.prog byr).fns 59 = some c59 := by kernel_rfl
theorem t59 : T.fns 59 = some c59 := T_fns k59 (by decide) (by decide)
def c119 : IFunc := ⟨38, [.tmp 4], .seq (.ops [dO 4 (.mv (cI 0))]) (.seq (.block 0 (.seq (.ops [dO 8 (.mv (tM 0)), dO 9 (.len (tM 8)), dO 10 (.buildSlice none [.int .i64 0] [(0, (1, tM 9))]), dO 11 (.callF false 160 [cI 1, cI 10, tM 10]), dO 12 (.un .not (tM 11)), dO 7 (.mv (tM 12))]) (.cond (tM 7) (.seq (.ops [dO 4 (.mv (cI 6))]) .ret) (.seq (.ops [dO 14 (.mv (tM 1)), dO 15 (.mv (tM 0)), dO 16 (.len (tM 15)), dO 17 (.bin .sub (tM 16) (cI 1)), dO 18 (.mv (tM 0)), dO 19 (.callF false 160 [tM 14, tM 17, tM 18]), dO 20 (.un .not (tM 19)), dO 13 (.mv (tM 20))]) (.cond (tM 13) (.seq (.ops [dO 4 (.mv (cI 3))]) .ret) .skip))))) (.seq (.seq (.ops [dO 21 (.mv (tM 0)), dO 22 (.len (tM 21)), dO 23 (.mv (cI 0))]) (.block 1 (.loop (.seq (.ops [dO 24 (.bin .lss (tM 23) (tM 22))]) (.seq (.cond (tM 24) .skip (.exit 1)) (.seq (.block 2 (.seq (.ops [dO 25 (.mv (tM 23)), dO 26 (.indexAddr 1 (tM 21) (tM 23)), dO 27 (.load none (tM 26)), dO 5 (.mv (tM 25)), dO 6 (.mv (tM 27))]) (.seq (.ops [dO 28 (.mv (tM 6)), dO 29 (.bin .geq (tM 28) (cI 0)), dO 30 (.mv (tM 29)), gO 31 (.mv (tM 0)) 30 true, gO 32 (.mv (tM 5)) 30 true, gO 33 (.slice none (tM 31) none (some (tM 32)) none) 30 true, gO 34 (.mv (tM 6)) 30 true, gO 35 (.callF false 112 [tM 33, tM 34]) 30 true, dO 36 (.pick (tM 30) (tM 35) (cB false))]) (.cond (tM 36) (.seq (.ops [dO 4 (.mv (cI 11))]) .ret) .skip)))) (.ops [dO 37 (.bin .add (tM 23) (cI 1)), dO 23 (.mv (tM 37))]))))))) (.seq (.ops [dO 4 (.mv (cI 0))]) .ret)))⟩
theorem k119 : (cfgOf Tryz.prog byr).fns 119 = some c119 := by kernel_rfl
theorem t119 : T.fns 119 = some c119 := T_fns k119 (by decide) (by decide)
def c160 : IFunc := ⟨11, [.tmp 6], .seq (.ops [dO 3 (.box (tM 0)), dO 4 (.box (tM 1)), dO 6 (.mv (cB false))]) (.seq (.ops [dO 7 (.mv (tM 2)), dO 8 (.mkFunc 215 [] [tM 3, tM 4]), dO 9 (.callF false 110 [tM 7, tM 8]), dO 10 (.un .not (tM 9)), dO 6 (.mv (tM 10))]) .ret)⟩
theorem k160 : (cfgOf Tryz.prog byr).fns 160 = some c160 := by kernel_rfl
theorem t160 : T.fns 160 = some c160 := T_fns k160 (by decide) (by decide)
def c215 : IFunc := ⟨13, [.tmp 4], .seq (.ops [dO 4 (.mv (cB false))]) (.seq (.ops [dO 5 (.mv (tM 0)), dO 6 (.load none (tM 1)), dO 7 (.bin .lss (tM 5) (tM 6)), dO 8 (.mv (tM 7)), gO 9 (.mv (tM 0)) 8 false, gO 10 (.load none (tM 2)) 8 false, gO 11 (.bin .gtr (tM 9) (tM 10)) 8 false, dO 12 (.pick (tM 8) (cB true) (tM 11)), dO 4 (.mv (tM 12))]) .ret)⟩
theorem k215 : (cfgOf Tryz.prog byr).fns 215 = some c215 := by kernel_rfl
theorem t215 : T.fns 215 = some c215 := T_fns k215 (by decide) (by decide)
def c36 : IFunc := ⟨12, [.tmp 2, .tmp 3], .seq (.ops [dO 2 (.mv (.const .nilptr)), dO 3 (.mv (cI 0))]) (.seq (.seq (.ops [dO 5 (.mv (tM 0)), dO 6 (.callF false 59 [tM 5]), dO 4 (.mv (tM 6))]) (.seq (.ops [dO 7 (.mv (tM 4)), dO 8 (.bin .neq (tM 7) (cI 0))]) (.cond (tM 8) (.seq (.ops [dO 9 (.mv (tM 4)), dO 2 (.mv (.const .nilptr)), dO 3 (.mv (tM 9))]) .ret) .skip))) (.seq (.ops [dO 10 (.mv (tM 0)), dO 11 (.callF true 92 [tM 10]), dO 2 (.mv (tM 11)), dO 3 (.mv (cI 0))]) .ret))⟩
theorem k36 : (cfgOf Tryz.prog byr).fns 36 = some c36 := by kernel_rfl
theorem t36 : T.fns 36 = some c36 := T_fns k36 (by decide) (by decide)
def c92 : IFunc := ⟨8, [.tmp 2], .seq (.ops [dO 2 (.mv (.const .nilptr))]) (.seq (.ops [dO 3 (.mv (tM 0)), dO 4 (.callF true 97 [tM 3]), dO 5 (.build [.slice none [] true] [(0, (1, tM 4))]), dO 6 (.build [.slice none [] true] [(0, (1, tM 5))]), dO 7 (.box (tM 6)), dO 2 (.mv (tM 7))]) .ret)⟩
theorem k92 : (cfgOf Tryz.prog byr).fns 92 = some c92 := by kernel_rfl
theorem t92 : T.fns 92 = some c92 := T_fns k92 (by decide) (by decide)
def c20 : IFunc := ⟨46, [.tmp 2, .tmp 3], .seq (.ops [dO 2 (.mv (.const (.slice none [] true))), dO 3 (.mv (cI 0))]) (.seq (.ops [dO 10 (.mv (tM 0)), dO 11 (.callF true 36 [tM 10]), dO 9 (.mv (tM 11)), dO 12 (.extract (tM 9) 0), dO 13 (.extract (tM 9) 1), dO 4 (.alloc [.nilptr]), eO (.store 1 (tM 4) (tM 12)), dO 5 (.mv (tM 13))]) (.seq (.seq (.ops [dO 14 (.mv (tM 5)), dO 15 (.bin .neq (tM 14) (cI 0))]) (.cond (tM 15) (.seq (.ops [dO 16 (.mv (tM 5)), dO 2 (.mv (.const (.slice none [] true))), dO 3 (.mv (tM 16))]) .ret) .skip)) (.seq (.ops [dO 6 (.mv (.const (.slice none [] true)))]) (.block 0 (.loop (.block 1 (.seq (.ops [dO 18 (.load none (tM 4)), dO 19 (.nilCheck (tM 18)), dO 20 (.fieldAddr 0 (tM 19)), dO 21 (.load (some 1) (tM 20)), dO 22 (.callF false 56 [tM 21]), dO 23 (.slice none (tM 22) (some (cI 1)) none none), dO 24 (.mkFunc 57 [] [tM 4]), dO 25 (.callF false 55 [tM 23, tM 24]), dO 17 (.mv (tM 25)), dO 26 (.extract (tM 17) 0), dO 27 (.extract (tM 17) 1), dO 7 (.mv (tM 26)), dO 8 (.mv (tM 27))]) (.seq (.seq (.ops [dO 28 (.mv (tM 8)), dO 29 (.un .not (tM 28))]) (.cond (tM 29) (.seq (.ops [dO 30 (.mv (tM 6)), dO 2 (.mv (tM 30)), dO 3 (.mv (cI 0))]) .ret) .skip)) (.seq (.ops [dO 31 (.load none (tM 4)), dO 32 (.mv (tM 7)), dO 33 (.bin .sub (tM 32) (cI 1)), dO 34 (.mv (tM 7)), dO 35 (.callF true 58 [tM 31, tM 33, tM 34])]) (.ops [dO 36 (.mv (tM 6)), dO 37 (.mv (tM 6)), dO 38 (.len (tM 37)), dO 39 (.mv (tM 6)), dO 40 (.len (tM 39)), dO 41 (.slice none (tM 36) none (some (tM 38)) (some (tM 40))), dO 42 (.mv (tM 7)), dO 43 (.bin .sub (tM 42) (cI 1)), dO 44 (.buildSlice none [.int .i64 0] [(0, (1, tM 43))]), dO 45 (.append none 8 (tM 41) (tM 44)), dO 6 (.mv (tM 45))]))))))))))⟩
theorem k20 : (cfgOf Tryz.prog byr).fns 20 = some c20 := by kernel_rfl
theorem t20 : T.fns 20 = some c20 := T_fns k20 (by decide) (by decide)
def c55 : IFunc := ⟨21, [.tmp 4, .tmp 5], .seq (.ops [dO 4 (.mv (cI 0)), dO 5 (.mv (cB false))]) (.seq (.seq (.ops [dO 9 (.mv (tM 0)), dO 10 (.len (tM 9)), dO 11 (.mv (cI 0))]) (.block 0 (.loop (.seq (.ops [dO 12 (.bin .lss (tM 11) (tM 10))]) (.seq (.cond (tM 12) .skip (.exit 0)) (.seq (.block 1 (.seq (.ops [dO 13 (.indexAddr 1 (tM 9) (tM 11)), dO 14 (.load none (tM 13)), dO 7 (.mv (tM 14))]) (.seq (.ops [dO 15 (.mv (tM 1)), dO 16 (.mv (tM 7)), dO 17 (.call false (tM 15) [tM 16])]) (.cond (tM 17) (.seq (.ops [dO 18 (.mv (tM 7)), dO 4 (.mv (tM 18)), dO 5 (.mv (cB true))]) .ret) .skip)))) (.ops [dO 19 (.bin .add (tM 11) (cI 1)), dO 11 (.mv (tM 19))]))))))) (.seq (.ops [dO 8 (.mv (cI 0))]) (.seq (.ops [dO 20 (.mv (tM 8)), dO 4 (.mv (tM 20)), dO 5 (.mv (cB false))]) .ret)))⟩
theorem k55 : (cfgOf Tryz.prog byr).fns 55 = some c55 := by kernel_rfl
theorem t55 : T.fns 55 = some c55 := T_fns k55 (by decide) (by decide)
def c56 : IFunc := ⟨20, [.tmp 2], .seq (.ops [dO 1 (.box (tM 0)), dO 2 (.mv (.const (.slice none [] true)))]) (.seq (.ops [dO 5 (.fieldAddr 0 (tM 1)), dO 6 (.load none (tM 5)), dO 7 (.len (tM 6)), dO 8 (.mkSlice none [.int .i64 0] 8 (tM 7) (tM 7)), dO 3 (.mv (tM 8))]) (.seq (.seq (.ops [dO 9 (.mv (tM 3)), dO 10 (.len (tM 9)), dO 11 (.mv (cI 0))]) (.block 0 (.loop (.seq (.ops [dO 12 (.bin .lss (tM 11) (tM 10))]) (.seq (.cond (tM 12) .skip (.exit 0)) (.seq (.block 1 (.seq (.ops [dO 13 (.mv (tM 11)), dO 4 (.mv (tM 13))]) (.ops [dO 14 (.mv (tM 3)), dO 15 (.mv (tM 4)), dO 16 (.mv (tM 4)), dO 17 (.indexAddr 1 (tM 14) (tM 15)), eO (.store 1 (tM 17) (tM 16))]))) (.ops [dO 18 (.bin .add (tM 11) (cI 1)), dO 11 (.mv (tM 18))]))))))) (.seq (.ops [dO 19 (.mv (tM 3)), dO 2 (.mv (tM 19))]) .ret)))⟩
theorem k56 : (cfgOf Tryz.prog byr).fns 56 = some c56 := by kernel_rfl
theorem t56 : T.fns 56 = some c56 := T_fns k56 (by decide) (by decide)
def c57 : IFunc := ⟨22, [.tmp 3], .seq (.ops [dO 3 (.mv (cB false))]) (.seq (.ops [dO 4 (.load none (tM 1)), dO 5 (.nilCheck (tM 4)), dO 6 (.fieldAddr 0 (tM 5)), dO 7 (.fieldAddr 0 (tM 6)), dO 8 (.load none (tM 7)), dO 9 (.mv (tM 0)), dO 10 (.bin .sub (tM 9) (cI 1)), dO 11 (.indexAddr 1 (tM 8) (tM 10)), dO 12 (.load none (tM 11)), dO 13 (.load none (tM 1)), dO 14 (.nilCheck (tM 13)), dO 15 (.fieldAddr 0 (tM 14)), dO 16 (.fieldAddr 0 (tM 15)), dO 17 (.load none (tM 16)), dO 18 (.mv (tM 0)), dO 19 (.indexAddr 1 (tM 17) (tM 18)), dO 20 (.load none (tM 19)), dO 21 (.bin .gtr (tM 12) (tM 20)), dO 3 (.mv (tM 21))]) .ret)⟩
theorem k57 : (cfgOf Tryz.prog byr).fns 57 = some c57 := by kernel_rfl
theorem t57 : T.fns 57 = some c57 := T_fns k57 (by decide) (by decide)
def c58 : IFunc := ⟨36, [], .ops [dO 6 (.mv (tM 0)), dO 7 (.nilCheck (tM 6)), dO 8 (.fieldAddr 0 (tM 7)), dO 9 (.fieldAddr 0 (tM 8)), dO 10 (.load none (tM 9)), dO 11 (.mv (tM 1)), dO 12 (.mv (tM 0)), dO 13 (.nilCheck (tM 12)), dO 14 (.fieldAddr 0 (tM 13)), dO 15 (.fieldAddr 0 (tM 14)), dO 16 (.load none (tM 15)), dO 17 (.mv (tM 2)), dO 18 (.mv (tM 0)), dO 19 (.nilCheck (tM 18)), dO 20 (.fieldAddr 0 (tM 19)), dO 21 (.fieldAddr 0 (tM 20)), dO 22 (.load none (tM 21)), dO 23 (.mv (tM 2)), dO 24 (.indexAddr 1 (tM 22) (tM 23)), dO 25 (.load none (tM 24)), dO 26 (.mv (tM 0)), dO 27 (.nilCheck (tM 26)), dO 28 (.fieldAddr 0 (tM 27)), dO 29 (.fieldAddr 0 (tM 28)), dO 30 (.load none (tM 29)), dO 31 (.mv (tM 1)), dO 32 (.indexAddr 1 (tM 30) (tM 31)), dO 33 (.load none (tM 32)), dO 34 (.indexAddr 1 (tM 10) (tM 11)), eO (.store 1 (tM 34) (tM 25)), dO 35 (.indexAddr 1 (tM 16) (tM 17)), eO (.store 1 (tM 35) (tM 33))]⟩
theorem k58 : (cfgOf Tryz.prog byr).fns 58 = some c58 := by kernel_rfl
theorem t58 : T.fns 58 = some c58 := T_fns k58 (by decide) (by decide)
def c21 : IFunc := ⟨45, [.tmp 2, .tmp 3], .seq (.ops [dO 2 (.mv (.const (.slice (some 2) [] true))), dO 3 (.mv (cI 0))]) (.seq (.seq (.ops [dO 10 (.mv (tM 0)), dO 11 (.callF false 59 [tM 10]), dO 4 (.mv (tM 11))]) (.seq (.ops [dO 12 (.mv (tM 4)), dO 13 (.bin .neq (tM 12) (cI 0))]) (.cond (tM 13) (.seq (.ops [dO 14 (.mv (tM 4)), dO 2 (.mv (.const (.slice (some 2) [] true))), dO 3 (.mv (tM 14))]) .ret) .skip))) (.seq (.ops [dO 5 (.mv (.const (.slice (some 2) [] true)))]) (.seq (.seq (.ops [dO 15 (.mv (tM 0)), dO 16 (.len (tM 15)), dO 17 (.mv (cI 0))]) (.block 0 (.loop (.seq (.ops [dO 18 (.bin .lss (tM 17) (tM 16))]) (.seq (.cond (tM 18) .skip (.exit 0)) (.seq (.block 1 (.seq (.ops [dO 19 (.mv (tM 17)), dO 20 (.indexAddr 1 (tM 15) (tM 17)), dO 21 (.load none (tM 20)), dO 6 (.mv (tM 19)), dO 7 (.mv (tM 21))]) (.seq (.ops [dO 22 (.mv (tM 0)), dO 23 (.mv (tM 6)), dO 24 (.slice none (tM 22) (some (tM 23)) none none), dO 25 (.len (tM 24)), dO 26 (.mv (cI 0))]) (.block 2 (.loop (.seq (.ops [dO 27 (.bin .lss (tM 26) (tM 25))]) (.seq (.cond (tM 27) .skip (.exit 2)) (.seq (.block 3 (.seq (.ops [dO 28 (.mv (tM 26)), dO 29 (.indexAddr 1 (tM 24) (tM 26)), dO 30 (.load none (tM 29)), dO 8 (.mv (tM 28)), dO 9 (.mv (tM 30))]) (.seq (.ops [dO 31 (.mv (tM 7)), dO 32 (.mv (tM 9)), dO 33 (.bin .gtr (tM 31) (tM 32))]) (.cond (tM 33) (.ops [dO 34 (.mv (tM 5)), dO 35 (.mv (tM 6)), dO 36 (.mv (tM 6)), dO 37 (.mv (tM 8)), dO 38 (.bin .add (tM 36) (tM 37)), dO 39 (.build [.int .i64 0, .int .i64 0] [(0, (1, tM 35)), (1, (1, tM 38))]), dO 40 (.buildSlice (some 2) [.int .i64 0, .int .i64 0] [(0, (2, tM 39))]), dO 41 (.append (some 2) 16 (tM 34) (tM 40)), dO 5 (.mv (tM 41))]) .skip)))) (.ops [dO 42 (.bin .add (tM 26) (cI 1)), dO 26 (.mv (tM 42))]))))))))) (.ops [dO 43 (.bin .add (tM 17) (cI 1)), dO 17 (.mv (tM 43))]))))))) (.seq (.ops [dO 44 (.mv (tM 5)), dO 2 (.mv (tM 44)), dO 3 (.mv (cI 0))]) .ret))))⟩
theorem k21 : (cfgOf Tryz.prog byr).fns 21 = some c21 := by kernel_rfl
theorem t21 : T.fns 21 = some c21 := T_fns k21 (by decide) (by decide)
end Go.Ev.YtgehhippjhealaaGreatC
set_option linter.unusedSimpArgs false
set_option linter.unusedVariables false
namespace Go.Ev.YtgehhippjhealaaGreatC
structure PermN (p : List Nat) : Prop where
 nd : p.Nodup
 lt : ∀ x ∈ p, x < p.length
theorem nodup_at {p : List Nat} : p.Nodup ↔ ∀ {i j : Nat} (hi : i < p.length) (hj : j < p.length), p[i] = p[j] → i = j := by
 rw [List.Nodup, List.pairwise_iff_getElem]
 constructor
 ·intro h i j hi hj he
  rcases Nat.lt_trichotomy i j with hlt | heq | hgt
  ·exact absurd he (h i j hi hj hlt)
  ·exact heq
  ·exact absurd he.symm (h j i hj hi hgt)
 ·intro h i j hi hj hij he
  have := h hi hj he
  omega
end Go.Ev.YtgehhippjhealaaGreatC
set_option linter.unusedSimpArgs false
set_option linter.unusedVariables false
namespace Go.Ev.YtgehhippjhealaaGreatC
end Go.Ev.YtgehhippjhealaaGreatC
set_option linter.unusedSimpArgs false
set_option linter.unusedVariables false
namespace Go.Ev.YtgehhippjhealaaGreatC
open Go Go.Proofs
abbrev intsS (l : List Int) : AV := .slice none (l.map (.int .i64)) false
def nI6 (p : List Nat) : List Int := p.map fun x : Nat => (x : Int)
attribute [local irreducible] Res.all evC evLoop evOps evOper evOp evFn evCall freeze G GO GV GP GC R
set_option maxRecDepth 100000
theorem con_idxFS {k f : Nat} {first cap : List AV} {p : Int → Bool} (xs : List Int) (hl : xs.length ≤ 1000) (hc : ∀ x ∈ xs, Con T k f (first ++ [.int .i64 x] ++ cap) (.bool (p x))) (hz : ∀ h x, fz h (first ++ [.int .i64 x] ++ cap) = .ret (first ++ [.int .i64 x] ++ cap)) :
  Con T (k + 1) 176 [intsS xs, .clo f first cap] (.int .i64 (idxB p xs 0)) := by
 refine con_intro t176 fun n hn V hV => ?_
 simp (disch := omega) only [c176, go_sem, ↓reduceIte]
 refine m_loop (fun M s => ∃ k : Nat, M = xs.length - k ∧ k ≤ xs.length ∧ At s.env [(0, intsS xs), (1, .clo f first cap), (7, .int .i64 xs.length), (8, .int .i64 k)] ∧ idxB p xs 0 = idxB p (xs.drop k) k) xs.length (by omega) ⟨0, by simp, by omega, by simp [go_sem, ↓reduceIte], rfl⟩ ?_
 rintro M e h hM ⟨k, rfl, hk, hE, hA⟩ P hP
 simp only [At_cons, At_nil] at hE
 obtain ⟨h0, h1, h7, h8, -⟩ := hE
 by_cases hlt : k < xs.length
 ·obtain ⟨y, hy⟩ := get_ex hlt
  rw [drop_cons hy, idxB] at hA
  simp (disch := omega) only [go_sem, ↓reduceIte, h0, h1, h7, h8, hlt, hy]
  refine gp_con (hc y (List.mem_of_getElem? hy)) hn (hz _ _) (or_pb _ _) ?_
  by_cases hp : p y = true
  ·simp (disch := omega) only [go_sem, ↓reduceIte, h0, h1, h7, h8, hp]
   exact hV _ _ (by rw [frz_int, hA, if_pos hp])
  ·simp (disch := omega) only [go_sem, ↓reduceIte, h0, h1, h7, h8, hp]
   exact hP (xs.length - (k + 1)) _ (by omega) ⟨k + 1, rfl, by omega, by simp only [go_sem, ↓reduceIte, h0, h1, h7], by rw [hA, if_neg hp]; rfl⟩
 ·simp (disch := omega) only [go_sem, ↓reduceIte, h0, h1, h7, h8, hlt]
  exact hV _ _ (by rw [frz_int, hA, List.drop_eq_nil_of_le (by omega)]; rfl)
theorem con_conFS {k f : Nat} {first cap : List AV} {p : Int → Bool} (xs : List Int) (hl : xs.length ≤ 1000) (hc : ∀ x ∈ xs, Con T k f (first ++ [.int .i64 x] ++ cap) (.bool (p x))) (hz : ∀ h x, fz h (first ++ [.int .i64 x] ++ cap) = .ret (first ++ [.int .i64 x] ++ cap))
  (hf : ∀ h, freeze h 8 (.clo f first cap) = .ret (.clo f first cap)) : Con T (k + 2) 110 [intsS xs, .clo f first cap] (.bool (xs.any p)) := by
 refine con_intro t110 fun n hn V hV => ?_
 simp (disch := omega) only [c110, go_sem, ↓reduceIte]
 refine gp_con (con_idxFS xs hl hc hz) hn (fz_slice _ _ _ _ (fz_cons (hf _) (fz_nil _))) (or_pi _ _ _) ?_
 simp (disch := omega) only [go_sem, ↓reduceIte, idxB_any]
 exact hV _ _ (frz_bool _ _ _)
theorem con_withinS1 (x lo hi : Int) : Con T 1 215 ([] ++ [.int .i64 x] ++ [.ptr [.int .i64 lo] 0, .ptr [.int .i64 hi] 0]) (.bool (decide (x < lo) || decide (x > hi))) := by
 refine con_intro t215 fun n hn V hV => ?_
 by_cases g1 : x < lo
 ·simp (disch := omega) only [c215, go_sem, ↓reduceIte, g1, List.cons_append]
  refine hV _ _ ?_
  simp [g1, frz_bool]
 ·simp (disch := omega) only [c215, go_sem, ↓reduceIte, g1, List.cons_append]
  refine hV _ _ ?_
  simp [g1, frz_bool]
def withinS (lo hi : Int) (xs : List Int) : Bool := !xs.any fun x => decide (x < lo) || decide (x > hi)
theorem con_withinS (lo hi : Int) (xs : List Int) (hl : xs.length ≤ 1000) : Con T 4 160 [.int .i64 lo, .int .i64 hi, intsS xs] (.bool (withinS lo hi xs)) := by
 refine con_intro t160 fun n hn V hV => ?_
 simp (disch := omega) only [c160, go_sem, ↓reduceIte]
 refine gp_con (con_conFS (p := fun x => decide (x < lo) || decide (x > hi)) xs hl (fun x _ => con_withinS1 x lo hi) (fun h x => ?_) (fun h => ?_)) hn (fz_slice _ _ _ _ (fz_cons (frz_clo (mz_nil _ _) (mz_cons (frz_optr (cs := [.int .i64 lo]) (by simp [go_sem, ↓reduceIte]) (mz_cons (frz_int _ _ _ _) (mz_nil _ _))) (mz_cons (frz_optr (cs := [.int .i64 hi]) (by simp [go_sem, ↓reduceIte]) (mz_cons (frz_int _ _ _ _) (mz_nil _ _))) (mz_nil _ _)))) (fz_nil _))) (or_pb _ _) ?_
 ·exact fz_int _ _ _ (fz_cons (frz_ptr _ _ _ _) (fz_cons (frz_ptr _ _ _ _) (fz_nil _)))
 ·exact frz_clo (mz_nil _ _) (mz_cons (frz_ptr _ _ _ _) (mz_cons (frz_ptr _ _ _ _) (mz_nil _ _)))
 simp (disch := omega) only [go_sem, ↓reduceIte]
 exact hV _ _ (frz_bool _ _ _)
section
variable {n base : Nat} {Q : EX × St → Prop} {d : Option Nat} {L : List IOper} {ks : List Kont} {e : Env} {h : Heap}
theorem cs_withinS {lo hi : Int} {xs : List Int} {x : Bool} (hn : 4 ≤ n) (hl : xs.length ≤ 1000) :
  GP (evCall T n) base Q d L ks e (evCall T n false (.fn 160) [.int .i64 lo, .int .i64 hi, .slice none (xs.map (.int .i64)) x] h) = GO (evCall T n) base Q L ks ⟨setDst e d (.bool (withinS lo hi xs)), h⟩ :=
 gp_eq (con_withinS lo hi xs hl) hn (by repeat (first | exact fz_nil _ | refine fz_slice _ _ _ _ ?_ | refine fz_int _ _ _ ?_)) rfl
theorem cs_withinS1 {lo hi a : Int} {x : Bool} (hn : 4 ≤ n) :
  GP (evCall T n) base Q d L ks e (evCall T n false (.fn 160) [.int .i64 lo, .int .i64 hi, .slice none [.int .i64 a] x] h) = GO (evCall T n) base Q L ks ⟨setDst e d (.bool (!(decide (a < lo) || decide (a > hi)))), h⟩ := by
 have := cs_withinS (base := base) (Q := Q) (d := d) (L := L) (ks := ks) (e := e) (h := h) (lo := lo) (hi := hi) (xs := [a]) (x := x) hn (by simp)
 rw [show withinS lo hi [a] = (!(decide (a < lo) || decide (a > hi))) by simp [withinS]] at this
 exact this
end
theorem gdI {S : List Int} {k : Nat} (h : k < S.length) : S[k]? = some (S.getD k 0) := by
 rw [List.getD_eq_getElem?_getD, List.getElem?_eq_getElem h]; rfl
theorem nI6_len (p : List Nat) : (nI6 p).length = p.length := by simp [nI6]
theorem nI6_get {p : List Nat} {i : Nat} (h : i < p.length) : (nI6 p)[i]? = some ((p[i] : Nat) : Int) := by
 rw [nI6, List.getElem?_map, List.getElem?_eq_getElem h]; rfl
theorem withinS_ok {p : List Nat} (hp : PermN p) : withinS 0 ((p.length : Int) - 1) (nI6 p) = true := by
 simp only [withinS, Bool.not_eq_true', List.any_eq_false, Bool.or_eq_true, decide_eq_true_eq]
 intro x hx
 obtain ⟨y, hy, rfl⟩ := List.mem_map.1 hx
 have := hp.lt y hy
 omega
theorem con_sCheck (p : List Nat) (hp : PermN p) (h1 : 1 ≤ p.length) (h10 : p.length ≤ 10) : Con T 6 119 [intsS (nI6 p), .int .i64 0] (.int .i64 0) := by
 refine con_intro t119 fun n hn V hV => ?_
 have hlen := nI6_len p
 have w1 : (!(decide ((p.length : Int) < 1) || decide ((p.length : Int) > 10))) = true := by
  rw [decide_eq_false (by omega), decide_eq_false (by omega)]; rfl
 have w2 := withinS_ok hp
 simp (disch := omega) only [c119, go_sem, ↓reduceIte, cs_withinS, cs_withinS1, hlen, w1, w2]
 refine m_loop (fun M s => ∃ k : Nat, M = p.length - k ∧ k ≤ p.length ∧ At s.env [(0, intsS (nI6 p)), (21, intsS (nI6 p)), (22, .int .i64 p.length), (23, .int .i64 k)]) p.length (by omega) ⟨0, by omega, by omega, by simp only [go_sem, ↓reduceIte]⟩ ?_
 rintro M e h hM ⟨k, rfl, hk, hE⟩ P hP
 simp only [At_cons, At_nil] at hE
 obtain ⟨f0, f21, f22, f23, -⟩ := hE
 by_cases hlt : k < p.length
 ·have hlt' : (k : Int) < (p.length : Int) := by omega
  have hg := nI6_get hlt
  have hge : decide (((p[k] : Nat) : Int) ≥ 0) = true := decide_eq_true (by omega)
  have htk : ((nI6 p).map (AV.int .i64)).take k = ((nI6 p).take k).map (.int .i64) := by rw [List.map_take]
  have hno : (((nI6 p).take k).any fun x => ((p[k] : Nat) : Int) == x) = false := by
   rw [List.any_eq_false]
   intro x hx he
   have he' : ((p[k] : Nat) : Int) = x := by simpa using he
   rw [nI6, ← List.map_take] at hx
   obtain ⟨y, hy, rfl⟩ := List.mem_map.1 hx
   obtain ⟨j, hj, hjy⟩ := List.getElem_of_mem hy
   have hjk : j < k := by
    rw [List.length_take] at hj
    omega
   rw [List.getElem_take] at hjy
   have := nodup_at.1 hp.nd (i := j) (j := k) (by omega) hlt (by omega)
   omega
  have hk0 : 0 ≤ (k : Int) ∧ (k : Int) ≤ (nI6 p).length := by omega
  have hcon : Con T 2 112 [.slice none (((nI6 p).take k).map (.int .i64)) false, .int .i64 ((p[k] : Nat) : Int)] (.bool false) := by
   have hc := con_ContainsI ((nI6 p).take k) ((p[k] : Nat) : Int) (by rw [List.length_take, nI6_len]; omega)
   rw [hno] at hc
   exact hc
  have csC : ∀ {base : Nat} {Q : EX × St → Prop} {d : Option Nat} {L : List IOper} {ks : List Kont} {e : Env} {h : Heap} {x : Bool}, GP (evCall T n) base Q d L ks e (evCall T n false (.fn 112) [.slice none (((nI6 p).take k).map (.int .i64)) x, .int .i64 ((p[k] : Nat) : Int)] h) = GO (evCall T n) base Q L ks ⟨setDst e d (.bool false), h⟩ := fun {base Q d L ks e h x} =>
   gp_eq hcon (show 2 ≤ n by omega) (fz_slice _ _ _ _ (fz_cons (frz_int _ _ _ _) (fz_nil _))) (or_pb _ _)
  simp (disch := omega) only [go_sem, ↓reduceIte, f0, f21, f22, f23, hlt', hg, hge, hk0, htk, Int.toNat_natCast, csC]
  exact hP (p.length - (k + 1)) _ (by omega) ⟨k + 1, rfl, by omega, by simp only [go_sem, ↓reduceIte, f0, f21, f22]⟩
 ·have hlt' : ¬ (k : Int) < (p.length : Int) := by omega
  simp (disch := omega) only [go_sem, ↓reduceIte, f22, f23, hlt']
  exact hV _ _ (frz_int _ _ _ _)
theorem con_sCheckJ (p : List Nat) (hp : PermN p) (h1 : 1 ≤ p.length) (h10 : p.length ≤ 10) : Con T 7 59 [intsS (nI6 p)] (.int .i64 0) := by
 refine con_intro t59 fun n hn V hV => ?_
 simp (disch := omega) only [c59, go_sem, ↓reduceIte]
 refine gp_con (con_sCheck p hp h1 h10) hn (fz_slice _ _ _ _ (fz_cons (frz_int _ _ _ _) (fz_nil _))) (or_pi _ _ _) ?_
 simp (disch := omega) only [go_sem, ↓reduceIte]
 exact hV _ _ (frz_int _ _ _ _)
end Go.Ev.YtgehhippjhealaaGreatC
set_option linter.unusedSimpArgs false
set_option linter.unusedVariables false
namespace Go.Ev.YtgehhippjhealaaGreatC
def desc : List Int → Nat → Option Nat
 | a :: b :: r, k => if a > b then some k else desc (b :: r) (k + 1)
 | _, _ => none
def swp {α : Type} : Nat → List α → List α
 | 0, a :: b :: r => b :: a :: r
 | k + 1, a :: r => a :: swp k r
 | _, l => l
def inv : List Int → Nat
 | [] => 0
 | a :: r => r.countP (fun x => decide (a > x)) + inv r
def stepsF : Nat → List Int → List Nat
 | 0, _ => []
 | f + 1, l => match desc l 0 with
  | none => []
  | some k => k :: stepsF f (swp k l)
theorem desc_some : ∀ (l : List Int) (k j : Nat), desc l k = some j → ∃ A a b B, l = A ++ a :: b :: B ∧ j = k + A.length ∧ a > b
 | [], k, j, h => by cases h
 | [a], k, j, h => by cases h
 | a :: b :: r, k, j, h => by
  unfold desc at h
  by_cases hab : a > b
  ·rw [if_pos hab] at h
   cases h
   exact ⟨[], a, b, r, rfl, rfl, hab⟩
  ·rw [if_neg hab] at h
   obtain ⟨A, x, y, B, h1, h2, h3⟩ := desc_some (b :: r) (k + 1) j h
   exact ⟨a :: A, x, y, B, by rw [h1]; rfl, by simp only [List.length_cons]; omega, h3⟩
theorem desc_none : ∀ (l : List Int) (k : Nat), desc l k = none → l.Pairwise (· ≤ ·)
 | [], k, h => List.Pairwise.nil
 | [a], k, h => by simp
 | a :: b :: r, k, h => by
  unfold desc at h
  by_cases hab : a > b
  ·rw [if_pos hab] at h; cases h
  ·rw [if_neg hab] at h
   have ih := desc_none (b :: r) (k + 1) h
   refine List.pairwise_cons.2 ⟨fun x hx => ?_, ih⟩
   rcases List.mem_cons.1 hx with rfl | hx
   ·omega
   ·have := (List.pairwise_cons.1 ih).1 x hx
    omega
theorem swp_at {α : Type} : ∀ (A : List α) (a b : α) (B : List α), swp A.length (A ++ a :: b :: B) = A ++ b :: a :: B
 | [], a, b, B => rfl
 | x :: A, a, b, B => by
  simp only [List.length_cons, List.cons_append, swp, swp_at A a b B]
theorem swp_len {α : Type} : ∀ (k : Nat) (l : List α), (swp k l).length = l.length
 | 0, [] => rfl
 | 0, [_] => rfl
 | 0, _ :: _ :: _ => rfl
 | _ + 1, [] => rfl
 | k + 1, a :: r => by simp only [swp, List.length_cons, swp_len k r]
theorem swp_map {α β : Type} (f : α → β) : ∀ (k : Nat) (l : List α), (swp k l).map f = swp k (l.map f)
 | 0, [] => rfl
 | 0, [_] => rfl
 | 0, _ :: _ :: _ => rfl
 | _ + 1, [] => rfl
 | k + 1, a :: r => by simp only [swp, List.map_cons, swp_map f k r]
theorem inv_append : ∀ (A B : List Int), inv (A ++ B) = inv A + inv B + (A.map fun a => B.countP fun x => decide (a > x)).sum
 | [], B => by simp [inv]
 | a :: A, B => by
  simp only [List.cons_append, inv, inv_append A B, List.countP_append, List.map_cons, List.sum_cons]
  omega
theorem inv_swp (A : List Int) (a b : Int) (B : List Int) (h : a > b) : inv (A ++ b :: a :: B) + 1 = inv (A ++ a :: b :: B) := by
 have hc : ∀ x : Int, (b :: a :: B).countP (fun y => decide (x > y)) = (a :: b :: B).countP (fun y => decide (x > y)) := fun x =>
  (List.Perm.swap a b B).countP_eq _
 rw [inv_append, inv_append]
 simp only [hc, inv]
 have h1 : decide (a > b) = true := decide_eq_true h
 have h2 : decide (b > a) = false := decide_eq_false (by omega)
 simp only [List.countP_cons, h1, h2, if_true, Bool.false_eq_true, if_false]
 omega
theorem inv_desc {l : List Int} {k : Nat} (h : desc l 0 = some k) : inv (swp k l) + 1 = inv l := by
 obtain ⟨A, a, b, B, rfl, hk, hab⟩ := desc_some l 0 k h
 rw [Nat.zero_add] at hk
 subst hk
 rw [swp_at]
 exact inv_swp A a b B hab
theorem desc_lt {l : List Int} {k : Nat} (h : desc l 0 = some k) : k + 1 < l.length := by
 obtain ⟨A, a, b, B, rfl, hk, hab⟩ := desc_some l 0 k h
 simp only [List.length_append, List.length_cons]
 omega
theorem stepsF_len : ∀ (f : Nat) (l : List Int), inv l ≤ f → (stepsF f l).length = inv l
 | 0, l, h => by
  simp only [stepsF, List.length_nil]
  omega
 | f + 1, l, h => by
  unfold stepsF
  cases hd : desc l 0 with
  | none =>
   have hp := desc_none l 0 hd
   have : ∀ m : List Int, m.Pairwise (· ≤ ·) → inv m = 0 := fun m hm => by
    induction m with
    | nil => rfl
    | cons a r ih =>
     rw [List.pairwise_cons] at hm
     simp only [inv, ih hm.2, Nat.add_zero]
     rw [List.countP_eq_zero]
     intro x hx
     have := hm.1 x hx
     simp
     omega
   rw [this l hp]
   rfl
  | some k =>
   have := inv_desc hd
   simp only [List.length_cons, stepsF_len f (swp k l) (by omega)]
   exact this
def steps (l : List Int) : List Nat := stepsF (inv l) l
theorem steps_len (l : List Int) : (steps l).length = inv l := stepsF_len _ l (Nat.le_refl _)
theorem steps_none {l : List Int} (h : desc l 0 = none) : steps l = [] := by
 unfold steps
 cases inv l with
 | zero => rfl
 | succ f => unfold stepsF; rw [h]
theorem steps_some {l : List Int} {k : Nat} (h : desc l 0 = some k) : steps l = k :: steps (swp k l) := by
 have := inv_desc h
 unfold steps
 rw [← this]
 have hu : ∀ f, stepsF (f + 1) l = k :: stepsF f (swp k l) := fun f => by
  rw [stepsF, h]
 exact hu _
def wrL : List Int → Nat → List (Int × Int)
 | [], _ => []
 | a :: r, i => ((a :: r).zipIdx.filter fun t => decide (a > t.1)).map (fun t => ((i : Int), ((i + t.2 : Nat) : Int))) ++ wrL r (i + 1)
theorem countP_zipIdx {α : Type} (p : α → Bool) : ∀ (l : List α) (n : Nat), ((l.zipIdx n).filter fun t => p t.1).length = l.countP p
 | [], n => rfl
 | a :: r, n => by
  rw [List.zipIdx_cons, List.filter_cons, List.countP_cons]
  by_cases h : p a = true
  ·simp only [h, if_true, List.length_cons, countP_zipIdx p r]
  ·simp only [h, if_false, countP_zipIdx p r, Bool.false_eq_true]
   rfl
theorem wrL_len : ∀ (l : List Int) (i : Nat), (wrL l i).length = inv l
 | [], i => rfl
 | a :: r, i => by
  simp only [wrL, List.length_append, List.length_map, wrL_len r, inv]
  rw [countP_zipIdx (fun x => decide (a > x)) (a :: r) 0, List.countP_cons]
  have : decide (a > a) = false := decide_eq_false (by omega)
  simp only [this]
  rfl
theorem inv_le : ∀ l : List Int, 2 * inv l ≤ l.length * (l.length - 1)
 | [] => by simp [inv]
 | a :: r => by
  have ih := inv_le r
  have hc := List.countP_le_length (p := fun x => decide (a > x)) (l := r)
  simp only [inv, List.length_cons, Nat.add_sub_cancel]
  cases hr : r.length with
  | zero =>
   obtain rfl : r = [] := List.length_eq_zero_iff.1 hr
   simp [inv]
  | succ m =>
   rw [hr] at ih hc
   simp only [Nat.add_sub_cancel] at ih
   have : (m + 1 + 1) * (m + 1) = (m + 1) * m + 2 * (m + 1) := by
    rw [← Nat.mul_comm (m + 1), ← Nat.mul_comm (m + 1) 2, ← Nat.mul_add]
   omega
end Go.Ev.YtgehhippjhealaaGreatC
set_option linter.unusedSimpArgs false
set_option linter.unusedVariables false
namespace Go.Ev.YtgehhippjhealaaGreatC
open Go Go.Proofs
def POpenS (p : List Nat) (h : Heap) (v : AV) (h' : Heap) : Prop :=
 ∃ K key ver, v = .tuple [.optr K 0 0, .int .i64 0] ∧ getH h' K = .cells 0 [.oslice key ver none 0 p.length none] ∧ getH h' key = .cells ver ((nI6 p).map (.int .i64)) ∧ h.length ≤ K ∧ h.length ≤ key ∧ K ≠ key ∧ K < h'.length ∧ key < h'.length ∧ (∀ j, j < h.length → getH h' j = getH h j) ∧ h.length ≤ h'.length
theorem tCl : T.fns 97 = some cloneFn := T_fns k97 (by decide) (by decide)
def flT (n k : Nat) : List Int := (List.range k).map (fun i : Nat => (i : Int)) ++ List.replicate (n - k) 0
theorem flT_len {n k : Nat} (h : k ≤ n) : (flT n k).length = n := by simp [flT]; omega
theorem flT_set {n k : Nat} (h : k < n) : (flT n k).set k (k : Int) = flT n (k + 1) := by
 obtain ⟨m, hm⟩ : ∃ m, n - k = m + 1 := ⟨n - k - 1, by omega⟩
 have hm2 : n - (k + 1) = m := by omega
 rw [flT, flT, hm, hm2, List.set_append_right _ _ (by simp), List.length_map, List.length_range, Nat.sub_self, List.replicate_succ, List.set_cons_zero, List.range_succ, List.map_append, List.append_assoc]
 rfl
theorem flT_end (n : Nat) : flT n n = nI6 (List.range n) := by simp [flT, nI6]
theorem flT_zero (n : Nat) : flT n 0 = List.replicate n 0 := by simp [flT]
theorem swp_set : ∀ {k : Nat} {l : List Int}, k + 1 < l.length → (l.set k (l.getD (k + 1) 0)).set (k + 1) (l.getD k 0) = swp k l
 | 0, a :: b :: r, _ => rfl
 | 0, [_], h => by simp at h
 | 0, [], h => by simp at h
 | k + 1, [], h => by simp at h
 | k + 1, a :: r, h => by
  have ih := swp_set (k := k) (l := r) (by simpa using h)
  simp only [swp, List.getD_cons_succ, List.set_cons_succ]
  rw [ih]
def dsP (now : List Int) (i : Int) : Bool := decide (now.getD (i - 1).toNat 0 > now.getD i.toNat 0)
theorem find_desc (now : List Int) : ∀ (m j : Nat), j + m + 1 = now.length → ((List.range' (j + 1) m).map fun i : Nat => (i : Int)).find? (dsP now) = (desc (now.drop j) j).map fun k : Nat => (k : Int) + 1
 | 0, j, hj => by
  have : now.drop j = [now.getD j 0] := by
   rw [List.drop_eq_getElem_cons (by omega), List.drop_eq_nil_of_le (by omega), List.getD_eq_getElem?_getD, List.getElem?_eq_getElem (by omega)]; rfl
  rw [this]
  rfl
 | m + 1, j, hj => by
  have ih := find_desc now m (j + 1) (by omega)
  have e1 : now.drop j = now.getD j 0 :: now.getD (j + 1) 0 :: now.drop (j + 2) := by
   rw [List.drop_eq_getElem_cons (by omega), List.drop_eq_getElem_cons (by omega), List.getD_eq_getElem?_getD, List.getElem?_eq_getElem (by omega), List.getD_eq_getElem?_getD, List.getElem?_eq_getElem (by omega)]; rfl
  have e2 : now.drop (j + 1) = now.getD (j + 1) 0 :: now.drop (j + 2) := by
   rw [List.drop_eq_getElem_cons (by omega), List.getD_eq_getElem?_getD, List.getElem?_eq_getElem (by omega)]; rfl
  have e3 : dsP now ((j + 1 : Nat) : Int) = decide (now.getD j 0 > now.getD (j + 1) 0) := by
   have : (((j + 1 : Nat) : Int) - 1).toNat = j := by omega
   simp only [dsP, this, Int.toNat_natCast]
  rw [List.range'_succ, List.map_cons, List.find?_cons, e3, e1, desc]
  by_cases h : now.getD j 0 > now.getD (j + 1) 0
  ·rw [decide_eq_true h, if_pos h]
   simp
  ·rw [decide_eq_false h, if_neg h, ← e2]
   simp only
   exact ih
theorem flutes_tail (n : Nat) : (nI6 (List.range (n + 1))).drop 1 = (List.range' 1 n).map fun i : Nat => (i : Int) := by
 rw [nI6, List.range_eq_range', List.range'_succ, List.map_cons, List.drop_succ_cons, List.drop_zero]
attribute [local irreducible] Res.all evC evLoop evOps evOper evOp evFn evCall freeze G GO GV GP GC R
set_option maxRecDepth 100000
theorem con_findS {k f : Nat} {first cap : List AV} {p : Int → Bool} (xs : List Int) (hl : xs.length ≤ 1000) (hc : ∀ x ∈ xs, Con T k f (first ++ [.int .i64 x] ++ cap) (.bool (p x))) (hz : ∀ h x, fz h (first ++ [.int .i64 x] ++ cap) = .ret (first ++ [.int .i64 x] ++ cap)) :
  Con T (k + 1) 55 [intsS xs, .clo f first cap] (.tuple [.int .i64 ((xs.find? p).getD 0), .bool (xs.find? p).isSome]) := by
 refine con_intro t55 fun n hn V hV => ?_
 simp (disch := omega) only [c55, go_sem, ↓reduceIte, List.length_map]
 refine m_loop (fun M s => ∃ k : Nat, M = xs.length - k ∧ k ≤ xs.length ∧ At s.env [(1, .clo f first cap), (9, intsS xs), (10, .int .i64 xs.length), (11, .int .i64 k)] ∧ xs.find? p = (xs.drop k).find? p) xs.length (by omega) ⟨0, by simp, by omega, by simp only [go_sem, ↓reduceIte], rfl⟩ ?_
 rintro M e h hM ⟨k, rfl, hk, hE, hA⟩ P hP
 simp only [At_cons, At_nil] at hE
 obtain ⟨h1, h9, h10, h11, -⟩ := hE
 by_cases hlt : k < xs.length
 ·obtain ⟨y, hy⟩ := get_ex hlt
  rw [drop_cons hy, List.find?_cons] at hA
  simp (disch := omega) only [go_sem, ↓reduceIte, h1, h9, h10, h11, hlt, hy]
  refine gp_con (hc y (List.mem_of_getElem? hy)) hn (hz _ _) (or_pb _ _) ?_
  by_cases hp : p y = true
  ·rw [hp] at hA
   simp (disch := omega) only [go_sem, ↓reduceIte, h1, h9, h10, h11, hp]
   exact hV _ _ (by rw [hA]; exact frz_two (frz_int _ _ _ _) (frz_bool _ _ _))
  ·have hp' : p y = false := by simpa using hp
   rw [hp'] at hA
   simp (disch := omega) only [go_sem, ↓reduceIte, h1, h9, h10, h11, hp', Bool.false_eq_true]
   exact hP (xs.length - (k + 1)) _ (by omega) ⟨k + 1, rfl, by omega, by simp only [go_sem, ↓reduceIte, h1, h9, h10], hA⟩
 ·simp (disch := omega) only [go_sem, ↓reduceIte, h1, h9, h10, h11, hlt]
  exact hV _ _ (by rw [hA, List.drop_eq_nil_of_le (by omega)]; exact frz_two (frz_int _ _ _ _) (frz_bool _ _ _))
theorem conF_flutes (now : List Int) (h1 : 1 ≤ now.length) (h10 : now.length ≤ 1000) : ConF T 1 56 [.agg [intsS now]] (intsS (nI6 (List.range now.length))) := by
 refine conF_intro t56 fun n hn V hV => ?_
 have hfl : (List.replicate now.length [AV.int .i64 0]).flatten = (flT now.length 0).map (.int .i64) := by
  rw [flT_zero, List.map_replicate]
  simp
 have asn : asNat (.int .i64 (now.length : Int)) = some now.length := asNat_nat _ _
 have hrm : now.length * 8 ≤ 1099511627776 := by omega
 simp (disch := omega) only [c56, go_sem, ↓reduceIte, hfl, asn, hrm]
 refine m_loop (fun M s => ∃ k : Nat, M = now.length - k ∧ k ≤ now.length ∧ At s.env [(3, .oslice 20 0 none 0 now.length (some now.length)), (10, .int .i64 now.length), (11, .int .i64 k)] ∧ getH s.heap 20 = .cells 0 ((flT now.length k).map (.int .i64))) now.length (by omega) ⟨0, by omega, by omega, by simp only [go_sem, ↓reduceIte], by simp only [go_sem, ↓reduceIte]⟩ ?_
 rintro M e h hM ⟨k, rfl, hk, hE, hH⟩ P hP
 simp only [At_cons, At_nil] at hE hH
 obtain ⟨f3, f10, f11, -⟩ := hE
 have hl := flT_len hk
 by_cases hlt : k < now.length
 ·have hlt' : (k : Int) < (now.length : Int) := by omega
  have hset := flT_set hlt
  have hks : k + 1 ≤ (flT now.length k).length := by omega
  have hmap : ((flT now.length k).map (AV.int .i64)).set k (.int .i64 k) = (flT now.length (k + 1)).map (.int .i64) := by rw [← hset, List.map_set]
  simp (disch := omega) only [go_sem, ↓reduceIte, f3, f10, f11, hlt', hlt, hH, hks, hmap]
  exact hP (now.length - (k + 1)) _ (by omega) ⟨k + 1, rfl, by omega, by simp only [go_sem, ↓reduceIte, f3, f10], by simp only [go_sem, ↓reduceIte]⟩
 ·obtain rfl : k = now.length := by omega
  have hlt' : ¬ (now.length : Int) < (now.length : Int) := by omega
  rw [flT_end] at hH
  simp (disch := omega) only [go_sem, ↓reduceIte, f3, f10, f11, hlt']
  exact hV _ _ (frz_own hH (by simp [nI6])) (fresh_own hH)
theorem con_ds (now : List Int) {i : Nat} (h10 : now.length ≤ 1000) (h1 : 1 ≤ i) (h2 : i < now.length) : Con T 1 57 ([] ++ [.int .i64 (i : Nat)] ++ [.ptr [.ptr [intsS now] 0] 0]) (.bool (dsP now (i : Nat))) := by
 refine con_intro t57 fun n hn V hV => ?_
 obtain ⟨j, rfl⟩ : ∃ j, i = j + 1 := ⟨i - 1, by omega⟩
 have e1 : ((j + 1 : Nat) : Int) - 1 = (j : Int) := by omega
 have e1' : (j : Int) + 1 - 1 = (j : Int) := by omega
 have g1 : now[j]? = some (now.getD j 0) := gdI (by omega)
 have g2 : now[j + 1]? = some (now.getD (j + 1) 0) := gdI (by omega)
 simp (disch := omega) only [c57, go_sem, ↓reduceIte, e1, e1', g1, g2]
 refine hV _ _ ?_
 rw [frz_bool, dsP]
 have : (((j + 1 : Nat) : Int) - 1).toNat = j := by omega
 rw [this, Int.toNat_natCast]
section
variable {n base : Nat} {Q : EX × St → Prop} {d : Option Nat} {L : List IOper} {ks : List Kont} {e : Env} {h : Heap}
theorem gp_cloneS {l : List Int} {ex : Bool} (h1 : 1 ≤ l.length) (h10 : l.length ≤ 1000)
  (hq : ∀ key ver h', getH h' key = .cells ver (l.map (.int .i64)) → h.length ≤ key → key < h'.length → (∀ j, j < h.length → getH h' j = getH h j) → h.length ≤ h'.length → GO (evCall T (n + 1)) base Q L ks ⟨setDst e d (.oslice key ver none 0 l.length none), h'⟩) :
  GP (evCall T (n + 1)) base Q d L ks e (evCall T (n + 1) true (.fn 97) [.slice none (l.map (.int .i64)) ex] h) := by
 refine gp_of ?_
 rw [raw_enter tCl]
 match l, h1, h10 with
 | a :: r, _, h10 =>
  simp (disch := omega) only [cloneFn, go_sem, ↓reduceIte]
  refine gp_append (m := (a :: r).length) (l2 := a :: r) (kk := h.length + 8) (by simp only [List.length_append, List.length_replicate]) (own_nil (h.length + 8) _ .i64) (by simp only [List.length_append, List.length_replicate]; omega) (cs_ints _ (a :: r) .i64 ex) rfl (by simp) (by simp only [List.length_nil, List.length_cons] at *; omega) fun x h' hO hk hlen _ _ => ?_
  rcases hO with ⟨hnil, _⟩ | ⟨key, ver, hkey, rfl, hH⟩
  ·simp at hnil
  rw [List.nil_append] at hH ⊢
  simp (disch := omega) only [go_sem, ↓reduceIte, pack, mapR]
  have hlt := getH_lt hH (by simp)
  refine hq key ver h' hH (by omega) hlt (fun j hj => ?_) ?_
  ·rw [hk j (by omega), getH_append_none]
  ·simp only [List.length_append, List.length_replicate] at hlen; omega
theorem gp_exch {K key ver : Nat} {now : List Int} {k : Nat} (hk : k + 1 < now.length) (hK : getH h K = .cells 0 [.oslice key ver none 0 now.length none]) (hkey : getH h key = .cells ver (now.map (.int .i64)))
  (hq : GO (evCall T (n + 1)) base Q L ks ⟨setDst e d (.tuple []), setH (setH (h ++ List.replicate 36 .none) key (.cells ver ((now.set k (now.getD (k + 1) 0)).map (.int .i64)))) key (.cells ver ((swp k now).map (.int .i64)))⟩) :
  GP (evCall T (n + 1)) base Q d L ks e (evCall T (n + 1) true (.fn 58) [.optr K 0 0, .int .i64 (k : Nat), .int .i64 ((k : Int) + 1)] h) := by
 refine gp_of ?_
 rw [raw_enter t58]
 have hK2 : getH (h ++ List.replicate 36 .none) K = .cells 0 [.oslice key ver none 0 now.length none] := by rw [getH_append_none, hK]
 have hkey2 : getH (h ++ List.replicate 36 .none) key = .cells ver (now.map (.int .i64)) := by rw [getH_append_none, hkey]
 have hne : ¬ (key = K) := fun he => by
  subst he
  rw [hK] at hkey
  simp at hkey
  cases hn : now with
  | nil => rw [hn] at hk; simp at hk
  | cons a r => rw [hn] at hkey; simp at hkey
 have g1 : now[k]? = some (now.getD k 0) := gdI (by omega)
 have g2 : now[k + 1]? = some (now.getD (k + 1) 0) := gdI (by omega)
 have l1 : k < now.length := by omega
 have l2 : k + 1 ≤ now.length := by omega
 have l3 : k + 1 + 1 ≤ now.length := by omega
 have s1 : (now.map (AV.int .i64)).set k (.int .i64 (now.getD (k + 1) 0)) = (now.set k (now.getD (k + 1) 0)).map (.int .i64) := by rw [List.map_set]
 have s2 : ((now.set k (now.getD (k + 1) 0)).map (AV.int .i64)).set (k + 1) (.int .i64 (now.getD k 0)) = (swp k now).map (.int .i64) := by rw [← swp_set hk]; simp only [List.map_set]
 have l4 : k + 1 + 1 ≤ (now.set k (now.getD (k + 1) 0)).length := by rw [List.length_set]; omega
 simp (disch := omega) only [c58, go_sem, ↓reduceIte, hK2, hkey2, hne, g1, g2, l1, hk, l2, l3, l4, s1, s2, pack, mapR]
 exact hq
end
end Go.Ev.YtgehhippjhealaaGreatC
set_option linter.unusedSimpArgs false
set_option linter.unusedVariables false
namespace Go.Ev.YtgehhippjhealaaGreatC
open Go Go.Proofs
def badJ (l : List Int) (x : Int) : Bool := decide (x < 0) || decide (x ≥ l.length)
def dqJ (l : List Int) (i k : Nat) : Bool := (l.getD k 0 == l.getD i 0) && decide (l.getD i 0 ≥ 0)
def dupJ (l : List Int) (n : Nat) : Bool := (List.range n).any fun i => (List.range i).any (dqJ l i)
def chkJ (l : List Int) : Int := if l.length < 1 ∨ 10 < l.length then 6 else if l.any (badJ l) then 3 else if dupJ l l.length then 11 else 0
theorem dupJ_succ (l : List Int) (i : Nat) : dupJ l (i + 1) = (dupJ l i || (List.range i).any (dqJ l i)) := by
 rw [dupJ, List.range_succ, List.any_append, List.any_cons, List.any_nil, Bool.or_false]; rfl
theorem any_range_succ (p : Nat → Bool) (k : Nat) : (List.range (k + 1)).any p = ((List.range k).any p || p k) := by
 rw [List.range_succ, List.any_append, List.any_cons, List.any_nil, Bool.or_false]
theorem chkJ_ok {p : List Nat} (hp : PermN p) (h1 : 1 ≤ p.length) (h10 : p.length ≤ 10) : chkJ (nI6 p) = 0 := by
 have hl := nI6_len p
 unfold chkJ
 rw [if_neg (by omega), if_neg ?_, if_neg ?_]
 ·intro h
  obtain ⟨i, hi, h2⟩ := List.any_eq_true.1 h
  obtain ⟨k, hk, h3⟩ := List.any_eq_true.1 h2
  have hi' := List.mem_range.1 hi
  have hk' := List.mem_range.1 hk
  simp only [dqJ, Bool.and_eq_true, beq_iff_eq] at h3
  rw [hl] at hi'
  rw [List.getD_eq_getElem?_getD, List.getD_eq_getElem?_getD, nI6_get hi', nI6_get (by omega)] at h3
  have := nodup_at.1 hp.nd (i := k) (j := i) (by omega) hi' (by have := h3.1; simp at this; omega)
  omega
 ·intro h
  obtain ⟨x, hx, hb⟩ := List.any_eq_true.1 h
  obtain ⟨y, hy, rfl⟩ := List.mem_map.1 hx
  have := hp.lt y hy
  simp only [badJ, Bool.or_eq_true, decide_eq_true_eq, hl] at hb
  omega
attribute [local irreducible] Res.all evC evLoop evOps evOper evOp evFn evCall freeze G GO GV GP GC R
set_option maxRecDepth 100000
theorem con_rCheck (l : List Int) : Con T 1 33 [intsS l, .int .i64 0] (.int .i64 (chkJ l)) := by
 refine con_intro t33 fun n hn V hV => ?_
 replace hV : ∀ c h, c = chkJ l → V (.int .i64 c, h) := fun c h e => hV _ _ (by rw [e]; exact frz_int _ _ _ _)
 by_cases g1 : l.length < 1
 ·have d1 : decide ((l.length : Int) < 1) = true := decide_eq_true (by omega)
  simp (disch := omega) only [c33, go_sem, ↓reduceIte, d1]
  exact hV _ _ (by rw [chkJ, if_pos (.inl g1)])
 have d1 : decide ((l.length : Int) < 1) = false := decide_eq_false (by omega)
 by_cases g2 : 10 < l.length
 ·have d2 : decide ((l.length : Int) > 10) = true := decide_eq_true (by omega)
  simp (disch := omega) only [c33, go_sem, ↓reduceIte, d1, d2]
  exact hV _ _ (by rw [chkJ, if_pos (.inr g2)])
 have d2 : decide ((l.length : Int) > 10) = false := decide_eq_false (by omega)
 have hch : chkJ l = if l.any (badJ l) then 3 else if dupJ l l.length then 11 else 0 := by rw [chkJ, if_neg (by omega)]
 simp (disch := omega) only [c33, go_sem, ↓reduceIte, d1, d2]
 refine m_loop (fun M s => ∃ k : Nat, M = l.length - k ∧ k ≤ l.length ∧ At s.env [(0, intsS l), (1, .int .i64 0), (5, .int .i64 k)] ∧ (l.take k).any (badJ l) = false) l.length (by omega) ⟨0, by omega, by omega, by simp only [go_sem, ↓reduceIte], by simp⟩ ?_
 rintro M e h hM ⟨k, rfl, hk, hE, hA⟩ P hP
 simp only [At_cons, At_nil] at hE
 obtain ⟨f0, f1, f5, -⟩ := hE
 by_cases hlt : k < l.length
 ·have hlt' : (k : Int) < (l.length : Int) := by omega
  have hg : l[k]? = some l[k] := List.getElem?_eq_getElem hlt
  have htk : (l.take (k + 1)).any (badJ l) = ((l.take k).any (badJ l) || badJ l l[k]) := by
   rw [List.take_add_one, hg, List.any_append]
   simp only [Option.toList_some, List.any_cons, List.any_nil, Bool.or_false]
  have hbad : badJ l l[k] = true → V (.int .i64 3, h) := fun hb => hV _ _ (by
   rw [hch, if_pos]
   exact List.any_eq_true.2 ⟨_, List.getElem_mem hlt, hb⟩)
  by_cases x1 : l[k] < 0
  ·have e1 : decide (l[k] < 0) = true := decide_eq_true x1
   simp (disch := omega) only [go_sem, ↓reduceIte, f0, f1, f5, hlt', hg, e1]
   exact hV _ _ (by rw [hch, if_pos]; exact List.any_eq_true.2 ⟨_, List.getElem_mem hlt, by rw [badJ, e1]; rfl⟩)
  ·have e1 : decide (l[k] < 0) = false := decide_eq_false x1
   by_cases x2 : l[k] ≥ l.length
   ·have e2 : decide (l[k] ≥ (l.length : Int)) = true := decide_eq_true x2
    simp (disch := omega) only [go_sem, ↓reduceIte, f0, f1, f5, hlt', hg, e1, e2]
    exact hV _ _ (by rw [hch, if_pos]; exact List.any_eq_true.2 ⟨_, List.getElem_mem hlt, by rw [badJ, e1, e2]; rfl⟩)
   ·have e2 : decide (l[k] ≥ (l.length : Int)) = false := decide_eq_false x2
    simp (disch := omega) only [go_sem, ↓reduceIte, f0, f1, f5, hlt', hg, e1, e2]
    exact hP (l.length - (k + 1)) _ (by omega) ⟨k + 1, rfl, by omega, by simp only [go_sem, ↓reduceIte, f0, f1], by rw [htk, hA, badJ, e1, e2]; rfl⟩
 ·obtain rfl : k = l.length := by omega
  rw [List.take_of_length_le (Nat.le_refl _)] at hA
  rw [hA] at hch
  simp only [Bool.false_eq_true, if_false] at hch
  have hlt' : ¬ (l.length : Int) < (l.length : Int) := by omega
  simp (disch := omega) only [go_sem, ↓reduceIte, f0, f5, hlt']
  refine m_loop (fun M s => ∃ i : Nat, M = l.length - i ∧ i ≤ l.length ∧ At s.env [(0, intsS l), (6, .int .i64 i)] ∧ dupJ l i = false) l.length (by omega) ⟨0, by omega, by omega, by simp only [go_sem, ↓reduceIte, f0], rfl⟩ ?_
  clear f0 f1 f5
  rintro M e h hM ⟨i, rfl, hi, hE, hD⟩ P2 hP2
  simp only [At_cons, At_nil] at hE
  obtain ⟨f0, f6, -⟩ := hE
  by_cases hit : i < l.length
  ·have hit' : (i : Int) < (l.length : Int) := by omega
   have hgi : l[i]? = some (l.getD i 0) := by rw [List.getD_eq_getElem?_getD, List.getElem?_eq_getElem hit]; rfl
   simp (disch := omega) only [go_sem, ↓reduceIte, f0, f6, hit']
   refine m_loop (fun M s => ∃ k : Nat, M = i - k ∧ k ≤ i ∧ At s.env [(0, intsS l), (6, .int .i64 i), (7, .int .i64 k)] ∧ (List.range k).any (dqJ l i) = false) i (by omega) ⟨0, by omega, by omega, by simp only [go_sem, ↓reduceIte, f0, f6], rfl⟩ ?_
   clear f0 f6
   rintro M e h hM ⟨k, rfl, hk, hE, hK⟩ P3 hP3
   simp only [At_cons, At_nil] at hE
   obtain ⟨f0, f6, f7, -⟩ := hE
   by_cases hki : k < i
   ·have hki' : (k : Int) < (i : Int) := by omega
    have hgk : l[k]? = some (l.getD k 0) := gdI (by omega)
    by_cases y1 : l.getD k 0 = l.getD i 0
    ·have e1 : (l.getD k 0 == l.getD i 0) = true := beq_iff_eq.2 y1
     by_cases y2 : l.getD i 0 ≥ 0
     ·have e2 : decide (l.getD i 0 ≥ 0) = true := decide_eq_true y2
      simp (disch := omega) only [go_sem, ↓reduceIte, f0, f6, f7, hki', hgi, hgk, e1, e2]
      exact hV _ _ (by
       rw [hch, if_pos]
       exact List.any_eq_true.2 ⟨i, List.mem_range.2 hit, List.any_eq_true.2 ⟨k, List.mem_range.2 hki, by rw [dqJ, e1, e2]; rfl⟩⟩)
     ·have e2 : decide (l.getD i 0 ≥ 0) = false := decide_eq_false y2
      simp (disch := omega) only [go_sem, ↓reduceIte, f0, f6, f7, hki', hgi, hgk, e1, e2]
      exact hP3 (i - (k + 1)) _ (by omega) ⟨k + 1, rfl, by omega, by simp only [go_sem, ↓reduceIte, f0, f6], by rw [any_range_succ, hK, dqJ, e1, e2]; rfl⟩
    ·have e1 : (l.getD k 0 == l.getD i 0) = false := beq_eq_false_iff_ne.2 y1
     simp (disch := omega) only [go_sem, ↓reduceIte, f0, f6, f7, hki', hgi, hgk, e1]
     exact hP3 (i - (k + 1)) _ (by omega) ⟨k + 1, rfl, by omega, by simp only [go_sem, ↓reduceIte, f0, f6], by rw [any_range_succ, hK, dqJ, e1]; rfl⟩
   ·obtain rfl : k = i := by omega
    have hkk : ¬ (k : Int) < (k : Int) := by omega
    simp (disch := omega) only [go_sem, ↓reduceIte, f6, f7, hkk]
    exact hP2 (l.length - (k + 1)) _ (by omega) ⟨k + 1, rfl, by omega, by simp only [go_sem, ↓reduceIte, f0], by rw [dupJ_succ, hD, hK]; rfl⟩
  ·obtain rfl : i = l.length := by omega
   have hii : ¬ (l.length : Int) < (l.length : Int) := by omega
   simp (disch := omega) only [go_sem, ↓reduceIte, f0, f6, hii]
   exact hV _ _ (by rw [hch, hD]; rfl)
theorem con_rCheckJ (l : List Int) : Con T 2 7 [intsS l] (.int .i64 (chkJ l)) := by
 refine con_intro t7 fun n hn V hV => ?_
 simp (disch := omega) only [c7, go_sem, ↓reduceIte]
 refine gp_con (con_rCheck l) hn (fz_slice _ _ _ _ (fz_cons (frz_int _ _ _ _) (fz_nil _))) (or_pi _ _ _) ?_
 simp (disch := omega) only [go_sem, ↓reduceIte]
 exact hV _ _ (frz_int _ _ _ _)
end Go.Ev.YtgehhippjhealaaGreatC
set_option linter.unusedSimpArgs false
set_option linter.unusedVariables false
namespace Go.Ev.YtgehhippjhealaaGreatC
open Go Go.Proofs
theorem steps_bd (l : List Int) (h : l.length ≤ 10) : inv l ≤ 45 := by
 have h1 := inv_le l
 have h2 : l.length * (l.length - 1) ≤ 10 * 9 := Nat.mul_le_mul h (by omega)
 omega
attribute [local irreducible] Res.all evC evLoop evOps evOper evOp evFn evCall freeze G GO GV GP GC R
set_option maxRecDepth 100000
theorem g_sOpen (p : List Nat) (hp : PermN p) (h1 : 1 ≤ p.length) (h10 : p.length ≤ 10) : ∀ n, 9 ≤ n → ∀ (h : Heap) (V : AV × Heap → Prop), (∀ v h', POpenS p h v h' → V (v, h')) →
  G (evCall T n) h.length (Fin c36.results V) c36.body [] ⟨[intsS (nI6 p)], h ++ List.replicate c36.ntmps .none⟩ := by
 intro n hn h V hV
 obtain ⟨n, rfl⟩ : ∃ m, n = m + 2 := ⟨n - 2, by omega⟩
 have e0 : ((0 : Int) != 0) = false := rfl
 have hl := nI6_len p
 simp (disch := omega) only [c36, go_sem, ↓reduceIte]
 refine gp_con (con_sCheckJ p hp h1 h10) (show 7 ≤ n + 2 by omega) (fz_slice _ _ _ _ (fz_nil _)) (or_pi _ _ _) ?_
 simp (disch := omega) only [go_sem, ↓reduceIte, e0]
 refine gp_of ?_
 rw [raw_enter t92]
 simp (disch := omega) only [c92, go_sem, ↓reduceIte]
 refine gp_cloneS (l := nI6 p) (by omega) (by omega) fun key ver h' hH hk1 hk2 kp ln => ?_
 simp only [List.length_append, List.length_replicate] at hk1 kp ln
 have hb : ∀ j, h.length ≤ j → getH (h ++ List.replicate 12 .none ++ List.replicate 8 .none) j = .none := fun j hj => by
  by_cases hlt : j < h.length + 20
  ·rw [getH_append_none]
   obtain ⟨i, rfl⟩ : ∃ i, j = h.length + i := ⟨j - h.length, by omega⟩
   exact getH_newT _ _ _
  ·exact getH_ge _ _ (by simp; omega)
 have hK : getH h' (h.length + 12 + 7) = .none := by rw [kp _ (by omega)]; exact hb _ (by omega)
 have hne : ¬ (h.length + 12 + 7 = key) := by omega
 simp (disch := omega) only [go_sem, ↓reduceIte, pack, mapR, List.length_append, List.length_replicate, hK]
 rw [hl]
 refine hV _ _ ⟨h.length + 19, key, ver, rfl, getH_setH_self _ _ _, ?_, by omega, by omega, by omega, ?_, ?_, fun j hj => ?_, ?_⟩
 ·rw [getH_setH_ne _ _ _ _ (by omega)]; exact hH
 ·simp only [length_setH]; omega
 ·simp only [length_setH]; omega
 ·rw [getH_setH_ne _ _ _ _ (by omega), kp j (by omega), getH_append_none, getH_append_none]
 ·simp only [length_setH]; omega
theorem conF_Steps (p : List Nat) (hp : PermN p) (h1 : 1 ≤ p.length) (h10 : p.length ≤ 10) : ConF T 12 20 [intsS (nI6 p)] (.tuple [intsS (nI6 (steps (nI6 p))), .int .i64 0]) := by
 refine conF_intro t20 fun n hn V hV => ?_
 obtain ⟨n, rfl⟩ : ∃ m, n = m + 2 := ⟨n - 2, by omega⟩
 have e0 : ((0 : Int) != 0) = false := rfl
 have hl := nI6_len p
 have h45 := steps_bd (nI6 p) (by omega)
 simp (disch := omega) only [c20, go_sem, ↓reduceIte]
 refine gp_raw (raw_intro (k := 9) t36 (g_sOpen p hp h1 h10)) (show 10 ≤ n + 2 by omega) fun v h hv => ?_
 obtain ⟨K, key, ver, rfl, gK, gkey, b1, b2, b3, b4, b5, kp, ln⟩ := hv
 simp only [List.length_replicate] at b1 b2 kp ln
 have g4 : getH h 4 = .none := by rw [kp 4 (by omega), getH_replicate]
 have nK4 : ¬ (K = 4) := by omega
 have n4K : ¬ (4 = K) := by omega
 have nk4 : ¬ (key = 4) := by omega
 have n4k : ¬ (4 = key) := by omega
 simp (disch := omega) only [go_sem, ↓reduceIte, e0, g4]
 refine m_loop (fun M st => ∃ (now : List Int) (x : AV) (dn : List Nat), M = inv now ∧ now.length = p.length ∧ At st.env [(4, .optr 4 0 0), (6, x)] ∧ getH st.heap 4 = .cells 0 [.optr K 0 0] ∧ getH st.heap K = .cells 0 [.oslice key ver none 0 p.length none] ∧ getH st.heap key = .cells ver (now.map (.int .i64)) ∧ Own 46 st.heap x .i64 (nI6 dn) ∧ (∀ j, keyOf x = some j → j ≠ K ∧ j ≠ key) ∧ K < st.heap.length ∧ key < st.heap.length ∧ steps (nI6 p) = dn ++ steps now ∧ dn.length + inv now = inv (nI6 p)) (inv (nI6 p)) (by omega)
  ⟨nI6 p, .slice none [] true, [], rfl, hl, by simp only [go_sem, ↓reduceIte], by simp only [go_sem, ↓reduceIte], by simp only [go_sem, ↓reduceIte, n4K]; exact gK, by simp only [go_sem, ↓reduceIte, n4k]; exact gkey, own_nil .., (fun j hj => by cases hj), by simp only [length_setH]; omega, by simp only [length_setH]; omega, rfl, by simp⟩ ?_
 rintro M e h2 hM ⟨now, x, dn, rfl, hnl, hE, g4, gK, gkey, hO, hKx, lK, lk, hst, hcn⟩ P hP
 simp only [At_cons, At_nil] at hE g4 gK gkey hO lK lk
 obtain ⟨f4, f6, -⟩ := hE
 have hfz : freeze h2 8 (.agg [.oslice key ver none 0 p.length none]) = .ret (.agg [intsS now]) := frz_agg (mz_cons (frz_own gkey (by omega)) (mz_nil _ _))
 simp (disch := omega) only [go_sem, ↓reduceIte, f4, g4, gK]
 refine gpF_con (conF_flutes now (by omega) (by omega)) (show 1 ≤ n + 2 by omega) (fz_cons hfz (fz_nil _)) ?_
 obtain ⟨m, hm⟩ : ∃ m, now.length = m + 1 := ⟨now.length - 1, by omega⟩
 have hdrop : ((nI6 (List.range now.length)).map (AV.int .i64)).drop 1 = (((List.range' 1 m).map fun i : Nat => (i : Int))).map (.int .i64) := by
  rw [hm, ← List.map_drop, flutes_tail]
 have h1n : (1 : Int).toNat = 1 := rfl
 have hrl : (0 : Int) ≤ 1 ∧ (1 : Int) ≤ (List.range now.length).length := by rw [List.length_range]; omega
 have hrl2 : (1 : Int) ≤ (now.length : Int) := by omega
 have hr01 : (0 : Int) ≤ 1 := by omega
 have hnl2 : (nI6 (List.range now.length)).length = now.length := by rw [nI6_len, List.length_range]
 simp (disch := omega) only [go_sem, ↓reduceIte, f4, hnl2, hrl2, hr01, h1n, hdrop]
 have hfd := find_desc now m 0 (by omega)
 rw [List.drop_zero, Nat.zero_add] at hfd
 refine gp_con (con_findS (k := 1) (f := 57) (first := []) (cap := [.ptr [.ptr [intsS now] 0] 0]) (p := dsP now) ((List.range' 1 m).map fun i : Nat => (i : Int)) (by rw [List.length_map, List.length_range']; omega) (fun x hx => ?_) (fun hh x => ?_)) (show 2 ≤ n + 2 by omega)
  (fz_slice _ _ _ _ (fz_cons (frz_clo (mz_nil _ _) (mz_cons (frz_optr g4 (mz_cons (frz_optr gK (mz_cons (frz_own gkey (by omega)) (mz_nil _ _))) (mz_nil _ _))) (mz_nil _ _))) (fz_nil _))) (by exact Bool.or_true _) ?_
 ·obtain ⟨i, hi, rfl⟩ := List.mem_map.1 hx
  have := List.mem_range'_1.1 hi
  exact con_ds now (by omega) (by omega) (by omega)
 ·exact fz_cons (frz_int _ _ _ _) (fz_cons (frz_ptr _ _ _ _) (fz_nil _))
 rw [hfd]
 have hlA := hO.lenA
 rw [nI6_len] at hlA
 cases hd : desc now 0 with
 | none =>
  rw [steps_none hd, List.append_nil] at hst
  simp (disch := omega) only [go_sem, ↓reduceIte, Option.map_none, Option.isSome_none, f6]
  refine hV _ _ ?_ (fresh_two (fresh_Own hO) (fresh_int _ _ _ _))
  rw [hst]
  exact frz_two (frz_Own hO) (frz_int _ _ _ _)
 | some k =>
  have hk2 := desc_lt hd
  have hiv := inv_desc hd
  rw [steps_some hd] at hst
  have e1 : (k : Int) + 1 - 1 = (k : Int) := by omega
  simp (disch := omega) only [go_sem, ↓reduceIte, Option.map_some, Option.isSome_some, Option.getD_some, f4, g4, e1]
  rw [← hnl] at gK
  refine gp_exch (now := now) (k := k) hk2 gK gkey ?_
  rw [hnl] at gK
  have gK3 : ∀ o1 o2, getH (setH (setH (h2 ++ List.replicate 36 .none) key o1) key o2) K = .cells 0 [.oslice key ver none 0 p.length none] := fun o1 o2 => by
   rw [getH_setH_ne _ _ _ _ (fun he => b3 he.symm), getH_setH_ne _ _ _ _ (fun he => b3 he.symm), getH_append_none]; exact gK
  have hO3 : ∀ o1 o2, Own 46 (setH (setH (h2 ++ List.replicate 36 .none) key o1) key o2) x .i64 (nI6 dn) := fun o1 o2 => hO.other fun j hj => by
   obtain ⟨a1, a2⟩ := hKx j hj
   rw [getH_setH_ne _ _ _ _ (fun he => a2 he.symm), getH_setH_ne _ _ _ _ (fun he => a2 he.symm), getH_append_none]
  simp (disch := omega) only [go_sem, ↓reduceIte, f6, hlA]
  rw [slA_full hO (k1 := .i64) (k2 := .i64) (by simp only [go_sem, ↓reduceIte, nI6_len]) (by simp only [go_sem, ↓reduceIte, nI6_len])]
  simp (disch := omega) only [go_sem, ↓reduceIte, e1]
  refine gp_append_capped (l2 := [(k : Int)]) (m := 1) (by simp only [length_setH, List.length_append, List.length_replicate]; omega) (hO3 _ _) (by simp only [length_setH, List.length_append, List.length_replicate]; omega) rfl rfl (by omega) (by rw [nI6_len]; omega) fun x' h' hO' hF hL hKy => ?_
  simp only [length_setH, List.length_append, List.length_replicate] at hL hF
  simp (disch := omega) only [go_sem, ↓reduceIte]
  have hinv2 : dn.length + 1 + inv (swp k now) = inv (nI6 p) := by omega
  refine hP (inv (swp k now)) _ (by omega) ⟨swp k now, x', dn ++ [k], rfl, by rw [swp_len]; exact hnl, by simp only [go_sem, ↓reduceIte, f4], ?_, ?_, ?_, ?_, fun j hj => ?_, (show K < h'.length by omega), (show key < h'.length by omega), by rw [List.append_assoc]; exact hst, by rw [List.length_append]; exact hinv2⟩
  ·rw [hF 4 (by omega), getH_setH_ne _ _ _ _ (by omega), getH_setH_ne _ _ _ _ (by omega), getH_append_none]; exact g4
  ·rw [hF K (by omega)]; exact gK3 _ _
  ·rw [hF key (by omega), getH_setH_self]
  ·have : nI6 (dn ++ [k]) = nI6 dn ++ [(k : Int)] := by simp [nI6]
   rw [this]; exact hO'
  ·rw [hKy] at hj
   have := Option.some.inj hj
   simp only [length_setH, List.length_append, List.length_replicate] at this
   omega
end Go.Ev.YtgehhippjhealaaGreatC
set_option linter.unusedSimpArgs false
set_option linter.unusedVariables false
namespace Go.Ev.YtgehhippjhealaaGreatC
open Go Go.Proofs
def wrC (ps : List (Int × Int)) : List AV := ps.flatMap fun q => [.int .i64 q.1, .int .i64 q.2]
def wrV (ps : List (Int × Int)) : AV := .slice (some 2) (grouped (some 2) ps.length (wrC ps)) false
theorem wrC_app (a : List (Int × Int)) (x y : Int) : wrC (a ++ [(x, y)]) = wrC a ++ [.int .i64 x, .int .i64 y] := by simp [wrC]
theorem wrC_int (ps : List (Int × Int)) : ∀ c ∈ wrC ps, ∃ v, c = .int .i64 v := fun c hc => by
 obtain ⟨q, _, hq⟩ := List.mem_flatMap.1 hc
 simp only [List.mem_cons, List.not_mem_nil, or_false] at hq
 rcases hq with rfl | rfl
 ·exact ⟨_, rfl⟩
 ·exact ⟨_, rfl⟩
def rowW (a : Int) (i : Nat) (m : List Int) (j : Nat) : List (Int × Int) := ((m.zipIdx j).filter fun t => decide (a > t.1)).map fun t => ((i : Int), ((i + t.2 : Nat) : Int))
theorem rowW_cons (a b : Int) (i j : Nat) (m : List Int) : rowW a i (b :: m) j = (if a > b then [((i : Int), ((i + j : Nat) : Int))] else []) ++ rowW a i m (j + 1) := by
 rw [rowW, List.zipIdx_cons, List.filter_cons]
 by_cases h : a > b
 ·simp only [h, decide_true, if_true, List.map_cons]; rfl
 ·simp only [h, decide_false, if_false, Bool.false_eq_true]; rfl
theorem wrL_cons (a : Int) (r : List Int) (i : Nat) : wrL (a :: r) i = rowW a i (a :: r) 0 ++ wrL r (i + 1) := rfl
theorem frz_wr {lo : Nat} {h : Heap} {x : AV} {ps : List (Int × Int)} (ho : OwnG lo h x (some 2) ps.length (wrC ps)) : freeze h 7 x = .ret (wrV ps) :=
 frz_OwnG ho (mz_all fun c hc => by
  obtain ⟨v, rfl⟩ := wrC_int ps c hc
  exact frz_int _ _ _ _)
theorem fresh_wr {lo : Nat} {h : Heap} {x : AV} {ps : List (Int × Int)} {n : Nat} (ho : OwnG lo h x (some 2) ps.length (wrC ps)) : freshB h (n + 2) x = true := by
 rcases ho with ⟨_, _, rfl⟩ | ⟨key, ver, _, rfl, hH, _⟩
 ·rfl
 ·rw [freshB]
  simp only [hH]
  rw [List.all_eq_true]
  intro c hc
  obtain ⟨v, rfl⟩ := wrC_int ps c hc
  rfl
attribute [local irreducible] Res.all evC evLoop evOps evOper evOp evFn evCall freeze G GO GV GP GC R
set_option maxRecDepth 100000
theorem conF_Wrong (p : List Nat) (hp : PermN p) (h1 : 1 ≤ p.length) (h10 : p.length ≤ 10) : ConF T 9 21 [intsS (nI6 p)] (.tuple [wrV (wrL (nI6 p) 0), .int .i64 0]) := by
 refine conF_intro t21 fun n hn V hV => ?_
 have e0 : ((0 : Int) != 0) = false := rfl
 have hl := nI6_len p
 have h45 : (wrL (nI6 p) 0).length ≤ 45 := by rw [wrL_len]; exact steps_bd _ (by omega)
 simp (disch := omega) only [c21, go_sem, ↓reduceIte]
 refine gp_con (con_sCheckJ p hp h1 h10) (show 7 ≤ n by omega) (fz_slice _ _ _ _ (fz_nil _)) (or_pi _ _ _) ?_
 generalize hN : nI6 p = N at *
 simp (disch := omega) only [go_sem, ↓reduceIte, e0, hl]
 refine m_loop (fun M st => ∃ (k : Nat) (x : AV) (ps : List (Int × Int)), M = p.length - k ∧ k ≤ p.length ∧ At st.env [(0, intsS N), (5, x), (15, intsS N), (16, .int .i64 p.length), (17, .int .i64 k)] ∧ OwnG 45 st.heap x (some 2) ps.length (wrC ps) ∧ wrL N 0 = ps ++ wrL (N.drop k) k ∧ 45 ≤ st.heap.length) p.length (by omega)
  ⟨0, .slice (some 2) [] true, [], by omega, by omega, by simp only [go_sem, ↓reduceIte], ownG_nil .., rfl, by simp only [go_sem, ↓reduceIte]⟩ ?_
 rintro M e h hM ⟨k, x, ps, rfl, hk, hE, hO, hW, hln⟩ P hP
 simp only [At_cons, At_nil] at hE hO hln
 obtain ⟨f0, f5, f15, f16, f17, -⟩ := hE
 by_cases hlt : k < p.length
 ·have hlt' : (k : Int) < (p.length : Int) := by omega
  have hg : N[k]? = some (N.getD k 0) := gdI (by omega)
  have hdr : N.drop k = N.getD k 0 :: N.drop (k + 1) := by
   rw [List.drop_eq_getElem_cons (by omega), List.getD_eq_getElem?_getD, List.getElem?_eq_getElem (by omega)]; rfl
  have hdm : ((N.map (AV.int .i64)).drop k) = (N.drop k).map (.int .i64) := by rw [List.map_drop]
  have hdl : (N.drop k).length = p.length - k := by rw [List.length_drop, hl]
  have hkl : (0 : Int) ≤ (k : Int) ∧ (k : Int) ≤ (N.length : Int) := by omega
  have hk0 : (0 : Int) ≤ (k : Int) := by omega
  have hkN : (k : Int) ≤ (p.length : Int) := by omega
  rw [hdr, wrL_cons, ← hdr] at hW
  simp (disch := omega) only [go_sem, ↓reduceIte, f0, f15, f16, f17, hlt', hg, hl, hk0, hkN, Int.toNat_natCast, hdm, hdl]
  refine m_loop (fun M st => ∃ (j : Nat) (x : AV) (ps : List (Int × Int)), M = p.length - k - j ∧ j ≤ p.length - k ∧ At st.env [(0, intsS N), (5, x), (6, .int .i64 k), (7, .int .i64 (N.getD k 0)), (15, intsS N), (16, .int .i64 p.length), (17, .int .i64 k), (24, intsS (N.drop k)), (25, .int .i64 ((p.length - k : Nat) : Int)), (26, .int .i64 j)] ∧ OwnG 45 st.heap x (some 2) ps.length (wrC ps) ∧ wrL N 0 = ps ++ (rowW (N.getD k 0) k ((N.drop k).drop j) j ++ wrL (N.drop (k + 1)) (k + 1)) ∧ 45 ≤ st.heap.length) (p.length - k) (by omega)
   ⟨0, x, ps, by omega, by omega, by simp only [go_sem, ↓reduceIte, f0, f5, f15, f16, f17], hO, by rw [List.drop_zero]; exact hW, hln⟩ ?_
  clear f0 f5 f15 f16 f17 hO hW hln
  rintro M e h hM ⟨j, x, ps, rfl, hj, hE, hO, hW, hln⟩ P2 hP2
  simp only [At_cons, At_nil] at hE hO hln
  obtain ⟨f0, f5, f6, f7, f15, f16, f17, f24, f25, f26, -⟩ := hE
  by_cases hjl : j < p.length - k
  ·have hjl' : (j : Int) < ((p.length - k : Nat) : Int) := by omega
   have hgj : (N.drop k)[j]? = some ((N.drop k).getD j 0) := gdI (by omega)
   have hdj : (N.drop k).drop j = (N.drop k).getD j 0 :: (N.drop k).drop (j + 1) := by
    rw [List.drop_eq_getElem_cons (by omega), List.getD_eq_getElem?_getD, List.getElem?_eq_getElem (by omega)]; rfl
   rw [hdj, rowW_cons] at hW
   generalize (N.drop k).getD j 0 = b at *
   generalize hA : N.getD k 0 = a at *
   by_cases hab : a > b
   ·have hab' : decide (a > b) = true := decide_eq_true hab
    rw [if_pos hab] at hW
    have hps : ps.length ≤ 45 := by
     have := congrArg List.length hW
     simp only [List.length_append] at this
     omega
    simp (disch := omega) only [go_sem, ↓reduceIte, f5, f6, f7, f24, f25, f26, hjl', hgj, hab']
    refine gp_appendG (lo := 45) (m := 1) (c2 := [.int .i64 (k : Int), .int .i64 ((k : Int) + (j : Int))]) rfl hO (by simp [gsize]) hln rfl rfl (by omega) (by omega) fun x' h' hO' hF hL _ _ => ?_
    simp (disch := omega) only [go_sem, ↓reduceIte, f26]
    refine hP2 (p.length - k - (j + 1)) _ (by omega) ⟨j + 1, x', ps ++ [((k : Int), ((k + j : Nat) : Int))], rfl, by omega, by simp only [go_sem, ↓reduceIte, f0, f6, f7, f15, f16, f17, f24, f25], ?_, by rw [hW]; simp only [List.append_assoc], (show 45 ≤ h'.length by omega)⟩
    rw [List.length_append, wrC_app]
    exact hO'
   ·have hab' : decide (a > b) = false := decide_eq_false hab
    rw [if_neg hab, List.nil_append] at hW
    simp (disch := omega) only [go_sem, ↓reduceIte, f5, f6, f7, f24, f25, f26, hjl', hgj, hab']
    exact hP2 (p.length - k - (j + 1)) _ (by omega) ⟨j + 1, x, ps, rfl, by omega, by simp only [go_sem, ↓reduceIte, f0, f5, f6, f7, f15, f16, f17, f24, f25], hO, hW, hln⟩
  ·obtain rfl : j = p.length - k := by omega
   have hjl' : ¬ ((p.length - k : Nat) : Int) < ((p.length - k : Nat) : Int) := by omega
   have hdn : (N.drop k).drop (p.length - k) = [] := List.drop_eq_nil_of_le (by omega)
   rw [hdn] at hW
   simp (disch := omega) only [go_sem, ↓reduceIte, f17, f25, f26, hjl']
   exact hP (p.length - (k + 1)) _ (by omega) ⟨k + 1, x, ps, rfl, by omega, by simp only [go_sem, ↓reduceIte, f0, f5, f15, f16], hO, hW, hln⟩
 ·obtain rfl : k = p.length := by omega
  have hlt' : ¬ (p.length : Int) < (p.length : Int) := by omega
  have hdn : N.drop p.length = [] := List.drop_eq_nil_of_le (by omega)
  rw [hdn, wrL, List.append_nil] at hW
  simp (disch := omega) only [go_sem, ↓reduceIte, f5, f16, f17, hlt']
  refine hV _ _ ?_ (fresh_two (fresh_wr hO) (fresh_int _ _ _ _))
  rw [hW]
  exact frz_two (frz_wr hO) (frz_int _ _ _ _)
end Go.Ev.YtgehhippjhealaaGreatC
