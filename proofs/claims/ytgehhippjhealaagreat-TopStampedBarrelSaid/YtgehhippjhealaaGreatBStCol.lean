/- The code of functions that are walked, compiled for the evaluator, as text. The code of functions that are walked, compiled for the evaluator, as text. The kept orders are as many as can be; what more work, earlier Dues and fewer orders change. Delays, step by step; what an exchange, more work, earlier Dues, one more order, later Dues and longer days change. Steps of neighbours bring a sequence of orders to that by Due, and no step makes the delay greater. Equality of lists, a copy, the right order, and a list given by swaps. A circle of joints, and the least number of a list. All circles, as they are yielded, and gathered. All circles gathered: Circles of layer 6. No condition but those that stand in each. -/
import Derived.Test.YtgehhippjhealaaGreatBTopW
import Derived.Test.YtgehhippjhealaaGreatBL5Prog2
import Derived.Test.YtgehhippjhealaaGreatBStWrong
import Derived.Test.YtgehhippjhealaaGreatBEvKer3
set_option linter.unusedSimpArgs false
set_option linter.unusedVariables false
set_option maxRecDepth 100000
namespace Go.Ev.YtgehhippjhealaaGreatC
open Go.Proofs
def c9:IFunc:=⟨17,[.tmp 2,.tmp 3],.seq (.ops [dO 2 (.mv (.const (.slice none [] true))),dO 3 (.mv (cI 0))]) (.seq (.ops [dO 7 (.mv (tM 0)),dO 8 (.callF false 36 [tM 7]),dO 6 (.mv (tM 8)),dO 9 (.extract (tM 6) 0),dO 10 (.extract (tM 6) 1),dO 4 (.mv (tM 9)),dO 5 (.mv (tM 10))]) (.seq (.seq (.ops [dO 11 (.mv (tM 5)),dO 12 (.bin .neq (tM 11) (cI 0))]) (.cond (tM 12) (.seq (.ops [dO 13 (.mv (tM 5)),dO 2 (.mv (.const (.slice none [] true))),dO 3 (.mv (tM 13))]) .ret) .skip)) (.seq (.ops [dO 14 (.mv (tM 4)),dO 15 (.callF false 38 [tM 14]),dO 16 (.callF false 37 [tM 15]),dO 2 (.mv (tM 16)),dO 3 (.mv (cI 0))]) .ret)))⟩
theorem k9:(Bt Tryz.prog byr).fns 9=some c9:=by kernel_rfl
theorem t9:T.fns 9=some c9:=Bx k9 (by decide) (by decide)
def c37:IFunc:=⟨5,[.tmp 2],.seq (.ops [dO 2 (.mv (.const (.slice none [] true)))]) (.seq (.ops [dO 3 (.mv (tM 0)),dO 4 (.callF true 93 [.const (.slice none [] true),tM 3]),dO 2 (.mv (tM 4))]) .ret)⟩
theorem k37:(Bt Tryz.prog byr).fns 37=some c37:=by kernel_rfl
theorem t37:T.fns 37=some c37:=Bx k37 (by decide) (by decide)
def c38:IFunc:=⟨4,[.tmp 2],.seq (.ops [dO 1 (.box (tM 0)),dO 2 (.mv (.const .nilfn))]) (.seq (.ops [dO 3 (.mkFunc 94 [] [tM 1]),dO 2 (.mv (tM 3))]) .ret)⟩
theorem k38:(Bt Tryz.prog byr).fns 38=some c38:=by kernel_rfl
theorem t38:T.fns 38=some c38:=Bx k38 (by decide) (by decide)
def c93:IFunc:=⟨13,[.tmp 4],.seq (.ops [dO 2 (.box (tM 0)),dO 4 (.mv (.const (.slice none [] true)))]) (.seq (.seq (.ops [dO 6 (.mv (tM 1))]) (.block 0 (.rangeF (tM 6) [7] (.ops [dO 5 (.mv (tM 7))]) (.block 1 (.ops [dO 8 (.load none (tM 2)),dO 9 (.mv (tM 5)),dO 10 (.buildSliceO none [.slice none [] true] [(0,(1,tM 9))]),dO 11 (.append none 24 (tM 8) (tM 10)),eO (.store 1 (tM 2) (tM 11))]))))) (.seq (.ops [dO 12 (.load none (tM 2)),dO 4 (.mv (tM 12))]) .ret))⟩
theorem k93:(Bt Tryz.prog byr).fns 93=some c93:=by kernel_rfl
theorem t93:T.fns 93=some c93:=Bx k93 (by decide) (by decide)
def c94:IFunc:=⟨32,[],.seq (.ops [dO 6 (.load none (tM 1)),dO 7 (.nilCheck (tM 6)),dO 8 (.fieldAddr 0 (tM 7)),dO 9 (.load (some 1) (tM 8)),dO 10 (.mkFunc 95 [tM 9] []),dO 3 (.mv (tM 10))]) (.seq .skip (.seq (.ops [dO 11 (.load none (tM 1)),dO 12 (.nilCheck (tM 11)),dO 13 (.fieldAddr 0 (tM 12)),dO 14 (.fieldAddr 0 (tM 13)),dO 15 (.load none (tM 14)),dO 16 (.len (tM 15)),dO 17 (.mv (cI 0))]) (.block 0 (.loop (.seq (.ops [dO 18 (.bin .lss (tM 17) (tM 16))]) (.seq (.cond (tM 18) .skip (.exit 0)) (.seq (.block 1 (.seq (.ops [dO 19 (.mv (tM 17)),dO 4 (.mv (tM 19))]) (.seq (.ops [dO 20 (.mv (tM 3)),dO 21 (.mv (tM 4)),dO 22 (.call true (tM 20) [tM 21]),dO 5 (.mv (tM 22))]) (.seq (.seq (.ops [dO 23 (.mv (tM 5)),dO 24 (.callF false 96 [tM 23]),dO 25 (.mv (tM 4)),dO 26 (.bin .lss (tM 24) (tM 25))]) (.cond (tM 26) (.exit 1) .skip)) (.seq (.ops [dO 27 (.mv (tM 0)),dO 28 (.mv (tM 5)),dO 29 (.call true (tM 27) [tM 28]),dO 30 (.un .not (tM 29))]) (.cond (tM 30) .ret .skip)))))) (.ops [dO 31 (.bin .add (tM 17) (cI 1)),dO 17 (.mv (tM 31))]))))))))⟩
theorem k94:(Bt Tryz.prog byr).fns 94=some c94:=by kernel_rfl
theorem t94:T.fns 94=some c94:=Bx k94 (by decide) (by decide)
def c95:IFunc:=⟨27,[.tmp 4],.seq (.ops [dO 2 (.box (tM 0)),dO 4 (.mv (.const (.slice none [] true)))]) (.seq (.ops [dO 7 (.mv (tM 1)),dO 8 (.buildSlice none [.int .i64 0] [(0,(1,tM 7))]),dO 5 (.mv (tM 8))]) (.seq (.seq (.ops [dO 9 (.fieldAddr 0 (tM 2)),dO 10 (.load none (tM 9)),dO 11 (.mv (tM 1)),dO 12 (.indexAddr 1 (tM 10) (tM 11)),dO 13 (.load none (tM 12)),dO 6 (.mv (tM 13))]) (.block 0 (.loop (.seq (.seq (.ops [dO 14 (.mv (tM 6)),dO 15 (.mv (tM 1)),dO 16 (.bin .neq (tM 14) (tM 15))]) (.cond (tM 16) .skip (.exit 0))) (.seq (.block 1 (.ops [dO 22 (.mv (tM 5)),dO 23 (.mv (tM 6)),dO 24 (.buildSlice none [.int .i64 0] [(0,(1,tM 23))]),dO 25 (.append none 8 (tM 22) (tM 24)),dO 5 (.mv (tM 25))])) (.ops [dO 17 (.fieldAddr 0 (tM 2)),dO 18 (.load none (tM 17)),dO 19 (.mv (tM 6)),dO 20 (.indexAddr 1 (tM 18) (tM 19)),dO 21 (.load none (tM 20)),dO 6 (.mv (tM 21))])))))) (.seq (.ops [dO 26 (.mv (tM 5)),dO 4 (.mv (tM 26))]) .ret)))⟩
theorem k95:(Bt Tryz.prog byr).fns 95=some c95:=by kernel_rfl
theorem t95:T.fns 95=some c95:=Bx k95 (by decide) (by decide)
def c96:IFunc:=⟨25,[.tmp 2],.seq (.ops [dO 2 (.mv (cI 0))]) (.seq (.seq (.ops [dO 5 (.mv (tM 0)),dO 6 (.len (tM 5)),dO 7 (.bin .lss (tM 6) (cI 1))]) (.cond (tM 7) (.ops [⟨some 8,.bad,none⟩,⟨none,.bad,none⟩]) .skip)) (.seq (.ops [dO 9 (.mv (tM 0)),dO 10 (.indexAddr 1 (tM 9) (cI 0)),dO 11 (.load none (tM 10)),dO 3 (.mv (tM 11))]) (.seq (.seq (.ops [dO 4 (.mv (cI 1))]) (.block 0 (.loop (.seq (.seq (.ops [dO 12 (.mv (tM 4)),dO 13 (.mv (tM 0)),dO 14 (.len (tM 13)),dO 15 (.bin .lss (tM 12) (tM 14))]) (.cond (tM 15) .skip (.exit 0))) (.seq (.block 1 (.ops [dO 18 (.mv (tM 3)),dO 19 (.mv (tM 0)),dO 20 (.mv (tM 4)),dO 21 (.indexAddr 1 (tM 19) (tM 20)),dO 22 (.load none (tM 21)),dO 23 (.min [tM 18,tM 22]),dO 3 (.mv (tM 23))])) (.ops [dO 16 (.mv (tM 4)),dO 17 (.bin .add (tM 16) (cI 1)),dO 4 (.mv (tM 17))])))))) (.seq (.ops [dO 24 (.mv (tM 3)),dO 2 (.mv (tM 24))]) .ret))))⟩
theorem k96:(Bt Tryz.prog byr).fns 96=some c96:=by kernel_rfl
theorem t96:T.fns 96=some c96:=Bx k96 (by decide) (by decide)
def c28:IFunc:=⟨24,[.tmp 2],.seq (.ops [dO 2 (.mv (.const (.slice none [] true)))]) (.seq (.ops [dO 3 (.mv (.const (.slice none [] true)))]) (.seq (.seq (.ops [dO 4 (.mv (cI 0))]) (.block 0 (.loop (.seq (.seq (.ops [dO 6 (.mv (tM 4)),dO 7 (.mv (tM 0)),dO 8 (.len (tM 7)),dO 9 (.bin .lss (tM 6) (tM 8))]) (.cond (tM 9) .skip (.exit 0))) (.seq (.block 1 (.seq (.ops [dO 12 (.mv (tM 0)),dO 13 (.mv (tM 4)),dO 14 (.callF false 69 [tM 12,tM 13]),dO 5 (.mv (tM 14))]) (.seq (.ops [dO 15 (.mv (tM 5)),dO 16 (.callF false 70 [tM 15]),dO 17 (.mv (tM 4)),dO 18 (.bin .eql (tM 16) (tM 17))]) (.cond (tM 18) (.ops [dO 19 (.mv (tM 3)),dO 20 (.mv (tM 5)),dO 21 (.buildSliceO none [.slice none [] true] [(0,(1,tM 20))]),dO 22 (.append none 24 (tM 19) (tM 21)),dO 3 (.mv (tM 22))]) .skip)))) (.ops [dO 10 (.mv (tM 4)),dO 11 (.bin .add (tM 10) (cI 1)),dO 4 (.mv (tM 11))])))))) (.seq (.ops [dO 23 (.mv (tM 3)),dO 2 (.mv (tM 23))]) .ret)))⟩
theorem k28:(Bt Tryz.prog byr).fns 28=some c28:=by kernel_rfl
theorem t28:T.fns 28=some c28:=Bx k28 (by decide) (by decide)
def c69:IFunc:=⟨25,[.tmp 4],.seq (.ops [dO 4 (.mv (.const (.slice none [] true)))]) (.seq (.ops [dO 7 (.mv (tM 1)),dO 8 (.buildSlice none [.int .i64 0] [(0,(1,tM 7))]),dO 5 (.mv (tM 8))]) (.seq (.seq (.ops [dO 9 (.mv (tM 0)),dO 10 (.mv (tM 1)),dO 11 (.indexAddr 1 (tM 9) (tM 10)),dO 12 (.load none (tM 11)),dO 6 (.mv (tM 12))]) (.block 0 (.loop (.seq (.seq (.ops [dO 13 (.mv (tM 6)),dO 14 (.mv (tM 1)),dO 15 (.bin .neq (tM 13) (tM 14))]) (.cond (tM 15) .skip (.exit 0))) (.seq (.block 1 (.ops [dO 20 (.mv (tM 5)),dO 21 (.mv (tM 6)),dO 22 (.buildSlice none [.int .i64 0] [(0,(1,tM 21))]),dO 23 (.append none 8 (tM 20) (tM 22)),dO 5 (.mv (tM 23))])) (.ops [dO 16 (.mv (tM 0)),dO 17 (.mv (tM 6)),dO 18 (.indexAddr 1 (tM 16) (tM 17)),dO 19 (.load none (tM 18)),dO 6 (.mv (tM 19))])))))) (.seq (.ops [dO 24 (.mv (tM 5)),dO 4 (.mv (tM 24))]) .ret)))⟩
theorem k69:(Bt Tryz.prog byr).fns 69=some c69:=by kernel_rfl
theorem t69:T.fns 69=some c69:=Bx k69 (by decide) (by decide)
def c70:IFunc:=⟨21,[.tmp 2],.seq (.ops [dO 2 (.mv (cI 0))]) (.seq (.ops [dO 5 (.mv (tM 0)),dO 6 (.indexAddr 1 (tM 5) (cI 0)),dO 7 (.load none (tM 6)),dO 3 (.mv (tM 7))]) (.seq (.seq (.ops [dO 4 (.mv (cI 0))]) (.block 0 (.loop (.seq (.seq (.ops [dO 8 (.mv (tM 4)),dO 9 (.mv (tM 0)),dO 10 (.len (tM 9)),dO 11 (.bin .lss (tM 8) (tM 10))]) (.cond (tM 11) .skip (.exit 0))) (.seq (.block 1 (.ops [dO 14 (.mv (tM 3)),dO 15 (.mv (tM 0)),dO 16 (.mv (tM 4)),dO 17 (.indexAddr 1 (tM 15) (tM 16)),dO 18 (.load none (tM 17)),dO 19 (.min [tM 14,tM 18]),dO 3 (.mv (tM 19))])) (.ops [dO 12 (.mv (tM 4)),dO 13 (.bin .add (tM 12) (cI 1)),dO 4 (.mv (tM 13))])))))) (.seq (.ops [dO 20 (.mv (tM 3)),dO 2 (.mv (tM 20))]) .ret)))⟩
theorem k70:(Bt Tryz.prog byr).fns 70=some c70:=by kernel_rfl
theorem t70:T.fns 70=some c70:=Bx k70 (by decide) (by decide)
def c29:IFunc:=⟨16,[.tmp 2,.tmp 3],.seq (.ops [dO 2 (.mv (cI 0)),dO 3 (.mv (cI 0))]) (.seq (.ops [dO 7 (.mv (tM 0)),dO 8 (.callF false 36 [tM 7]),dO 6 (.mv (tM 8)),dO 9 (.extract (tM 6) 0),dO 10 (.extract (tM 6) 1),dO 4 (.mv (tM 9)),dO 5 (.mv (tM 10))]) (.seq (.seq (.ops [dO 11 (.mv (tM 5)),dO 12 (.bin .neq (tM 11) (cI 0))]) (.cond (tM 12) (.seq (.ops [dO 13 (.mv (tM 5)),dO 2 (.mv (cI 0)),dO 3 (.mv (tM 13))]) .ret) .skip)) (.seq (.ops [dO 14 (.mv (tM 4)),dO 15 (.callF false 71 [tM 14]),dO 2 (.mv (tM 15)),dO 3 (.mv (cI 0))]) .ret)))⟩
theorem k29:(Bt Tryz.prog byr).fns 29=some c29:=by kernel_rfl
theorem t29:T.fns 29=some c29:=Bx k29 (by decide) (by decide)
def c71:IFunc:=⟨26,[.tmp 2],.seq (.ops [dO 2 (.mv (cI 0))]) (.seq (.ops [dO 3 (.alloc [.int .i64 0]),eO (.store 1 (tM 3) (cI 1))]) (.seq (.seq (.ops [dO 7 (.mv (tM 0)),dO 8 (.callF false 38 [tM 7])]) (.block 0 (.rangeF (tM 8) [9] (.ops [dO 4 (.mv (tM 9))]) (.block 1 (.seq (.ops [dO 10 (.load none (tM 3)),dO 11 (.mv (tM 4)),dO 12 (.len (tM 11)),dO 5 (.mv (tM 10)),dO 6 (.mv (tM 12))]) (.seq (.block 2 (.loop (.seq (.seq (.ops [dO 13 (.mv (tM 6)),dO 14 (.bin .gtr (tM 13) (cI 0))]) (.cond (tM 14) .skip (.exit 2))) (.block 3 (.ops [dO 15 (.mv (tM 6)),dO 16 (.mv (tM 5)),dO 17 (.mv (tM 6)),dO 18 (.bin .rem (tM 16) (tM 17)),dO 5 (.mv (tM 15)),dO 6 (.mv (tM 18))]))))) (.ops [dO 19 (.load none (tM 3)),dO 20 (.mv (tM 5)),dO 21 (.bin .quo (tM 19) (tM 20)),dO 22 (.mv (tM 4)),dO 23 (.len (tM 22)),dO 24 (.bin .mul (tM 21) (tM 23)),eO (.store 1 (tM 3) (tM 24))]))))))) (.seq (.ops [dO 25 (.load none (tM 3)),dO 2 (.mv (tM 25))]) .ret)))⟩
theorem k71:(Bt Tryz.prog byr).fns 71=some c71:=by kernel_rfl
theorem t71:T.fns 71=some c71:=Bx k71 (by decide) (by decide)
def c30:IFunc:=⟨57,[.tmp 4,.tmp 5],.seq (.ops [dO 3 (.box (tM 1)),dO 4 (.mv (.const (.slice none [] true))),dO 5 (.mv (cI 0))]) (.seq (.ops [dO 13 (.mv (tM 0)),dO 14 (.callF false 36 [tM 13]),dO 12 (.mv (tM 14)),dO 15 (.extract (tM 12) 0),dO 16 (.extract (tM 12) 1),dO 6 (.mv (tM 15)),dO 7 (.mv (tM 16))]) (.seq (.block 0 (.seq (.ops [dO 18 (.mv (tM 7)),dO 19 (.bin .neq (tM 18) (cI 0)),dO 17 (.mv (tM 19))]) (.cond (tM 17) (.seq (.ops [dO 20 (.mv (tM 7)),dO 4 (.mv (.const (.slice none [] true))),dO 5 (.mv (tM 20))]) .ret) (.seq (.ops [dO 22 (.load none (tM 3)),dO 23 (.bin .lss (tM 22) (cI 0)),dO 24 (.mv (tM 23)),gO 25 (.load none (tM 3)) 24 false,gO 26 (.bin .gtr (tM 25) (cI 1099511627776)) 24 false,dO 27 (.pick (tM 24) (cB true) (tM 26)),dO 21 (.mv (tM 27))]) (.cond (tM 21) (.seq (.ops [dO 4 (.mv (.const (.slice none [] true))),dO 5 (.mv (cI 2))]) .ret) .skip))))) (.seq (.ops [dO 28 (.mv (tM 6)),dO 29 (.nilCheck (tM 28)),dO 30 (.fieldAddr 0 (tM 29)),dO 31 (.load (some 1) (tM 30)),dO 32 (.callF true 56 [tM 31]),dO 8 (.alloc [.slice none [] true]),eO (.store 1 (tM 8) (tM 32))]) (.seq (.seq (.ops [dO 33 (.mv (tM 6)),dO 34 (.callF false 38 [tM 33])]) (.block 1 (.rangeF (tM 34) [35] (.ops [dO 9 (.mv (tM 35))]) (.block 2 (.seq (.ops [dO 36 (.mv (tM 9)),dO 37 (.len (tM 36)),dO 38 (.mv (cI 0))]) (.block 3 (.loop (.seq (.ops [dO 39 (.bin .lss (tM 38) (tM 37))]) (.seq (.cond (tM 39) .skip (.exit 3)) (.seq (.block 4 (.seq (.ops [dO 40 (.mv (tM 38)),dO 41 (.indexAddr 1 (tM 36) (tM 38)),dO 42 (.load none (tM 41)),dO 10 (.mv (tM 40)),dO 11 (.mv (tM 42))]) (.ops [dO 43 (.load none (tM 8)),dO 44 (.mv (tM 11)),dO 45 (.mv (tM 9)),dO 46 (.mv (tM 10)),dO 47 (.load none (tM 3)),dO 48 (.bin .add (tM 46) (tM 47)),dO 49 (.mv (tM 9)),dO 50 (.len (tM 49)),dO 51 (.bin .rem (tM 48) (tM 50)),dO 52 (.indexAddr 1 (tM 45) (tM 51)),dO 53 (.load none (tM 52)),dO 54 (.indexAddr 1 (tM 43) (tM 44)),eO (.store 1 (tM 54) (tM 53))]))) (.ops [dO 55 (.bin .add (tM 38) (cI 1)),dO 38 (.mv (tM 55))]))))))))))) (.seq (.ops [dO 56 (.load none (tM 8)),dO 4 (.mv (tM 56)),dO 5 (.mv (cI 0))]) .ret)))))⟩
theorem k30:(Bt Tryz.prog byr).fns 30=some c30:=by kernel_rfl
theorem t30:T.fns 30=some c30:=Bx k30 (by decide) (by decide)
def c31:IFunc:=⟨47,[.tmp 4,.tmp 5],.seq (.ops [dO 4 (.mv (.const (.slice none [] true))),dO 5 (.mv (cI 0))]) (.seq (.ops [dO 12 (.mv (tM 0)),dO 13 (.mv (tM 1)),dO 14 (.buildSlice none [.int .i64 0] [(0,(1,tM 13))]),dO 15 (.callF false 66 [tM 12,tM 14]),dO 11 (.mv (tM 15)),dO 16 (.extract (tM 11) 0),dO 17 (.extract (tM 11) 1),dO 6 (.mv (tM 16)),dO 7 (.mv (tM 17))]) (.seq (.seq (.ops [dO 18 (.mv (tM 7)),dO 19 (.bin .neq (tM 18) (cI 0))]) (.cond (tM 19) (.seq (.ops [dO 20 (.mv (tM 7)),dO 4 (.mv (.const (.slice none [] true))),dO 5 (.mv (tM 20))]) .ret) .skip)) (.seq (.ops [dO 21 (.mv (tM 6)),dO 22 (.nilCheck (tM 21)),dO 23 (.fieldAddr 0 (tM 22)),dO 24 (.load (some 1) (tM 23)),dO 25 (.mv (tM 1)),dO 26 (.callF false 72 [tM 24,tM 25]),dO 8 (.alloc [.int .i64 0,.int .i64 0,.int .i64 0,.int .i64 0,.int .i64 0]),eO (.store 5 (tM 8) (tM 26))]) (.seq (.ops [dO 9 (.mv (.const (.slice none [] true)))]) (.seq (.seq (.ops [dO 27 (.mv (tM 0)),dO 28 (.len (tM 27)),dO 29 (.mv (cI 0))]) (.block 0 (.loop (.seq (.ops [dO 30 (.bin .lss (tM 29) (tM 28))]) (.seq (.cond (tM 30) .skip (.exit 0)) (.seq (.block 1 (.seq (.ops [dO 31 (.mv (tM 29)),dO 10 (.mv (tM 31))]) (.seq (.ops [dO 32 (.mv (tM 10)),dO 33 (.indexAddrA 5 1 (tM 8) (tM 32)),dO 34 (.load none (tM 33)),dO 35 (.bin .gtr (tM 34) (cI 0))]) (.cond (tM 35) (.ops [dO 36 (.mv (tM 9)),dO 37 (.mv (tM 9)),dO 38 (.len (tM 37)),dO 39 (.mv (tM 9)),dO 40 (.len (tM 39)),dO 41 (.slice none (tM 36) none (some (tM 38)) (some (tM 40))),dO 42 (.mv (tM 10)),dO 43 (.buildSlice none [.int .i64 0] [(0,(1,tM 42))]),dO 44 (.append none 8 (tM 41) (tM 43)),dO 9 (.mv (tM 44))]) .skip)))) (.ops [dO 45 (.bin .add (tM 29) (cI 1)),dO 29 (.mv (tM 45))]))))))) (.seq (.ops [dO 46 (.mv (tM 9)),dO 4 (.mv (tM 46)),dO 5 (.mv (cI 0))]) .ret))))))⟩
theorem k31:(Bt Tryz.prog byr).fns 31=some c31:=by kernel_rfl
theorem t31:T.fns 31=some c31:=Bx k31 (by decide) (by decide)
def c72:IFunc:=⟨31,[.cell 4 (some 5)],.seq (.ops [dO 2 (.box (tM 0)),dO 4 (.alloc [.int .i64 0,.int .i64 0,.int .i64 0,.int .i64 0,.int .i64 0])]) (.seq (.ops [dO 5 (.alloc [.int .i64 0,.int .i64 0,.int .i64 0,.int .i64 0,.int .i64 0])]) (.seq (.seq (.ops [dO 8 (.fieldAddr 0 (tM 2)),dO 9 (.load none (tM 8)),dO 10 (.len (tM 9)),dO 11 (.mv (cI 0))]) (.block 0 (.loop (.seq (.ops [dO 12 (.bin .lss (tM 11) (tM 10))]) (.seq (.cond (tM 12) .skip (.exit 0)) (.seq (.block 1 (.seq (.ops [dO 13 (.mv (tM 11)),dO 14 (.indexAddr 2 (tM 9) (tM 11)),dO 15 (.load (some 2) (tM 14)),dO 7 (.alloc [.int .i64 0,.int .i64 0]),dO 6 (.mv (tM 13)),eO (.store 2 (tM 7) (tM 15))]) (.seq (.ops [dO 16 (.mv (tM 1)),dO 17 (.fieldAddr 1 (tM 7)),dO 18 (.load none (tM 17)),dO 19 (.bin .sub (tM 16) (tM 18)),dO 20 (.fieldAddr 0 (tM 7)),dO 21 (.load none (tM 20)),dO 22 (.bin .rem (tM 19) (tM 21)),dO 23 (.bin .eql (tM 22) (cI 0))]) (.cond (tM 23) (.ops [dO 24 (.mv (tM 6)),dO 25 (.indexAddrA 5 1 (tM 5) (tM 24)),dO 26 (.load none (tM 25)),dO 27 (.bin .add (tM 26) (cI 1)),dO 28 (.indexAddrA 5 1 (tM 5) (tM 24)),eO (.store 1 (tM 28) (tM 27))]) .skip)))) (.ops [dO 29 (.bin .add (tM 11) (cI 1)),dO 11 (.mv (tM 29))]))))))) (.seq (.ops [dO 30 (.load (some 5) (tM 5)),eO (.store 5 (tM 4) (tM 30))]) .ret)))⟩
theorem k72:(Bt Tryz.prog byr).fns 72=some c72:=by kernel_rfl
theorem t72:T.fns 72=some c72:=Bx k72 (by decide) (by decide)
def c6:IFunc:=⟨174,[.tmp 6],.seq (.ops [dO 6 (.mv (cB false))]) (.seq (.seq (.ops [dO 25 (.mv (tM 0)),dO 26 (.len (tM 25)),dO 27 (.bin .gtr (tM 26) (cI 20)),dO 28 (.mv (tM 27)),gO 29 (.mv (tM 0)) 28 false,gO 30 (.callF false 7 [tM 29]) 28 false,gO 31 (.bin .neq (tM 30) (cI 0)) 28 false,dO 32 (.pick (tM 28) (cB true) (tM 31)),dO 33 (.mv (tM 32)),gO 34 (.mv (tM 0)) 33 false,gO 35 (.callF false 28 [tM 34]) 33 false,gO 36 (.len (tM 35)) 33 false,gO 37 (.bin .gtr (tM 36) (cI 5)) 33 false,dO 38 (.pick (tM 33) (cB true) (tM 37))]) (.cond (tM 38) (.seq (.ops [dO 39 (.callF false 27 []),dO 6 (.mv (tM 39))]) .ret) .skip)) (.seq (.ops [dO 41 (.mv (tM 0)),dO 42 (.callF false 9 [tM 41]),dO 40 (.mv (tM 42)),dO 43 (.extract (tM 40) 0),dO 44 (.extract (tM 40) 1),dO 7 (.mv (tM 43)),dO 8 (.mv (tM 44))]) (.seq (.seq (.ops [dO 45 (.mv (tM 8)),dO 46 (.bin .neq (tM 45) (cI 0)),dO 47 (.mv (tM 46)),gO 48 (.mv (tM 7)) 47 false,gO 49 (.len (tM 48)) 47 false,gO 50 (.mv (tM 0)) 47 false,gO 51 (.callF false 28 [tM 50]) 47 false,gO 52 (.len (tM 51)) 47 false,gO 53 (.bin .neq (tM 49) (tM 52)) 47 false,dO 54 (.pick (tM 47) (cB true) (tM 53))]) (.cond (tM 54) (.seq (.ops [dO 6 (.mv (cB false))]) .ret) .skip)) (.seq (.ops [dO 55 (.mv (tM 1)),dO 56 (.conv .i64 (tM 55)),dO 57 (.mv (tM 2)),dO 58 (.conv .i64 (tM 57)),dO 9 (.mv (tM 56)),dO 10 (.mv (tM 58))]) (.seq (.ops [dO 11 (.mv (.const (.slice (some 2) [] true)))]) (.seq (.seq (.ops [dO 12 (.mv (cI 0))]) (.block 0 (.loop (.seq (.seq (.ops [dO 59 (.mv (tM 12)),dO 60 (.mv (tM 7)),dO 61 (.len (tM 60)),dO 62 (.bin .lss (tM 59) (tM 61))]) (.cond (tM 62) .skip (.exit 0))) (.seq (.block 1 (.seq (.ops [dO 65 (.mv (tM 7)),dO 66 (.mv (tM 12)),dO 67 (.indexAddr 1 (tM 65) (tM 66)),dO 68 (.load none (tM 67)),dO 69 (.len (tM 68)),dO 13 (.mv (tM 69))]) (.seq (.seq (.ops [dO 70 (.mv (tM 13)),dO 71 (.bin .lss (tM 70) (cI 1)),dO 72 (.mv (tM 71)),gO 73 (.mv (tM 13)) 72 false,gO 74 (.bin .gtr (tM 73) (cI 10)) 72 false,dO 75 (.pick (tM 72) (cB true) (tM 74))]) (.cond (tM 75) (.seq (.ops [dO 6 (.mv (cB false))]) .ret) .skip)) (.ops [dO 76 (.mv (tM 11)),dO 77 (.mv (tM 13)),dO 78 (.mv (tM 9)),dO 79 (.mv (tM 13)),dO 80 (.bin .rem (tM 78) (tM 79)),dO 81 (.build [.int .i64 0,.int .i64 0] [(0,(1,tM 77)),(1,(1,tM 80))]),dO 82 (.buildSlice (some 2) [.int .i64 0,.int .i64 0] [(0,(2,tM 81))]),dO 83 (.append (some 2) 16 (tM 76) (tM 82)),dO 11 (.mv (tM 83))])))) (.ops [dO 63 (.mv (tM 12)),dO 64 (.bin .add (tM 63) (cI 1)),dO 12 (.mv (tM 64))])))))) (.seq (.ops [dO 85 (.mv (tM 11)),dO 86 (.callF false 25 [tM 85]),dO 84 (.mv (tM 86)),dO 87 (.extract (tM 84) 0),dO 88 (.extract (tM 84) 1),dO 89 (.extract (tM 84) 2),dO 14 (.mv (tM 87)),dO 15 (.mv (tM 88)),dO 16 (.mv (tM 89))]) (.seq (.ops [dO 91 (.mv (tM 0)),dO 92 (.callF false 29 [tM 91]),dO 90 (.mv (tM 92)),dO 93 (.extract (tM 90) 0),dO 94 (.extract (tM 90) 1),dO 17 (.mv (tM 93)),dO 18 (.mv (tM 94))]) (.seq (.seq (.ops [dO 95 (.mv (tM 16)),dO 96 (.bin .neq (tM 95) (cI 0)),dO 97 (.mv (tM 96)),gO 98 (.mv (tM 18)) 97 false,gO 99 (.bin .neq (tM 98) (cI 0)) 97 false,dO 100 (.pick (tM 97) (cB true) (tM 99)),dO 101 (.mv (tM 100)),gO 102 (.mv (tM 17)) 101 false,gO 103 (.bin .lss (tM 102) (cI 1)) 101 false,dO 104 (.pick (tM 101) (cB true) (tM 103)),dO 105 (.mv (tM 104)),gO 106 (.mv (tM 15)) 105 false,gO 107 (.mv (tM 17)) 105 false,gO 108 (.bin .neq (tM 106) (tM 107)) 105 false,dO 109 (.pick (tM 105) (cB true) (tM 108)),dO 110 (.mv (tM 109)),gO 111 (.mv (tM 14)) 110 false,gO 112 (.mv (tM 9)) 110 false,gO 113 (.mv (tM 17)) 110 false,gO 114 (.bin .rem (tM 112) (tM 113)) 110 false,gO 115 (.bin .neq (tM 111) (tM 114)) 110 false,dO 116 (.pick (tM 110) (cB true) (tM 115))]) (.cond (tM 116) (.seq (.ops [dO 6 (.mv (cB false))]) .ret) .skip)) (.seq (.ops [dO 118 (.mv (tM 0)),dO 119 (.mv (tM 9)),dO 120 (.callF false 30 [tM 118,tM 119]),dO 117 (.mv (tM 120)),dO 121 (.extract (tM 117) 0),dO 122 (.extract (tM 117) 1),dO 19 (.mv (tM 121)),dO 16 (.mv (tM 122))]) (.seq (.ops [dO 124 (.mv (tM 0)),dO 125 (.mv (tM 14)),dO 126 (.callF false 30 [tM 124,tM 125]),dO 123 (.mv (tM 126)),dO 127 (.extract (tM 123) 0),dO 128 (.extract (tM 123) 1),dO 20 (.mv (tM 127)),dO 18 (.mv (tM 128))]) (.seq (.ops [dO 130 (.mv (tM 0)),dO 131 (.mv (tM 10)),dO 132 (.callF false 30 [tM 130,tM 131]),dO 129 (.mv (tM 132)),dO 133 (.extract (tM 129) 0),dO 134 (.extract (tM 129) 1),dO 21 (.mv (tM 133)),dO 22 (.mv (tM 134))]) (.seq (.ops [dO 136 (.mv (tM 11)),dO 137 (.mv (tM 10)),dO 138 (.callF false 31 [tM 136,tM 137]),dO 135 (.mv (tM 138)),dO 139 (.extract (tM 135) 0),dO 140 (.extract (tM 135) 1),dO 23 (.mv (tM 139)),dO 24 (.mv (tM 140))]) (.seq (.ops [dO 141 (.mv (tM 16)),dO 142 (.bin .eql (tM 141) (cI 0)),dO 143 (.mv (tM 142)),gO 144 (.mv (tM 18)) 143 true,gO 145 (.bin .eql (tM 144) (cI 0)) 143 true,dO 146 (.pick (tM 143) (tM 145) (cB false)),dO 147 (.mv (tM 146)),gO 148 (.mv (tM 22)) 147 true,gO 149 (.bin .eql (tM 148) (cI 0)) 147 true,dO 150 (.pick (tM 147) (tM 149) (cB false)),dO 151 (.mv (tM 150)),gO 152 (.mv (tM 24)) 151 true,gO 153 (.bin .eql (tM 152) (cI 0)) 151 true,dO 154 (.pick (tM 151) (tM 153) (cB false)),dO 155 (.mv (tM 154)),gO 156 (.mv (tM 19)) 155 true,gO 157 (.mv (tM 20)) 155 true,gO 158 (.callF false 32 [tM 156,tM 157]) 155 true,dO 159 (.pick (tM 155) (tM 158) (cB false)),dO 160 (.mv (tM 159)),gO 161 (.mv (tM 19)) 160 true,gO 162 (.mv (tM 21)) 160 true,gO 163 (.callF false 32 [tM 161,tM 162]) 160 true,gO 164 (.mv (tM 23)) 160 true,gO 165 (.len (tM 164)) 160 true,gO 166 (.mv (tM 11)) 160 true,gO 167 (.len (tM 166)) 160 true,gO 168 (.bin .eql (tM 165) (tM 167)) 160 true,gO 169 (.eqB false (tM 163) (tM 168)) 160 true,dO 170 (.pick (tM 160) (tM 169) (cB false)),dO 171 (.mv (tM 170)),gO 172 (.callF false 27 []) 171 true,dO 173 (.pick (tM 171) (tM 172) (cB false)),dO 6 (.mv (tM 173))]) .ret))))))))))))))⟩
theorem k6:(Bt Tryz.prog byr).fns 6=some c6:=by kernel_rfl
end Go.Ev.YtgehhippjhealaaGreatC
set_option linter.unusedSimpArgs false
set_option linter.unusedVariables false
set_option maxRecDepth 100000
namespace Go.Ev.YtgehhippjhealaaGreatC
open Go.Proofs
def c4:IFunc:=⟨232,[.tmp 6],.seq (.ops [dO 6 (.mv (cB false))]) (.seq (.ops [dO 30 (.mv (tM 0)),dO 31 (.len (tM 30)),dO 7 (.mv (tM 31))]) (.seq (.seq (.ops [dO 32 (.mv (tM 7)),dO 33 (.bin .lss (tM 32) (cI 1)),dO 34 (.mv (tM 33)),gO 35 (.mv (tM 7)) 34 false,gO 36 (.bin .gtr (tM 35) (cI 10)) 34 false,dO 37 (.pick (tM 34) (cB true) (tM 36)),dO 38 (.mv (tM 37)),gO 39 (.mv (tM 0)) 38 false,gO 40 (.callF false 17 [tM 39]) 38 false,gO 41 (.bin .neq (tM 40) (cI 0)) 38 false,dO 42 (.pick (tM 38) (cB true) (tM 41)),dO 43 (.mv (tM 42)),gO 44 (.mv (tM 1)) 43 false,gO 45 (.len (tM 44)) 43 false,gO 46 (.bin .gtr (tM 45) (cI 30)) 43 false,dO 47 (.pick (tM 43) (cB true) (tM 46))]) (.cond (tM 47) (.seq (.ops [dO 48 (.callF false 8 []),dO 6 (.mv (tM 48))]) .ret) .skip)) (.seq (.ops [dO 8 (.mv (cI 0))]) (.seq (.ops [dO 9 (.mv (.const (.slice none [] true)))]) (.seq (.seq (.ops [dO 10 (.mv (cI 0))]) (.block 0 (.loop (.seq (.seq (.ops [dO 49 (.mv (tM 10)),dO 50 (.mv (tM 7)),dO 51 (.bin .lss (tM 49) (tM 50))]) (.cond (tM 51) .skip (.exit 0))) (.seq (.block 1 (.seq (.ops [dO 54 (.mv (tM 0)),dO 55 (.mv (tM 10)),dO 56 (.indexAddr 3 (tM 54) (tM 55)),dO 57 (.fieldAddr 0 (tM 56)),dO 58 (.fieldAddr 0 (tM 57)),dO 59 (.load none (tM 58)),dO 11 (.mv (tM 59))]) (.seq (.seq (.ops [dO 60 (.mv (tM 2))]) (.cond (tM 60) (.seq (.ops [dO 8 (.mv (cI 1))]) (.ops [dO 61 (.mv (tM 0)),dO 62 (.mv (tM 10)),dO 63 (.indexAddr 3 (tM 61) (tM 62)),dO 64 (.fieldAddr 0 (tM 63)),dO 65 (.fieldAddr 1 (tM 64)),dO 66 (.load none (tM 65)),dO 11 (.mv (tM 66))])) .skip)) (.ops [dO 67 (.mv (tM 9)),dO 68 (.mv (tM 11)),dO 69 (.buildSlice none [.int .i64 0] [(0,(1,tM 68))]),dO 70 (.append none 8 (tM 67) (tM 69)),dO 9 (.mv (tM 70))])))) (.ops [dO 52 (.mv (tM 10)),dO 53 (.bin .add (tM 52) (cI 1)),dO 10 (.mv (tM 53))])))))) (.seq (.ops [dO 72 (.mv (tM 0)),dO 73 (.callF false 18 [tM 72]),dO 71 (.mv (tM 73)),dO 74 (.extract (tM 71) 0),dO 75 (.extract (tM 71) 1),dO 12 (.mv (tM 74)),dO 13 (.mv (tM 75))]) (.seq (.seq (.ops [dO 76 (.mv (tM 13)),dO 77 (.bin .neq (tM 76) (cI 0)),dO 78 (.mv (tM 77)),gO 79 (.mv (tM 12)) 78 false,gO 80 (.len (tM 79)) 78 false,gO 81 (.mv (tM 7)) 78 false,gO 82 (.bin .neq (tM 80) (tM 81)) 78 false,dO 83 (.pick (tM 78) (cB true) (tM 82)),dO 84 (.mv (tM 83)),gO 85 (.mv (tM 12)) 84 false,gO 86 (.callF false 7 [tM 85]) 84 false,gO 87 (.bin .neq (tM 86) (cI 0)) 84 false,dO 88 (.pick (tM 84) (cB true) (tM 87))]) (.cond (tM 88) (.seq (.ops [dO 6 (.mv (cB false))]) .ret) .skip)) (.seq (.ops [dO 89 (.mv (tM 7)),dO 90 (.mkSlice none [.int .i64 0] 8 (tM 89) (tM 89)),dO 14 (.mv (tM 90))]) (.seq (.seq (.ops [dO 15 (.mv (cI 0))]) (.block 2 (.loop (.seq (.seq (.ops [dO 91 (.mv (tM 15)),dO 92 (.mv (tM 7)),dO 93 (.bin .lss (tM 91) (tM 92))]) (.cond (tM 93) .skip (.exit 2))) (.seq (.block 3 (.ops [dO 96 (.mv (tM 14)),dO 97 (.mv (tM 12)),dO 98 (.mv (tM 15)),dO 99 (.indexAddr 1 (tM 97) (tM 98)),dO 100 (.load none (tM 99)),dO 101 (.mv (tM 15)),dO 102 (.indexAddr 1 (tM 96) (tM 100)),eO (.store 1 (tM 102) (tM 101))])) (.ops [dO 94 (.mv (tM 15)),dO 95 (.bin .add (tM 94) (cI 1)),dO 15 (.mv (tM 95))])))))) (.seq (.ops [dO 103 (.mv (tM 7)),dO 104 (.mv (tM 1)),dO 105 (.callF false 19 [tM 103,tM 104]),dO 16 (.mv (tM 105))]) (.seq (.ops [dO 17 (.mv (.const (.slice none [] true)))]) (.seq (.seq (.ops [dO 18 (.mv (cI 0))]) (.block 4 (.loop (.seq (.seq (.ops [dO 106 (.mv (tM 18)),dO 107 (.mv (tM 7)),dO 108 (.bin .lss (tM 106) (tM 107))]) (.cond (tM 108) .skip (.exit 4))) (.seq (.block 5 (.ops [dO 111 (.mv (tM 17)),dO 112 (.mv (tM 14)),dO 113 (.mv (tM 16)),dO 114 (.mv (tM 18)),dO 115 (.indexAddr 1 (tM 113) (tM 114)),dO 116 (.load none (tM 115)),dO 117 (.indexAddr 1 (tM 112) (tM 116)),dO 118 (.load none (tM 117)),dO 119 (.buildSlice none [.int .i64 0] [(0,(1,tM 118))]),dO 120 (.append none 8 (tM 111) (tM 119)),dO 17 (.mv (tM 120))])) (.ops [dO 109 (.mv (tM 18)),dO 110 (.bin .add (tM 109) (cI 1)),dO 18 (.mv (tM 110))])))))) (.seq (.ops [dO 122 (.mv (tM 17)),dO 123 (.callF false 20 [tM 122]),dO 121 (.mv (tM 123)),dO 124 (.extract (tM 121) 0),dO 125 (.extract (tM 121) 1),dO 19 (.mv (tM 124)),dO 20 (.mv (tM 125))]) (.seq (.ops [dO 127 (.mv (tM 17)),dO 128 (.callF false 21 [tM 127]),dO 126 (.mv (tM 128)),dO 129 (.extract (tM 126) 0),dO 130 (.extract (tM 126) 1),dO 21 (.mv (tM 129)),dO 22 (.mv (tM 130))]) (.seq (.ops [dO 132 (.mv (tM 0)),dO 133 (.mv (tM 16)),dO 134 (.mv (tM 9)),dO 135 (.callF false 22 [tM 132,tM 133,tM 134]),dO 131 (.mv (tM 135)),dO 136 (.extract (tM 131) 0),dO 137 (.extract (tM 131) 1),dO 23 (.mv (tM 136)),dO 24 (.mv (tM 137))]) (.seq (.seq (.ops [dO 138 (.mv (tM 20)),dO 139 (.bin .neq (tM 138) (cI 0)),dO 140 (.mv (tM 139)),gO 141 (.mv (tM 22)) 140 false,gO 142 (.bin .neq (tM 141) (cI 0)) 140 false,dO 143 (.pick (tM 140) (cB true) (tM 142)),dO 144 (.mv (tM 143)),gO 145 (.mv (tM 19)) 144 false,gO 146 (.len (tM 145)) 144 false,gO 147 (.mv (tM 21)) 144 false,gO 148 (.len (tM 147)) 144 false,gO 149 (.bin .neq (tM 146) (tM 148)) 144 false,dO 150 (.pick (tM 144) (cB true) (tM 149)),dO 151 (.mv (tM 150)),gO 152 (.mv (tM 19)) 151 false,gO 153 (.len (tM 152)) 151 false,gO 154 (.bin .gtr (tM 153) (cI 45)) 151 false,dO 155 (.pick (tM 151) (cB true) (tM 154)),dO 156 (.mv (tM 155)),gO 157 (.mv (tM 24)) 156 false,gO 158 (.bin .neq (tM 157) (cI 0)) 156 false,dO 159 (.pick (tM 156) (cB true) (tM 158))]) (.cond (tM 159) (.seq (.ops [dO 6 (.mv (cB false))]) .ret) .skip)) (.seq (.seq (.ops [dO 25 (.mv (cI 0))]) (.block 6 (.loop (.seq (.seq (.ops [dO 160 (.mv (tM 25)),dO 161 (.mv (tM 19)),dO 162 (.len (tM 161)),dO 163 (.bin .lss (tM 160) (tM 162))]) (.cond (tM 163) .skip (.exit 6))) (.seq (.block 7 (.seq (.ops [dO 166 (.mv (tM 19)),dO 167 (.mv (tM 25)),dO 168 (.indexAddr 1 (tM 166) (tM 167)),dO 169 (.load none (tM 168)),dO 26 (.mv (tM 169))]) (.seq (.seq (.ops [dO 170 (.mv (tM 26)),dO 171 (.bin .lss (tM 170) (cI 0)),dO 172 (.mv (tM 171)),gO 173 (.mv (tM 26)) 172 false,gO 174 (.bin .add (tM 173) (cI 1)) 172 false,gO 175 (.mv (tM 7)) 172 false,gO 176 (.bin .geq (tM 174) (tM 175)) 172 false,dO 177 (.pick (tM 172) (cB true) (tM 176))]) (.cond (tM 177) (.seq (.ops [dO 6 (.mv (cB false))]) .ret) .skip)) (.seq (.ops [dO 178 (.mv (tM 16)),dO 179 (.callF true 15 [tM 178]),dO 16 (.mv (tM 179))]) (.seq (.ops [dO 180 (.mv (tM 16)),dO 181 (.mv (tM 26)),dO 182 (.mv (tM 16)),dO 183 (.mv (tM 26)),dO 184 (.bin .add (tM 183) (cI 1)),dO 185 (.mv (tM 16)),dO 186 (.mv (tM 26)),dO 187 (.bin .add (tM 186) (cI 1)),dO 188 (.indexAddr 1 (tM 185) (tM 187)),dO 189 (.load none (tM 188)),dO 190 (.mv (tM 16)),dO 191 (.mv (tM 26)),dO 192 (.indexAddr 1 (tM 190) (tM 191)),dO 193 (.load none (tM 192)),dO 194 (.indexAddr 1 (tM 180) (tM 181)),eO (.store 1 (tM 194) (tM 189)),dO 195 (.indexAddr 1 (tM 182) (tM 184)),eO (.store 1 (tM 195) (tM 193))]) (.seq (.ops [dO 197 (.mv (tM 0)),dO 198 (.mv (tM 16)),dO 199 (.mv (tM 9)),dO 200 (.callF false 22 [tM 197,tM 198,tM 199]),dO 196 (.mv (tM 200)),dO 201 (.extract (tM 196) 0),dO 202 (.extract (tM 196) 1),dO 27 (.mv (tM 201)),dO 28 (.mv (tM 202))]) (.seq (.seq (.ops [dO 203 (.mv (tM 28)),dO 204 (.bin .neq (tM 203) (cI 0)),dO 205 (.mv (tM 204)),gO 206 (.mv (tM 27)) 205 false,gO 207 (.mv (tM 23)) 205 false,gO 208 (.bin .gtr (tM 206) (tM 207)) 205 false,dO 209 (.pick (tM 205) (cB true) (tM 208))]) (.cond (tM 209) (.seq (.ops [dO 6 (.mv (cB false))]) .ret) .skip)) (.ops [dO 210 (.mv (tM 27)),dO 23 (.mv (tM 210))])))))))) (.ops [dO 164 (.mv (tM 25)),dO 165 (.bin .add (tM 164) (cI 1)),dO 25 (.mv (tM 165))])))))) (.seq (.ops [dO 212 (.mv (tM 0)),dO 213 (.mv (tM 8)),dO 214 (.callF false 23 [tM 212,tM 213]),dO 211 (.mv (tM 214)),dO 215 (.extract (tM 211) 0),dO 216 (.extract (tM 211) 1),dO 29 (.mv (tM 215)),dO 13 (.mv (tM 216))]) (.seq (.ops [dO 217 (.mv (tM 13)),dO 218 (.bin .eql (tM 217) (cI 0)),dO 219 (.mv (tM 218)),gO 220 (.mv (tM 16)) 219 true,gO 221 (.mv (tM 12)) 219 true,gO 222 (.callF false 14 [tM 220,tM 221]) 219 true,dO 223 (.pick (tM 219) (tM 222) (cB false)),dO 224 (.mv (tM 223)),gO 225 (.mv (tM 23)) 224 true,gO 226 (.mv (tM 29)) 224 true,gO 227 (.bin .eql (tM 225) (tM 226)) 224 true,dO 228 (.pick (tM 224) (tM 227) (cB false)),dO 229 (.mv (tM 228)),gO 230 (.callF false 8 []) 229 true,dO 231 (.pick (tM 229) (tM 230) (cB false)),dO 6 (.mv (tM 231))]) .ret)))))))))))))))))))⟩
theorem k4:(Bt Tryz.prog byr).fns 4=some c4:=by kernel_rfl
theorem t4:T.fns 4=some c4:=Bx k4 (by decide) (by decide)
end Go.Ev.YtgehhippjhealaaGreatC
set_option linter.unusedSimpArgs false
set_option linter.unusedVariables false
namespace Go.Ev.YtgehhippjhealaaGreatC.P5
open Go
theorem Agw {l:List Order} {w:List Int} (hw:∀x∈w,0<=x) {T:List Int} (h:Fm l w 0 T=true):Feas l w T:=by
 rw [Ks] at h
 intro d hd
 obtain ⟨x,hx,hxd⟩:=hd
 obtain ⟨k,i,hk,hp,hdrop⟩:=Zr (fun i=>decide (Db l i<=d)) T ⟨x,hx,by simpa using hxd⟩
 have h3:T.filter (fun i=>decide (Db l i<=d))=(T.take (k+1)).filter fun i=>decide (Db l i<=d):=by
  conv=>lhs; rw [<-List.take_append_drop (k+1) T]
  rw [List.filter_append,hdrop,List.append_nil]
 have h4:=Kq hw (fun i=>decide (Db l i<=d)) (T.take (k+1))
 have h5:=h k i hk
 have h6:Db l i<=d:=by simpa using hp
 rw [h3]
 omega
theorem Wg {l m:List Order} {w v:List Int}:∀(S:List Int) (d d':Int),d'<=d->(∀i∈S,wk v i<=wk w i/\Db l i<=Db m i)->Fm l w d S=true->Fm m v d' S=true
 | [],_,_,_,_,_=>rfl
 | i::r,d,d',hd,hi,h=>by
  have h1:=hi i List.mem_cons_self
  simp only [Fm,Bool.and_eq_true,decide_eq_true_eq] at h ⊢
  exact ⟨by omega,Wg r (d+wk w i) (d'+wk v i) (by omega) (fun j hj=>hi j (List.mem_cons_of_mem _ hj)) h.2⟩
theorem Feas.mono {l m:List Order} {w v T:List Int} (hw:∀x∈w,0<=x) (hv:∀x∈v,0<=x) (hi:∀i∈T,wk v i<=wk w i/\Db l i<=Db m i) (h:Feas l w T):Feas m v T:=by
 have hp:(Ej (Db l) [] T).Perm T:=by simpa using Iq (Db l) T []
 have hs:(Ej (Db l) [] T).Pairwise fun a b=>Db l a<=Db l b:=Hx _ _ _ List.Pairwise.nil
 have h1:=(A9p hw hs).2 (h.perm hp.symm)
 have h2:=Wg (m:=m) (v:=v) _ 0 0 (Int.le_refl 0) (fun i hi'=>hi i (hp.mem_iff.1 hi')) h1
 exact (Agw hv h2).perm hp
end Go.Ev.YtgehhippjhealaaGreatC.P5
set_option linter.unusedSimpArgs false
set_option linter.unusedVariables false
namespace Go.Ev.YtgehhippjhealaaGreatC.P5
open Go
def wi (l:List Order) (w:List Int) (D:Int):Int->List Int->Prop
 | _,[]=>True
 | day,i::r=>day+wk w i-Db l i<=D/\wi l w D (day+wk w i) r
end Go.Ev.YtgehhippjhealaaGreatC.P5
set_option linter.unusedSimpArgs false
set_option linter.unusedVariables false
namespace Go.Ev.YtgehhippjhealaaGreatC.P5
open Go
def atR (l:List Order) (i:Int):Int:=((Ds l).idxOf i:Nat)
end Go.Ev.YtgehhippjhealaaGreatC.P5
set_option linter.unusedSimpArgs false
set_option linter.unusedVariables false
namespace Go.Ev.YtgehhippjhealaaGreatC
open Go Go.Proofs
attribute [local irreducible] Res.all evC Df Dh Bq Bh Dn Bf Bj G GO GV GP GC R
set_option maxRecDepth 100000
end Go.Ev.YtgehhippjhealaaGreatC
set_option linter.unusedSimpArgs false
set_option linter.unusedVariables false
namespace Go.Ev.YtgehhippjhealaaGreatC
open Go Go.Proofs
def ExO (lo:Nat) (h:Bd) (x:AV) (l:List Int):Prop:=x = .slice none (l.map (.int .i64)) true\/Own lo h x .i64 l
theorem ExO.frz {lo:Nat} {h:Bd} {x:AV} {l:List Int} {n:Nat} (hx:ExO lo h x l):Bj h (n+2) x = .ret (De l):=by
 rcases hx with rfl | hx
 ·exact Dm _ _ _ _ _
 ·exact Yq hx
theorem ExO.lenA {lo:Nat} {h:Bd} {x:AV} {l:List Int} (hx:ExO lo h x l):lenA x=some l.length:=by
 rcases hx with rfl | hx
 ·rw [Rb,List.length_map]
 ·exact hx.lenA
theorem ExO.cells {lo:Nat} {h:Bd} {x:AV} {l:List Int} (hx:ExO lo h x l):x.cells=[x]:=by
 rcases hx with rfl | hx
 ·rfl
 ·exact hx.cells
theorem ExO.oneB {lo:Nat} {h:Bd} {x:AV} {l:List Int} (hx:ExO lo h x l):oneB x=true:=by
 rcases hx with rfl | hx
 ·rfl
 ·exact hx.oneB
theorem ExO.other {lo:Nat} {h h':Bd} {x:AV} {l:List Int} (hx:ExO lo h x l) (hf:∀j,j<h.length->Bc h' j=Bc h j):ExO lo h' x l:=by
 rcases hx with rfl | hx
 ·exact .inl rfl
 ·exact .inr (hx.other fun j hj=>hf j (hx.keyLt j hj))
theorem ExO.weak {lo lo':Nat} {h:Bd} {x:AV} {l:List Int} (hl:lo'<=lo) (hx:ExO lo h x l):ExO lo' h x l:=by
 rcases hx with rfl | ⟨a,b⟩ | ⟨key,ver,a,b,c⟩
 ·exact .inl rfl
 ·exact .inr (.inl ⟨a,b⟩)
 ·exact .inr (.inr ⟨key,ver,by omega,b,c⟩)
theorem Wa {call:Bn} {base:Nat} {Q:EX×St->Prop} {d:Option Nat} {L:List IOper} {ks:List Kont} {e:Env} {h:Bd} {lo b kk:Nat} {x:AV} {l:List Int} {a:Int} {ex:Bool} (hkk:kk=h.length) (hx:ExO lo h x l) (hlo:lo<=h.length) (hr:(l.length+1)*b<=1099511627776)
  (H:∀x' h',Own lo h' x' .i64 (l++[a])->(∀j,j<lo->Bc h' j=Bc h j)->h.length<=h'.length->GO call base Q L ks ⟨Bk e d x',h'⟩) :
  GP call base Q d L ks e (Dl kk none b x (.slice none [.int .i64 a] ex) h):=by
 rcases hx with rfl | hx
 ·subst hkk
  have hroom:=Kn hr
  have:Dl h.length none b (.slice none (l.map (.int .i64)) true) (.slice none [.int .i64 a] ex) h = .ret (.oslice h.length (Bc h h.length).next none 0 (l.length+1) none,setH h h.length (.cells (Bc h h.length).next ((l++[a]).map (.int .i64)))):=by
   have h1:¬(1:Nat)=0:=by omega
   have hc:Dd h (.slice none [.int .i64 a] ex)=some (none,1,[AV.int .i64 a]):=rfl
   simp only [Dl,hc,List.length_map,hroom,ne_eq,not_true_eq_false,if_false,Bool.true_eq_false,or_self,h1,Eb,List.map_append,List.map_cons,List.map_nil]
  rw [this,Hj]
  refine H _ _ (.inr ⟨h.length,_,hlo,by rw [List.length_append]; rfl,by simp⟩) (fun j hj=>Ba _ _ _ _ (by omega)) (by rw [Be]; omega)
 ·exact Ls hkk hx hlo hr fun x' h' a1 a2 a3 _ _=>H x' h' a1 a2 a3
def mnL:List Nat->Nat
 | []=>0
 | a::r=>r.foldl Nat.min a
def mnI (l:List Int) (a:Int):Int:=l.foldl (fun x y=>if y<x then y else x) a
theorem Zo:∀(r:List Nat) (a:Nat),mnI (nI6 r) a=(r.foldl Nat.min a:Nat)
 | [],a=>rfl
 | b::r,a=>by
  have ih:=Zo r (Nat.min a b)
  have e:(if (b:Int)<(a:Int) then (b:Int) else a)=((Nat.min a b:Nat):Int):=by
   show _=((min a b:Nat):Int)
   split <;> omega
  simp only [mnI,nI6,List.map_cons,List.foldl_cons] at ih ⊢
  rw [e]
  exact ih
theorem Mo:∀(r:List Nat) (a m:Nat),m<=r.foldl Nat.min a↔m<=a/\∀x∈r,m<=x
 | [],a,m=>by simp
 | b::r,a,m=>by
  rw [List.foldl_cons,Mo r _ m]
  have:m<=Nat.min a b↔m<=a/\m<=b:=Nat.le_min
  rw [this]
  simp only [List.mem_cons,forall_eq_or_imp]
  exact ⟨fun ⟨⟨h1,h2⟩,h3⟩=>⟨h1,h2,h3⟩,fun ⟨h1,h2,h3⟩=>⟨⟨h1,h2⟩,h3⟩⟩
theorem A7t (p:List Nat) (i:Nat):(mnL (cyc p i)<i↔Hv p i=false)/\(mnL (cyc p i)=i↔Hv p i=true):=by
 have h1:i<=mnL (cyc p i)↔Hv p i=true:=by
  rw [cyc,mnL,Mo,Hv,List.all_eq_true]
  constructor
  ·intro ⟨_,h⟩ x hx
   rw [cyc] at hx
   rcases List.mem_cons.1 hx with rfl | hx
   ·simp
   ·simpa using h x hx
  ·intro h
   exact ⟨Nat.le_refl _,fun x hx=>by simpa using h x (by rw [cyc]; exact List.mem_cons_of_mem _ hx)⟩
 have h2:mnL (cyc p i)<=i:=by
  have:=(Mo (Mr p i p.length (stp p i)) i (mnL (cyc p i))).1 (Nat.le_refl _)
  exact this.1
 constructor
 ·constructor
  ·intro h
   cases hm:Hv p i with
   | false=>rfl
   | true=>have:=h1.2 hm; omega
  ·intro h
   have:¬i<=mnL (cyc p i):=fun hc=>by rw [h1.1 hc] at h; cases h
   omega
 ·constructor
  ·intro h
   exact h1.1 (by omega)
  ·intro h
   have:=h1.2 h
   omega
attribute [local irreducible] Res.all evC Df Dh Bq Bh Dn Bf Bj G GO GV GP GC R
set_option maxRecDepth 100000
theorem Abk (a:Nat) (r:List Nat) (h10:r.length<=1000):Con T 1 70 [De (nI6 (a::r))] (.int .i64 (mnL (a::r))):=by
 refine Bs t70 fun n hn V hV => ?_
 have hl:=Eq (a::r)
 have g0:(nI6 (a::r))[0]? = some (a:Int):=rfl
 have hcons:nI6 (a::r)=(a:Int)::nI6 r:=rfl
 have hmn:=Zo (a::r) a
 have hmn2:((a::r).foldl Nat.min a:Nat)=mnL (a::r):=by
  rw [List.foldl_cons,show Nat.min a a=a from Nat.min_self a]
  rfl
 rw [hmn2] at hmn
 have hR3:(a::r).length<=1001:=by simp only [List.length_cons]; omega
 generalize hN:nI6 (a::r)=N at *
 generalize hR:(a::r).length=R at *
 simp (disch:=first | assumption | omega) only [c70,go_sem,↓reduceIte,hl,g0]
 refine Bz (fun M s=>∃(k:Nat) (y:Int),M=R-k/\k<=R/\At s.env [(0,De N),(3,.int .i64 y),(4,.int .i64 k)]/\mnI (N.drop k) y=mnI N a) R (by omega) ⟨0,a,by omega,by omega,by simp only [go_sem,↓reduceIte],rfl⟩ ?_
 rintro M e h hM ⟨k,y,rfl,hk,hE,hA⟩ P hP
 simp only [Bp,Bw] at hE
 obtain ⟨f0,f3,f4,-⟩:=hE
 by_cases hlt:k<R
 ·have hlt':(k:Int)<(R:Int):=by omega
  have gk:N[k]? = some (N.getD k 0):=by rw [List.getD_eq_getElem?_getD,List.getElem?_eq_getElem (by omega)]; rfl
  rw [Fa gk] at hA
  have hA2:mnI (N.drop (k+1)) (if N.getD k 0<y then N.getD k 0 else y)=mnI N a:=hA
  simp (disch:=first | assumption | omega) only [go_sem,↓reduceIte,f0,f3,f4,hlt',gk,Ld,hl]
  exact hP (R-(k+1)) _ (by omega) ⟨k+1,_,rfl,by omega,by simp only [go_sem,↓reduceIte,f0],hA2⟩
 ·have hlt':¬(k:Int)<(R:Int):=by omega
  rw [List.drop_eq_nil_of_le (by omega)] at hA
  have hy:y=mnI N a:=hA
  simp (disch:=first | assumption | omega) only [go_sem,↓reduceIte,f0,f3,f4,hlt',hl]
  refine hV _ _ ?_
  rw [Bl,hy,hmn]
theorem Vf {p:List Nat} (hp:PermN p) {i:Nat} (hi:i<p.length) (m:Nat):(nI6 p)[itp p m i]? = some ((itp p (m+1) i:Nat):Int):=by
 have hlt:=Md hp m i hi
 rw [A6w hlt,A4j,Vt hlt]
theorem A6m (p:List Nat) (hp:PermN p) (h10:p.length<=10) {i:Nat} (hi:i<p.length):Con T 1 69 [De (nI6 p),.int .i64 (i:Nat)] (De (nI6 (cyc p i))):=by
 refine Bs t69 fun n hn V hV => ?_
 obtain ⟨q0,q1,q2,q3,q4⟩:=He hp hi
 have hl:=Eq p
 have g0:=Vf hp hi 0
 have e0:itp p 0 i=i:=rfl
 rw [e0] at g0
 simp (disch:=first | assumption | omega) only [c69,go_sem,↓reduceIte,hl,g0]
 refine Bz (fun M st=>∃(m:Nat) (x:AV),M=per p i-m/\0<m/\m<=per p i/\At st.env [(0,De (nI6 p)),(1,.int .i64 (i:Nat)),(5,x),(6,.int .i64 (itp p m i:Nat))]/\ExO 25 st.heap x (nI6 ((List.range m).map fun j=>itp p j i))/\25<=st.heap.length) (per p i-1) (by omega)
  ⟨1,.slice none [.int .i64 i] true,by omega,by omega,by omega,by simp only [go_sem,↓reduceIte],.inl rfl,by simp⟩ ?_
 rintro M e h hM ⟨m,x,rfl,hm0,hm,hE,hX,hL⟩ P hP
 simp only [Bp,Bw] at hE hX hL
 obtain ⟨f0,f1,f5,f6,-⟩:=hE
 have gm:=Vf hp hi m
 have hsn:nI6 ((List.range (m+1)).map fun j=>itp p j i)=nI6 ((List.range m).map fun j=>itp p j i)++[((itp p m i:Nat):Int)]:=by simp [nI6,List.range_succ]
 have hln:(nI6 ((List.range m).map fun j=>itp p j i)).length=m:=by simp [nI6]
 by_cases hlt:m<per p i
 ·have hne:itp p m i≠i:=q3 m hm0 hlt
  have hne':(((itp p m i:Nat):Int) != (i:Int))=true:=by
   simp only [bne_iff_ne,ne_eq]
   omega
  simp (disch:=first | assumption | omega) only [go_sem,↓reduceIte,f0,f1,f5,f6,hne']
  refine Wa (by first | with_reducible rfl | (simp only [Be,List.length_append,List.length_replicate]; done) | (simp only [Be,List.length_append,List.length_replicate]; omega)) hX hL (by rw [hln]; omega) fun x' h' hX' hF hL' => ?_
  simp (disch:=first | assumption | omega) only [go_sem,↓reduceIte,f0,f6,gm,hl]
  exact hP (per p i-(m+1)) _ (by omega) ⟨m+1,x',rfl,by omega,by omega,by simp only [go_sem,↓reduceIte,f0,f1],by rw [hsn]; exact .inr hX',(show 25<=h'.length by omega)⟩
 ·obtain rfl:m=per p i:=by omega
  have hne':(((itp p (per p i) i:Nat):Int) != (i:Int))=false:=by rw [q2]; simp
  rw [<-q4] at hX
  simp (disch:=first | assumption | omega) only [go_sem,↓reduceIte,f0,f1,f5,f6,hne']
  exact hV _ _ hX.frz
theorem A8c (p:List Nat) (hp:PermN p) (h10:p.length<=10) {i:Nat} (hi:i<p.length) {n:Nat} {h:Bd} {V:AV×Bd->Prop}
  (hV:∀x h',ExO h.length h' x (nI6 (cyc p i))->(∀j,j<h.length->Bc h' j=Bc h j)->h.length<=h'.length->V (x,h')) :
  (Bf T (n+1) true (.fn 95) [.agg [De (nI6 p)],.int .i64 (i:Nat)] h).all V:=by
 rw [Eg t95]
 obtain ⟨q0,q1,q2,q3,q4⟩:=He hp hi
 have hl:=Eq p
 have g0:=Vf hp hi 0
 have e0:itp p 0 i=i:=rfl
 rw [e0] at g0
 have hnb:Bc (h++List.replicate 27 .none) (h.length+2) = .none:=Fd _ _ _
 simp (disch:=first | assumption | omega) only [c95,go_sem,↓reduceIte,hl,g0,hnb]
 refine Bz (fun M st=>∃(m:Nat) (x:AV),M=per p i-m/\0<m/\m<=per p i/\At st.env [(1,.int .i64 (i:Nat)),(2,.optr (h.length+2) 0 0),(5,x),(6,.int .i64 (itp p m i:Nat))]/\Bc st.heap (h.length+2) = .cells 0 [De (nI6 p)]/\ExO (h.length+27) st.heap x (nI6 ((List.range m).map fun j=>itp p j i))/\h.length+27<=st.heap.length/\(∀j,j<h.length->Bc st.heap j=Bc h j)) (per p i-1) (by omega)
  ⟨1,.slice none [.int .i64 i] true,by omega,by omega,by omega,by simp only [go_sem,↓reduceIte],by simp only [go_sem,↓reduceIte],.inl rfl,by simp only [Be,List.length_append,List.length_replicate]; omega,fun j hj=>by rw [Ba _ _ _ _ (by omega),Bi]⟩ ?_
 rintro M e h1 hM ⟨m,x,rfl,hm0,hm,hE,hB,hX,hL,hF⟩ P hP
 simp only [Bp,Bw] at hE hX hL hB hF
 obtain ⟨f1,f2,f5,f6,-⟩:=hE
 have gm:=Vf hp hi m
 have hsn:nI6 ((List.range (m+1)).map fun j=>itp p j i)=nI6 ((List.range m).map fun j=>itp p j i)++[((itp p m i:Nat):Int)]:=by simp [nI6,List.range_succ]
 have hln:(nI6 ((List.range m).map fun j=>itp p j i)).length=m:=by simp [nI6]
 by_cases hlt:m<per p i
 ·have hne:itp p m i≠i:=q3 m hm0 hlt
  have hne':(((itp p m i:Nat):Int) != (i:Int))=true:=by
   simp only [bne_iff_ne,ne_eq]
   omega
  simp (disch:=first | assumption | omega) only [go_sem,↓reduceIte,f1,f2,f5,f6,hne']
  refine Wa (by first | with_reducible rfl | (simp only [Be,List.length_append,List.length_replicate]; done) | (simp only [Be,List.length_append,List.length_replicate]; omega)) hX hL (by rw [hln]; omega) fun x' h' hX' hF' hL' => ?_
  have hB':Bc h' (h.length+2) = .cells 0 [De (nI6 p)]:=by rw [hF' _ (by omega),hB]
  simp (disch:=first | assumption | omega) only [go_sem,↓reduceIte,f2,f6,hB',gm,hl]
  exact hP (per p i-(m+1)) _ (by omega) ⟨m+1,x',rfl,by omega,by omega,by simp only [go_sem,↓reduceIte,f1,f2],hB',by rw [hsn]; exact .inr hX',(show h.length+27<=h'.length by omega),fun j hj=>by rw [hF' j (by omega),hF j hj]⟩
 ·obtain rfl:m=per p i:=by omega
  have hne':(((itp p (per p i) i:Nat):Int) != (i:Int))=false:=by rw [q2]; simp
  rw [<-q4] at hX
  simp (disch:=first | assumption | omega) only [go_sem,↓reduceIte,f1,f5,f6,hne',Gt,mapR]
  exact hV _ _ (hX.weak (by omega)) hF (by omega)
theorem Aho (a:Nat) (r:List Nat) (h10:r.length<=1000):Con T 1 96 [De (nI6 (a::r))] (.int .i64 (mnL (a::r))):=by
 refine Bs t96 fun n hn V hV => ?_
 have hl:=Eq (a::r)
 have g0:(nI6 (a::r))[0]? = some (a:Int):=rfl
 have hmn:=Zo r a
 have hmn2:(r.foldl Nat.min a:Nat)=mnL (a::r):=rfl
 rw [hmn2] at hmn
 have hdr:(nI6 (a::r)).drop 1=nI6 r:=rfl
 rw [<-hdr] at hmn
 have hR1:¬(((a::r).length:Nat):Int)<1:=by simp only [List.length_cons]; omega
 have hR2:1<=(a::r).length:=by simp only [List.length_cons]; omega
 have hR3:(a::r).length<=1001:=by simp only [List.length_cons]; omega
 generalize hN:nI6 (a::r)=N at *
 generalize hR:(a::r).length=R at *
 simp (disch:=first | assumption | omega) only [c96,go_sem,↓reduceIte,hl,g0,hR1]
 refine Bz (fun M s=>∃(k:Nat) (y:Int),M=R-k/\k<=R/\At s.env [(0,De N),(3,.int .i64 y),(4,.int .i64 k)]/\mnI (N.drop k) y=mnI (N.drop 1) a) (R-1) (by omega) ⟨1,a,by omega,by omega,by simp only [go_sem,↓reduceIte],rfl⟩ ?_
 rintro M e h hM ⟨k,y,rfl,hk,hE,hA⟩ P hP
 simp only [Bp,Bw] at hE
 obtain ⟨f0,f3,f4,-⟩:=hE
 by_cases hlt:k<R
 ·have hlt':(k:Int)<(R:Int):=by omega
  have gk:N[k]? = some (N.getD k 0):=by rw [List.getD_eq_getElem?_getD,List.getElem?_eq_getElem (by omega)]; rfl
  rw [Fa gk] at hA
  have hA2:mnI (N.drop (k+1)) (if N.getD k 0<y then N.getD k 0 else y)=mnI (N.drop 1) a:=hA
  simp (disch:=first | assumption | omega) only [go_sem,↓reduceIte,f0,f3,f4,hlt',gk,Ld,hl]
  exact hP (R-(k+1)) _ (by omega) ⟨k+1,_,rfl,by omega,by simp only [go_sem,↓reduceIte,f0],hA2⟩
 ·have hlt':¬(k:Int)<(R:Int):=by omega
  rw [List.drop_eq_nil_of_le (by omega)] at hA
  have hy:y=mnI (N.drop 1) a:=hA
  simp (disch:=first | assumption | omega) only [go_sem,↓reduceIte,f0,f3,f4,hlt',hl]
  refine hV _ _ ?_
  rw [Bl,hy,hmn]
end Go.Ev.YtgehhippjhealaaGreatC
set_option linter.unusedSimpArgs false
set_option linter.unusedVariables false
namespace Go.Ev.YtgehhippjhealaaGreatC
open Go Go.Proofs
theorem A3m {lo:Nat} {h:Bd} {v:AV} {n m:Nat} {cs cs2:List AV} (ho:OwnG lo h v none n cs) (hcs:mapR (Bj h m) cs = .ret cs2):Bj h (m+1) v = .ret (.slice none cs2 false):=by
 rcases ho with ⟨rfl,rfl,rfl⟩ | ⟨key,ver,_,rfl,hH,h2⟩
 ·have:cs2=[]:=by
   rw [Dc] at hcs
   exact (Res.ret.inj hcs).symm
  rw [this]
  rfl
 ·have e:(cs.drop 0).take (n*Bg none)=cs:=by rw [List.drop_zero,List.take_of_length_le (by omega)]
  rw [Bj]
  simp only [hH]
  rw [if_pos ⟨trivial,by omega⟩,e,hcs]
  rfl
theorem OwnG.keyLt {lo:Nat} {h:Bd} {v:AV} {g:Option Nat} {n:Nat} {cs:List AV} (ho:OwnG lo h v g n cs):∀j,Eu v=some j->j<h.length:=by
 intro j hj
 rcases ho with ⟨_,_,rfl⟩ | ⟨key,ver,_,rfl,hH,_⟩
 ·cases hj
 ·obtain rfl:key=j:=by simpa [Eu] using hj
  exact Ef hH (by simp)
theorem Ayt (h:Bd) (ver:Nat) (a:AV) (c:Option Nat):Dd (setH h h.length (.cells ver [a])) (.oslice h.length ver none 0 1 c)=some (none,1,[a]):=by
 simp [Dd,Bg]
theorem Avr {h:Bd} {n:Nat} {cs:List AV} (hc:∀c∈cs,Bj h n c = .ret c):mapR (Bj h n) cs = .ret cs:=by
 induction cs with
 | nil=>rfl
 | cons a r ih=>exact Bv (hc a (by simp)) (ih fun c hcm=>hc c (by simp [hcm]))
def Rx (p:List Nat):AV:=.slice none ((Ee p).map fun c=>De (nI6 c)) false
def Lc (p:List Nat) (k:Nat):List (List Nat):=(((List.range p.length).drop k).filter (Hv p)).map (cyc p)
theorem A8i (p:List Nat):Lc p 0=Ee p:=rfl
theorem A0r (p:List Nat):Lc p p.length=[]:=by
 rw [Lc,List.drop_eq_nil_of_le (by simp)]
 rfl
theorem Xi {p:List Nat} {k:Nat} (hk:k<p.length):Lc p k=if Hv p k then cyc p k::Lc p (k+1) else Lc p (k+1):=by
 have:(List.range p.length).drop k=k::(List.range p.length).drop (k+1):=by
  rw [List.drop_eq_getElem_cons (by simpa using hk),List.getElem_range]
 rw [Lc,this,List.filter_cons]
 split
 ·rfl
 ·rfl
theorem Ru {p:List Nat} (hp:PermN p) {i:Nat} (hi:i<p.length):(cyc p i).length<=p.length:=(He hp hi).2.1
attribute [local irreducible] Res.all evC Df Dh Bq Bh Dn Bf Bj G GO GV GP GC R
set_option maxRecDepth 100000
theorem Zb (p:List Nat) (hp:PermN p) (h10:p.length<=10):Con T 2 28 [De (nI6 p)] (Rx p):=by
 refine Bs t28 fun n hn V hV => ?_
 have hl:=Eq p
 simp (disch:=first | assumption | omega) only [c28,go_sem,↓reduceIte]
 refine Bz (fun M st=>∃(k:Nat) (x:AV) (L:List (List Nat)),M=p.length-k/\k<=p.length/\At st.env [(0,De (nI6 p)),(3,x),(4,.int .i64 k)]/\OwnG 24 st.heap x none L.length (L.map fun c=>De (nI6 c))/\L++Lc p k=Ee p/\L.length<=k/\24<=st.heap.length) p.length (by omega)
  ⟨0,.slice none [] true,[],by omega,by omega,by simp only [go_sem,↓reduceIte],Qz ..,rfl,by simp,by simp⟩ ?_
 rintro M e h hM ⟨k,x,L,rfl,hk,hE,hO,hR,hLk,hL⟩ P hP
 simp only [Bp,Bw] at hE hO hL
 obtain ⟨f0,f3,f4,-⟩:=hE
 by_cases hlt:k<p.length
 ·have hlt':(k:Int)<(p.length:Int):=by omega
  have hcl:=Ru hp hlt
  have hmn:=(A7t p k).2
  rw [Xi hlt] at hR
  simp (disch:=first | assumption | omega) only [go_sem,↓reduceIte,f0,f3,f4,hlt',hl]
  refine Dt (A6m p hp h10 hlt) hn (Di _ _ _ _ (Fb _ _ _ (By _))) (by rfl) ?_
  simp (disch:=first | assumption | omega) only [go_sem,↓reduceIte]
  refine Dt (Abk k (Mr p k p.length (stp p k)) (by have:(Mr p k p.length (stp p k)).length+1=(cyc p k).length:=rfl; omega)) (by omega) (Di _ _ _ _ (By _)) (Fx _ _ _) ?_
  have hcy:mnL (k::Mr p k p.length (stp p k))=mnL (cyc p k):=rfl
  rw [hcy]
  cases hm:Hv p k with
  | true =>
   rw [hm,if_pos rfl] at hR
   have he:((mnL (cyc p k):Int)==(k:Int))=true:=by rw [hmn.2 hm]; simp
   simp (disch:=first | assumption | omega) only [go_sem,↓reduceIte,f3,f4,he]
   refine Lu (lo:=24) (n:=L.length) (cs:=L.map fun c=>De (nI6 c)) (by first | with_reducible rfl | (simp only [Be,List.length_append,List.length_replicate]; done) | (simp only [Be,List.length_append,List.length_replicate]; omega)) (hO.other fun j hj=>Ba _ _ _ _ (by have:=OwnG.keyLt hO j hj; omega)) (by decide) (by simp only [Be]; omega) (Ayt _ _ _ _) rfl (by omega) (by omega) fun x' h' hO' hF hL' _ _ => ?_
   simp only [Be] at hL'
   simp (disch:=first | assumption | omega) only [go_sem,↓reduceIte,f4]
   refine hP (p.length-(k+1)) _ (by omega) ⟨k+1,x',L++[cyc p k],rfl,by omega,by simp only [go_sem,↓reduceIte,f0],?_,by rw [<-hR]; simp,by simp only [List.length_append,List.length_cons,List.length_nil]; omega,(show 24<=h'.length by omega)⟩
   rw [List.length_append,List.map_append]
   exact hO'
  | false =>
   rw [hm,if_neg (by decide)] at hR
   have he:((mnL (cyc p k):Int)==(k:Int))=false:=by
    rw [beq_eq_false_iff_ne]
    intro hc
    have:mnL (cyc p k)=k:=by omega
    rw [hmn.1 this] at hm
    cases hm
   simp (disch:=first | assumption | omega) only [go_sem,↓reduceIte,f3,f4,he]
   exact hP (p.length-(k+1)) _ (by omega) ⟨k+1,x,L,rfl,by omega,by simp only [go_sem,↓reduceIte,f0,f3],hO,hR,by omega,hL⟩
 ·obtain rfl:k=p.length:=by omega
  have hlt':¬(p.length:Int)<(p.length:Int):=by omega
  rw [A0r,List.append_nil] at hR
  simp (disch:=first | assumption | omega) only [go_sem,↓reduceIte,f0,f3,f4,hlt',hl]
  refine hV _ _ ?_
  rw [Rx,<-hR]
  exact A3m hO (Avr fun c hc=>by
   obtain ⟨q,_,rfl⟩:=List.mem_map.1 hc
   exact Dm _ _ _ _ _)
theorem Nn (cs:List AV) (hz:∀h,mapR (Bj h 4) cs = .ret cs):Con T 1 38 [.ptr cs 0] (.clo 94 [] [.ptr [.ptr cs 0] 0]):=by
 refine Bs t38 fun n hn V hV => ?_
 simp (disch:=first | assumption | omega) only [c38,go_sem,↓reduceIte]
 refine hV _ _ (Ho (Dc _ _) (Bv (Fh (cs:=[.ptr cs 0]) (by simp only [go_sem,↓reduceIte]) (Bv ?_ (Dc _ _))) (Dc _ _)))
 exact Dr _ _ _ _
theorem Nt (p:List Nat) (hp:PermN p) (h10:p.length<=10) (key ver B0:Nat) (J:List (List Nat)->Bd->Prop) (hJ:∀r h h',(∀j,j<h.length->Bc h' j=Bc h j)->h.length<=h'.length->J r h->J r h') {n:Nat} (hn:3<=n)
  (hy:∀c r h x,B0<=h.length->ExO B0 h x (nI6 c)->J (c::r) h->(Bf T (n-1) true (.yld key ver) [x] h).all fun q=>q.1 = .bool true/\J r q.2/\B0<=q.2.length) (h:Bd) (hB:h.length=B0) (h0:J (Ee p) h) (V:AV×Bd->Prop) (hV:∀v h',J [] h'->V (v,h')) :
  (Bf T n true (.fn 94) [.yld key ver,.ptr [.ptr [De (nI6 p)] 0] 0] h).all V:=by
 obtain ⟨m,rfl⟩:∃m,n=m+2:=⟨n-2,by omega⟩
 rw [Eg t94]
 have hl:=Eq p
 rw [<-A8i] at h0
 simp (disch:=first | assumption | omega) only [c94,go_sem,↓reduceIte,hl]
 refine Bz (fun M st=>∃k:Nat,M=p.length-k/\k<=p.length/\At st.env [(0,.yld key ver),(3,.clo 95 [.agg [De (nI6 p)]] []),(16,.int .i64 p.length),(17,.int .i64 k)]/\J (Lc p k) st.heap/\B0<=st.heap.length) p.length (by omega)
  ⟨0,by omega,by omega,by simp only [go_sem,↓reduceIte],hJ _ h _ (fun j hj=>Bi _ _ _) (by simp only [List.length_append]; omega) h0,by simp only [List.length_append]; omega⟩ ?_
 rintro M e h1 hM ⟨k,rfl,hk,hE,hJ1,hb1⟩ P hP
 simp only [Bp,Bw] at hE hJ1 hb1
 obtain ⟨f0,f3,f16,f17,-⟩:=hE
 by_cases hlt:k<p.length
 ·have hlt':(k:Int)<(p.length:Int):=by omega
  have hcl:=Ru hp hlt
  have hmn:=(A7t p k).1
  rw [Xi hlt] at hJ1
  simp (disch:=first | assumption | omega) only [go_sem,↓reduceIte,f0,f3,f16,f17,hlt']
  refine Fu (A8c p hp h10 hlt fun x h2 hX hF hL => ?_)
  have hJ2:=hJ _ _ _ hF hL hJ1
  simp (disch:=first | assumption | omega) only [go_sem,↓reduceIte]
  refine Dt (Aho k (Mr p k p.length (stp p k)) (by have:(Mr p k p.length (stp p k)).length+1=(cyc p k).length:=rfl; omega)) (by omega) (Da hX.frz (By _)) (Fx _ _ _) ?_
  have hcy:mnL (k::Mr p k p.length (stp p k))=mnL (cyc p k):=rfl
  rw [hcy]
  cases hm:Hv p k with
  | true =>
   rw [hm,if_pos rfl] at hJ2
   have he:¬(mnL (cyc p k):Int)<(k:Int):=fun hc=>by
    have:=hmn.1 (by omega)
    rw [hm] at this
    cases this
   simp (disch:=first | assumption | omega) only [go_sem,↓reduceIte,f0,he]
   refine Fu (Res.all_mono _ (hy (cyc p k) (Lc p (k+1)) _ x (by omega) (hX.weak hb1) hJ2) ?_)
   rintro ⟨v,h'⟩ ⟨hv1,hJ',hb'⟩
   simp only at hv1 hJ' hb'
   subst hv1
   simp (disch:=first | assumption | omega) only [go_sem,↓reduceIte,f17]
   exact hP (p.length-(k+1)) _ (by omega) ⟨k+1,rfl,by omega,by simp only [go_sem,↓reduceIte,f0,f3,f16],hJ',hb'⟩
  | false =>
   rw [hm,if_neg (by decide)] at hJ2
   have he:(mnL (cyc p k):Int)<(k:Int):=by have:=hmn.2 hm; omega
   simp (disch:=first | assumption | omega) only [go_sem,↓reduceIte,f17,he]
   exact hP (p.length-(k+1)) _ (by omega) ⟨k+1,rfl,by omega,by simp only [go_sem,↓reduceIte,f0,f3,f16],hJ2,(show B0<=h2.length by omega)⟩
 ·obtain rfl:k=p.length:=by omega
  have hlt':¬(p.length:Int)<(p.length:Int):=by omega
  rw [A0r] at hJ1
  simp (disch:=first | assumption | omega) only [go_sem,↓reduceIte,f16,f17,hlt',Gt,mapR]
  exact hV _ _ hJ1
end Go.Ev.YtgehhippjhealaaGreatC
set_option linter.unusedSimpArgs false
set_option linter.unusedVariables false
namespace Go.Ev.YtgehhippjhealaaGreatC
open Go Go.Proofs
def GaO (B:Nat) (h:Bd) (o:AV) (X:List (AV×List Nat)):Prop:=OwnG B h o none X.length (X.map (·.1))/\∀q∈X,ExO B h q.1 (nI6 q.2)/\q.2≠[]
theorem GaO.key {B:Nat} {h:Bd} {o:AV} {X:List (AV×List Nat)} (hg:GaO B h o X) {x:AV} {c:List Nat} (hx:ExO B h x (nI6 c)) (hc:c≠[]):∀k,Eu o=some k->Eu x≠some k:=by
 intro k hk hk2
 obtain ⟨h1,h2⟩:=hg
 rcases h1 with ⟨_,_,rfl⟩ | ⟨key,ver,_,rfl,hH,_⟩
 ·cases hk
 ·obtain rfl:key=k:=by simpa [Eu] using hk
  rcases hx with rfl | ⟨_,rfl⟩ | ⟨key2,ver2,_,rfl,hH2⟩
  ·cases hk2
  ·cases hk2
  ·obtain rfl:key2=key:=by simpa [Eu] using hk2
   rw [hH] at hH2
   have hcs:X.map (·.1)=(nI6 c).map (AV.int .i64):=by
    injection hH2
   cases c with
   | nil=>exact hc rfl
   | cons a r =>
    cases X with
    | nil=>cases hcs
    | cons q X =>
     simp only [List.map_cons,nI6] at hcs
     have hq1:=(List.cons.inj hcs).1
     have:=(h2 q (by simp)).1
     rw [hq1] at this
     rcases this with hh | ⟨_,hh⟩ | ⟨_,_,_,hh,_⟩ <;> cases hh
theorem GaO.other {B:Nat} {h h':Bd} {o:AV} {X:List (AV×List Nat)} (hg:GaO B h o X) (hf:∀j,B<=j->j<h.length->Bc h' j=Bc h j):GaO B h' o X:=by
 obtain ⟨h1,h2⟩:=hg
 refine ⟨?_,fun q hq=>⟨?_,(h2 q hq).2⟩⟩
 ·rcases h1 with h1 | ⟨key,ver,a,rfl,hH,b⟩
  ·exact .inl h1
  ·exact .inr ⟨key,ver,a,rfl,by rw [hf key a (Ef hH (by simp)),hH],b⟩
 ·rcases (h2 q hq).1 with hx | ⟨a,b⟩ | ⟨key,ver,a,b,c⟩
  ·exact .inl hx
  ·exact .inr (.inl ⟨a,b⟩)
  ·exact .inr (.inr ⟨key,ver,a,b,by rw [hf key a (Ef c (by simp)),c]⟩)
theorem OwnG.cells {lo:Nat} {h:Bd} {v:AV} {g:Option Nat} {n:Nat} {cs:List AV} (ho:OwnG lo h v g n cs):v.cells=[v]:=by
 rcases ho with ⟨_,_,rfl⟩ | ⟨_,_,_,rfl,_⟩ <;> rfl
theorem OwnG.oneB {lo:Nat} {h:Bd} {v:AV} {g:Option Nat} {n:Nat} {cs:List AV} (ho:OwnG lo h v g n cs):oneB v=true:=by
 rcases ho with ⟨_,_,rfl⟩ | ⟨_,_,_,rfl,_⟩ <;> rfl
theorem B5w {h:Bd} {K ver:Nat} {a:AV} {c:Option Nat} (hK:Bc h K = .cells ver [a]):Dd h (.oslice K ver none 0 1 c)=some (none,1,[a]):=by
 simp [Dd,Bg,hK]
theorem GaO.more {B:Nat} {h h1 h2:Bd} {o x x':AV} {X:List (AV×List Nat)} {c:List Nat} (hg:GaO B h o X) (hx:ExO B h x (nI6 c)) (hc:c≠[]) (h1e:∀j,B<=j->j<h.length->Bc h1 j=Bc h j) (hl:h.length<=h1.length)
  (ho:OwnG B h2 x' none (X.length+1) (X.map (·.1)++[x])) (hF:∀j,j<h1.length->Eu o≠some j->Bc h2 j=Bc h1 j):GaO B h2 x' (X++[(x,c)]):=by
 refine ⟨by rw [List.length_append,List.map_append]; exact ho,fun q hq => ?_⟩
 have key:∀(y:AV) (d:List Nat),ExO B h y (nI6 d)->d≠[]->ExO B h2 y (nI6 d):=by
  intro y d hy hd
  have hk:=fun k hk=>hg.key hy hd k hk
  rcases hy with hy | ⟨a,b⟩ | ⟨key,ver,a,b,e⟩
  ·exact .inl hy
  ·exact .inr (.inl ⟨a,b⟩)
  ·have hlt:=Ef e (by simp)
   have hne:Eu o≠some key:=fun hko=>hk key hko (by rw [b]; rfl)
   exact .inr (.inr ⟨key,ver,a,b,by rw [hF key (by omega) hne,h1e key a hlt,e]⟩)
 rcases List.mem_append.1 hq with hq | hq
 ·exact ⟨key _ _ (hg.2 q hq).1 (hg.2 q hq).2,(hg.2 q hq).2⟩
 ·obtain rfl:q=(x,c):=by simpa using hq
  exact ⟨key _ _ hx hc,hc⟩
theorem GaO.frz {B:Nat} {h:Bd} {o:AV} {X:List (AV×List Nat)} {m:Nat} (hg:GaO B h o X):Bj h (m+3) o = .ret (.slice none (X.map fun q=>De (nI6 q.2)) false):=by
 obtain ⟨h1,h2⟩:=hg
 refine A3m h1 ?_
 clear h1
 induction X with
 | nil=>rfl
 | cons q X ih=>exact Bv (h2 q (by simp)).1.frz (ih fun q hq=>h2 q (by simp [hq]))
attribute [local irreducible] Res.all evC Df Dh Bq Bh Dn Bf Bj G GO GV GP GC R
set_option maxRecDepth 100000
theorem Ub (p:List Nat) (hp:PermN p) (h1:1<=p.length) (h10:p.length<=10):Con T 10 36 [De (nI6 p)] (.tuple [.ptr [De (nI6 p)] 0,.int .i64 0]):=
 Awm t36 (Awh p hp h1 h10) fun v h' ⟨K,key,ver,hv,hK,hH,_⟩=>by
  subst hv
  exact Eh (Fh hK (Bv (Vi hH (by rw [Eq])) (Dc _ _))) (Bl _ _ _ _)
set_option maxHeartbeats 1000000 in
theorem A4m (p:List Nat) (hp:PermN p) (h10:p.length<=10):Con T 10 37 [.clo 94 [] [.ptr [.ptr [De (nI6 p)] 0] 0]] (Rx p):=by
 refine Bs t37 fun n hn V hV => ?_
 simp (disch:=first | assumption | omega) only [c37,go_sem,↓reduceIte]
 refine Fu ?_
 obtain ⟨n,rfl⟩:∃n',n=n'+1:=⟨n-1,by omega⟩
 rw [Eg t93]
 have hrep:List.replicate 5 AObj.none++List.replicate 13 AObj.none=List.replicate 18 AObj.none:=by rw [List.replicate_append_replicate]
 have hcl10:(Ee p).length<=10:=by
  have:(Vd p).length<=(List.range p.length).length:=List.length_filter_le _ _
  rw [List.length_range] at this
  rw [Ee,List.length_map]
  omega
 simp (disch:=first | assumption | omega) only [c93,go_sem,↓reduceIte,hrep]
 refine A1t (fun st=>At st.env [(2,.optr 7 0 0),(6,.clo 94 [] [.ptr [.ptr [De (nI6 p)] 0] 0])]/\st.heap.length=18/\Bc st.heap 7 = .cells 0 [.slice none [] true])
  ⟨by simp only [go_sem,↓reduceIte],by simp [Be],by simp only [go_sem,↓reduceIte]⟩ ?_
 rintro e h ⟨hE,hlen,g7⟩
 simp only [Bp,Bw] at hE hlen g7
 obtain ⟨f2,f6,-⟩:=hE
 refine Na (g:=94) (first:=[]) (captured:=[.ptr [.ptr [De (nI6 p)] 0] 0]) (by simp only [go_sem,↓reduceIte,f6]) hlen fun lf l1 l2 l3 l4 l5 => ?_
 refine Nt p hp h10 18 0 19 (fun r h'=>Bc h' 18 = .loop 0 .ready none lf/\19<=h'.length/\∃(o:AV) (X:List (AV×List Nat)),Bc h' 7 = .cells 0 [o]/\GaO 19 h' o X/\X.map (·.2)++r=Ee p)
  (fun r h1 h2 hF hL hJ => ?_) (by omega) (fun c r h' x hb hX hJ => ?_) _ (by rw [Be,hlen]; rfl) ?_ _ (fun v h' hJ => ?_)
 ·obtain ⟨a1,a2,o,X,a3,a4,a5⟩:=hJ
  exact ⟨by rw [hF _ (by omega),a1],by omega,o,X,by rw [hF _ (by omega),a3],a4.other fun j _ hj=>hF j hj,a5⟩
 ·obtain ⟨a1,a2,o,X,a3,a4,a5⟩:=hJ
  obtain ⟨q,rfl⟩:∃q,n=q+2:=⟨n-2,by omega⟩
  have hc0:c≠[]:=by
   have hm:c∈Ee p:=by rw [<-a5]; simp
   obtain ⟨i,_,rfl⟩:=List.mem_map.1 hm
   exact List.cons_ne_nil _ _
  have hXl:X.length<=10:=by
   have:=congrArg List.length a5
   simp only [List.length_append,List.length_map] at this
   omega
  refine Vk a1 (by rw [l3]; rfl) ?_
  rw [l4]
  simp (disch:=first | assumption | omega) only [go_sem,↓reduceIte,l1,l2,l3,Kc]
  refine ⟨none,lf,a1,?_⟩
  rw [l5]
  have hcx:=hX.cells
  have hox:=hX.oneB
  simp (disch:=first | assumption | omega) only [go_sem,↓reduceIte,f2,f6,a1,a3,hcx,hox]
  have hc10:18≠h'.length:=by omega
  refine Lu (lo:=19) (n:=X.length) (m:=1) (cs:=X.map (·.1)) (c2:=[x]) (by first | with_reducible rfl | (simp only [Be,List.length_append,List.length_replicate]; done) | (simp only [Be,List.length_append,List.length_replicate]; omega)) ?_ (by decide) (by simp only [Be]; omega) (B5w (getH_setH_self ..)) rfl (by omega) (by omega) fun x' h2 hO' hF hL hF2 _ => ?_
  ·exact a4.1.other fun j hj=>by
    have h1:=OwnG.keyLt a4.1 j hj
    have h2:19<=j:=by
     rcases a4.1 with ⟨_,_,ho⟩ | ⟨key,ver,a,ho,_⟩
     ·rw [ho] at hj; cases hj
     ·rw [ho] at hj
      obtain rfl:key=j:=by simpa [Eu] using hj
      exact a
    rw [Ba _ _ _ _ (by omega),Ba _ _ _ _ (by omega)]
  have g7':Bc h2 7 = .cells 0 [o]:=by rw [hF 7 (by omega),Ba _ _ _ _ (by omega),Ba _ _ _ _ (by omega),a3]
  have g18:Bc h2 18 = .loop 0 .busy none lf:=by rw [hF 18 (by omega),Ba _ _ _ _ (by omega),getH_setH_self]
  have hGa:=a4.more (h1:=setH (setH h' 18 (.loop 0 .busy none lf)) h'.length _) hX hc0 (fun j h1 h2=>by rw [Ba _ _ _ _ (by omega),Ba _ _ _ _ (by omega)]) (by simp only [Be]; omega) hO' hF2
  have hcx':=OwnG.cells hO'
  have hox':=OwnG.oneB hO'
  simp only [Be] at hL
  simp (disch:=first | assumption | omega) only [go_sem,↓reduceIte,f2,g7',g18,hcx',hox']
  refine ⟨.busy,none,lf,rfl,⟨rfl,(show 19<=h2.length by omega),x',X++[(x,c)],rfl,hGa.other fun j hj _ => ?_,by rw [List.map_append,List.append_assoc]; exact a5⟩,(show 19<=h2.length by omega)⟩
  rw [Ba _ _ _ _ (by omega),Ba _ _ _ _ (by omega)]
 ·refine ⟨by simp only [go_sem,↓reduceIte],by rw [Be,hlen]; decide,.slice none [] true,[],by rw [Ba _ _ _ _ (by omega),g7],⟨Qz ..,fun q hq=>by cases hq⟩,rfl⟩
 ·obtain ⟨a1,a2,o,X,a3,a4,a5⟩:=hJ
  rw [List.append_nil] at a5
  refine ⟨.ready,none,lf,a1,by decide,?_⟩
  simp (disch:=first | assumption | omega) only [go_sem,↓reduceIte,f2,a3]
  refine hV _ _ ?_
  have hG2:GaO 19 (setH h' 18 (.loop 0 .exhausted none lf)) o X:=a4.other fun j hj _=>Ba _ _ _ _ (by omega)
  rw [hG2.frz,Rx,<-a5,List.map_map]
  rfl
theorem A4h (p:List Nat) (hp:PermN p) (h1:1<=p.length) (h10:p.length<=10):Con T 12 9 [De (nI6 p)] (.tuple [Rx p,.int .i64 0]):=by
 refine Bs t9 fun n hn V hV => ?_
 have e0:((0:Int) != 0)=false:=rfl
 simp (disch:=first | assumption | omega) only [c9,go_sem,↓reduceIte]
 refine Dt (Ub p hp h1 h10) (by omega) (Di _ _ _ _ (By _)) rfl ?_
 simp (disch:=first | assumption | omega) only [go_sem,↓reduceIte,e0]
 refine Dt (Nn [De (nI6 p)] fun h=>Bv (Dm _ _ _ _ _) (Dc _ _)) (by omega) (Da (Dr _ _ _ _) (By _)) rfl ?_
 simp (disch:=first | assumption | omega) only [go_sem,↓reduceIte]
 refine Dt (A4m p hp h10) (by omega) (Da (Ho (Dc _ _) (Bv (Dr _ _ _ _) (Dc _ _))) (By _)) rfl ?_
 simp (disch:=first | assumption | omega) only [go_sem,↓reduceIte]
 exact hV _ _ (Eh (Dm _ _ _ _ _) (Bl _ _ _ _))
end Go.Ev.YtgehhippjhealaaGreatC
