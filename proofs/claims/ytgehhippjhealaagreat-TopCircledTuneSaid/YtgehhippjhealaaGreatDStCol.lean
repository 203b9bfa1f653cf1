/- The code of functions that are walked, compiled for the evaluator, as text. The code of functions that are walked, compiled for the evaluator, as text. The kept orders are as many as can be; what more work, earlier Dues and fewer orders change. Delays, step by step; what an exchange, more work, earlier Dues, one more order, later Dues and longer days change. Steps of neighbours bring a sequence of orders to that by Due, and no step makes the delay greater. Equality of lists, a copy, the right order, and a list given by swaps. A circle of joints, and the least number of a list. All circles, as they are yielded, and gathered. All circles gathered: Circles of layer 6. No condition but those that stand in each. -/
import Derived.Test.YtgehhippjhealaaGreatDTopW
import Derived.Test.YtgehhippjhealaaGreatDL5Prog2
import Derived.Test.YtgehhippjhealaaGreatDStWrong
import Derived.Test.YtgehhippjhealaaGreatDEvKer3
set_option linter.unusedSimpArgs false
set_option linter.unusedVariables false
set_option maxRecDepth 100000
namespace Go.Ev.YtgehhippjhealaaGreatC
open Go.Proofs
def c9:IFunc:=⟨17,[.tmp 2,.tmp 3],sO [dO 2 (.mv (.const (.slice none [] true))),dO 3 (.mv (cI 0))] (sO [mV 7 0,dO 8 (.callF false 36 [tM 7]),mV 6 8,xT 9 6 0,xT 10 6 1,mV 4 9,mV 5 10] (.seq (sO [mV 11 5,bC 12 .neq 11 0] (.cond (tM 12) (sO [mV 13 5,dO 2 (.mv (.const (.slice none [] true))),mV 3 13] .ret) .skip)) (sO [mV 14 4,dO 15 (.callF false 38 [tM 14]),dO 16 (.callF false 37 [tM 15]),mV 2 16,dO 3 (.mv (cI 0))] .ret)))⟩
theorem k9:(Bt Tryz.prog byr).fns 9=some c9:=by kernel_rfl
theorem t9:T.fns 9=some c9:=Bw k9 (by decide) (by decide)
def c37:IFunc:=⟨5,[.tmp 2],sO [dO 2 (.mv (.const (.slice none [] true)))] (sO [mV 3 0,dO 4 (.callF true 93 [.const (.slice none [] true),tM 3]),mV 2 4] .ret)⟩
theorem k37:(Bt Tryz.prog byr).fns 37=some c37:=by kernel_rfl
theorem t37:T.fns 37=some c37:=Bw k37 (by decide) (by decide)
def c38:IFunc:=⟨4,[.tmp 2],sO [dO 1 (.box (tM 0)),dO 2 (.mv (.const .nilfn))] (sO [dO 3 (.mkFunc 94 [] [tM 1]),mV 2 3] .ret)⟩
theorem k38:(Bt Tryz.prog byr).fns 38=some c38:=by kernel_rfl
theorem t38:T.fns 38=some c38:=Bw k38 (by decide) (by decide)
def c93:IFunc:=⟨13,[.tmp 4],sO [dO 2 (.box (tM 0)),dO 4 (.mv (.const (.slice none [] true)))] (.seq (sO [mV 6 1] (.block 0 (.rangeF (tM 6) [7] (.ops [mV 5 7]) (.block 1 (.ops [lD 8 2,mV 9 5,dO 10 (.buildSliceO none [.slice none [] true] [(0,(1,tM 9))]),dO 11 (.append none 24 (tM 8) (tM 10)),eO (.store 1 (tM 2) (tM 11))]))))) (sO [lD 12 2,mV 4 12] .ret))⟩
theorem k93:(Bt Tryz.prog byr).fns 93=some c93:=by kernel_rfl
theorem t93:T.fns 93=some c93:=Bw k93 (by decide) (by decide)
def c94:IFunc:=⟨32,[],sO [lD 6 1,dO 7 (.nilCheck (tM 6)),dO 8 (.fieldAddr 0 (tM 7)),dO 9 (.load (some 1) (tM 8)),dO 10 (.mkFunc 95 [tM 9] []),mV 3 10] (.seq .skip (sO [lD 11 1,dO 12 (.nilCheck (tM 11)),dO 13 (.fieldAddr 0 (tM 12)),dO 14 (.fieldAddr 0 (tM 13)),lD 15 14,lN 16 15,dO 17 (.mv (cI 0))] (.block 0 (.loop (sO [bB 18 .lss 17 16] (.seq (.cond (tM 18) .skip (.exit 0)) (.seq (.block 1 (sO [mV 19 17,mV 4 19] (sO [mV 20 3,mV 21 4,dO 22 (.call true (tM 20) [tM 21]),mV 5 22] (.seq (sO [mV 23 5,dO 24 (.callF false 96 [tM 23]),mV 25 4,bB 26 .lss 24 25] (.cond (tM 26) (.exit 1) .skip)) (sO [mV 27 0,mV 28 5,dO 29 (.call true (tM 27) [tM 28]),dO 30 (.un .not (tM 29))] (.cond (tM 30) .ret .skip)))))) (.ops [bC 31 .add 17 1,mV 17 31]))))))))⟩
theorem k94:(Bt Tryz.prog byr).fns 94=some c94:=by kernel_rfl
theorem t94:T.fns 94=some c94:=Bw k94 (by decide) (by decide)
def c95:IFunc:=⟨27,[.tmp 4],sO [dO 2 (.box (tM 0)),dO 4 (.mv (.const (.slice none [] true)))] (sO [mV 7 1,dO 8 (.buildSlice none [.int .i64 0] [(0,(1,tM 7))]),mV 5 8] (.seq (sO [dO 9 (.fieldAddr 0 (tM 2)),lD 10 9,mV 11 1,iA 12 10 11,lD 13 12,mV 6 13] (.block 0 (.loop (.seq (sO [mV 14 6,mV 15 1,bB 16 .neq 14 15] (.cond (tM 16) .skip (.exit 0))) (.seq (.block 1 (.ops [mV 22 5,mV 23 6,dO 24 (.buildSlice none [.int .i64 0] [(0,(1,tM 23))]),dO 25 (.append none 8 (tM 22) (tM 24)),mV 5 25])) (.ops [dO 17 (.fieldAddr 0 (tM 2)),lD 18 17,mV 19 6,iA 20 18 19,lD 21 20,mV 6 21])))))) (sO [mV 26 5,mV 4 26] .ret)))⟩
theorem k95:(Bt Tryz.prog byr).fns 95=some c95:=by kernel_rfl
theorem t95:T.fns 95=some c95:=Bw k95 (by decide) (by decide)
def c96:IFunc:=⟨25,[.tmp 2],sO [dO 2 (.mv (cI 0))] (.seq (sO [mV 5 0,lN 6 5,bC 7 .lss 6 1] (.cond (tM 7) (.ops [⟨some 8,.bad,none⟩,⟨none,.bad,none⟩]) .skip)) (sO [mV 9 0,dO 10 (.indexAddr 1 (tM 9) (cI 0)),lD 11 10,mV 3 11] (.seq (sO [dO 4 (.mv (cI 1))] (.block 0 (.loop (.seq (sO [mV 12 4,mV 13 0,lN 14 13,bB 15 .lss 12 14] (.cond (tM 15) .skip (.exit 0))) (.seq (.block 1 (.ops [mV 18 3,mV 19 0,mV 20 4,iA 21 19 20,lD 22 21,dO 23 (.min [tM 18,tM 22]),mV 3 23])) (.ops [mV 16 4,bC 17 .add 16 1,mV 4 17])))))) (sO [mV 24 3,mV 2 24] .ret))))⟩
theorem k96:(Bt Tryz.prog byr).fns 96=some c96:=by kernel_rfl
theorem t96:T.fns 96=some c96:=Bw k96 (by decide) (by decide)
def c28:IFunc:=⟨24,[.tmp 2],sO [dO 2 (.mv (.const (.slice none [] true)))] (sO [dO 3 (.mv (.const (.slice none [] true)))] (.seq (sO [dO 4 (.mv (cI 0))] (.block 0 (.loop (.seq (sO [mV 6 4,mV 7 0,lN 8 7,bB 9 .lss 6 8] (.cond (tM 9) .skip (.exit 0))) (.seq (.block 1 (sO [mV 12 0,mV 13 4,dO 14 (.callF false 69 [tM 12,tM 13]),mV 5 14] (sO [mV 15 5,dO 16 (.callF false 70 [tM 15]),mV 17 4,bB 18 .eql 16 17] (.cond (tM 18) (.ops [mV 19 3,mV 20 5,dO 21 (.buildSliceO none [.slice none [] true] [(0,(1,tM 20))]),dO 22 (.append none 24 (tM 19) (tM 21)),mV 3 22]) .skip)))) (.ops [mV 10 4,bC 11 .add 10 1,mV 4 11])))))) (sO [mV 23 3,mV 2 23] .ret)))⟩
theorem k28:(Bt Tryz.prog byr).fns 28=some c28:=by kernel_rfl
theorem t28:T.fns 28=some c28:=Bw k28 (by decide) (by decide)
def c69:IFunc:=⟨25,[.tmp 4],sO [dO 4 (.mv (.const (.slice none [] true)))] (sO [mV 7 1,dO 8 (.buildSlice none [.int .i64 0] [(0,(1,tM 7))]),mV 5 8] (.seq (sO [mV 9 0,mV 10 1,iA 11 9 10,lD 12 11,mV 6 12] (.block 0 (.loop (.seq (sO [mV 13 6,mV 14 1,bB 15 .neq 13 14] (.cond (tM 15) .skip (.exit 0))) (.seq (.block 1 (.ops [mV 20 5,mV 21 6,dO 22 (.buildSlice none [.int .i64 0] [(0,(1,tM 21))]),dO 23 (.append none 8 (tM 20) (tM 22)),mV 5 23])) (.ops [mV 16 0,mV 17 6,iA 18 16 17,lD 19 18,mV 6 19])))))) (sO [mV 24 5,mV 4 24] .ret)))⟩
theorem k69:(Bt Tryz.prog byr).fns 69=some c69:=by kernel_rfl
theorem t69:T.fns 69=some c69:=Bw k69 (by decide) (by decide)
def c6:IFunc:=⟨174,[.tmp 6],sO [dO 6 (.mv (cB false))] (.seq (sO [mV 25 0,lN 26 25,bC 27 .gtr 26 20,mV 28 27,gV 29 0 28 false,gO 30 (.callF false 7 [tM 29]) 28 false,gO 31 (.bin .neq (tM 30) (cI 0)) 28 false,dO 32 (.pick (tM 28) (cB true) (tM 31)),mV 33 32,gV 34 0 33 false,gO 35 (.callF false 28 [tM 34]) 33 false,gO 36 (.len (tM 35)) 33 false,gO 37 (.bin .gtr (tM 36) (cI 5)) 33 false,dO 38 (.pick (tM 33) (cB true) (tM 37))] (.cond (tM 38) (sO [dO 39 (.callF false 27 []),mV 6 39] .ret) .skip)) (sO [mV 41 0,dO 42 (.callF false 9 [tM 41]),mV 40 42,xT 43 40 0,xT 44 40 1,mV 7 43,mV 8 44] (.seq (sO [mV 45 8,bC 46 .neq 45 0,mV 47 46,gV 48 7 47 false,gO 49 (.len (tM 48)) 47 false,gV 50 0 47 false,gO 51 (.callF false 28 [tM 50]) 47 false,gO 52 (.len (tM 51)) 47 false,gO 53 (.bin .neq (tM 49) (tM 52)) 47 false,dO 54 (.pick (tM 47) (cB true) (tM 53))] (.cond (tM 54) (sO [dO 6 (.mv (cB false))] .ret) .skip)) (sO [mV 55 1,dO 56 (.conv .i64 (tM 55)),mV 57 2,dO 58 (.conv .i64 (tM 57)),mV 9 56,mV 10 58] (sO [dO 11 (.mv (.const (.slice (some 2) [] true)))] (.seq (sO [dO 12 (.mv (cI 0))] (.block 0 (.loop (.seq (sO [mV 59 12,mV 60 7,lN 61 60,bB 62 .lss 59 61] (.cond (tM 62) .skip (.exit 0))) (.seq (.block 1 (sO [mV 65 7,mV 66 12,iA 67 65 66,lD 68 67,lN 69 68,mV 13 69] (.seq (sO [mV 70 13,bC 71 .lss 70 1,mV 72 71,gV 73 13 72 false,gO 74 (.bin .gtr (tM 73) (cI 10)) 72 false,dO 75 (.pick (tM 72) (cB true) (tM 74))] (.cond (tM 75) (sO [dO 6 (.mv (cB false))] .ret) .skip)) (.ops [mV 76 11,mV 77 13,mV 78 9,mV 79 13,bB 80 .rem 78 79,dO 81 (.build [.int .i64 0,.int .i64 0] [(0,(1,tM 77)),(1,(1,tM 80))]),dO 82 (.buildSlice (some 2) [.int .i64 0,.int .i64 0] [(0,(2,tM 81))]),dO 83 (.append (some 2) 16 (tM 76) (tM 82)),mV 11 83])))) (.ops [mV 63 12,bC 64 .add 63 1,mV 12 64])))))) (sO [mV 85 11,dO 86 (.callF false 25 [tM 85]),mV 84 86,xT 87 84 0,xT 88 84 1,xT 89 84 2,mV 14 87,mV 15 88,mV 16 89] (sO [mV 91 0,dO 92 (.callF false 29 [tM 91]),mV 90 92,xT 93 90 0,xT 94 90 1,mV 17 93,mV 18 94] (.seq (sO [mV 95 16,bC 96 .neq 95 0,mV 97 96,gV 98 18 97 false,gO 99 (.bin .neq (tM 98) (cI 0)) 97 false,dO 100 (.pick (tM 97) (cB true) (tM 99)),mV 101 100,gV 102 17 101 false,gO 103 (.bin .lss (tM 102) (cI 1)) 101 false,dO 104 (.pick (tM 101) (cB true) (tM 103)),mV 105 104,gV 106 15 105 false,gV 107 17 105 false,gO 108 (.bin .neq (tM 106) (tM 107)) 105 false,dO 109 (.pick (tM 105) (cB true) (tM 108)),mV 110 109,gV 111 14 110 false,gV 112 9 110 false,gV 113 17 110 false,gO 114 (.bin .rem (tM 112) (tM 113)) 110 false,gO 115 (.bin .neq (tM 111) (tM 114)) 110 false,dO 116 (.pick (tM 110) (cB true) (tM 115))] (.cond (tM 116) (sO [dO 6 (.mv (cB false))] .ret) .skip)) (sO [mV 118 0,mV 119 9,dO 120 (.callF false 30 [tM 118,tM 119]),mV 117 120,xT 121 117 0,xT 122 117 1,mV 19 121,mV 16 122] (sO [mV 124 0,mV 125 14,dO 126 (.callF false 30 [tM 124,tM 125]),mV 123 126,xT 127 123 0,xT 128 123 1,mV 20 127,mV 18 128] (sO [mV 130 0,mV 131 10,dO 132 (.callF false 30 [tM 130,tM 131]),mV 129 132,xT 133 129 0,xT 134 129 1,mV 21 133,mV 22 134] (sO [mV 136 11,mV 137 10,dO 138 (.callF false 31 [tM 136,tM 137]),mV 135 138,xT 139 135 0,xT 140 135 1,mV 23 139,mV 24 140] (sO [mV 141 16,bC 142 .eql 141 0,mV 143 142,gV 144 18 143 true,gO 145 (.bin .eql (tM 144) (cI 0)) 143 true,dO 146 (.pick (tM 143) (tM 145) (cB false)),mV 147 146,gV 148 22 147 true,gO 149 (.bin .eql (tM 148) (cI 0)) 147 true,dO 150 (.pick (tM 147) (tM 149) (cB false)),mV 151 150,gV 152 24 151 true,gO 153 (.bin .eql (tM 152) (cI 0)) 151 true,dO 154 (.pick (tM 151) (tM 153) (cB false)),mV 155 154,gV 156 19 155 true,gV 157 20 155 true,gO 158 (.callF false 32 [tM 156,tM 157]) 155 true,dO 159 (.pick (tM 155) (tM 158) (cB false)),mV 160 159,gV 161 19 160 true,gV 162 21 160 true,gO 163 (.callF false 32 [tM 161,tM 162]) 160 true,gV 164 23 160 true,gO 165 (.len (tM 164)) 160 true,gV 166 11 160 true,gO 167 (.len (tM 166)) 160 true,gO 168 (.bin .eql (tM 165) (tM 167)) 160 true,gO 169 (.eqB false (tM 163) (tM 168)) 160 true,dO 170 (.pick (tM 160) (tM 169) (cB false)),mV 171 170,gO 172 (.callF false 27 []) 171 true,dO 173 (.pick (tM 171) (tM 172) (cB false)),mV 6 173] .ret))))))))))))))⟩
def c4:IFunc:=⟨232,[.tmp 6],sO [dO 6 (.mv (cB false))] (sO [mV 30 0,lN 31 30,mV 7 31] (.seq (sO [mV 32 7,bC 33 .lss 32 1,mV 34 33,gV 35 7 34 false,gO 36 (.bin .gtr (tM 35) (cI 10)) 34 false,dO 37 (.pick (tM 34) (cB true) (tM 36)),mV 38 37,gV 39 0 38 false,gO 40 (.callF false 17 [tM 39]) 38 false,gO 41 (.bin .neq (tM 40) (cI 0)) 38 false,dO 42 (.pick (tM 38) (cB true) (tM 41)),mV 43 42,gV 44 1 43 false,gO 45 (.len (tM 44)) 43 false,gO 46 (.bin .gtr (tM 45) (cI 30)) 43 false,dO 47 (.pick (tM 43) (cB true) (tM 46))] (.cond (tM 47) (sO [dO 48 (.callF false 8 []),mV 6 48] .ret) .skip)) (sO [dO 8 (.mv (cI 0))] (sO [dO 9 (.mv (.const (.slice none [] true)))] (.seq (sO [dO 10 (.mv (cI 0))] (.block 0 (.loop (.seq (sO [mV 49 10,mV 50 7,bB 51 .lss 49 50] (.cond (tM 51) .skip (.exit 0))) (.seq (.block 1 (sO [mV 54 0,mV 55 10,dO 56 (.indexAddr 3 (tM 54) (tM 55)),dO 57 (.fieldAddr 0 (tM 56)),dO 58 (.fieldAddr 0 (tM 57)),lD 59 58,mV 11 59] (.seq (sO [mV 60 2] (.cond (tM 60) (sO [dO 8 (.mv (cI 1))] (.ops [mV 61 0,mV 62 10,dO 63 (.indexAddr 3 (tM 61) (tM 62)),dO 64 (.fieldAddr 0 (tM 63)),dO 65 (.fieldAddr 1 (tM 64)),lD 66 65,mV 11 66])) .skip)) (.ops [mV 67 9,mV 68 11,dO 69 (.buildSlice none [.int .i64 0] [(0,(1,tM 68))]),dO 70 (.append none 8 (tM 67) (tM 69)),mV 9 70])))) (.ops [mV 52 10,bC 53 .add 52 1,mV 10 53])))))) (sO [mV 72 0,dO 73 (.callF false 18 [tM 72]),mV 71 73,xT 74 71 0,xT 75 71 1,mV 12 74,mV 13 75] (.seq (sO [mV 76 13,bC 77 .neq 76 0,mV 78 77,gV 79 12 78 false,gO 80 (.len (tM 79)) 78 false,gV 81 7 78 false,gO 82 (.bin .neq (tM 80) (tM 81)) 78 false,dO 83 (.pick (tM 78) (cB true) (tM 82)),mV 84 83,gV 85 12 84 false,gO 86 (.callF false 7 [tM 85]) 84 false,gO 87 (.bin .neq (tM 86) (cI 0)) 84 false,dO 88 (.pick (tM 84) (cB true) (tM 87))] (.cond (tM 88) (sO [dO 6 (.mv (cB false))] .ret) .skip)) (sO [mV 89 7,dO 90 (.mkSlice none [.int .i64 0] 8 (tM 89) (tM 89)),mV 14 90] (.seq (sO [dO 15 (.mv (cI 0))] (.block 2 (.loop (.seq (sO [mV 91 15,mV 92 7,bB 93 .lss 91 92] (.cond (tM 93) .skip (.exit 2))) (.seq (.block 3 (.ops [mV 96 14,mV 97 12,mV 98 15,iA 99 97 98,lD 100 99,mV 101 15,iA 102 96 100,eO (.store 1 (tM 102) (tM 101))])) (.ops [mV 94 15,bC 95 .add 94 1,mV 15 95])))))) (sO [mV 103 7,mV 104 1,dO 105 (.callF false 19 [tM 103,tM 104]),mV 16 105] (sO [dO 17 (.mv (.const (.slice none [] true)))] (.seq (sO [dO 18 (.mv (cI 0))] (.block 4 (.loop (.seq (sO [mV 106 18,mV 107 7,bB 108 .lss 106 107] (.cond (tM 108) .skip (.exit 4))) (.seq (.block 5 (.ops [mV 111 17,mV 112 14,mV 113 16,mV 114 18,iA 115 113 114,lD 116 115,iA 117 112 116,lD 118 117,dO 119 (.buildSlice none [.int .i64 0] [(0,(1,tM 118))]),dO 120 (.append none 8 (tM 111) (tM 119)),mV 17 120])) (.ops [mV 109 18,bC 110 .add 109 1,mV 18 110])))))) (sO [mV 122 17,dO 123 (.callF false 20 [tM 122]),mV 121 123,xT 124 121 0,xT 125 121 1,mV 19 124,mV 20 125] (sO [mV 127 17,dO 128 (.callF false 21 [tM 127]),mV 126 128,xT 129 126 0,xT 130 126 1,mV 21 129,mV 22 130] (sO [mV 132 0,mV 133 16,mV 134 9,dO 135 (.callF false 22 [tM 132,tM 133,tM 134]),mV 131 135,xT 136 131 0,xT 137 131 1,mV 23 136,mV 24 137] (.seq (sO [mV 138 20,bC 139 .neq 138 0,mV 140 139,gV 141 22 140 false,gO 142 (.bin .neq (tM 141) (cI 0)) 140 false,dO 143 (.pick (tM 140) (cB true) (tM 142)),mV 144 143,gV 145 19 144 false,gO 146 (.len (tM 145)) 144 false,gV 147 21 144 false,gO 148 (.len (tM 147)) 144 false,gO 149 (.bin .neq (tM 146) (tM 148)) 144 false,dO 150 (.pick (tM 144) (cB true) (tM 149)),mV 151 150,gV 152 19 151 false,gO 153 (.len (tM 152)) 151 false,gO 154 (.bin .gtr (tM 153) (cI 45)) 151 false,dO 155 (.pick (tM 151) (cB true) (tM 154)),mV 156 155,gV 157 24 156 false,gO 158 (.bin .neq (tM 157) (cI 0)) 156 false,dO 159 (.pick (tM 156) (cB true) (tM 158))] (.cond (tM 159) (sO [dO 6 (.mv (cB false))] .ret) .skip)) (.seq (sO [dO 25 (.mv (cI 0))] (.block 6 (.loop (.seq (sO [mV 160 25,mV 161 19,lN 162 161,bB 163 .lss 160 162] (.cond (tM 163) .skip (.exit 6))) (.seq (.block 7 (sO [mV 166 19,mV 167 25,iA 168 166 167,lD 169 168,mV 26 169] (.seq (sO [mV 170 26,bC 171 .lss 170 0,mV 172 171,gV 173 26 172 false,gO 174 (.bin .add (tM 173) (cI 1)) 172 false,gV 175 7 172 false,gO 176 (.bin .geq (tM 174) (tM 175)) 172 false,dO 177 (.pick (tM 172) (cB true) (tM 176))] (.cond (tM 177) (sO [dO 6 (.mv (cB false))] .ret) .skip)) (sO [mV 178 16,dO 179 (.callF true 15 [tM 178]),mV 16 179] (sO [mV 180 16,mV 181 26,mV 182 16,mV 183 26,bC 184 .add 183 1,mV 185 16,mV 186 26,bC 187 .add 186 1,iA 188 185 187,lD 189 188,mV 190 16,mV 191 26,iA 192 190 191,lD 193 192,iA 194 180 181,eO (.store 1 (tM 194) (tM 189)),iA 195 182 184,eO (.store 1 (tM 195) (tM 193))] (sO [mV 197 0,mV 198 16,mV 199 9,dO 200 (.callF false 22 [tM 197,tM 198,tM 199]),mV 196 200,xT 201 196 0,xT 202 196 1,mV 27 201,mV 28 202] (.seq (sO [mV 203 28,bC 204 .neq 203 0,mV 205 204,gV 206 27 205 false,gV 207 23 205 false,gO 208 (.bin .gtr (tM 206) (tM 207)) 205 false,dO 209 (.pick (tM 205) (cB true) (tM 208))] (.cond (tM 209) (sO [dO 6 (.mv (cB false))] .ret) .skip)) (.ops [mV 210 27,mV 23 210])))))))) (.ops [mV 164 25,bC 165 .add 164 1,mV 25 165])))))) (sO [mV 212 0,mV 213 8,dO 214 (.callF false 23 [tM 212,tM 213]),mV 211 214,xT 215 211 0,xT 216 211 1,mV 29 215,mV 13 216] (sO [mV 217 13,bC 218 .eql 217 0,mV 219 218,gV 220 16 219 true,gV 221 12 219 true,gO 222 (.callF false 14 [tM 220,tM 221]) 219 true,dO 223 (.pick (tM 219) (tM 222) (cB false)),mV 224 223,gV 225 23 224 true,gV 226 29 224 true,gO 227 (.bin .eql (tM 225) (tM 226)) 224 true,dO 228 (.pick (tM 224) (tM 227) (cB false)),mV 229 228,gO 230 (.callF false 8 []) 229 true,dO 231 (.pick (tM 229) (tM 230) (cB false)),mV 6 231] .ret)))))))))))))))))))⟩
theorem k4:(Bt Tryz.prog byr).fns 4=some c4:=by kernel_rfl
theorem t4:T.fns 4=some c4:=Bw k4 (by decide) (by decide)
end Go.Ev.YtgehhippjhealaaGreatC
namespace Go.Ev.YtgehhippjhealaaGreatC.P5
open Go
theorem Aqc {l:List Order} {w:List Int} (hw:∀x∈w,0<=x) {T:List Int} (h:Gc l w 0 T=true):Feas l w T:=by
 rw [Mv] at h
 intro d hd
 obtain ⟨x,hx,hxd⟩:=hd
 obtain ⟨k,i,hk,hp,hdrop⟩:=A6k (fun i=>decide (Dh l i<=d)) T ⟨x,hx,by simpa using hxd⟩
 have h3:T.filter (fun i=>decide (Dh l i<=d))=(T.take (k+1)).filter fun i=>decide (Dh l i<=d):=by
  conv=>lhs; rw [<-List.take_append_drop (k+1) T]
  rw [List.filter_append,hdrop,List.append_nil]
 have h4:=My hw (fun i=>decide (Dh l i<=d)) (T.take (k+1))
 have h5:=h k i hk
 have h6:Dh l i<=d:=by simpa using hp
 rw [h3]
 omega
theorem A1k {l m:List Order} {w v:List Int}:∀(S:List Int) (d d':Int),d'<=d->(∀i∈S,wk v i<=wk w i/\Dh l i<=Dh m i)->Gc l w d S=true->Gc m v d' S=true
 | [],_,_,_,_,_=>rfl
 | i::r,d,d',hd,hi,h=>by
  have h1:=hi i List.mem_cons_self
  simp only [Gc,Bool.and_eq_true,decide_eq_true_eq] at h ⊢
  exact ⟨by omega,A1k r (d+wk w i) (d'+wk v i) (by omega) (fun j hj=>hi j (List.mem_cons_of_mem _ hj)) h.2⟩
theorem Feas.mono {l m:List Order} {w v T:List Int} (hw:∀x∈w,0<=x) (hv:∀x∈v,0<=x) (hi:∀i∈T,wk v i<=wk w i/\Dh l i<=Dh m i) (h:Feas l w T):Feas m v T:=by
 have hp:(Eo (Dh l) [] T).Perm T:=by simpa using Iv (Dh l) T []
 have hs:(Eo (Dh l) [] T).Pairwise fun a b=>Dh l a<=Dh l b:=Id _ _ _ List.Pairwise.nil
 have h1:=(Ajb hw hs).2 (h.perm hp.symm)
 have h2:=A1k (m:=m) (v:=v) _ 0 0 (Int.le_refl 0) (fun i hi'=>hi i (hp.mem_iff.1 hi')) h1
 exact (Aqc hv h2).perm hp
def wi (l:List Order) (w:List Int) (D:Int):Int->List Int->Prop
 | _,[]=>True
 | day,i::r=>day+wk w i-Dh l i<=D/\wi l w D (day+wk w i) r
def atR (l:List Order) (i:Int):Int:=((Du l).idxOf i:Nat)
end Go.Ev.YtgehhippjhealaaGreatC.P5
namespace Go.Ev.YtgehhippjhealaaGreatC
open Go Go.Proofs
attribute [local irreducible] Res.all evC Dd Df Br Bh Dj Bd Bi G GO GV GP GC R
theorem Ajv (l:List Int) (h10:l.length<=1000):Con T 1 32 [Dv l,Dv l] (.bool true):=by
 refine Bu t32 fun n hn V hV => ?_
 have e0:((l.length:Int) != l.length)=false:=by simp
 simp (disch:=omega) only [c32,go_sem,↓reduceIte,e0]
 refine Da (fun M s=>∃k:Nat,M=l.length-k/\k<=l.length/\At s.env [(0,Dv l),(1,Dv l),(5,.int .i64 k)]) l.length (by omega) ⟨0,by simp,by omega,by simp only [go_sem,↓reduceIte]⟩ ?_
 rintro M e h hM ⟨k,rfl,hk,hE⟩ P hP
 simp only [Bp,Bx] at hE
 obtain ⟨h0,h1,h5,-⟩:=hE
 by_cases hlt:k<l.length
 ·obtain ⟨y,hy⟩:=Fm hlt
  have ey:(y != y)=false:=by simp
  have hlt':(k:Int)<(l.length:Int):=by omega
  simp (disch:=omega) only [go_sem,↓reduceIte,h0,h1,h5,hlt',hy,ey]
  exact hP (l.length-(k+1)) _ (by omega) ⟨k+1,rfl,by omega,by simp only [go_sem,↓reduceIte,h0,h1]⟩
 ·have hlt':¬(k:Int)<(l.length:Int):=by omega
  simp (disch:=omega) only [go_sem,↓reduceIte,h0,h1,h5,hlt']
  exact hV _ _ (Dk _ _ _)
theorem Air (l:List Int) (h10:l.length<=1000):Con T 2 14 [Dv l,Dv l] (.bool true):=by
 refine Bu t14 fun n hn V hV => ?_
 simp (disch:=omega) only [c14,go_sem,↓reduceIte]
 refine Do (Ajv l h10) hn (Dm _ _ _ _ (Dm _ _ _ _ (Bz _))) (Fn _ _) ?_
 simp (disch:=omega) only [go_sem,↓reduceIte]
 exact hV _ _ (Dk _ _ _)
section
variable {n base:Nat} {Q:EX×St->Prop} {d:Option Nat} {L:List IOper} {ks:List Kont} {e:Env} {h:Bc}
theorem Ale {call:Bo} {b m kk:Nat} {y:AV} {k:IntKind} {l2:List Int} (hkk:kk=h.length) (hy:De h y=some (none,m,l2.map (.int k))) (hm:m=l2.length) (hm0:0<m) (hr:m*b<=1099511627776)
  (H:GO call base Q L ks ⟨Bj e d (.oslice h.length (Bb h h.length).next none 0 l2.length none),setH h h.length (.cells (Bb h h.length).next (l2.map (.int k)))⟩) :
  GP call base Q d L ks e (Dg kk none b (.slice none [] true) y h):=by
 subst hm hkk
 have hroom:=If hr
 have h0:¬l2.length=0:=by omega
 have:Dg h.length none b (.slice none [] true) y h = .ret (.oslice h.length (Bb h h.length).next none 0 l2.length none,setH h h.length (.cells (Bb h h.length).next (l2.map (.int k)))):=by
  simp only [Dg,hy,List.length_nil,hroom,ne_eq,not_true_eq_false,if_false,Bool.true_eq_false,or_self,h0,Nat.zero_add,Eh,List.nil_append]
 rw [this,Gu]
 exact H
theorem Aqt {l:List Int} {x:AV} (h1:1<=l.length) (h10:l.length<=1000) (hx:De (h++List.replicate 6 .none) x=some (none,l.length,l.map (.int .i64)))
  (hq:∀key ver h',Bb h' key = .cells ver (l.map (.int .i64))->h.length<=key->key<h'.length->(∀j,j<h.length->Bb h' j=Bb h j)->h.length<=h'.length->GO (Bd T (n+1)) base Q L ks ⟨Bj e d (.oslice key ver none 0 l.length none),h'⟩) :
  GP (Bd T (n+1)) base Q d L ks e (Bd T (n+1) true (.fn 15) [x] h):=by
 refine Ex ?_
 rw [Dt t15]
 simp (disch:=omega) only [c15,go_sem,↓reduceIte]
 refine Ale (m:=l.length) (l2:=l) (by simp only [List.length_append,List.length_replicate]) hx rfl (by omega) (by omega) ?_
 simp (disch:=omega) only [go_sem,↓reduceIte,Gs,mapR]
 refine hq _ _ _ (getH_setH_self ..) (by simp) (by simp only [Be,List.length_append,List.length_replicate]; omega) (fun j hj => ?_) (by simp only [Be,List.length_append,List.length_replicate]; omega)
 rw [Ba _ _ _ _ (by simp; omega),Bg]
end
end Go.Ev.YtgehhippjhealaaGreatC
namespace Go.Ev.YtgehhippjhealaaGreatC
open Go Go.Proofs
def ExO (lo:Nat) (h:Bc) (x:AV) (l:List Int):Prop:=x = .slice none (l.map (.int .i64)) true\/Own lo h x .i64 l
theorem ExO.frz {lo:Nat} {h:Bc} {x:AV} {l:List Int} {n:Nat} (hx:ExO lo h x l):Bi h (n+2) x = .ret (Dv l):=by
 rcases hx with rfl | hx
 ·exact Ds _ _ _ _ _
 ·exact Jd hx
theorem ExO.lenA {lo:Nat} {h:Bc} {x:AV} {l:List Int} (hx:ExO lo h x l):lenA x=some l.length:=by
 rcases hx with rfl | hx
 ·rw [Vx,List.length_map]
 ·exact hx.lenA
theorem ExO.cells {lo:Nat} {h:Bc} {x:AV} {l:List Int} (hx:ExO lo h x l):x.cells=[x]:=by
 rcases hx with rfl | hx
 ·rfl
 ·exact hx.cells
theorem ExO.oneB {lo:Nat} {h:Bc} {x:AV} {l:List Int} (hx:ExO lo h x l):oneB x=true:=by
 rcases hx with rfl | hx
 ·rfl
 ·exact hx.oneB
theorem ExO.other {lo:Nat} {h h':Bc} {x:AV} {l:List Int} (hx:ExO lo h x l) (hf:∀j,j<h.length->Bb h' j=Bb h j):ExO lo h' x l:=by
 rcases hx with rfl | hx
 ·exact .inl rfl
 ·exact .inr (hx.other fun j hj=>hf j (hx.keyLt j hj))
theorem ExO.weak {lo lo':Nat} {h:Bc} {x:AV} {l:List Int} (hl:lo'<=lo) (hx:ExO lo h x l):ExO lo' h x l:=by
 rcases hx with rfl | ⟨a,b⟩ | ⟨key,ver,a,b,c⟩
 ·exact .inl rfl
 ·exact .inr (.inl ⟨a,b⟩)
 ·exact .inr (.inr ⟨key,ver,by omega,b,c⟩)
theorem Aea {call:Bo} {base:Nat} {Q:EX×St->Prop} {d:Option Nat} {L:List IOper} {ks:List Kont} {e:Env} {h:Bc} {lo b kk:Nat} {x:AV} {l:List Int} {a:Int} {ex:Bool} (hkk:kk=h.length) (hx:ExO lo h x l) (hlo:lo<=h.length) (hr:(l.length+1)*b<=1099511627776)
  (H:∀x' h',Own lo h' x' .i64 (l++[a])->(∀j,j<lo->Bb h' j=Bb h j)->h.length<=h'.length->GO call base Q L ks ⟨Bj e d x',h'⟩) :
  GP call base Q d L ks e (Dg kk none b x (.slice none [.int .i64 a] ex) h):=by
 rcases hx with rfl | hx
 ·subst hkk
  have hroom:=If hr
  have:Dg h.length none b (.slice none (l.map (.int .i64)) true) (.slice none [.int .i64 a] ex) h = .ret (.oslice h.length (Bb h h.length).next none 0 (l.length+1) none,setH h h.length (.cells (Bb h h.length).next ((l++[a]).map (.int .i64)))):=by
   have h1:¬(1:Nat)=0:=by omega
   have hc:De h (.slice none [.int .i64 a] ex)=some (none,1,[AV.int .i64 a]):=rfl
   simp only [Dg,hc,List.length_map,hroom,ne_eq,not_true_eq_false,if_false,Bool.true_eq_false,or_self,h1,Eh,List.map_append,List.map_cons,List.map_nil]
  rw [this,Gu]
  refine H _ _ (.inr ⟨h.length,_,hlo,by rw [List.length_append]; rfl,by simp⟩) (fun j hj=>Ba _ _ _ _ (by omega)) (by rw [Be]; omega)
 ·exact Is hkk hx hlo hr fun x' h' a1 a2 a3 _ _=>H x' h' a1 a2 a3
def mnL:List Nat->Nat
 | []=>0
 | a::r=>r.foldl Nat.min a
def mnI (l:List Int) (a:Int):Int:=l.foldl (fun x y=>if y<x then y else x) a
theorem Age:∀(r:List Nat) (a:Nat),mnI (nI6 r) a=(r.foldl Nat.min a:Nat)
 | [],a=>rfl
 | b::r,a=>by
  have ih:=Age r (Nat.min a b)
  have e:(if (b:Int)<(a:Int) then (b:Int) else a)=((Nat.min a b:Nat):Int):=by
   show _=((min a b:Nat):Int)
   split <;> omega
  simp only [mnI,nI6,List.map_cons,List.foldl_cons] at ih ⊢
  rw [e]
  exact ih
theorem Rc:∀(r:List Nat) (a m:Nat),m<=r.foldl Nat.min a↔m<=a/\∀x∈r,m<=x
 | [],a,m=>by simp
 | b::r,a,m=>by
  rw [List.foldl_cons,Rc r _ m]
  have:m<=Nat.min a b↔m<=a/\m<=b:=Nat.le_min
  rw [this]
  simp only [List.mem_cons,forall_eq_or_imp]
  exact ⟨fun ⟨⟨h1,h2⟩,h3⟩=>⟨h1,h2,h3⟩,fun ⟨h1,h2,h3⟩=>⟨⟨h1,h2⟩,h3⟩⟩
theorem Ayf (p:List Nat) (i:Nat):(mnL (cyc p i)<i↔Gb p i=false)/\(mnL (cyc p i)=i↔Gb p i=true):=by
 have h1:i<=mnL (cyc p i)↔Gb p i=true:=by
  rw [cyc,mnL,Rc,Gb,List.all_eq_true]
  constructor
  ·intro ⟨_,h⟩ x hx
   rw [cyc] at hx
   rcases List.mem_cons.1 hx with rfl | hx
   ·simp
   ·simpa using h x hx
  ·intro h
   exact ⟨Nat.le_refl _,fun x hx=>by simpa using h x (by rw [cyc]; exact List.mem_cons_of_mem _ hx)⟩
 have h2:mnL (cyc p i)<=i:=by
  have:=(Rc (Zi p i p.length (stp p i)) i (mnL (cyc p i))).1 (Nat.le_refl _)
  exact this.1
 constructor
 ·constructor
  ·intro h
   cases hm:Gb p i with
   | false=>rfl
   | true=>have:=h1.2 hm; omega
  ·intro h
   have:¬i<=mnL (cyc p i):=fun hc=>by rw [h1.1 hc] at h; cases h
   omega
 ·constructor
  ·intro h
   exact h1.1 (by omega)
  ·intro h
   have:=h1.2 h
   omega
attribute [local irreducible] Res.all evC Dd Df Br Bh Dj Bd Bi G GO GV GP GC R
theorem Afy {p:List Nat} (hp:PermN p) {i:Nat} (hi:i<p.length) (m:Nat):(nI6 p)[itp p m i]? = some ((itp p (m+1) i:Nat):Int):=by
 have hlt:=Jp hp m i hi
 rw [A0g hlt,Js,Lp hlt]
theorem Akt (p:List Nat) (hp:PermN p) (h10:p.length<=10) {i:Nat} (hi:i<p.length) {n:Nat} {h:Bc} {V:AV×Bc->Prop}
  (hV:∀x h',ExO h.length h' x (nI6 (cyc p i))->(∀j,j<h.length->Bb h' j=Bb h j)->h.length<=h'.length->V (x,h')) :
  (Bd T (n+1) true (.fn 95) [.agg [Dv (nI6 p)],.int .i64 (i:Nat)] h).all V:=by
 rw [Dt t95]
 obtain ⟨q0,q1,q2,q3,q4⟩:=Fk hp hi
 have hl:=Gp p
 have g0:=Afy hp hi 0
 have e0:itp p 0 i=i:=rfl
 rw [e0] at g0
 have hnb:Bb (h++List.replicate 27 .none) (h.length+2) = .none:=Hm _ _ _
 simp (disch:=first | assumption | omega) only [c95,go_sem,↓reduceIte,hl,g0,hnb]
 refine Da (fun M st=>∃(m:Nat) (x:AV),M=per p i-m/\0<m/\m<=per p i/\At st.env [(1,.int .i64 (i:Nat)),(2,.optr (h.length+2) 0 0),(5,x),(6,.int .i64 (itp p m i:Nat))]/\Bb st.heap (h.length+2) = .cells 0 [Dv (nI6 p)]/\ExO (h.length+27) st.heap x (nI6 ((List.range m).map fun j=>itp p j i))/\h.length+27<=st.heap.length/\(∀j,j<h.length->Bb st.heap j=Bb h j)) (per p i-1) (by omega)
  ⟨1,.slice none [.int .i64 i] true,by omega,by omega,by omega,by simp only [go_sem,↓reduceIte],by simp only [go_sem,↓reduceIte],.inl rfl,by simp only [Be,List.length_append,List.length_replicate]; omega,fun j hj=>by rw [Ba _ _ _ _ (by omega),Bg]⟩ ?_
 rintro M e h1 hM ⟨m,x,rfl,hm0,hm,hE,hB,hX,hL,hF⟩ P hP
 simp only [Bp,Bx] at hE hX hL hB hF
 obtain ⟨f1,f2,f5,f6,-⟩:=hE
 have gm:=Afy hp hi m
 have hsn:nI6 ((List.range (m+1)).map fun j=>itp p j i)=nI6 ((List.range m).map fun j=>itp p j i)++[((itp p m i:Nat):Int)]:=by simp [nI6,List.range_succ]
 have hln:(nI6 ((List.range m).map fun j=>itp p j i)).length=m:=by simp [nI6]
 by_cases hlt:m<per p i
 ·have hne:itp p m i≠i:=q3 m hm0 hlt
  have hne':(((itp p m i:Nat):Int) != (i:Int))=true:=by
   simp only [bne_iff_ne,ne_eq]
   omega
  simp (disch:=first | assumption | omega) only [go_sem,↓reduceIte,f1,f2,f5,f6,hne']
  refine Aea (by first | with_reducible rfl | (simp only [Be,List.length_append,List.length_replicate]; done) | (simp only [Be,List.length_append,List.length_replicate]; omega)) hX hL (by rw [hln]; omega) fun x' h' hX' hF' hL' => ?_
  have hB':Bb h' (h.length+2) = .cells 0 [Dv (nI6 p)]:=by rw [hF' _ (by omega),hB]
  simp (disch:=first | assumption | omega) only [go_sem,↓reduceIte,f2,f6,hB',gm,hl]
  exact hP (per p i-(m+1)) _ (by omega) ⟨m+1,x',rfl,by omega,by omega,by simp only [go_sem,↓reduceIte,f1,f2],hB',by rw [hsn]; exact .inr hX',(show h.length+27<=h'.length by omega),fun j hj=>by rw [hF' j (by omega),hF j hj]⟩
 ·obtain rfl:m=per p i:=by omega
  have hne':(((itp p (per p i) i:Nat):Int) != (i:Int))=false:=by rw [q2]; simp
  rw [<-q4] at hX
  simp (disch:=first | assumption | omega) only [go_sem,↓reduceIte,f1,f5,f6,hne',Gs,mapR]
  exact hV _ _ (hX.weak (by omega)) hF (by omega)
theorem Are (a:Nat) (r:List Nat) (h10:r.length<=1000):Con T 1 96 [Dv (nI6 (a::r))] (.int .i64 (mnL (a::r))):=by
 refine Bu t96 fun n hn V hV => ?_
 have hl:=Gp (a::r)
 have g0:(nI6 (a::r))[0]? = some (a:Int):=rfl
 have hmn:=Age r a
 have hmn2:(r.foldl Nat.min a:Nat)=mnL (a::r):=rfl
 rw [hmn2] at hmn
 have hdr:(nI6 (a::r)).drop 1=nI6 r:=rfl
 rw [<-hdr] at hmn
 have hR1:¬(((a::r).length:Nat):Int)<1:=by simp only [List.length_cons]; omega
 have hR2:1<=(a::r).length:=by simp only [List.length_cons]; omega
 have hR3:(a::r).length<=1001:=by simp only [List.length_cons]; omega
 generalize hN:nI6 (a::r)=N at *
 generalize hR:(a::r).length=R at *
 simp (disch:=first | assumption | omega) only [c96,go_sem,↓reduceIte,hl,g0,hR1]
 refine Da (fun M s=>∃(k:Nat) (y:Int),M=R-k/\k<=R/\At s.env [(0,Dv N),(3,.int .i64 y),(4,.int .i64 k)]/\mnI (N.drop k) y=mnI (N.drop 1) a) (R-1) (by omega) ⟨1,a,by omega,by omega,by simp only [go_sem,↓reduceIte],rfl⟩ ?_
 rintro M e h hM ⟨k,y,rfl,hk,hE,hA⟩ P hP
 simp only [Bp,Bx] at hE
 obtain ⟨f0,f3,f4,-⟩:=hE
 by_cases hlt:k<R
 ·have hlt':(k:Int)<(R:Int):=by omega
  have gk:N[k]? = some (N.getD k 0):=by rw [List.getD_eq_getElem?_getD,List.getElem?_eq_getElem (by omega)]; rfl
  rw [Fy gk] at hA
  have hA2:mnI (N.drop (k+1)) (if N.getD k 0<y then N.getD k 0 else y)=mnI (N.drop 1) a:=hA
  simp (disch:=first | assumption | omega) only [go_sem,↓reduceIte,f0,f3,f4,hlt',gk,Qb,hl]
  exact hP (R-(k+1)) _ (by omega) ⟨k+1,_,rfl,by omega,by simp only [go_sem,↓reduceIte,f0],hA2⟩
 ·have hlt':¬(k:Int)<(R:Int):=by omega
  rw [List.drop_eq_nil_of_le (by omega)] at hA
  have hy:y=mnI (N.drop 1) a:=hA
  simp (disch:=first | assumption | omega) only [go_sem,↓reduceIte,f0,f3,f4,hlt',hl]
  refine hV _ _ ?_
  rw [Bl,hy,hmn]
end Go.Ev.YtgehhippjhealaaGreatC
namespace Go.Ev.YtgehhippjhealaaGreatC
open Go Go.Proofs
theorem Arp {lo:Nat} {h:Bc} {v:AV} {n m:Nat} {cs cs2:List AV} (ho:OwnG lo h v none n cs) (hcs:mapR (Bi h m) cs = .ret cs2):Bi h (m+1) v = .ret (.slice none cs2 false):=by
 rcases ho with ⟨rfl,rfl,rfl⟩ | ⟨key,ver,_,rfl,hH,h2⟩
 ·have:cs2=[]:=by
   rw [Db] at hcs
   exact (Res.ret.inj hcs).symm
  rw [this]
  rfl
 ·have e:(cs.drop 0).take (n*Bf none)=cs:=by rw [List.drop_zero,List.take_of_length_le (by omega)]
  rw [Bi]
  simp only [hH]
  rw [if_pos ⟨trivial,by omega⟩,e,hcs]
  rfl
theorem OwnG.keyLt {lo:Nat} {h:Bc} {v:AV} {g:Option Nat} {n:Nat} {cs:List AV} (ho:OwnG lo h v g n cs):∀j,Ea v=some j->j<h.length:=by
 intro j hj
 rcases ho with ⟨_,_,rfl⟩ | ⟨key,ver,_,rfl,hH,_⟩
 ·cases hj
 ·obtain rfl:key=j:=by simpa [Ea] using hj
  exact El hH (by simp)
def A3a (p:List Nat):AV:=.slice none ((Et p).map fun c=>Dv (nI6 c)) false
def Oz (p:List Nat) (k:Nat):List (List Nat):=(((List.range p.length).drop k).filter (Gb p)).map (cyc p)
theorem Aiy (p:List Nat):Oz p 0=Et p:=rfl
theorem Aln (p:List Nat):Oz p p.length=[]:=by
 rw [Oz,List.drop_eq_nil_of_le (by simp)]
 rfl
theorem Akc {p:List Nat} {k:Nat} (hk:k<p.length):Oz p k=if Gb p k then cyc p k::Oz p (k+1) else Oz p (k+1):=by
 have:(List.range p.length).drop k=k::(List.range p.length).drop (k+1):=by
  rw [List.drop_eq_getElem_cons (by simpa using hk),List.getElem_range]
 rw [Oz,this,List.filter_cons]
 split
 ·rfl
 ·rfl
theorem A3r {p:List Nat} (hp:PermN p) {i:Nat} (hi:i<p.length):(cyc p i).length<=p.length:=(Fk hp hi).2.1
attribute [local irreducible] Res.all evC Dd Df Br Bh Dj Bd Bi G GO GV GP GC R
theorem Nw (cs:List AV) (hz:∀h,mapR (Bi h 4) cs = .ret cs):Con T 1 38 [.ptr cs 0] (.clo 94 [] [.ptr [.ptr cs 0] 0]):=by
 refine Bu t38 fun n hn V hV => ?_
 simp (disch:=first | assumption | omega) only [c38,go_sem,↓reduceIte]
 refine hV _ _ (Gj (Db _ _) (Bn (Dz (cs:=[.ptr cs 0]) (by simp only [go_sem,↓reduceIte]) (Bn ?_ (Db _ _))) (Db _ _)))
 exact Eg _ _ _ _
theorem Aep (p:List Nat) (hp:PermN p) (h10:p.length<=10) (key ver B0:Nat) (J:List (List Nat)->Bc->Prop) (hJ:∀r h h',(∀j,j<h.length->Bb h' j=Bb h j)->h.length<=h'.length->J r h->J r h') {n:Nat} (hn:3<=n)
  (hy:∀c r h x,B0<=h.length->ExO B0 h x (nI6 c)->J (c::r) h->(Bd T (n-1) true (.yld key ver) [x] h).all fun q=>q.1 = .bool true/\J r q.2/\B0<=q.2.length) (h:Bc) (hB:h.length=B0) (h0:J (Et p) h) (V:AV×Bc->Prop) (hV:∀v h',J [] h'->V (v,h')) :
  (Bd T n true (.fn 94) [.yld key ver,.ptr [.ptr [Dv (nI6 p)] 0] 0] h).all V:=by
 obtain ⟨m,rfl⟩:∃m,n=m+2:=⟨n-2,by omega⟩
 rw [Dt t94]
 have hl:=Gp p
 rw [<-Aiy] at h0
 simp (disch:=first | assumption | omega) only [c94,go_sem,↓reduceIte,hl]
 refine Da (fun M st=>∃k:Nat,M=p.length-k/\k<=p.length/\At st.env [(0,.yld key ver),(3,.clo 95 [.agg [Dv (nI6 p)]] []),(16,.int .i64 p.length),(17,.int .i64 k)]/\J (Oz p k) st.heap/\B0<=st.heap.length) p.length (by omega)
  ⟨0,by omega,by omega,by simp only [go_sem,↓reduceIte],hJ _ h _ (fun j hj=>Bg _ _ _) (by simp only [List.length_append]; omega) h0,by simp only [List.length_append]; omega⟩ ?_
 rintro M e h1 hM ⟨k,rfl,hk,hE,hJ1,hb1⟩ P hP
 simp only [Bp,Bx] at hE hJ1 hb1
 obtain ⟨f0,f3,f16,f17,-⟩:=hE
 by_cases hlt:k<p.length
 ·have hlt':(k:Int)<(p.length:Int):=by omega
  have hcl:=A3r hp hlt
  have hmn:=(Ayf p k).1
  rw [Akc hlt] at hJ1
  simp (disch:=first | assumption | omega) only [go_sem,↓reduceIte,f0,f3,f16,f17,hlt']
  refine Ex (Akt p hp h10 hlt fun x h2 hX hF hL => ?_)
  have hJ2:=hJ _ _ _ hF hL hJ1
  simp (disch:=first | assumption | omega) only [go_sem,↓reduceIte]
  refine Do (Are k (Zi p k p.length (stp p k)) (by have:(Zi p k p.length (stp p k)).length+1=(cyc p k).length:=rfl; omega)) (by omega) (Bv hX.frz (Bz _)) (Ga _ _ _) ?_
  have hcy:mnL (k::Zi p k p.length (stp p k))=mnL (cyc p k):=rfl
  rw [hcy]
  cases hm:Gb p k with
  | true =>
   rw [hm,if_pos rfl] at hJ2
   have he:¬(mnL (cyc p k):Int)<(k:Int):=fun hc=>by
    have:=hmn.1 (by omega)
    rw [hm] at this
    cases this
   simp (disch:=first | assumption | omega) only [go_sem,↓reduceIte,f0,he]
   refine Ex (Res.all_mono _ (hy (cyc p k) (Oz p (k+1)) _ x (by omega) (hX.weak hb1) hJ2) ?_)
   rintro ⟨v,h'⟩ ⟨hv1,hJ',hb'⟩
   simp only at hv1 hJ' hb'
   subst hv1
   simp (disch:=first | assumption | omega) only [go_sem,↓reduceIte,f17]
   exact hP (p.length-(k+1)) _ (by omega) ⟨k+1,rfl,by omega,by simp only [go_sem,↓reduceIte,f0,f3,f16],hJ',hb'⟩
  | false =>
   rw [hm,if_neg (by decide)] at hJ2
   have he:(mnL (cyc p k):Int)<(k:Int):=by have:=hmn.2 hm; omega
   simp (disch:=first | assumption | omega) only [go_sem,↓reduceIte,f17,he]
   exact hP (p.length-(k+1)) _ (by omega) ⟨k+1,rfl,by omega,by simp only [go_sem,↓reduceIte,f0,f3,f16],hJ2,(show B0<=h2.length by omega)⟩
 ·obtain rfl:k=p.length:=by omega
  have hlt':¬(p.length:Int)<(p.length:Int):=by omega
  rw [Aln] at hJ1
  simp (disch:=first | assumption | omega) only [go_sem,↓reduceIte,f16,f17,hlt',Gs,mapR]
  exact hV _ _ hJ1
end Go.Ev.YtgehhippjhealaaGreatC
namespace Go.Ev.YtgehhippjhealaaGreatC
open Go Go.Proofs
def GaO (B:Nat) (h:Bc) (o:AV) (X:List (AV×List Nat)):Prop:=OwnG B h o none X.length (X.map (·.1))/\∀q∈X,ExO B h q.1 (nI6 q.2)/\q.2≠[]
theorem GaO.key {B:Nat} {h:Bc} {o:AV} {X:List (AV×List Nat)} (hg:GaO B h o X) {x:AV} {c:List Nat} (hx:ExO B h x (nI6 c)) (hc:c≠[]):∀k,Ea o=some k->Ea x≠some k:=by
 intro k hk hk2
 obtain ⟨h1,h2⟩:=hg
 rcases h1 with ⟨_,_,rfl⟩ | ⟨key,ver,_,rfl,hH,_⟩
 ·cases hk
 ·obtain rfl:key=k:=by simpa [Ea] using hk
  rcases hx with rfl | ⟨_,rfl⟩ | ⟨key2,ver2,_,rfl,hH2⟩
  ·cases hk2
  ·cases hk2
  ·obtain rfl:key2=key:=by simpa [Ea] using hk2
   rw [hH] at hH2
   have hcs:X.map (·.1)=(nI6 c).map (AV.int .i64):=by
    injection hH2
   cases c with
   | nil=>exact hc rfl
   | cons a r =>
    cases X with
    | nil=>cases hcs
    | cons q X =>
     simp only [List.map_cons,nI6] at hcs
     have hq1:=(List.cons.inj hcs).1
     have:=(h2 q (by simp)).1
     rw [hq1] at this
     rcases this with hh | ⟨_,hh⟩ | ⟨_,_,_,hh,_⟩ <;> cases hh
theorem GaO.other {B:Nat} {h h':Bc} {o:AV} {X:List (AV×List Nat)} (hg:GaO B h o X) (hf:∀j,B<=j->j<h.length->Bb h' j=Bb h j):GaO B h' o X:=by
 obtain ⟨h1,h2⟩:=hg
 refine ⟨?_,fun q hq=>⟨?_,(h2 q hq).2⟩⟩
 ·rcases h1 with h1 | ⟨key,ver,a,rfl,hH,b⟩
  ·exact .inl h1
  ·exact .inr ⟨key,ver,a,rfl,by rw [hf key a (El hH (by simp)),hH],b⟩
 ·rcases (h2 q hq).1 with hx | ⟨a,b⟩ | ⟨key,ver,a,b,c⟩
  ·exact .inl hx
  ·exact .inr (.inl ⟨a,b⟩)
  ·exact .inr (.inr ⟨key,ver,a,b,by rw [hf key a (El c (by simp)),c]⟩)
theorem OwnG.cells {lo:Nat} {h:Bc} {v:AV} {g:Option Nat} {n:Nat} {cs:List AV} (ho:OwnG lo h v g n cs):v.cells=[v]:=by
 rcases ho with ⟨_,_,rfl⟩ | ⟨_,_,_,rfl,_⟩ <;> rfl
theorem OwnG.oneB {lo:Nat} {h:Bc} {v:AV} {g:Option Nat} {n:Nat} {cs:List AV} (ho:OwnG lo h v g n cs):oneB v=true:=by
 rcases ho with ⟨_,_,rfl⟩ | ⟨_,_,_,rfl,_⟩ <;> rfl
theorem B8j {h:Bc} {K ver:Nat} {a:AV} {c:Option Nat} (hK:Bb h K = .cells ver [a]):De h (.oslice K ver none 0 1 c)=some (none,1,[a]):=by
 simp [De,Bf,hK]
theorem GaO.more {B:Nat} {h h1 h2:Bc} {o x x':AV} {X:List (AV×List Nat)} {c:List Nat} (hg:GaO B h o X) (hx:ExO B h x (nI6 c)) (hc:c≠[]) (h1e:∀j,B<=j->j<h.length->Bb h1 j=Bb h j) (hl:h.length<=h1.length)
  (ho:OwnG B h2 x' none (X.length+1) (X.map (·.1)++[x])) (hF:∀j,j<h1.length->Ea o≠some j->Bb h2 j=Bb h1 j):GaO B h2 x' (X++[(x,c)]):=by
 refine ⟨by rw [List.length_append,List.map_append]; exact ho,fun q hq => ?_⟩
 have key:∀(y:AV) (d:List Nat),ExO B h y (nI6 d)->d≠[]->ExO B h2 y (nI6 d):=by
  intro y d hy hd
  have hk:=fun k hk=>hg.key hy hd k hk
  rcases hy with hy | ⟨a,b⟩ | ⟨key,ver,a,b,e⟩
  ·exact .inl hy
  ·exact .inr (.inl ⟨a,b⟩)
  ·have hlt:=El e (by simp)
   have hne:Ea o≠some key:=fun hko=>hk key hko (by rw [b]; rfl)
   exact .inr (.inr ⟨key,ver,a,b,by rw [hF key (by omega) hne,h1e key a hlt,e]⟩)
 rcases List.mem_append.1 hq with hq | hq
 ·exact ⟨key _ _ (hg.2 q hq).1 (hg.2 q hq).2,(hg.2 q hq).2⟩
 ·obtain rfl:q=(x,c):=by simpa using hq
  exact ⟨key _ _ hx hc,hc⟩
theorem GaO.frz {B:Nat} {h:Bc} {o:AV} {X:List (AV×List Nat)} {m:Nat} (hg:GaO B h o X):Bi h (m+3) o = .ret (.slice none (X.map fun q=>Dv (nI6 q.2)) false):=by
 obtain ⟨h1,h2⟩:=hg
 refine Arp h1 ?_
 clear h1
 induction X with
 | nil=>rfl
 | cons q X ih=>exact Bn (h2 q (by simp)).1.frz (ih fun q hq=>h2 q (by simp [hq]))
attribute [local irreducible] Res.all evC Dd Df Br Bh Dj Bd Bi G GO GV GP GC R
theorem A6x (p:List Nat) (hp:PermN p) (h1:1<=p.length) (h10:p.length<=10):Con T 10 36 [Dv (nI6 p)] (.tuple [.ptr [Dv (nI6 p)] 0,.int .i64 0]):=
 Auy t36 (Avm p hp h1 h10) fun v h' ⟨K,key,ver,hv,hK,hH,_⟩=>by
  subst hv
  exact Ff (Dz hK (Bn (Ii hH (by rw [Gp])) (Db _ _))) (Bl _ _ _ _)
set_option maxHeartbeats 1000000 in
theorem Aag (p:List Nat) (hp:PermN p) (h10:p.length<=10):Con T 10 37 [.clo 94 [] [.ptr [.ptr [Dv (nI6 p)] 0] 0]] (A3a p):=by
 refine Bu t37 fun n hn V hV => ?_
 simp (disch:=first | assumption | omega) only [c37,go_sem,↓reduceIte]
 refine Ex ?_
 obtain ⟨n,rfl⟩:∃n',n=n'+1:=⟨n-1,by omega⟩
 rw [Dt t93]
 have hrep:List.replicate 5 AObj.none++List.replicate 13 AObj.none=List.replicate 18 AObj.none:=by rw [List.replicate_append_replicate]
 have hcl10:(Et p).length<=10:=by
  have:(Ry p).length<=(List.range p.length).length:=List.length_filter_le _ _
  rw [List.length_range] at this
  rw [Et,List.length_map]
  omega
 simp (disch:=first | assumption | omega) only [c93,go_sem,↓reduceIte,hrep]
 refine A8u (fun st=>At st.env [(2,.optr 7 0 0),(6,.clo 94 [] [.ptr [.ptr [Dv (nI6 p)] 0] 0])]/\st.heap.length=18/\Bb st.heap 7 = .cells 0 [.slice none [] true])
  ⟨by simp only [go_sem,↓reduceIte],by simp [Be],by simp only [go_sem,↓reduceIte]⟩ ?_
 rintro e h ⟨hE,hlen,g7⟩
 simp only [Bp,Bx] at hE hlen g7
 obtain ⟨f2,f6,-⟩:=hE
 refine Rq (g:=94) (first:=[]) (captured:=[.ptr [.ptr [Dv (nI6 p)] 0] 0]) (by simp only [go_sem,↓reduceIte,f6]) hlen fun lf l1 l2 l3 l4 l5 => ?_
 refine Aep p hp h10 18 0 19 (fun r h'=>Bb h' 18 = .loop 0 .ready none lf/\19<=h'.length/\∃(o:AV) (X:List (AV×List Nat)),Bb h' 7 = .cells 0 [o]/\GaO 19 h' o X/\X.map (·.2)++r=Et p)
  (fun r h1 h2 hF hL hJ => ?_) (by omega) (fun c r h' x hb hX hJ => ?_) _ (by rw [Be,hlen]; rfl) ?_ _ (fun v h' hJ => ?_)
 ·obtain ⟨a1,a2,o,X,a3,a4,a5⟩:=hJ
  exact ⟨by rw [hF _ (by omega),a1],by omega,o,X,by rw [hF _ (by omega),a3],a4.other fun j _ hj=>hF j hj,a5⟩
 ·obtain ⟨a1,a2,o,X,a3,a4,a5⟩:=hJ
  obtain ⟨q,rfl⟩:∃q,n=q+2:=⟨n-2,by omega⟩
  have hc0:c≠[]:=by
   have hm:c∈Et p:=by rw [<-a5]; simp
   obtain ⟨i,_,rfl⟩:=List.mem_map.1 hm
   exact List.cons_ne_nil _ _
  have hXl:X.length<=10:=by
   have:=congrArg List.length a5
   simp only [List.length_append,List.length_map] at this
   omega
  refine A0q a1 (by rw [l3]; rfl) ?_
  rw [l4]
  simp (disch:=first | assumption | omega) only [go_sem,↓reduceIte,l1,l2,l3,Mq]
  refine ⟨none,lf,a1,?_⟩
  rw [l5]
  have hcx:=hX.cells
  have hox:=hX.oneB
  simp (disch:=first | assumption | omega) only [go_sem,↓reduceIte,f2,f6,a1,a3,hcx,hox]
  have hc10:18≠h'.length:=by omega
  refine Mh (lo:=19) (n:=X.length) (m:=1) (cs:=X.map (·.1)) (c2:=[x]) (by first | with_reducible rfl | (simp only [Be,List.length_append,List.length_replicate]; done) | (simp only [Be,List.length_append,List.length_replicate]; omega)) ?_ (by decide) (by simp only [Be]; omega) (B8j (getH_setH_self ..)) rfl (by omega) (by omega) fun x' h2 hO' hF hL hF2 _ => ?_
  ·exact a4.1.other fun j hj=>by
    have h1:=OwnG.keyLt a4.1 j hj
    have h2:19<=j:=by
     rcases a4.1 with ⟨_,_,ho⟩ | ⟨key,ver,a,ho,_⟩
     ·rw [ho] at hj; cases hj
     ·rw [ho] at hj
      obtain rfl:key=j:=by simpa [Ea] using hj
      exact a
    rw [Ba _ _ _ _ (by omega),Ba _ _ _ _ (by omega)]
  have g7':Bb h2 7 = .cells 0 [o]:=by rw [hF 7 (by omega),Ba _ _ _ _ (by omega),Ba _ _ _ _ (by omega),a3]
  have g18:Bb h2 18 = .loop 0 .busy none lf:=by rw [hF 18 (by omega),Ba _ _ _ _ (by omega),getH_setH_self]
  have hGa:=a4.more (h1:=setH (setH h' 18 (.loop 0 .busy none lf)) h'.length _) hX hc0 (fun j h1 h2=>by rw [Ba _ _ _ _ (by omega),Ba _ _ _ _ (by omega)]) (by simp only [Be]; omega) hO' hF2
  have hcx':=OwnG.cells hO'
  have hox':=OwnG.oneB hO'
  simp only [Be] at hL
  simp (disch:=first | assumption | omega) only [go_sem,↓reduceIte,f2,g7',g18,hcx',hox']
  refine ⟨.busy,none,lf,rfl,⟨rfl,(show 19<=h2.length by omega),x',X++[(x,c)],rfl,hGa.other fun j hj _ => ?_,by rw [List.map_append,List.append_assoc]; exact a5⟩,(show 19<=h2.length by omega)⟩
  rw [Ba _ _ _ _ (by omega),Ba _ _ _ _ (by omega)]
 ·refine ⟨by simp only [go_sem,↓reduceIte],by rw [Be,hlen]; decide,.slice none [] true,[],by rw [Ba _ _ _ _ (by omega),g7],⟨Vb ..,fun q hq=>by cases hq⟩,rfl⟩
 ·obtain ⟨a1,a2,o,X,a3,a4,a5⟩:=hJ
  rw [List.append_nil] at a5
  refine ⟨.ready,none,lf,a1,by decide,?_⟩
  simp (disch:=first | assumption | omega) only [go_sem,↓reduceIte,f2,a3]
  refine hV _ _ ?_
  have hG2:GaO 19 (setH h' 18 (.loop 0 .exhausted none lf)) o X:=a4.other fun j hj _=>Ba _ _ _ _ (by omega)
  rw [hG2.frz,A3a,<-a5,List.map_map]
  rfl
theorem Aat (p:List Nat) (hp:PermN p) (h1:1<=p.length) (h10:p.length<=10):Con T 12 9 [Dv (nI6 p)] (.tuple [A3a p,.int .i64 0]):=by
 refine Bu t9 fun n hn V hV => ?_
 have e0:((0:Int) != 0)=false:=rfl
 simp (disch:=first | assumption | omega) only [c9,go_sem,↓reduceIte]
 refine Do (A6x p hp h1 h10) (by omega) (Dm _ _ _ _ (Bz _)) rfl ?_
 simp (disch:=first | assumption | omega) only [go_sem,↓reduceIte,e0]
 refine Do (Nw [Dv (nI6 p)] fun h=>Bn (Ds _ _ _ _ _) (Db _ _)) (by omega) (Bv (Eg _ _ _ _) (Bz _)) rfl ?_
 simp (disch:=first | assumption | omega) only [go_sem,↓reduceIte]
 refine Do (Aag p hp h10) (by omega) (Bv (Gj (Db _ _) (Bn (Eg _ _ _ _) (Db _ _))) (Bz _)) rfl ?_
 simp (disch:=first | assumption | omega) only [go_sem,↓reduceIte]
 exact hV _ _ (Ff (Ds _ _ _ _ _) (Bl _ _ _ _))
end Go.Ev.YtgehhippjhealaaGreatC
