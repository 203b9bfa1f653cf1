/- The code of functions that are walked, compiled for the evaluator, as text. The trees of so many tapers, and their order. The trees of so many tapers, as lists. The code of functions that are walked, compiled for the evaluator, as text. TopRackedSearch: its code behind Grown, by itself; the trees as lists. slices.Compare of two frozen lists of numbers. TopRackedSearch behind Grown: what its checks answer. A tree that is grown by numbers is one of the trees. Hung and Grown: the tree that is grown by numbers. Grown: the tree that is grown by numbers. The walk of TopRackedSearch up to the tree that is grown; behind it the code runs as reckoned. hung of search: the tree with a root, and trees beside it. The code of functions that are walked, compiled for the evaluator, as text. No condition but those that stand in each. -/
import Derived.Test.YtbgodhhdojjbmaaGreatATopW
import Derived.Test.YtbgodhhdojjbmaaGreatAEvComp
import Derived.Test.YtbgodhhdojjbmaaGreatAStOpen
import Derived.Test.YtbgodhhdojjbmaaGreatAEvKer5
import Derived.Test.YtbgodhhdojjbmaaGreatAEvKer3
set_option linter.unusedSimpArgs false
set_option linter.unusedVariables false
set_option maxRecDepth 100000
namespace Go.Ev.YtbgodhhdojjbmaaGreatC
open Go.Proofs
def c7:IFunc:=⟨26,[.tmp 2,.tmp 3],sO [dO 1 (.box (tM 0)),dO 2 (.mv (.const (.slice none [] true))),dO 3 (.mv (cI 0))] (sO [dO 9 (.load (some 2) (tM 1)),dO 10 (.buildSlice (some 2) [.int .i64 0,.int .i64 0] [(0,(2,tM 9))]),dO 11 (.callF false 32 [tM 10]),mV 8 11,xT 12 8 0,xT 13 8 1,mV 4 12,mV 5 13] (.seq (sO [mV 14 5,bC 15 .neq 14 0] (.cond (tM 15) (sO [mV 16 5,dO 2 (.mv (.const (.slice none [] true))),mV 3 16] .ret) .skip)) (sO [mV 17 4,dO 18 (.callF false 33 [tM 17]),mV 6 18] (sO [mV 19 6,lN 20 19,dO 21 (.mkSlice none [.int .i64 0] 8 (tM 20) (tM 20)),mV 7 21] (sO [mV 22 7,mV 23 6,dO 24 (.copy none (tM 22) (tM 23))] (sO [mV 25 7,mV 2 25,dO 3 (.mv (cI 0))] .ret))))))⟩
theorem k7:(Bm Tryz.prog byr).fns 7=some c7:=by kernel_rfl
theorem t7:T.fns 7=some c7:=Bp k7 (by decide) (by decide)
def c83:IFunc:=⟨25,[.tmp 2],sO [dO 2 (.mv (cI 0))] (.seq (sO [mV 5 0,lN 6 5,bC 7 .lss 6 1] (.cond (tM 7) (.ops [⟨some 8,.bad,none⟩,⟨none,.bad,none⟩]) .skip)) (sO [mV 9 0,dO 10 (.indexAddr 1 (tM 9) (cI 0)),lD 11 10,mV 3 11] (.seq (sO [dO 4 (.mv (cI 1))] (.block 0 (.loop (.seq (sO [mV 12 4,mV 13 0,lN 14 13,bB 15 .lss 12 14] (.cond (tM 15) .skip (.exit 0))) (.seq (.block 1 (.ops [mV 18 3,mV 19 0,mV 20 4,iA 21 19 20,lD 22 21,dO 23 (.max [tM 18,tM 22]),mV 3 23])) (.ops [mV 16 4,bC 17 .add 16 1,mV 4 17])))))) (sO [mV 24 3,mV 2 24] .ret))))⟩
theorem k83:(Bm Tryz.prog byr).fns 83=some c83:=by kernel_rfl
theorem t83:T.fns 83=some c83:=Bp k83 (by decide) (by decide)
def c5:IFunc:=⟨27,[.tmp 2],sO [dO 1 (.box (tM 0)),dO 2 (.mv (cI 0))] (.seq (sO [dO 3 (.fieldAddr 0 (tM 1)),lD 4 3,bC 5 .lss 4 1,mV 6 5,gO 7 (.fieldAddr 0 (tM 1)) 6 false,gO 8 (.load none (tM 7)) 6 false,gO 9 (.bin .gtr (tM 8) (cI 10000)) 6 false,dO 10 (.pick (tM 6) (cB true) (tM 9)),mV 11 10,gO 12 (.fieldAddr 1 (tM 1)) 11 false,gO 13 (.load none (tM 12)) 11 false,gO 14 (.bin .lss (tM 13) (cI 1)) 11 false,dO 15 (.pick (tM 11) (cB true) (tM 14)),mV 16 15,gO 17 (.fieldAddr 1 (tM 1)) 16 false,gO 18 (.load none (tM 17)) 16 false,gO 19 (.bin .gtr (tM 18) (cI 10000)) 16 false,dO 20 (.pick (tM 16) (cB true) (tM 19))] (.cond (tM 20) (sO [dO 2 (.mv (cI 3))] .ret) .skip)) (.seq (sO [dO 21 (.fieldAddr 0 (tM 1)),lD 22 21,dO 23 (.fieldAddr 1 (tM 1)),lD 24 23,dO 25 (.callF false 29 [tM 22,tM 24]),bC 26 .neq 25 1] (.cond (tM 26) (sO [dO 2 (.mv (cI 16))] .ret) .skip)) (sO [dO 2 (.mv (cI 0))] .ret)))⟩
theorem k5:(Bm Tryz.prog byr).fns 5=some c5:=by kernel_rfl
theorem t5:T.fns 5=some c5:=Bp k5 (by decide) (by decide)
def c9:IFunc:=⟨58,[.tmp 2],sO [dO 1 (.box (tM 0)),dO 2 (.mv (.const (.slice none [] true)))] (sO [dO 8 (.build [.int .i64 0,.int .i64 0] [(0,(1,cI 0)),(1,(1,cI 1))]),dO 9 (.build [.int .i64 0,.int .i64 0] [(0,(1,cI 1)),(1,(1,cI 0))]),dO 10 (.build [.int .i64 0,.int .i64 0] [(0,(1,cI 1)),(1,(1,cI 1))]),dO 3 (.alloc [.int .i64 0,.int .i64 0]),dO 4 (.alloc [.int .i64 0,.int .i64 0]),dO 5 (.alloc [.int .i64 0,.int .i64 0]),eO (.store 2 (tM 3) (tM 8)),eO (.store 2 (tM 4) (tM 9)),eO (.store 2 (tM 5) (tM 10))] (sO [dO 6 (.mv (.const (.slice none [] true)))] (.seq (.block 0 (.loop (.seq (sO [dO 11 (.load (some 2) (tM 5)),dO 12 (.load (some 2) (tM 1)),dO 13 (.callF false 12 [tM 11,tM 12]),bC 14 .neq 13 0] (.cond (tM 14) .skip (.exit 0))) (.block 1 (sO [dO 7 (.mv (cI 0))] (.seq (sO [dO 15 (.load (some 2) (tM 5)),dO 16 (.load (some 2) (tM 1)),dO 17 (.callF false 12 [tM 15,tM 16]),bC 18 .lss 17 0] (.cond (tM 18) (.ops [dO 7 (.mv (cI 1))]) .skip)) (.seq (sO [mV 19 6,lN 20 19,bC 21 .eql 20 0] (.cond (tM 21) (.ops [mV 22 6,dO 23 (.buildSlice none [.int .i64 0] [(0,(1,cI 0))]),dO 24 (.append none 8 (tM 22) (tM 23)),mV 6 24]) .skip)) (.seq (sO [mV 25 6,lN 26 25,bC 27 .sub 26 1,bC 28 .rem 27 2,mV 29 7,bB 30 .neq 28 29] (.cond (tM 30) (.ops [mV 31 6,dO 32 (.buildSlice none [.int .i64 0] [(0,(1,cI 0))]),dO 33 (.append none 8 (tM 31) (tM 32)),mV 6 33]) .skip)) (sO [mV 34 6,mV 35 6,lN 36 35,bC 37 .sub 36 1,iA 38 34 37,lD 39 38,bC 40 .add 39 1,iA 41 34 37,eO (.store 1 (tM 41) (tM 40))] (.seq (sO [mV 42 7,bC 43 .eql 42 1] (.cond (tM 43) (.ops [dO 44 (.load (some 2) (tM 5)),eO (.store 2 (tM 4) (tM 44))]) (.ops [dO 45 (.load (some 2) (tM 5)),eO (.store 2 (tM 3) (tM 45))]))) (.ops [dO 46 (.fieldAddr 0 (tM 3)),lD 47 46,dO 48 (.fieldAddr 0 (tM 4)),lD 49 48,bB 50 .add 47 49,dO 51 (.fieldAddr 1 (tM 3)),lD 52 51,dO 53 (.fieldAddr 1 (tM 4)),lD 54 53,bB 55 .add 52 54,dO 56 (.build [.int .i64 0,.int .i64 0] [(0,(1,tM 50)),(1,(1,tM 55))]),eO (.store 2 (tM 5) (tM 56))]))))))))))) (sO [mV 57 6,mV 2 57] .ret))))⟩
theorem k9:(Bm Tryz.prog byr).fns 9=some c9:=by kernel_rfl
theorem t9:T.fns 9=some c9:=Bp k9 (by decide) (by decide)
def c3:IFunc:=⟨243,[.tmp 4],sO [dO 2 (.box (tM 0)),dO 4 (.mv (cB false))] (.seq (sO [dO 25 (.load (some 2) (tM 2)),dO 26 (.callF false 5 [tM 25]),bC 27 .neq 26 0] (.cond (tM 27) (sO [dO 28 (.callF false 6 []),mV 4 28] .ret) .skip)) (sO [dO 30 (.load (some 2) (tM 2)),dO 31 (.callF false 7 [tM 30]),mV 29 31,xT 32 29 0,xT 33 29 1,mV 5 32,mV 6 33] (.seq (sO [mV 34 6,bC 35 .neq 34 0,mV 36 35,gV 37 5 36 false,gO 38 (.load (some 2) (tM 2)) 36 false,gO 39 (.callF false 9 [tM 38]) 36 false,gO 40 (.callF false 8 [tM 37,tM 39]) 36 false,gO 41 (.un .not (tM 40)) 36 false,dO 42 (.pick (tM 36) (cB true) (tM 41))] (.cond (tM 42) (sO [dO 4 (.mv (cB false))] .ret) .skip)) (sO [dO 7 (.mv (cI 0))] (.seq (sO [dO 8 (.mv (cI 0))] (.block 0 (.loop (.seq (sO [mV 43 8,mV 44 5,lN 45 44,bB 46 .lss 43 45] (.cond (tM 46) .skip (.exit 0))) (.seq (.block 1 (.ops [mV 49 7,mV 50 5,mV 51 8,iA 52 50 51,lD 53 52,bB 54 .add 49 53,mV 7 54])) (.ops [mV 47 8,bC 48 .add 47 1,mV 8 48])))))) (.seq (sO [mV 55 7,bC 56 .geq 55 12] (.cond (tM 56) (sO [dO 57 (.callF false 6 []),mV 4 57] .ret) .skip)) (sO [dO 9 (.mv (.const (.slice (some 2) [] true)))] (sO [dO 10 (.mv (.const (.slice none [] true))),dO 11 (.mv (.const (.slice none [] true)))] (.seq (sO [dO 12 (.mv (cI 0))] (.block 2 (.loop (.seq (sO [mV 58 12,mV 59 7,bB 60 .leq 58 59] (.cond (tM 60) .skip (.exit 2))) (.seq (.block 3 (sO [mV 64 5,mV 65 12,dO 66 (.callF false 11 [tM 64,tM 65]),dO 67 (.callF false 10 [tM 66]),mV 63 67,xT 68 63 0,xT 69 63 1,dO 13 (.alloc [.int .i64 0,.int .i64 0]),eO (.store 2 (tM 13) (tM 68)),mV 14 69] (.seq (sO [mV 70 14,bC 71 .neq 70 0,mV 72 71,gO 73 (.load (some 2) (tM 13)) 72 false,gO 74 (.callF false 5 [tM 73]) 72 false,gO 75 (.bin .neq (tM 74) (cI 0)) 72 false,dO 76 (.pick (tM 72) (cB true) (tM 75))] (.cond (tM 76) (sO [dO 4 (.mv (cB false))] .ret) .skip)) (sO [mV 77 9,dO 78 (.load (some 2) (tM 13)),dO 79 (.buildSlice (some 2) [.int .i64 0,.int .i64 0] [(0,(2,tM 78))]),dO 80 (.append (some 2) 16 (tM 77) (tM 79)),mV 81 11,mV 82 12,dO 83 (.buildSlice none [.int .i64 0] [(0,(1,tM 82))]),dO 84 (.append none 8 (tM 81) (tM 83)),mV 85 10,mV 86 12,dO 87 (.buildSlice none [.int .i64 0] [(0,(1,tM 86))]),dO 88 (.append none 8 (tM 85) (tM 87)),mV 9 80,mV 11 84,mV 10 88] (sO [mV 89 12,mV 15 89] (.block 4 (.loop (.seq (sO [mV 90 15,bC 91 .gtr 90 0,mV 92 91,gV 93 9 92 true,gV 94 11 92 true,gV 95 15 92 true,gO 96 (.indexAddr 1 (tM 94) (tM 95)) 92 true,gO 97 (.load none (tM 96)) 92 true,gO 98 (.indexAddr 2 (tM 93) (tM 97)) 92 true,gO 99 (.load (some 2) (tM 98)) 92 true,gV 100 9 92 true,gV 101 11 92 true,gV 102 15 92 true,gO 103 (.bin .sub (tM 102) (cI 1)) 92 true,gO 104 (.indexAddr 1 (tM 101) (tM 103)) 92 true,gO 105 (.load none (tM 104)) 92 true,gO 106 (.indexAddr 2 (tM 100) (tM 105)) 92 true,gO 107 (.load (some 2) (tM 106)) 92 true,gO 108 (.callF false 12 [tM 99,tM 107]) 92 true,gO 109 (.bin .gtr (tM 108) (cI 0)) 92 true,dO 110 (.pick (tM 92) (tM 109) (cB false))] (.cond (tM 110) .skip (.exit 4))) (.seq (.block 5 (sO [mV 113 11,mV 114 15,mV 115 11,mV 116 15,bC 117 .sub 116 1,mV 118 11,mV 119 15,bC 120 .sub 119 1,iA 121 118 120,lD 122 121,mV 123 11,mV 124 15,iA 125 123 124,lD 126 125,iA 127 113 114,eO (.store 1 (tM 127) (tM 122)),iA 128 115 117,eO (.store 1 (tM 128) (tM 126))] (.ops [mV 129 10,mV 130 15,mV 131 10,mV 132 15,bC 133 .sub 132 1,mV 134 10,mV 135 15,bC 136 .sub 135 1,iA 137 134 136,lD 138 137,mV 139 10,mV 140 15,iA 141 139 140,lD 142 141,iA 143 129 130,eO (.store 1 (tM 143) (tM 138)),iA 144 131 133,eO (.store 1 (tM 144) (tM 142))]))) (.ops [mV 111 15,bC 112 .sub 111 1,mV 15 112])))))))))) (.ops [mV 61 12,bC 62 .add 61 1,mV 12 62])))))) (.seq (sO [mV 145 9,mV 146 7,dO 147 (.indexAddr 2 (tM 145) (tM 146)),dO 148 (.load (some 2) (tM 147)),dO 149 (.load (some 2) (tM 2)),dO 150 (.eqAgg 2 true (tM 148) (tM 149)),mV 151 150,gV 152 10 151 false,gO 153 (.callF false 13 [tM 152]) 151 false,gO 154 (.bin .neq (tM 153) (cI 0)) 151 false,dO 155 (.pick (tM 151) (cB true) (tM 154))] (.cond (tM 155) (sO [dO 4 (.mv (cB false))] .ret) .skip)) (sO [mV 156 1,dO 157 (.conv .i64 (tM 156)),mV 158 9,lN 159 158,bB 160 .rem 157 159,mV 16 160] (sO [mV 161 9,lN 162 161,dO 163 (.mkSlice none [.int .i64 0] 8 (tM 162) (tM 162)),mV 17 163] (sO [dO 18 (.mv (cI 0))] (.seq (sO [dO 19 (.mv (cI 0))] (.block 6 (.loop (.seq (sO [mV 164 19,mV 165 11,lN 166 165,bB 167 .lss 164 166] (.cond (tM 167) .skip (.exit 6))) (.seq (.block 7 (sO [mV 170 11,mV 171 19,iA 172 170 171,lD 173 172,mV 174 16,bB 175 .eql 173 174] (.cond (tM 175) (.ops [mV 176 19,mV 18 176]) .skip))) (.ops [mV 168 19,bC 169 .add 168 1,mV 19 169])))))) (sO [mV 177 17,mV 178 18,iA 179 177 178,eO (.store 1 (tM 179) (cI 1))] (sO [mV 181 10,mV 182 18,dO 183 (.callF false 14 [tM 181,tM 182]),mV 180 183,xT 184 180 0,xT 185 180 1,mV 20 184,mV 21 185] (sO [mV 187 17,mV 188 10,dO 189 (.callF false 15 [tM 187,tM 188]),mV 186 189,xT 190 186 0,xT 191 186 1,mV 22 190,mV 23 191] (.seq (sO [mV 192 21,bC 193 .neq 192 0,mV 194 193,gV 195 23 194 false,gO 196 (.bin .neq (tM 195) (cI 0)) 194 false,dO 197 (.pick (tM 194) (cB true) (tM 196)),mV 198 197,gV 199 22 198 false,gV 200 16 198 false,gO 201 (.bin .add (tM 200) (cI 1)) 198 false,gO 202 (.bin .neq (tM 199) (tM 201)) 198 false,dO 203 (.pick (tM 198) (cB true) (tM 202)),mV 204 203,gV 205 20 204 false,gO 206 (.len (tM 205)) 204 false,gV 207 16 204 false,gO 208 (.bin .add (tM 207) (cI 1)) 204 false,gO 209 (.bin .neq (tM 206) (tM 208)) 204 false,dO 210 (.pick (tM 204) (cB true) (tM 209))] (.cond (tM 210) (sO [dO 4 (.mv (cB false))] .ret) .skip)) (.seq (sO [dO 24 (.mv (cI 0))] (.block 8 (.loop (.seq (sO [mV 211 24,mV 212 20,lN 213 212,bB 214 .lss 211 213] (.cond (tM 214) .skip (.exit 8))) (.seq (.block 9 (sO [mV 217 20,mV 218 24,iA 219 217 218,lD 220 219,bC 221 .lss 220 0,mV 222 221,gV 223 20 222 false,gV 224 24 222 false,gO 225 (.indexAddr 1 (tM 223) (tM 224)) 222 false,gO 226 (.load none (tM 225)) 222 false,gV 227 11 222 false,gO 228 (.len (tM 227)) 222 false,gO 229 (.bin .geq (tM 226) (tM 228)) 222 false,dO 230 (.pick (tM 222) (cB true) (tM 229)),mV 231 230,gV 232 11 231 false,gV 233 20 231 false,gV 234 24 231 false,gO 235 (.indexAddr 1 (tM 233) (tM 234)) 231 false,gO 236 (.load none (tM 235)) 231 false,gO 237 (.indexAddr 1 (tM 232) (tM 236)) 231 false,gO 238 (.load none (tM 237)) 231 false,gV 239 24 231 false,gO 240 (.bin .neq (tM 238) (tM 239)) 231 false,dO 241 (.pick (tM 231) (cB true) (tM 240))] (.cond (tM 241) (sO [dO 4 (.mv (cB false))] .ret) .skip))) (.ops [mV 215 24,bC 216 .add 215 1,mV 24 216])))))) (sO [dO 242 (.callF false 6 []),mV 4 242] .ret))))))))))))))))))))⟩
theorem k3:(Bm Tryz.prog byr).fns 3=some c3:=by kernel_rfl
theorem t3:T.fns 3=some c3:=Bp k3 (by decide) (by decide)
def c6:IFunc:=⟨5,[.tmp 0],sO [dO 0 (.mv (cB false))] (sO [dO 1 (.callF false 30 []),mV 2 1,gO 3 (.callF false 31 []) 2 true,dO 4 (.pick (tM 2) (tM 3) (cB false)),mV 0 4] .ret)⟩
def c13:IFunc:=⟨13,[.tmp 2],sO [dO 2 (.mv (cI 0))] (.seq (.block 0 (sO [mV 4 0,lN 5 4,dO 6 (.buildSlice none [.int .i64 0] [(0,(1,tM 5))]),dO 7 (.callF false 37 [cI 1,cI 12,tM 6]),dO 8 (.un .not (tM 7)),mV 3 8] (.cond (tM 3) (sO [dO 2 (.mv (cI 6))] .ret) (sO [mV 10 0,dO 11 (.callF false 38 [tM 10]),dO 12 (.un .not (tM 11)),mV 9 12] (.cond (tM 9) (sO [dO 2 (.mv (cI 24))] .ret) .skip))))) (sO [dO 2 (.mv (cI 0))] .ret))⟩
theorem k13:(Bm Tryz.prog byr).fns 13=some c13:=by kernel_rfl
theorem t13:T.fns 13=some c13:=Bp k13 (by decide) (by decide)
def c84:IFunc:=⟨13,[.tmp 4],sO [dO 4 (.mv (cB false))] (sO [mV 5 0,lD 6 1,bB 7 .lss 5 6,mV 8 7,gV 9 0 8 false,gO 10 (.load none (tM 2)) 8 false,gO 11 (.bin .gtr (tM 9) (tM 10)) 8 false,dO 12 (.pick (tM 8) (cB true) (tM 11)),mV 4 12] .ret)⟩
theorem k84:(Bm Tryz.prog byr).fns 84=some c84:=by kernel_rfl
theorem t84:T.fns 84=some c84:=Bp k84 (by decide) (by decide)
def c117:IFunc:=⟨12,[.tmp 2,.tmp 3],sO [dO 2 (.mv (.const .nilptr)),dO 3 (.mv (cI 0))] (.seq (sO [mV 5 0,dO 6 (.callF false 40 [tM 5]),mV 4 6] (sO [mV 7 4,bC 8 .neq 7 0] (.cond (tM 8) (sO [mV 9 4,dO 2 (.mv (.const .nilptr)),mV 3 9] .ret) .skip))) (sO [mV 10 0,dO 11 (.callF true 170 [tM 10]),mV 2 11,dO 3 (.mv (cI 0))] .ret))⟩
theorem k117:(Bm Tryz.prog byr).fns 117=some c117:=by kernel_rfl
theorem t117:T.fns 117=some c117:=Bp k117 (by decide) (by decide)
def c170:IFunc:=⟨92,[.tmp 2],sO [dO 2 (.mv (.const .nilptr))] (sO [mV 10 0,dO 11 (.build [.slice none [] true] [(0,(1,tM 10))]),⟨some 12,.mkMap,none⟩,dO 13 (.build [.slice none [] true,.fmap [] []] [(0,(1,tM 11)),(1,(1,tM 12))]),dO 14 (.box (tM 13)),mV 3 14] (.seq (sO [mV 15 0,lN 16 15,bC 17 .add 16 1,dO 18 (.mv (cI 0))] (.block 0 (.loop (sO [bB 19 .lss 18 17] (.seq (.cond (tM 19) .skip (.exit 0)) (.seq (.block 1 (sO [mV 20 18,mV 4 20] (sO [mV 21 0,lN 22 21,mV 23 4,bB 24 .sub 22 23,bC 25 .add 24 1,dO 26 (.mv (cI 0))] (.block 2 (.loop (sO [bB 27 .lss 26 25] (.seq (.cond (tM 27) .skip (.exit 2)) (.seq (.block 3 (sO [mV 28 26,mV 5 28] (sO [mV 29 5,mV 30 5,mV 31 4,bB 32 .add 30 31,dO 33 (.build [.int .i64 0,.int .i64 0] [(0,(1,tM 29)),(1,(1,tM 32))]),dO 6 (.alloc [.int .i64 0,.int .i64 0]),eO (.store 2 (tM 6) (tM 33))] (.seq (sO [mV 34 4,bC 35 .eql 34 0] (.cond (tM 35) (sO [mV 36 3,dO 37 (.nilCheck (tM 36)),dO 38 (.fieldAddr 1 (tM 37)),lD 39 38,dO 40 (.load (some 2) (tM 6)),eO (.mapUpdate (some 2) (tM 39) (tM 40) (cI 0))] (.exit 3)) .skip)) (sO [dO 7 (.mv (.const (.slice none [] true)))] (.seq (sO [dO 41 (.fieldAddr 0 (tM 6)),lD 42 41,mV 8 42] (.block 4 (.loop (.seq (sO [mV 43 8,dO 44 (.fieldAddr 1 (tM 6)),lD 45 44,bB 46 .lss 43 45] (.cond (tM 46) .skip (.exit 4))) (.seq (.block 5 (.ops [mV 49 7,mV 50 3,dO 51 (.nilCheck (tM 50)),dO 52 (.fieldAddr 0 (tM 51)),dO 53 (.load (some 1) (tM 52)),dO 54 (.load (some 2) (tM 6)),dO 55 (.callF false 125 [tM 53,tM 54]),mV 56 3,dO 57 (.load (some 2) (tM 6)),mV 58 8,dO 59 (.callF false 175 [tM 56,tM 57,tM 58]),bB 60 .add 55 59,dO 61 (.buildSlice none [.int .i64 0] [(0,(1,tM 60))]),dO 62 (.append none 8 (tM 49) (tM 61)),mV 7 62])) (.ops [mV 47 8,bC 48 .add 47 1,mV 8 48])))))) (.ops [mV 63 3,dO 64 (.nilCheck (tM 63)),dO 65 (.fieldAddr 1 (tM 64)),lD 66 65,dO 67 (.load (some 2) (tM 6)),mV 68 7,dO 69 (.callF false 230 [tM 68,.const (.clo 231 [] [])]),eO (.mapUpdate (some 2) (tM 66) (tM 67) (tM 69))]))))))) (.ops [bC 70 .add 26 1,mV 26 70]))))))))) (.ops [bC 71 .add 18 1,mV 18 71]))))))) (.seq (sO [mV 72 3,dO 73 (.nilCheck (tM 72)),dO 74 (.fieldAddr 1 (tM 73)),lD 75 74,dO 76 (.range (tM 75))] (.block 6 (.loop (sO [dO 77 (.next (tM 76)),xT 78 77 0] (.seq (.cond (tM 78) .skip (.exit 6)) (.block 7 (sO [dO 79 (.entry (tM 76)),xT 80 79 0,dO 9 (.alloc [.int .i64 0,.int .i64 0]),eO (.store 2 (tM 9) (tM 80))] (sO [dO 81 (.fieldAddr 0 (tM 9)),lD 82 81,dO 83 (.fieldAddr 1 (tM 9)),lD 84 83,bB 85 .eql 82 84] (.cond (tM 85) (.ops [mV 86 3,dO 87 (.nilCheck (tM 86)),dO 88 (.fieldAddr 1 (tM 87)),lD 89 88,dO 90 (.load (some 2) (tM 9)),eO (.delete (some 2) (tM 89) (tM 90))]) .skip))))))))) (sO [mV 91 3,mV 2 91] .ret))))⟩
theorem k170:(Bm Tryz.prog byr).fns 170=some c170:=by kernel_rfl
theorem t170:T.fns 170=some c170:=Bp k170 (by decide) (by decide)
def c73:IFunc:=⟨105,[.tmp 4,.tmp 5],sO [dO 3 (.box (tM 1)),dO 4 (.mv (cI 0)),dO 5 (.mv (cI 0))] (sO [mV 16 0,dO 17 (.callF true 117 [tM 16]),mV 15 17,xT 18 15 0,xT 19 15 1,mV 6 18,mV 7 19] (.seq (.block 0 (sO [mV 21 7,bC 22 .neq 21 0,mV 20 22] (.cond (tM 20) (sO [mV 23 7,dO 4 (.mv (cI 0)),mV 5 23] .ret) (sO [lD 25 3,lN 26 25,mV 27 0,lN 28 27,bB 29 .neq 26 28,mV 24 29] (.cond (tM 24) (sO [dO 4 (.mv (cI 0)),dO 5 (.mv (cI 15))] .ret) .skip))))) (.seq (sO [lD 30 3,lN 31 30,dO 32 (.mv (cI 0))] (.block 1 (.loop (sO [bB 33 .lss 32 31] (.seq (.cond (tM 33) .skip (.exit 1)) (.seq (.block 2 (sO [mV 34 32,iA 35 30 32,lD 36 35,mV 8 34,mV 9 36] (sO [mV 37 9,lN 38 37,mV 39 0,lN 40 39,mV 41 8,bB 42 .sub 40 41,bB 43 .neq 38 42] (.cond (tM 43) (sO [dO 4 (.mv (cI 0)),dO 5 (.mv (cI 15))] .ret) .skip)))) (.ops [bC 44 .add 32 1,mV 32 44]))))))) (.seq (sO [lD 45 3,lN 46 45,dO 47 (.mv (cI 0))] (.block 3 (.loop (sO [bB 48 .lss 47 46] (.seq (.cond (tM 48) .skip (.exit 3)) (.seq (.block 4 (sO [iA 49 45 47,lD 50 49,mV 11 50] (sO [mV 51 11,dO 52 (.callF false 37 [cI 0,cI 1099511627776,tM 51]),dO 53 (.un .not (tM 52))] (.cond (tM 53) (sO [dO 4 (.mv (cI 0)),dO 5 (.mv (cI 3))] .ret) .skip)))) (.ops [bC 54 .add 47 1,mV 47 54]))))))) (sO [dO 55 (.mkFunc 124 [] [tM 3]),mV 12 55] (.seq (sO [mV 56 6,dO 57 (.nilCheck (tM 56)),dO 58 (.fieldAddr 1 (tM 57)),lD 59 58,dO 60 (.range (tM 59))] (.block 5 (.loop (sO [dO 61 (.next (tM 60)),xT 62 61 0] (.seq (.cond (tM 62) .skip (.exit 5)) (.block 6 (sO [dO 63 (.entry (tM 60)),xT 64 63 0,dO 13 (.alloc [.int .i64 0,.int .i64 0]),eO (.store 2 (tM 13) (tM 64))] (sO [dO 65 (.fieldAddr 0 (tM 13)),lD 66 65,mV 14 66] (.block 7 (.loop (.seq (sO [mV 67 14,dO 68 (.fieldAddr 1 (tM 13)),lD 69 68,bB 70 .lss 67 69] (.cond (tM 70) .skip (.exit 7))) (.seq (.block 8 (sO [mV 73 12,dO 74 (.load (some 2) (tM 13)),dO 75 (.call false (tM 73) [tM 74]),mV 76 6,dO 77 (.nilCheck (tM 76)),dO 78 (.fieldAddr 0 (tM 77)),dO 79 (.load (some 1) (tM 78)),dO 80 (.load (some 2) (tM 13)),dO 81 (.callF false 125 [tM 79,tM 80]),mV 82 12,dO 83 (.fieldAddr 0 (tM 13)),lD 84 83,mV 85 14,dO 86 (.build [.int .i64 0,.int .i64 0] [(0,(1,tM 84)),(1,(1,tM 85))]),dO 87 (.call false (tM 82) [tM 86]),bB 88 .add 81 87,mV 89 12,mV 90 14,bC 91 .add 90 1,dO 92 (.fieldAddr 1 (tM 13)),lD 93 92,dO 94 (.build [.int .i64 0,.int .i64 0] [(0,(1,tM 91)),(1,(1,tM 93))]),dO 95 (.call false (tM 89) [tM 94]),bB 96 .add 88 95,bB 97 .gtr 75 96] (.cond (tM 97) (sO [dO 4 (.mv (cI 0)),dO 5 (.mv (cI 14))] .ret) .skip))) (.ops [mV 71 14,bC 72 .add 71 1,mV 14 72]))))))))))))) (sO [mV 98 12,mV 99 6,dO 100 (.nilCheck (tM 99)),dO 101 (.fieldAddr 0 (tM 100)),dO 102 (.load (some 1) (tM 101)),dO 103 (.callF false 119 [tM 102]),dO 104 (.call false (tM 98) [tM 103]),mV 4 104,dO 5 (.mv (cI 0))] .ret)))))))⟩
theorem k73:(Bm Tryz.prog byr).fns 73=some c73:=by kernel_rfl
theorem t73:T.fns 73=some c73:=Bp k73 (by decide) (by decide)
def c4:IFunc:=⟨188,[.tmp 4],sO [dO 4 (.mv (cB false))] (.seq (sO [mV 21 1,lN 22 21,bC 23 .gtr 22 60] (.cond (tM 23) (sO [dO 24 (.callF false 6 []),mV 4 24] .ret) .skip)) (sO [mV 25 0,dO 26 (.bin .rem (tM 25) (.const (.int .u8 6))),dO 27 (.conv .i64 (tM 26)),dO 28 (.bin .add (cI 1) (tM 27)),mV 5 28] (sO [mV 30 5,mV 31 5,dO 32 (.buildSlice none [.int .i64 0,.int .i64 0] [(0,(1,tM 30)),(1,(1,tM 31))]),dO 33 (.callF false 16 [tM 32]),mV 29 33,xT 34 29 0,xT 35 29 1,mV 6 34,mV 7 35] (sO [mV 37 5,dO 38 (.callF false 17 [tM 37]),mV 36 38,xT 39 36 0,xT 40 36 1,mV 8 39,mV 9 40] (.seq (sO [mV 41 7,bC 42 .neq 41 0,mV 43 42,gV 44 9 43 false,gO 45 (.bin .neq (tM 44) (cI 0)) 43 false,dO 46 (.pick (tM 43) (cB true) (tM 45)),mV 47 46,gV 48 6 47 false,gV 49 8 47 false,gO 50 (.bin .neq (tM 48) (tM 49)) 47 false,dO 51 (.pick (tM 47) (cB true) (tM 50))] (.cond (tM 51) (sO [dO 4 (.mv (cB false))] .ret) .skip)) (sO [mV 52 5,mV 53 1,dO 54 (.callF false 18 [tM 52,tM 53]),mV 10 54] (sO [mV 56 10,dO 57 (.callF false 19 [tM 56]),mV 55 57,xT 58 55 0,xT 59 55 1,mV 11 58,mV 12 59] (.seq (sO [mV 60 12,bC 61 .neq 60 0,mV 62 61,gV 63 11 62 false,gO 64 (.bin .lss (tM 63) (cI 0)) 62 false,dO 65 (.pick (tM 62) (cB true) (tM 64)),mV 66 65,gV 67 11 66 false,gV 68 8 66 false,gO 69 (.bin .geq (tM 67) (tM 68)) 66 false,dO 70 (.pick (tM 66) (cB true) (tM 69))] (.cond (tM 70) (sO [dO 4 (.mv (cB false))] .ret) .skip)) (sO [mV 72 5,mV 73 11,dO 74 (.callF false 20 [tM 72,tM 73]),mV 71 74,xT 75 71 0,xT 76 71 1,mV 13 75,mV 12 76] (.seq (sO [mV 77 12,bC 78 .neq 77 0,mV 79 78,gV 80 13 79 false,gO 81 (.callF false 21 [tM 80]) 79 false,gO 82 (.bin .neq (tM 81) (cI 0)) 79 false,dO 83 (.pick (tM 79) (cB true) (tM 82)),mV 84 83,gV 85 13 84 false,gO 86 (.len (tM 85)) 84 false,gV 87 5 84 false,gO 88 (.bin .neq (tM 86) (tM 87)) 84 false,dO 89 (.pick (tM 84) (cB true) (tM 88))] (.cond (tM 89) (sO [dO 4 (.mv (cB false))] .ret) .skip)) (sO [mV 90 13,dO 91 (.callF false 22 [tM 90,cI 0]),mV 14 91] (sO [dO 92 (.buildSliceO none [.slice none [] true,.slice none [] true] [(0,(1,.const (.slice none [] true))),(1,(1,.const (.slice none [] true)))]),mV 15 92] (sO [dO 93 (.buildSliceO none [.slice none [] true,.slice none [] true] [(0,(1,.const (.slice none [] true))),(1,(1,.const (.slice none [] true)))]),mV 16 93] (.seq (sO [dO 17 (.mv (cI 0))] (.block 0 (.loop (.seq (sO [mV 94 17,mV 95 14,lN 96 95,bB 97 .lss 94 96] (.cond (tM 97) .skip (.exit 0))) (.seq (.block 1 (.ops [mV 100 15,mV 101 14,mV 102 17,iA 103 101 102,dO 104 (.loadL none (tM 103) 104 190 []),mV 105 16,mV 106 14,mV 107 17,iA 108 106 107,dO 109 (.loadL none (tM 108) 109 190 []),mV 110 15,mV 111 14,mV 112 17,iA 113 111 112,lD 114 113,iA 115 110 114,lD 116 115,mV 117 17,bC 118 .add 117 1,dO 119 (.buildSlice none [.int .i64 0] [(0,(1,tM 118))]),dO 120 (.appendL 120 190 none 8 (tM 116) (tM 119)),mV 121 16,mV 122 14,mV 123 17,iA 124 122 123,dO 125 (.loadL none (tM 124) 125 190 []),iA 126 121 125,dO 127 (.loadL none (tM 126) 127 190 []),mV 128 14,mV 129 17,iA 130 128 129,dO 131 (.loadL none (tM 130) 131 190 []),bC 132 .add 131 1,dO 133 (.buildSlice none [.int .i64 0] [(0,(1,tM 132))]),dO 134 (.appendL 134 190 none 8 (tM 127) (tM 133)),iA 135 100 104,eO (.store 1 (tM 135) (tM 120)),iA 136 105 109,eO (.store 1 (tM 136) (tM 134))])) (.ops [mV 98 17,bC 99 .add 98 1,mV 17 99])))))) (sO [mV 138 16,mV 139 15,dO 140 (.callF false 23 [tM 138,tM 139]),mV 137 140,xT 141 137 0,xT 142 137 1,mV 18 141,mV 12 142] (.seq (sO [mV 143 15,dO 144 (.callF false 24 [tM 143]),bC 145 .neq 144 0,mV 146 145,gV 147 16 146 false,gO 148 (.callF false 25 [tM 147]) 146 false,gO 149 (.bin .neq (tM 148) (cI 0)) 146 false,dO 150 (.pick (tM 146) (cB true) (tM 149)),mV 151 150,gV 152 12 151 false,gO 153 (.bin .neq (tM 152) (cI 0)) 151 false,dO 154 (.pick (tM 151) (cB true) (tM 153)),mV 155 154,gV 156 18 155 false,gO 157 (.callF false 26 [tM 156]) 155 false,gO 158 (.bin .neq (tM 157) (cI 0)) 155 false,dO 159 (.pick (tM 155) (cB true) (tM 158)),mV 160 159,gV 161 18 160 false,gO 162 (.len (tM 161)) 160 false,gV 163 5 160 false,gO 164 (.bin .mul (cI 2) (tM 163)) 160 false,gO 165 (.bin .neq (tM 162) (tM 164)) 160 false,dO 166 (.pick (tM 160) (cB true) (tM 165))] (.cond (tM 166) (sO [dO 4 (.mv (cB false))] .ret) .skip)) (sO [mV 168 18,dO 169 (.callF false 27 [tM 168]),mV 167 169,xT 170 167 0,xT 171 167 1,xT 172 167 2,mV 19 170,mV 20 171,mV 12 172] (sO [mV 173 12,bC 174 .eql 173 0,mV 175 174,gV 176 19 175 true,gV 177 16 175 true,gO 178 (.callF false 28 [tM 176,tM 177]) 175 true,dO 179 (.pick (tM 175) (tM 178) (cB false)),mV 180 179,gV 181 20 180 true,gV 182 15 180 true,gO 183 (.callF false 28 [tM 181,tM 182]) 180 true,dO 184 (.pick (tM 180) (tM 183) (cB false)),mV 185 184,gO 186 (.callF false 6 []) 185 true,dO 187 (.pick (tM 185) (tM 186) (cB false)),mV 4 187] .ret))))))))))))))))))⟩
theorem k4:(Bm Tryz.prog byr).fns 4=some c4:=by kernel_rfl
theorem t4:T.fns 4=some c4:=Bp k4 (by decide) (by decide)
def c18:IFunc:=⟨53,[.tmp 4],sO [dO 4 (.mv (.const (.slice none [] true)))] (.seq (sO [mV 9 0,bC 10 .lss 9 1] (.cond (tM 10) (sO [dO 4 (.mv (.const (.slice none [] true)))] .ret) .skip)) (sO [dO 5 (.mv (cI 0))] (.seq (sO [mV 11 1,lN 12 11,bC 13 .gtr 12 0] (.cond (tM 13) (.ops [mV 14 1,dO 15 (.indexAddr 1 (tM 14) (cI 0)),lD 16 15,dO 17 (.conv .i64 (tM 16)),mV 18 0,bB 19 .rem 17 18,mV 5 19]) .skip)) (sO [dO 6 (.mv (.const (.slice none [] true))),dO 7 (.mv (.const (.slice none [] true)))] (.seq (sO [dO 8 (.mv (cI 1))] (.block 0 (.loop (.seq (sO [mV 20 8,mV 21 1,lN 22 21,bB 23 .lss 20 22] (.cond (tM 23) .skip (.exit 0))) (.seq (.block 1 (sO [mV 26 8,bC 27 .rem 26 2,bC 28 .eql 27 1] (.cond (tM 28) (.ops [mV 29 6,mV 30 1,mV 31 8,iA 32 30 31,lD 33 32,dO 34 (.buildSlice none [.int .u8 0] [(0,(1,tM 33))]),dO 35 (.append none 1 (tM 29) (tM 34)),mV 6 35]) (.ops [mV 36 7,mV 37 1,mV 38 8,iA 39 37 38,lD 40 39,dO 41 (.buildSlice none [.int .u8 0] [(0,(1,tM 40))]),dO 42 (.append none 1 (tM 36) (tM 41)),mV 7 42])))) (.ops [mV 24 8,bC 25 .add 24 1,mV 8 25])))))) (sO [mV 43 5,mV 44 6,dO 45 (.callF false 18 [tM 43,tM 44]),mV 46 0,bC 47 .sub 46 1,mV 48 5,bB 49 .sub 47 48,mV 50 7,dO 51 (.callF false 18 [tM 49,tM 50]),dO 52 (.callF true 44 [tM 45,tM 51]),mV 4 52] .ret))))))⟩
theorem k18:(Bm Tryz.prog byr).fns 18=some c18:=by kernel_rfl
theorem t18:T.fns 18=some c18:=Bp k18 (by decide) (by decide)
def c44:IFunc:=⟨40,[.tmp 4],sO [dO 4 (.mv (.const (.slice none [] true)))] (sO [dO 5 (.mv (.const (.slice none [] true)))] (.seq (sO [dO 6 (.mv (cI 0))] (.block 0 (.loop (.seq (sO [mV 8 6,mV 9 0,lN 10 9,bB 11 .lss 8 10] (.cond (tM 11) .skip (.exit 0))) (.seq (.block 1 (.ops [mV 14 5,mV 15 0,mV 16 6,iA 17 15 16,lD 18 17,bC 19 .add 18 1,dO 20 (.buildSlice none [.int .i64 0] [(0,(1,tM 19))]),dO 21 (.append none 8 (tM 14) (tM 20)),mV 5 21])) (.ops [mV 12 6,bC 13 .add 12 1,mV 6 13])))))) (sO [mV 22 5,dO 23 (.buildSlice none [.int .i64 0] [(0,(1,cI 0))]),dO 24 (.append none 8 (tM 22) (tM 23)),mV 5 24] (.seq (sO [dO 7 (.mv (cI 0))] (.block 2 (.loop (.seq (sO [mV 25 7,mV 26 1,lN 27 26,bB 28 .lss 25 27] (.cond (tM 28) .skip (.exit 2))) (.seq (.block 3 (.ops [mV 31 5,mV 32 1,mV 33 7,iA 34 32 33,lD 35 34,bC 36 .add 35 1,dO 37 (.buildSlice none [.int .i64 0] [(0,(1,tM 36))]),dO 38 (.append none 8 (tM 31) (tM 37)),mV 5 38])) (.ops [mV 29 7,bC 30 .add 29 1,mV 7 30])))))) (sO [mV 39 5,mV 4 39] .ret)))))⟩
theorem k44:(Bm Tryz.prog byr).fns 44=some c44:=by kernel_rfl
theorem t44:T.fns 44=some c44:=Bp k44 (by decide) (by decide)
def c89:IFunc:=⟨27,[.tmp 4],sO [dO 4 (.mv (.const (.slice none [] true)))] (sO [mV 7 0,dO 8 (.callF true 92 [tM 7]),dO 9 (.buildSlice none [.int .i64 0] [(0,(1,cI (-1)))]),dO 10 (.append none 8 (tM 8) (tM 9)),mV 5 10] (sO [mV 11 5,mV 12 1,dO 13 (.append none 8 (tM 11) (tM 12)),mV 5 13] (.seq (sO [mV 14 5,lN 15 14,dO 16 (.mv (cI 0))] (.block 0 (.loop (sO [bB 17 .lss 16 15] (.seq (.cond (tM 17) .skip (.exit 0)) (.seq (.block 1 (sO [mV 18 16,mV 6 18] (.ops [mV 19 5,mV 20 6,iA 21 19 20,lD 22 21,bC 23 .add 22 1,iA 24 19 20,eO (.store 1 (tM 24) (tM 23))]))) (.ops [bC 25 .add 16 1,mV 16 25]))))))) (sO [mV 26 5,mV 4 26] .ret))))⟩
theorem k89:(Bm Tryz.prog byr).fns 89=some c89:=by kernel_rfl
theorem t89:T.fns 89=some c89:=Bp k89 (by decide) (by decide)
end Go.Ev.YtbgodhhdojjbmaaGreatC
namespace Go.Ev
def hgL (l r:List Int):List Int:=l.map (·+1)++0::r.map (·+1)
def trF:Nat->Nat->List (List Int)
 | _,0=>[[]]
 | 0,_+1=>[]
 | k+1,n+1=>(List.range (n+1)).flatMap fun a=>(trF k a).flatMap fun l=>(trF k (n-a)).map fun r=>hgL l r
theorem Auv {k n a:Nat} {l r:List Int} (ha:a<=n) (hl:l∈trF k a) (hr:r∈trF k (n-a)):hgL l r∈trF (k+1) (n+1):=by
 rw [trF,List.mem_flatMap]
 refine ⟨a,List.mem_range.2 (by omega),?_⟩
 rw [List.mem_flatMap]
 exact ⟨l,hl,List.mem_map.2 ⟨r,hr,rfl⟩⟩
theorem A9m:∀(k n:Nat) (t:List Int),t∈trF k n->t.length=n
 | 0,0,t,h=>by
  rw [trF,List.mem_singleton] at h
  rw [h]; rfl
 | _+1,0,t,h=>by
  rw [trF,List.mem_singleton] at h
  rw [h]; rfl
 | 0,n+1,t,h=>by
  rw [trF] at h
  cases h
 | k+1,n+1,t,h=>by
  rw [trF,List.mem_flatMap] at h
  obtain ⟨a,ha,h⟩:=h
  rw [List.mem_flatMap] at h
  obtain ⟨l,hl,h⟩:=h
  obtain ⟨r,hr,rfl⟩:=List.mem_map.1 h
  have h1:=A9m k a l hl
  have h2:=A9m k (n-a) r hr
  have:=List.mem_range.1 ha
  rw [hgL,List.length_append,List.length_cons,List.length_map,List.length_map]
  omega
def Axf:List Int->List Int->Bool
 | [],_=>true
 | _::_,[]=>false
 | a::l,b::r=>a<b||a==b&&Axf l r
def A7c (a:List Int):List (List Int)->List (List Int)
 | []=>[a]
 | b::l=>if Axf a b then a::b::l else b::A7c a l
def trS (n:Nat):List (List Int):=(trF 6 n).foldr A7c []
theorem A7v {a b:List Int}:∀{l:List (List Int)},b∈A7c a l↔b=a\/b∈l
 | []=>by simp [A7c]
 | c::l=>by
  rw [A7c]
  split
  ·simp
  ·rw [List.mem_cons,A7v,List.mem_cons]
   constructor
   ·rintro (h | h | h)
    ·exact .inr (.inl h)
    ·exact .inl h
    ·exact .inr (.inr h)
   ·rintro (h | h | h)
    ·exact .inr (.inl h)
    ·exact .inl h
    ·exact .inr (.inr h)
theorem Nl {n:Nat} {t:List Int}:t∈trS n↔t∈trF 6 n:=by
 rw [trS]
 generalize trF 6 n=L
 induction L with
 | nil=>simp
 | cons a L ih=>rw [List.foldr_cons,A7v,ih,List.mem_cons]
end Go.Ev
namespace Go.Ev.YtbgodhhdojjbmaaGreatC
open Go Go.Proofs
def Xj:List (List Int):=[[]]
def Oq:List (List Int):=[[0]]
theorem C7m:trS 1=Oq:=by kernel_rfl
def Ot:List (List Int):=[[0,1],[1,0]]
theorem C7n:trS 2=Ot:=by kernel_rfl
def Lz:List (List Int):=[[0,1,2],[0,2,1],[1,0,1],[1,2,0],[2,1,0]]
theorem C7o:trS 3=Lz:=by kernel_rfl
def Hq:List (List Int):=[[0,1,2,3],[0,1,3,2],[0,2,1,2],[0,2,3,1],[0,3,2,1],[1,0,1,2],[1,0,2,1],[1,2,0,1],[1,2,3,0],[1,3,2,0],[2,1,0,1],[2,1,2,0],[2,3,1,0],[3,2,1,0]]
theorem C7p:trS 4=Hq:=by kernel_rfl
def Em:List (List Int):=[[0,1,2,3,4],[0,1,2,4,3],[0,1,3,2,3],[0,1,3,4,2],[0,1,4,3,2],[0,2,1,2,3],[0,2,1,3,2],[0,2,3,1,2],[0,2,3,4,1],[0,2,4,3,1],[0,3,2,1,2],[0,3,2,3,1],[0,3,4,2,1],[0,4,3,2,1],[1,0,1,2,3],[1,0,1,3,2],[1,0,2,1,2],[1,0,2,3,1],[1,0,3,2,1],[1,2,0,1,2],[1,2,0,2,1],[1,2,3,0,1],[1,2,3,4,0],[1,2,4,3,0],[1,3,2,0,1],[1,3,2,3,0],[1,3,4,2,0],[1,4,3,2,0],[2,1,0,1,2],[2,1,0,2,1],[2,1,2,0,1],[2,1,2,3,0],[2,1,3,2,0],[2,3,1,0,1],[2,3,1,2,0],[2,3,4,1,0],[2,4,3,1,0],[3,2,1,0,1],[3,2,1,2,0],[3,2,3,1,0],[3,4,2,1,0],[4,3,2,1,0]]
theorem C7q:trS 5=Em:=by kernel_rfl
def Bt:List (List Int):=[[0,1,2,3,4,5],[0,1,2,3,5,4],[0,1,2,4,3,4],[0,1,2,4,5,3],[0,1,2,5,4,3],[0,1,3,2,3,4],[0,1,3,2,4,3],[0,1,3,4,2,3],[0,1,3,4,5,2],[0,1,3,5,4,2],[0,1,4,3,2,3],[0,1,4,3,4,2],[0,1,4,5,3,2],[0,1,5,4,3,2],[0,2,1,2,3,4],[0,2,1,2,4,3],[0,2,1,3,2,3],[0,2,1,3,4,2],[0,2,1,4,3,2],[0,2,3,1,2,3],[0,2,3,1,3,2],[0,2,3,4,1,2],[0,2,3,4,5,1],[0,2,3,5,4,1],[0,2,4,3,1,2],[0,2,4,3,4,1],[0,2,4,5,3,1],[0,2,5,4,3,1],[0,3,2,1,2,3],[0,3,2,1,3,2],[0,3,2,3,1,2],[0,3,2,3,4,1],[0,3,2,4,3,1],[0,3,4,2,1,2],[0,3,4,2,3,1],[0,3,4,5,2,1],[0,3,5,4,2,1],[0,4,3,2,1,2],[0,4,3,2,3,1],[0,4,3,4,2,1],[0,4,5,3,2,1],[0,5,4,3,2,1],[1,0,1,2,3,4],[1,0,1,2,4,3],[1,0,1,3,2,3],[1,0,1,3,4,2],[1,0,1,4,3,2],[1,0,2,1,2,3],[1,0,2,1,3,2],[1,0,2,3,1,2],[1,0,2,3,4,1],[1,0,2,4,3,1],[1,0,3,2,1,2],[1,0,3,2,3,1],[1,0,3,4,2,1],[1,0,4,3,2,1],[1,2,0,1,2,3],[1,2,0,1,3,2],[1,2,0,2,1,2],[1,2,0,2,3,1],[1,2,0,3,2,1],[1,2,3,0,1,2],[1,2,3,0,2,1],[1,2,3,4,0,1],[1,2,3,4,5,0],[1,2,3,5,4,0],[1,2,4,3,0,1],[1,2,4,3,4,0],[1,2,4,5,3,0],[1,2,5,4,3,0],[1,3,2,0,1,2],[1,3,2,0,2,1],[1,3,2,3,0,1],[1,3,2,3,4,0],[1,3,2,4,3,0],[1,3,4,2,0,1],[1,3,4,2,3,0],[1,3,4,5,2,0],[1,3,5,4,2,0],[1,4,3,2,0,1],[1,4,3,2,3,0],[1,4,3,4,2,0],[1,4,5,3,2,0],[1,5,4,3,2,0],[2,1,0,1,2,3],[2,1,0,1,3,2],[2,1,0,2,1,2],[2,1,0,2,3,1],[2,1,0,3,2,1],[2,1,2,0,1,2],[2,1,2,0,2,1],[2,1,2,3,0,1],[2,1,2,3,4,0],[2,1,2,4,3,0],[2,1,3,2,0,1],[2,1,3,2,3,0],[2,1,3,4,2,0],[2,1,4,3,2,0],[2,3,1,0,1,2],[2,3,1,0,2,1],[2,3,1,2,0,1],[2,3,1,2,3,0],[2,3,1,3,2,0],[2,3,4,1,0,1],[2,3,4,1,2,0],[2,3,4,5,1,0],[2,3,5,4,1,0],[2,4,3,1,0,1],[2,4,3,1,2,0],[2,4,3,4,1,0],[2,4,5,3,1,0],[2,5,4,3,1,0],[3,2,1,0,1,2],[3,2,1,0,2,1],[3,2,1,2,0,1],[3,2,1,2,3,0],[3,2,1,3,2,0],[3,2,3,1,0,1],[3,2,3,1,2,0],[3,2,3,4,1,0],[3,2,4,3,1,0],[3,4,2,1,0,1],[3,4,2,1,2,0],[3,4,2,3,1,0],[3,4,5,2,1,0],[3,5,4,2,1,0],[4,3,2,1,0,1],[4,3,2,1,2,0],[4,3,2,3,1,0],[4,3,4,2,1,0],[4,5,3,2,1,0],[5,4,3,2,1,0]]
theorem C7r:trS 6=Bt:=by kernel_rfl
def hgP1:List (List Int×List Int×List Int):=[([],[],[0])]
def hgP2:List (List Int×List Int×List Int):=[([],[0],[0,1]),([0],[],[1,0])]
def hgP3:List (List Int×List Int×List Int):=[([],[0,1],[0,1,2]),([],[1,0],[0,2,1]),([0],[0],[1,0,1]),([0,1],[],[1,2,0]),([1,0],[],[2,1,0])]
def hgP4:List (List Int×List Int×List Int):=[([],[0,1,2],[0,1,2,3]),([],[0,2,1],[0,1,3,2]),([],[1,0,1],[0,2,1,2]),([],[1,2,0],[0,2,3,1]),([],[2,1,0],[0,3,2,1]),([0],[0,1],[1,0,1,2]),([0],[1,0],[1,0,2,1]),([0,1],[0],[1,2,0,1]),([1,0],[0],[2,1,0,1]),([0,1,2],[],[1,2,3,0]),([0,2,1],[],[1,3,2,0]),([1,0,1],[],[2,1,2,0]),([1,2,0],[],[2,3,1,0]),([2,1,0],[],[3,2,1,0])]
def hgP5:List (List Int×List Int×List Int):=[([],[0,1,2,3],[0,1,2,3,4]),([],[0,1,3,2],[0,1,2,4,3]),([],[0,2,1,2],[0,1,3,2,3]),([],[0,2,3,1],[0,1,3,4,2]),([],[0,3,2,1],[0,1,4,3,2]),([],[1,0,1,2],[0,2,1,2,3]),([],[1,0,2,1],[0,2,1,3,2]),([],[1,2,0,1],[0,2,3,1,2]),([],[1,2,3,0],[0,2,3,4,1]),([],[1,3,2,0],[0,2,4,3,1]),([],[2,1,0,1],[0,3,2,1,2]),([],[2,1,2,0],[0,3,2,3,1]),([],[2,3,1,0],[0,3,4,2,1]),([],[3,2,1,0],[0,4,3,2,1]),([0],[0,1,2],[1,0,1,2,3]),([0],[0,2,1],[1,0,1,3,2]),([0],[1,0,1],[1,0,2,1,2]),([0],[1,2,0],[1,0,2,3,1]),([0],[2,1,0],[1,0,3,2,1]),([0,1],[0,1],[1,2,0,1,2]),([0,1],[1,0],[1,2,0,2,1]),([1,0],[0,1],[2,1,0,1,2]),([1,0],[1,0],[2,1,0,2,1]),([0,1,2],[0],[1,2,3,0,1]),([0,2,1],[0],[1,3,2,0,1]),([1,0,1],[0],[2,1,2,0,1]),([1,2,0],[0],[2,3,1,0,1]),([2,1,0],[0],[3,2,1,0,1]),([0,1,2,3],[],[1,2,3,4,0]),([0,1,3,2],[],[1,2,4,3,0]),([0,2,1,2],[],[1,3,2,3,0]),([0,2,3,1],[],[1,3,4,2,0]),([0,3,2,1],[],[1,4,3,2,0]),([1,0,1,2],[],[2,1,2,3,0]),([1,0,2,1],[],[2,1,3,2,0]),([1,2,0,1],[],[2,3,1,2,0]),([1,2,3,0],[],[2,3,4,1,0]),([1,3,2,0],[],[2,4,3,1,0]),([2,1,0,1],[],[3,2,1,2,0]),([2,1,2,0],[],[3,2,3,1,0]),([2,3,1,0],[],[3,4,2,1,0]),([3,2,1,0],[],[4,3,2,1,0])]
def hgP6:List (List Int×List Int×List Int):=[([],[0,1,2,3,4],[0,1,2,3,4,5]),([],[0,1,2,4,3],[0,1,2,3,5,4]),([],[0,1,3,2,3],[0,1,2,4,3,4]),([],[0,1,3,4,2],[0,1,2,4,5,3]),([],[0,1,4,3,2],[0,1,2,5,4,3]),([],[0,2,1,2,3],[0,1,3,2,3,4]),([],[0,2,1,3,2],[0,1,3,2,4,3]),([],[0,2,3,1,2],[0,1,3,4,2,3]),([],[0,2,3,4,1],[0,1,3,4,5,2]),([],[0,2,4,3,1],[0,1,3,5,4,2]),([],[0,3,2,1,2],[0,1,4,3,2,3]),([],[0,3,2,3,1],[0,1,4,3,4,2]),([],[0,3,4,2,1],[0,1,4,5,3,2]),([],[0,4,3,2,1],[0,1,5,4,3,2]),([],[1,0,1,2,3],[0,2,1,2,3,4]),([],[1,0,1,3,2],[0,2,1,2,4,3]),([],[1,0,2,1,2],[0,2,1,3,2,3]),([],[1,0,2,3,1],[0,2,1,3,4,2]),([],[1,0,3,2,1],[0,2,1,4,3,2]),([],[1,2,0,1,2],[0,2,3,1,2,3]),([],[1,2,0,2,1],[0,2,3,1,3,2]),([],[1,2,3,0,1],[0,2,3,4,1,2]),([],[1,2,3,4,0],[0,2,3,4,5,1]),([],[1,2,4,3,0],[0,2,3,5,4,1]),([],[1,3,2,0,1],[0,2,4,3,1,2]),([],[1,3,2,3,0],[0,2,4,3,4,1]),([],[1,3,4,2,0],[0,2,4,5,3,1]),([],[1,4,3,2,0],[0,2,5,4,3,1]),([],[2,1,0,1,2],[0,3,2,1,2,3]),([],[2,1,0,2,1],[0,3,2,1,3,2]),([],[2,1,2,0,1],[0,3,2,3,1,2]),([],[2,1,2,3,0],[0,3,2,3,4,1]),([],[2,1,3,2,0],[0,3,2,4,3,1]),([],[2,3,1,0,1],[0,3,4,2,1,2]),([],[2,3,1,2,0],[0,3,4,2,3,1]),([],[2,3,4,1,0],[0,3,4,5,2,1]),([],[2,4,3,1,0],[0,3,5,4,2,1]),([],[3,2,1,0,1],[0,4,3,2,1,2]),([],[3,2,1,2,0],[0,4,3,2,3,1]),([],[3,2,3,1,0],[0,4,3,4,2,1]),([],[3,4,2,1,0],[0,4,5,3,2,1]),([],[4,3,2,1,0],[0,5,4,3,2,1]),([0],[0,1,2,3],[1,0,1,2,3,4]),([0],[0,1,3,2],[1,0,1,2,4,3]),([0],[0,2,1,2],[1,0,1,3,2,3]),([0],[0,2,3,1],[1,0,1,3,4,2]),([0],[0,3,2,1],[1,0,1,4,3,2]),([0],[1,0,1,2],[1,0,2,1,2,3]),([0],[1,0,2,1],[1,0,2,1,3,2]),([0],[1,2,0,1],[1,0,2,3,1,2]),([0],[1,2,3,0],[1,0,2,3,4,1]),([0],[1,3,2,0],[1,0,2,4,3,1]),([0],[2,1,0,1],[1,0,3,2,1,2]),([0],[2,1,2,0],[1,0,3,2,3,1]),([0],[2,3,1,0],[1,0,3,4,2,1]),([0],[3,2,1,0],[1,0,4,3,2,1]),([0,1],[0,1,2],[1,2,0,1,2,3]),([0,1],[0,2,1],[1,2,0,1,3,2]),([0,1],[1,0,1],[1,2,0,2,1,2]),([0,1],[1,2,0],[1,2,0,2,3,1]),([0,1],[2,1,0],[1,2,0,3,2,1]),([1,0],[0,1,2],[2,1,0,1,2,3]),([1,0],[0,2,1],[2,1,0,1,3,2]),([1,0],[1,0,1],[2,1,0,2,1,2]),([1,0],[1,2,0],[2,1,0,2,3,1]),([1,0],[2,1,0],[2,1,0,3,2,1]),([0,1,2],[0,1],[1,2,3,0,1,2]),([0,1,2],[1,0],[1,2,3,0,2,1]),([0,2,1],[0,1],[1,3,2,0,1,2]),([0,2,1],[1,0],[1,3,2,0,2,1]),([1,0,1],[0,1],[2,1,2,0,1,2]),([1,0,1],[1,0],[2,1,2,0,2,1]),([1,2,0],[0,1],[2,3,1,0,1,2]),([1,2,0],[1,0],[2,3,1,0,2,1]),([2,1,0],[0,1],[3,2,1,0,1,2]),([2,1,0],[1,0],[3,2,1,0,2,1]),([0,1,2,3],[0],[1,2,3,4,0,1]),([0,1,3,2],[0],[1,2,4,3,0,1]),([0,2,1,2],[0],[1,3,2,3,0,1]),([0,2,3,1],[0],[1,3,4,2,0,1]),([0,3,2,1],[0],[1,4,3,2,0,1]),([1,0,1,2],[0],[2,1,2,3,0,1]),([1,0,2,1],[0],[2,1,3,2,0,1]),([1,2,0,1],[0],[2,3,1,2,0,1]),([1,2,3,0],[0],[2,3,4,1,0,1]),([1,3,2,0],[0],[2,4,3,1,0,1]),([2,1,0,1],[0],[3,2,1,2,0,1]),([2,1,2,0],[0],[3,2,3,1,0,1]),([2,3,1,0],[0],[3,4,2,1,0,1]),([3,2,1,0],[0],[4,3,2,1,0,1]),([0,1,2,3,4],[],[1,2,3,4,5,0]),([0,1,2,4,3],[],[1,2,3,5,4,0]),([0,1,3,2,3],[],[1,2,4,3,4,0]),([0,1,3,4,2],[],[1,2,4,5,3,0]),([0,1,4,3,2],[],[1,2,5,4,3,0]),([0,2,1,2,3],[],[1,3,2,3,4,0]),([0,2,1,3,2],[],[1,3,2,4,3,0]),([0,2,3,1,2],[],[1,3,4,2,3,0]),([0,2,3,4,1],[],[1,3,4,5,2,0]),([0,2,4,3,1],[],[1,3,5,4,2,0]),([0,3,2,1,2],[],[1,4,3,2,3,0]),([0,3,2,3,1],[],[1,4,3,4,2,0]),([0,3,4,2,1],[],[1,4,5,3,2,0]),([0,4,3,2,1],[],[1,5,4,3,2,0]),([1,0,1,2,3],[],[2,1,2,3,4,0]),([1,0,1,3,2],[],[2,1,2,4,3,0]),([1,0,2,1,2],[],[2,1,3,2,3,0]),([1,0,2,3,1],[],[2,1,3,4,2,0]),([1,0,3,2,1],[],[2,1,4,3,2,0]),([1,2,0,1,2],[],[2,3,1,2,3,0]),([1,2,0,2,1],[],[2,3,1,3,2,0]),([1,2,3,0,1],[],[2,3,4,1,2,0]),([1,2,3,4,0],[],[2,3,4,5,1,0]),([1,2,4,3,0],[],[2,3,5,4,1,0]),([1,3,2,0,1],[],[2,4,3,1,2,0]),([1,3,2,3,0],[],[2,4,3,4,1,0]),([1,3,4,2,0],[],[2,4,5,3,1,0]),([1,4,3,2,0],[],[2,5,4,3,1,0]),([2,1,0,1,2],[],[3,2,1,2,3,0]),([2,1,0,2,1],[],[3,2,1,3,2,0]),([2,1,2,0,1],[],[3,2,3,1,2,0]),([2,1,2,3,0],[],[3,2,3,4,1,0]),([2,1,3,2,0],[],[3,2,4,3,1,0]),([2,3,1,0,1],[],[3,4,2,1,2,0]),([2,3,1,2,0],[],[3,4,2,3,1,0]),([2,3,4,1,0],[],[3,4,5,2,1,0]),([2,4,3,1,0],[],[3,5,4,2,1,0]),([3,2,1,0,1],[],[4,3,2,1,2,0]),([3,2,1,2,0],[],[4,3,2,3,1,0]),([3,2,3,1,0],[],[4,3,4,2,1,0]),([3,4,2,1,0],[],[4,5,3,2,1,0]),([4,3,2,1,0],[],[5,4,3,2,1,0])]
def tyY (n:Int) (l:List (List Int)):AnsY:=⟨46,[.int .i64 n],.slice none (l.map Ff) false,false⟩
open Go.Proofs
def rc13:IFunc:=⟨13,[.tmp 2],sO [dO 2 (.mv (cI 0))] (.seq (.block 0 (sO [mV 4 0,lN 5 4,dO 6 (.buildSlice none [.int .i64 0] [(0,(1,tM 5))]),dO 7 (.callF false 37 [cI 1,cI 12,tM 6]),dO 8 (.un .not (tM 7)),mV 3 8] (.cond (tM 3) (sO [dO 2 (.mv (cI 6))] .ret) (sO [mV 10 0,dO 11 (.callF false 38 [tM 10]),dO 12 (.un .not (tM 11)),mV 9 12] (.cond (tM 9) (sO [dO 2 (.mv (cI 24))] .ret) .skip))))) (sO [dO 2 (.mv (cI 0))] .ret))⟩
theorem rk13:(Bm Tryz.prog byr).fns 13=some rc13:=by kernel_rfl
theorem rt13:T.fns 13=some rc13:=Bp rk13 (by decide) (by decide)
def rc19:IFunc:=⟨24,[.tmp 2,.tmp 3],sO [dO 2 (.mv (cI 0)),dO 3 (.mv (cI 0))] (.seq (sO [mV 7 0,dO 8 (.callF false 13 [tM 7]),mV 4 8] (sO [mV 9 4,bC 10 .neq 9 0] (.cond (tM 10) (sO [mV 11 4,dO 2 (.mv (cI 0)),mV 3 11] .ret) .skip))) (.seq (sO [mV 12 0,lN 13 12,bC 14 .gtr 13 8] (.cond (tM 14) (sO [dO 2 (.mv (cI 0)),dO 3 (.mv (cI 6))] .ret) .skip)) (sO [mV 16 0,lN 17 16,dO 18 (.callF false 46 [tM 17]),mV 19 0,dO 20 (.callF false 45 [tM 18,tM 19,.const (.clo 47 [] [])]),mV 15 20,xT 21 15 0,xT 22 15 1,mV 5 21,mV 6 22] (sO [mV 23 5,mV 2 23,dO 3 (.mv (cI 0))] .ret))))⟩
theorem rk19:(Bm Tryz.prog byr).fns 19=some rc19:=by kernel_rfl
theorem rt19:T.fns 19=some rc19:=Bp rk19 (by decide) (by decide)
def rc20:IFunc:=⟨30,[.tmp 4,.tmp 5],sO [dO 4 (.mv (.const (.slice none [] true))),dO 5 (.mv (cI 0))] (.seq (.block 0 (sO [mV 8 0,dO 9 (.buildSlice none [.int .i64 0] [(0,(1,tM 8))]),dO 10 (.callF false 37 [cI 1,cI 8,tM 9]),dO 11 (.un .not (tM 10)),mV 7 11] (.cond (tM 7) (sO [dO 4 (.mv (.const (.slice none [] true))),dO 5 (.mv (cI 6))] .ret) (sO [mV 13 0,dO 14 (.callF false 43 [tM 13]),bC 15 .sub 14 1,mV 16 1,dO 17 (.buildSlice none [.int .i64 0] [(0,(1,tM 16))]),dO 18 (.callF false 37 [cI 0,tM 15,tM 17]),dO 19 (.un .not (tM 18)),mV 12 19] (.cond (tM 12) (sO [dO 4 (.mv (.const (.slice none [] true))),dO 5 (.mv (cI 2))] .ret) .skip))))) (sO [mV 20 0,dO 21 (.mkSlice none [.int .i64 0] 8 (tM 20) (tM 20)),mV 6 21] (sO [mV 22 6,mV 23 0,dO 24 (.callF false 46 [tM 23]),mV 25 1,iA 26 24 25,lD 27 26,dO 28 (.copy none (tM 22) (tM 27))] (sO [mV 29 6,mV 4 29,dO 5 (.mv (cI 0))] .ret))))⟩
theorem rk20:(Bm Tryz.prog byr).fns 20=some rc20:=by kernel_rfl
theorem rt20:T.fns 20=some rc20:=Bp rk20 (by decide) (by decide)
def rc21:IFunc:=⟨14,[.tmp 2],sO [dO 2 (.mv (cI 0))] (.seq (sO [mV 3 0,lN 4 3,bC 5 .lss 4 1,mV 6 5,gV 7 0 6 false,gO 8 (.len (tM 7)) 6 false,gO 9 (.bin .gtr (tM 8) (cI 12)) 6 false,dO 10 (.pick (tM 6) (cB true) (tM 9))] (.cond (tM 10) (sO [dO 2 (.mv (cI 6))] .ret) .skip)) (.seq (sO [mV 11 0,dO 12 (.callF false 48 [tM 11,cI 0]),dO 13 (.un .not (tM 12))] (.cond (tM 13) (sO [dO 2 (.mv (cI 24))] .ret) .skip)) (sO [dO 2 (.mv (cI 0))] .ret)))⟩
theorem rk21:(Bm Tryz.prog byr).fns 21=some rc21:=by kernel_rfl
theorem rt21:T.fns 21=some rc21:=Bp rk21 (by decide) (by decide)
def rc22:IFunc:=⟨36,[.tmp 4],sO [dO 4 (.mv (.const (.slice none [] true)))] (.seq (sO [dO 5 (.mv (cI 0))] (.block 0 (.loop (.seq (sO [mV 6 5,mV 7 0,lN 8 7,bB 9 .lss 6 8] (.cond (tM 9) .skip (.exit 0))) (.seq (.block 1 (sO [mV 12 0,mV 13 5,iA 14 12 13,lD 15 14,mV 16 1,bB 17 .eql 15 16] (.cond (tM 17) (sO [dO 18 (.buildSlice none [.int .i64 0] [(0,(1,cI 0))]),mV 19 0,mV 20 5,dO 21 (.slice none (tM 19) none (some (tM 20)) none),mV 22 1,bC 23 .add 22 1,dO 24 (.callF false 22 [tM 21,tM 23]),dO 25 (.append none 8 (tM 18) (tM 24)),dO 26 (.buildSlice none [.int .i64 0] [(0,(1,cI 1))]),dO 27 (.append none 8 (tM 25) (tM 26)),mV 28 0,mV 29 5,bC 30 .add 29 1,dO 31 (.slice none (tM 28) (some (tM 30)) none none),mV 32 1,bC 33 .add 32 1,dO 34 (.callF false 22 [tM 31,tM 33]),dO 35 (.append none 8 (tM 27) (tM 34)),mV 4 35] .ret) .skip))) (.ops [mV 10 5,bC 11 .add 10 1,mV 5 11])))))) (sO [dO 4 (.mv (.const (.slice none [] true)))] .ret))⟩
theorem rk22:(Bm Tryz.prog byr).fns 22=some rc22:=by kernel_rfl
theorem rt22:T.fns 22=some rc22:=Bp rk22 (by decide) (by decide)
def rc23:IFunc:=⟨59,[.tmp 4,.tmp 5],sO [dO 4 (.mv (.const (.slice none [] true))),dO 5 (.mv (cI 0))] (sO [mV 13 0,dO 14 (.callF true 49 [tM 13]),mV 12 14,xT 15 12 0,xT 16 12 1,mV 6 15,mV 7 16] (.seq (sO [mV 17 7,bC 18 .neq 17 0] (.cond (tM 18) (sO [mV 19 7,dO 4 (.mv (.const (.slice none [] true))),mV 5 19] .ret) .skip)) (.seq (sO [mV 20 1,dO 21 (.callF false 24 [tM 20]),mV 8 21] (sO [mV 22 8,bC 23 .neq 22 0] (.cond (tM 23) (sO [mV 24 8,dO 4 (.mv (.const (.slice none [] true))),mV 5 24] .ret) .skip))) (.seq (sO [mV 25 1,dO 26 (.callF false 50 [tM 25]),dO 27 (.nilCheck (tM 26)),dO 28 (.fieldAddr 0 (tM 27)),dO 29 (.load (some 1) (tM 28)),dO 30 (.callF false 51 [tM 29]),mV 31 6,dO 32 (.nilCheck (tM 31)),dO 33 (.fieldAddr 0 (tM 32)),dO 34 (.load (some 1) (tM 33)),dO 35 (.callF false 51 [tM 34]),dO 36 (.eqAgg 13 true (tM 30) (tM 35))] (.cond (tM 36) (sO [dO 4 (.mv (.const (.slice none [] true))),dO 5 (.mv (cI 15))] .ret) .skip)) (sO [mV 37 1,dO 38 (.callF false 42 [tM 37]),lN 39 38,dO 40 (.mkSlice none [.int .i64 0] 8 (tM 39) (tM 39)),mV 9 40] (.seq (sO [mV 41 9,lN 42 41,dO 10 (.alloc [.int .i64 0]),eO (.store 1 (tM 10) (tM 42))] (.block 0 (.loop (.seq (sO [lD 43 10,bC 44 .gtr 43 0] (.cond (tM 44) .skip (.exit 0))) (.seq (.block 1 (sO [mV 47 1,dO 48 (.mkFunc 53 [] [tM 10]),dO 49 (.callF false 52 [tM 47,tM 48]),mV 11 49] (.ops [mV 50 9,lD 51 10,bC 52 .sub 51 1,mV 53 6,mV 54 11,dO 55 (.callW [10] 55 [tM 53,tM 54]),iA 56 50 52,eO (.store 1 (tM 56) (tM 55))]))) (.seq (sO [lD 57 10] (.ops [dO 10 (.alloc [.int .i64 0]),eO (.store 1 (tM 10) (tM 57))])) (.ops [lD 45 10,bC 46 .sub 45 1,eO (.store 1 (tM 10) (tM 46))]))))))) (sO [mV 58 9,mV 4 58,dO 5 (.mv (cI 0))] .ret)))))))⟩
theorem rk23:(Bm Tryz.prog byr).fns 23=some rc23:=by kernel_rfl
theorem rt23:T.fns 23=some rc23:=Bp rk23 (by decide) (by decide)
def rc24:IFunc:=⟨31,[.tmp 2],sO [dO 2 (.mv (cI 0))] (sO [mV 4 0,dO 5 (.callF true 42 [tM 4]),mV 3 5] (.seq (.block 0 (sO [mV 7 3,lN 8 7,bC 9 .gtr 8 12,mV 6 9] (.cond (tM 6) (sO [dO 2 (.mv (cI 6))] .ret) (sO [mV 11 3,lN 12 11,mV 13 3,dO 14 (.callF false 56 [cI 1,tM 12,tM 13]),dO 15 (.un .not (tM 14)),mV 10 15] (.cond (tM 10) (sO [dO 2 (.mv (cI 3))] .ret) .skip))))) (sO [mV 16 3,dO 17 (.callF true 57 [tM 16])] (.seq (.block 1 (sO [mV 19 3,dO 20 (.callF true 58 [tM 19]),lN 21 20,mV 22 0,dO 23 (.callF true 42 [tM 22]),lN 24 23,bB 25 .lss 21 24,mV 18 25] (.cond (tM 18) (sO [dO 2 (.mv (cI 11))] .ret) (sO [mV 27 0,dO 28 (.callF false 50 [tM 27]),dO 29 (.callF false 59 [tM 28,cI 1]),dO 30 (.un .not (tM 29)),mV 26 30] (.cond (tM 26) (sO [dO 2 (.mv (cI 22))] .ret) .skip))))) (sO [dO 2 (.mv (cI 0))] .ret)))))⟩
theorem rk24:(Bm Tryz.prog byr).fns 24=some rc24:=by kernel_rfl
theorem rt24:T.fns 24=some rc24:=Bp rk24 (by decide) (by decide)
def rc25:IFunc:=⟨19,[.tmp 2],sO [dO 2 (.mv (cI 0))] (sO [mV 4 0,dO 5 (.callF false 42 [tM 4]),mV 3 5] (.seq (.block 0 (sO [mV 7 3,lN 8 7,bC 9 .gtr 8 12,mV 6 9] (.cond (tM 6) (sO [dO 2 (.mv (cI 6))] .ret) (sO [mV 11 3,dO 12 (.callF false 56 [cI 1,cI 99,tM 11]),dO 13 (.un .not (tM 12)),mV 10 13] (.cond (tM 10) (sO [dO 2 (.mv (cI 3))] .ret) (sO [mV 15 0,dO 16 (.callF false 50 [tM 15]),dO 17 (.callF false 59 [tM 16,cI 0]),dO 18 (.un .not (tM 17)),mV 14 18] (.cond (tM 14) (sO [dO 2 (.mv (cI 22))] .ret) .skip))))))) (sO [dO 2 (.mv (cI 0))] .ret)))⟩
theorem rk25:(Bm Tryz.prog byr).fns 25=some rc25:=by kernel_rfl
theorem rt25:T.fns 25=some rc25:=Bp rk25 (by decide) (by decide)
def rc26:IFunc:=⟨25,[.tmp 2],sO [dO 2 (.mv (cI 0))] (.seq (sO [mV 4 0,lN 5 4,bC 6 .gtr 5 12] (.cond (tM 6) (sO [dO 2 (.mv (cI 6))] .ret) .skip)) (.seq (sO [dO 3 (.mv (cI 0))] (.block 0 (.loop (.seq (sO [mV 7 3,mV 8 0,lN 9 8,bB 10 .lss 7 9] (.cond (tM 10) .skip (.exit 0))) (.seq (.block 1 (sO [mV 13 0,mV 14 3,iA 15 13 14,lD 16 15,bC 17 .lss 16 1,mV 18 17,gV 19 0 18 false,gV 20 3 18 false,gO 21 (.indexAddr 1 (tM 19) (tM 20)) 18 false,gO 22 (.load none (tM 21)) 18 false,gO 23 (.bin .gtr (tM 22) (cI 99)) 18 false,dO 24 (.pick (tM 18) (cB true) (tM 23))] (.cond (tM 24) (sO [dO 2 (.mv (cI 3))] .ret) .skip))) (.ops [mV 11 3,bC 12 .add 11 1,mV 3 12])))))) (sO [dO 2 (.mv (cI 0))] .ret)))⟩
theorem rk26:(Bm Tryz.prog byr).fns 26=some rc26:=by kernel_rfl
theorem rt26:T.fns 26=some rc26:=Bp rk26 (by decide) (by decide)
def rc27:IFunc:=⟨59,[.tmp 2,.tmp 3,.tmp 4],sO [dO 2 (.mv (.const (.slice none [] true))),dO 3 (.mv (.const (.slice none [] true))),dO 4 (.mv (cI 0))] (.seq (sO [mV 13 0,dO 14 (.callF false 60 [tM 13]),mV 5 14] (sO [mV 15 5,bC 16 .neq 15 0] (.cond (tM 16) (sO [mV 17 5,dO 2 (.mv (.const (.slice none [] true))),dO 3 (.mv (.const (.slice none [] true))),mV 4 17] .ret) .skip))) (sO [dO 6 (.mv (.const (.slice none [] true)))] (sO [dO 18 (.callF true 50 [.const (.slice none [] true)]),mV 7 18] (sO [mV 19 7,dO 20 (.mkFunc 61 [tM 19] []),mV 8 20] (.seq (sO [mV 21 0,lN 22 21,dO 23 (.mv (cI 0))] (.block 0 (.loop (sO [bB 24 .lss 23 22] (.seq (.cond (tM 24) .skip (.exit 0)) (.seq (.block 1 (sO [mV 25 23,iA 26 21 23,lD 27 26,mV 9 25,mV 10 27] (sO [mV 29 8,mV 30 10,dO 31 (.call true (tM 29) [tM 30]),mV 28 31,xT 32 28 0,xT 33 28 1,mV 11 32,mV 12 33] (.seq (sO [mV 34 11,mV 35 6,lN 36 35,bB 37 .eql 34 36] (.cond (tM 37) (.ops [mV 38 6,dO 39 (.buildSliceO none [.slice none [] true] [(0,(1,.const (.slice none [] true)))]),dO 40 (.append none 24 (tM 38) (tM 39)),mV 6 40]) .skip)) (.ops [mV 41 6,mV 42 11,mV 43 6,mV 44 11,iA 45 43 44,lD 46 45,mV 47 9,bC 48 .add 47 1,dO 49 (.buildSlice none [.int .i64 0] [(0,(1,tM 48))]),dO 50 (.append none 8 (tM 46) (tM 49)),iA 51 41 42,eO (.store 1 (tM 51) (tM 50))]))))) (.ops [bC 52 .add 23 1,mV 23 52]))))))) (sO [mV 53 7,dO 54 (.nilCheck (tM 53)),dO 55 (.fieldAddr 0 (tM 54)),dO 56 (.fieldAddr 0 (tM 55)),lD 57 56,mV 58 6,mV 2 57,mV 3 58,dO 4 (.mv (cI 0))] .ret))))))⟩
theorem rk27:(Bm Tryz.prog byr).fns 27=some rc27:=by kernel_rfl
theorem rt27:T.fns 27=some rc27:=Bp rk27 (by decide) (by decide)
def rc28:IFunc:=⟨27,[.tmp 4],sO [dO 4 (.mv (cB false))] (.seq (sO [mV 6 0,lN 7 6,mV 8 1,lN 9 8,bB 10 .neq 7 9] (.cond (tM 10) (sO [dO 4 (.mv (cB false))] .ret) .skip)) (.seq (sO [dO 5 (.mv (cI 0))] (.block 0 (.loop (.seq (sO [mV 11 5,mV 12 0,lN 13 12,bB 14 .lss 11 13] (.cond (tM 14) .skip (.exit 0))) (.seq (.block 1 (sO [mV 17 0,mV 18 5,iA 19 17 18,lD 20 19,mV 21 1,mV 22 5,iA 23 21 22,lD 24 23,dO 25 (.callF false 62 [tM 20,tM 24]),dO 26 (.un .not (tM 25))] (.cond (tM 26) (sO [dO 4 (.mv (cB false))] .ret) .skip))) (.ops [mV 15 5,bC 16 .add 15 1,mV 5 16])))))) (sO [dO 4 (.mv (cB true))] .ret)))⟩
theorem rk28:(Bm Tryz.prog byr).fns 28=some rc28:=by kernel_rfl
theorem rt28:T.fns 28=some rc28:=Bp rk28 (by decide) (by decide)
def rc37:IFunc:=⟨11,[.tmp 6],sO [dO 3 (.box (tM 0)),dO 4 (.box (tM 1)),dO 6 (.mv (cB false))] (sO [mV 7 2,dO 8 (.mkFunc 84 [] [tM 3,tM 4]),dO 9 (.callF false 79 [tM 7,tM 8]),dO 10 (.un .not (tM 9)),mV 6 10] .ret)⟩
theorem rk37:(Bm Tryz.prog byr).fns 37=some rc37:=by kernel_rfl
theorem rt37:T.fns 37=some rc37:=Bp rk37 (by decide) (by decide)
def rc38:IFunc:=⟨59,[.tmp 2],sO [dO 2 (.mv (cB false))] (.seq (sO [mV 8 0,lN 9 8,bC 10 .eql 9 0] (.cond (tM 10) (sO [dO 2 (.mv (cB true))] .ret) .skip)) (sO [mV 11 0,dO 12 (.callF false 85 [tM 11,cI 0]),mV 3 12] (.seq (sO [mV 13 3,bC 14 .lss 13 0,mV 15 14,gV 16 0 15 false,gV 17 3 15 false,gO 18 (.bin .add (tM 17) (cI 1)) 15 false,gO 19 (.slice none (tM 16) (some (tM 18)) none none) 15 false,gO 20 (.callF false 54 [tM 19,cI 0]) 15 false,dO 21 (.pick (tM 15) (cB true) (tM 20)),mV 22 21,gV 23 0 22 false,gO 24 (.callF false 86 [tM 23]) 22 false,gO 25 (.bin .lss (tM 24) (cI 0)) 22 false,dO 26 (.pick (tM 22) (cB true) (tM 25))] (.cond (tM 26) (sO [dO 2 (.mv (cB false))] .ret) .skip)) (sO [dO 4 (.mv (.const (.slice none [] true))),dO 5 (.mv (.const (.slice none [] true)))] (.seq (sO [mV 27 0,lN 28 27,dO 29 (.mv (cI 0))] (.block 0 (.loop (sO [bB 30 .lss 29 28] (.seq (.cond (tM 30) .skip (.exit 0)) (.seq (.block 1 (sO [mV 31 29,iA 32 27 29,lD 33 32,mV 6 31,mV 7 33] (.block 2 (sO [mV 35 6,mV 36 3,bB 37 .lss 35 36,mV 34 37] (.cond (tM 34) (.ops [mV 38 4,mV 39 7,bC 40 .sub 39 1,dO 41 (.buildSlice none [.int .i64 0] [(0,(1,tM 40))]),dO 42 (.append none 8 (tM 38) (tM 41)),mV 4 42]) (sO [mV 44 6,mV 45 3,bB 46 .gtr 44 45,mV 43 46] (.cond (tM 43) (.ops [mV 47 5,mV 48 7,bC 49 .sub 48 1,dO 50 (.buildSlice none [.int .i64 0] [(0,(1,tM 49))]),dO 51 (.append none 8 (tM 47) (tM 50)),mV 5 51]) .skip))))))) (.ops [bC 52 .add 29 1,mV 29 52]))))))) (sO [mV 53 4,dO 54 (.callF false 38 [tM 53]),mV 55 54,gV 56 5 55 true,gO 57 (.callF false 38 [tM 56]) 55 true,dO 58 (.pick (tM 55) (tM 57) (cB false)),mV 2 58] .ret))))))⟩
theorem rk38:(Bm Tryz.prog byr).fns 38=some rc38:=by kernel_rfl
theorem rt38:T.fns 38=some rc38:=Bp rk38 (by decide) (by decide)
def rc42:IFunc:=⟨36,[.tmp 2],sO [dO 2 (.mv (.const (.slice none [] true)))] (sO [dO 3 (.mv (cI 0))] (.seq (sO [mV 9 0,lN 10 9,dO 11 (.mv (cI 0))] (.block 0 (.loop (sO [bB 12 .lss 11 10] (.seq (.cond (tM 12) .skip (.exit 0)) (.seq (.block 1 (sO [iA 13 9 11,lD 14 13,mV 5 14] (sO [mV 15 3,mV 16 5,lN 17 16,bB 18 .add 15 17,mV 3 18] (sO [mV 19 3,bC 20 .lss 19 0] (.cond (tM 20) (.ops [⟨some 21,.bad,none⟩,⟨none,.bad,none⟩]) .skip))))) (.ops [bC 22 .add 11 1,mV 11 22]))))))) (sO [mV 23 3,dO 24 (.callF true 88 [.const (.slice none [] true),tM 23]),mV 6 24] (.seq (sO [mV 25 0,lN 26 25,dO 27 (.mv (cI 0))] (.block 2 (.loop (sO [bB 28 .lss 27 26] (.seq (.cond (tM 28) .skip (.exit 2)) (.seq (.block 3 (sO [iA 29 25 27,lD 30 29,mV 8 30] (.ops [mV 31 6,mV 32 8,dO 33 (.append none 8 (tM 31) (tM 32)),mV 6 33]))) (.ops [bC 34 .add 27 1,mV 27 34]))))))) (sO [mV 35 6,mV 2 35] .ret)))))⟩
theorem rk42:(Bm Tryz.prog byr).fns 42=some rc42:=by kernel_rfl
theorem rt42:T.fns 42=some rc42:=Bp rk42 (by decide) (by decide)
def rc43:IFunc:=⟨20,[.tmp 2],sO [dO 2 (.mv (cI 0))] (sO [dO 3 (.mv (cI 1))] (.seq (sO [mV 5 0,dO 6 (.mv (cI 0))] (.block 0 (.loop (sO [bB 7 .lss 6 5] (.seq (.cond (tM 7) .skip (.exit 0)) (.seq (.block 1 (sO [mV 8 6,mV 4 8] (.ops [mV 9 3,bC 10 .mul 9 2,mV 11 4,dO 12 (.bin .mul (cI 2) (tM 11)),bC 13 .add 12 1,bB 14 .mul 10 13,mV 15 4,bC 16 .add 15 2,bB 17 .quo 14 16,mV 3 17]))) (.ops [bC 18 .add 6 1,mV 6 18]))))))) (sO [mV 19 3,mV 2 19] .ret)))⟩
theorem rk43:(Bm Tryz.prog byr).fns 43=some rc43:=by kernel_rfl
theorem rt43:T.fns 43=some rc43:=Bp rk43 (by decide) (by decide)
def rc45:IFunc:=⟨49,[.tmp 6,.tmp 7],sO [dO 6 (.mv (cI 0)),dO 7 (.mv (cB false))] (sO [mV 12 0,lN 13 12,mV 8 13] (sO [mV 14 8,dO 9 (.mv (cI 0)),mV 10 14] (.seq (.block 0 (.loop (.seq (sO [mV 15 9,mV 16 10,bB 17 .lss 15 16] (.cond (tM 17) .skip (.exit 0))) (.block 1 (sO [mV 18 9,mV 19 10,bB 20 .add 18 19,dO 21 (.conv .u64 (tM 20)),dO 22 (.bin .shr (tM 21) (.const (.int .u64 1))),dO 23 (.conv .i64 (tM 22)),mV 11 23] (sO [mV 24 2,mV 25 0,mV 26 11,iA 27 25 26,lD 28 27,mV 29 1,dO 30 (.call false (tM 24) [tM 28,tM 29]),bC 31 .lss 30 0] (.cond (tM 31) (.ops [mV 32 11,bC 33 .add 32 1,mV 9 33]) (.ops [mV 34 11,mV 10 34])))))))) (sO [mV 35 9,mV 36 9,mV 37 8,bB 38 .lss 36 37,mV 39 38,gV 40 2 39 true,gV 41 0 39 true,gV 42 9 39 true,gO 43 (.indexAddr 1 (tM 41) (tM 42)) 39 true,gO 44 (.load none (tM 43)) 39 true,gV 45 1 39 true,gO 46 (.call false (tM 40) [tM 44,tM 45]) 39 true,gO 47 (.bin .eql (tM 46) (cI 0)) 39 true,dO 48 (.pick (tM 39) (tM 47) (cB false)),mV 6 35,mV 7 48] .ret))))⟩
theorem rk45:(Bm Tryz.prog byr).fns 45=some rc45:=by kernel_rfl
theorem rt45:T.fns 45=some rc45:=Bp rk45 (by decide) (by decide)
def rc47:IFunc:=⟨36,[.tmp 4],sO [dO 4 (.mv (cI 0))] (.seq (sO [mV 9 0,lN 10 9,dO 11 (.mv (cI 0))] (.block 0 (.loop (sO [bB 12 .lss 11 10] (.seq (.cond (tM 12) .skip (.exit 0)) (.seq (.block 1 (sO [mV 13 11,iA 14 9 11,lD 15 14,mV 5 13,mV 6 15] (.seq (sO [mV 16 5,mV 17 1,lN 18 17,bB 19 .geq 16 18] (.cond (tM 19) (sO [dO 4 (.mv (cI 1))] .ret) .skip)) (sO [mV 20 1,mV 21 5,iA 22 20 21,lD 23 22,mV 7 23] (sO [mV 24 6,mV 25 7,dO 26 (.callF false 91 [tM 24,tM 25]),mV 8 26] (sO [mV 27 8,bC 28 .neq 27 0] (.cond (tM 28) (sO [mV 29 8,mV 4 29] .ret) .skip))))))) (.ops [bC 30 .add 11 1,mV 11 30]))))))) (.seq (sO [mV 31 0,lN 32 31,mV 33 1,lN 34 33,bB 35 .lss 32 34] (.cond (tM 35) (sO [dO 4 (.mv (cI (-1)))] .ret) .skip)) (sO [dO 4 (.mv (cI 0))] .ret)))⟩
theorem rk47:(Bm Tryz.prog byr).fns 47=some rc47:=by kernel_rfl
theorem rt47:T.fns 47=some rc47:=Bp rk47 (by decide) (by decide)
def rc48:IFunc:=⟨45,[.tmp 4],sO [dO 4 (.mv (cB false))] (.seq (sO [mV 8 0,lN 9 8,bC 10 .eql 9 0] (.cond (tM 10) (sO [dO 4 (.mv (cB true))] .ret) .skip)) (sO [dO 5 (.mv (cI 0)),dO 6 (.mv (cI 0))] (.seq (sO [dO 7 (.mv (cI 0))] (.block 0 (.loop (.seq (sO [mV 11 7,mV 12 0,lN 13 12,bB 14 .lss 11 13] (.cond (tM 14) .skip (.exit 0))) (.seq (.block 1 (sO [mV 17 0,mV 18 7,iA 19 17 18,lD 20 19,mV 21 1,bB 22 .eql 20 21] (.cond (tM 22) (.ops [mV 23 7,mV 24 6,bC 25 .add 24 1,mV 5 23,mV 6 25]) .skip))) (.ops [mV 15 7,bC 16 .add 15 1,mV 7 16])))))) (sO [mV 26 6,bC 27 .eql 26 1,mV 28 27,gV 29 0 28 true,gV 30 5 28 true,gO 31 (.slice none (tM 29) none (some (tM 30)) none) 28 true,gV 32 1 28 true,gO 33 (.bin .add (tM 32) (cI 1)) 28 true,gO 34 (.callF false 48 [tM 31,tM 33]) 28 true,dO 35 (.pick (tM 28) (tM 34) (cB false)),mV 36 35,gV 37 0 36 true,gV 38 5 36 true,gO 39 (.bin .add (tM 38) (cI 1)) 36 true,gO 40 (.slice none (tM 37) (some (tM 39)) none none) 36 true,gV 41 1 36 true,gO 42 (.bin .add (tM 41) (cI 1)) 36 true,gO 43 (.callF false 48 [tM 40,tM 42]) 36 true,dO 44 (.pick (tM 36) (tM 43) (cB false)),mV 4 44] .ret))))⟩
theorem rk48:(Bm Tryz.prog byr).fns 48=some rc48:=by kernel_rfl
theorem rt48:T.fns 48=some rc48:=Bp rk48 (by decide) (by decide)
def rc49:IFunc:=⟨12,[.tmp 2,.tmp 3],sO [dO 2 (.mv (.const .nilptr)),dO 3 (.mv (cI 0))] (.seq (sO [mV 5 0,dO 6 (.callF false 25 [tM 5]),mV 4 6] (sO [mV 7 4,bC 8 .neq 7 0] (.cond (tM 8) (sO [mV 9 4,dO 2 (.mv (.const .nilptr)),mV 3 9] .ret) .skip))) (sO [mV 10 0,dO 11 (.callF true 50 [tM 10]),mV 2 11,dO 3 (.mv (cI 0))] .ret))⟩
theorem rk49:(Bm Tryz.prog byr).fns 49=some rc49:=by kernel_rfl
theorem rt49:T.fns 49=some rc49:=Bp rk49 (by decide) (by decide)
def rc50:IFunc:=⟨49,[.tmp 2],sO [dO 2 (.mv (.const .nilptr))] (sO [⟨some 8,.mkMap,none⟩,dO 9 (.build [.slice none [] true,.fmap [] []] [(1,(1,tM 8))]),dO 10 (.box (tM 9)),mV 3 10] (.seq (sO [mV 11 0,lN 12 11,dO 13 (.mv (cI 0))] (.block 0 (.loop (sO [bB 14 .lss 13 12] (.seq (.cond (tM 14) .skip (.exit 0)) (.seq (.block 1 (sO [mV 15 13,iA 16 11 13,lD 17 16,mV 4 15,mV 5 17] (sO [mV 18 3,mV 19 3,dO 20 (.nilCheck (tM 19)),dO 21 (.fieldAddr 0 (tM 20)),dO 22 (.fieldAddr 0 (tM 21)),dO 23 (.loadL none (tM 22) 23 49 []),mV 24 5,dO 25 (.callD 25 49 92 [tM 24]),dO 26 (.buildSliceO none [.slice none [] true] [(0,(1,tM 25))]),dO 27 (.append none 24 (tM 23) (tM 26)),dO 28 (.nilCheck (tM 18)),dO 29 (.fieldAddr 0 (tM 28)),dO 30 (.fieldAddr 0 (tM 29)),eO (.store 1 (tM 30) (tM 27))] (sO [mV 31 5,lN 32 31,dO 33 (.mv (cI 0))] (.block 2 (.loop (sO [bB 34 .lss 33 32] (.seq (.cond (tM 34) .skip (.exit 2)) (.seq (.block 3 (sO [mV 35 33,iA 36 31 33,lD 37 36,mV 6 35,mV 7 37] (.ops [mV 38 3,dO 39 (.nilCheck (tM 38)),dO 40 (.fieldAddr 1 (tM 39)),lD 41 40,mV 42 4,mV 43 6,dO 44 (.build [.int .i64 0,.int .i64 0] [(0,(1,tM 42)),(1,(1,tM 43))]),mV 45 7,eO (.mapUpdate (some 2) (tM 41) (tM 44) (tM 45))]))) (.ops [bC 46 .add 33 1,mV 33 46])))))))))) (.ops [bC 47 .add 13 1,mV 13 47]))))))) (sO [mV 48 3,mV 2 48] .ret)))⟩
theorem rk50:(Bm Tryz.prog byr).fns 50=some rc50:=by kernel_rfl
theorem rt50:T.fns 50=some rc50:=Bp rk50 (by decide) (by decide)
def rc51:IFunc:=⟨21,[.cell 2 (some 13)],sO [dO 1 (.box (tM 0)),dO 2 (.alloc [.int .i64 0,.int .i64 0,.int .i64 0,.int .i64 0,.int .i64 0,.int .i64 0,.int .i64 0,.int .i64 0,.int .i64 0,.int .i64 0,.int .i64 0,.int .i64 0,.int .i64 0])] (sO [dO 3 (.alloc [.int .i64 0,.int .i64 0,.int .i64 0,.int .i64 0,.int .i64 0,.int .i64 0,.int .i64 0,.int .i64 0,.int .i64 0,.int .i64 0,.int .i64 0,.int .i64 0,.int .i64 0])] (sO [dO 6 (.sliceA none 13 (tM 3) none none none),eO (.clear (.int .i64 0) (tM 6))] (.seq (sO [dO 7 (.fieldAddr 0 (tM 1)),lD 8 7,lN 9 8,dO 10 (.mv (cI 0))] (.block 0 (.loop (sO [bB 11 .lss 10 9] (.seq (.cond (tM 11) .skip (.exit 0)) (.seq (.block 1 (sO [mV 12 10,iA 13 8 10,lD 14 13,mV 4 12,mV 5 14] (.ops [mV 15 4,mV 16 5,lN 17 16,dO 18 (.indexAddrA 13 1 (tM 3) (tM 15)),eO (.store 1 (tM 18) (tM 17))]))) (.ops [bC 19 .add 10 1,mV 10 19]))))))) (sO [dO 20 (.load (some 13) (tM 3)),eO (.store 13 (tM 2) (tM 20))] .ret))))⟩
theorem rk51:(Bm Tryz.prog byr).fns 51=some rc51:=by kernel_rfl
theorem rt51:T.fns 51=some rc51:=Bp rk51 (by decide) (by decide)
def rc52:IFunc:=⟨19,[.tmp 4],sO [dO 4 (.mv (cI 0))] (.seq (sO [mV 6 0,lN 7 6,dO 8 (.mv (cI 0))] (.block 0 (.loop (sO [bB 9 .lss 8 7] (.seq (.cond (tM 9) .skip (.exit 0)) (.seq (.block 1 (sO [mV 10 8,mV 5 10] (sO [mV 11 1,mV 12 0,mV 13 5,iA 14 12 13,lD 15 14,dO 16 (.call false (tM 11) [tM 15])] (.cond (tM 16) (sO [mV 17 5,mV 4 17] .ret) .skip)))) (.ops [bC 18 .add 8 1,mV 8 18]))))))) (sO [dO 4 (.mv (cI (-1)))] .ret))⟩
theorem rk52:(Bm Tryz.prog byr).fns 52=some rc52:=by kernel_rfl
theorem rt52:T.fns 52=some rc52:=Bp rk52 (by decide) (by decide)
def rc53:IFunc:=⟨7,[.tmp 3],sO [dO 3 (.mv (cB false))] (sO [mV 4 0,lD 5 1,dO 6 (.callF false 54 [tM 4,tM 5]),mV 3 6] .ret)⟩
theorem rk53:(Bm Tryz.prog byr).fns 53=some rc53:=by kernel_rfl
theorem rt53:T.fns 53=some rc53:=Bp rk53 (by decide) (by decide)
def rc54:IFunc:=⟨9,[.tmp 4],sO [dO 4 (.mv (cB false))] (sO [mV 5 0,mV 6 1,dO 7 (.callF false 85 [tM 5,tM 6]),bC 8 .geq 7 0,mV 4 8] .ret)⟩
theorem rk54:(Bm Tryz.prog byr).fns 54=some rc54:=by kernel_rfl
theorem rt54:T.fns 54=some rc54:=Bp rk54 (by decide) (by decide)
def rc55:IFunc:=⟨103,[.tmp 4],sO [dO 4 (.mv (cI 0))] (sO [mV 10 0,dO 11 (.nilCheck (tM 10)),dO 12 (.fieldAddr 0 (tM 11)),dO 13 (.fieldAddr 0 (tM 12)),lD 14 13,mV 15 1,iA 16 14 15,lD 17 16,lN 18 17,bC 19 .sub 18 1,mV 5 19] (sO [mV 20 0,dO 21 (.nilCheck (tM 20)),dO 22 (.fieldAddr 0 (tM 21)),dO 23 (.fieldAddr 0 (tM 22)),lD 24 23,mV 25 1,iA 26 24 25,lD 27 26,mV 28 5,iA 29 27 28,lD 30 29,dO 6 (.alloc [.int .i64 0]),eO (.store 1 (tM 6) (tM 30))] (sO [mV 31 0,dO 32 (.nilCheck (tM 31)),dO 33 (.fieldAddr 0 (tM 32)),dO 34 (.fieldAddr 0 (tM 33)),lD 35 34,mV 36 1,mV 37 0,dO 38 (.nilCheck (tM 37)),dO 39 (.fieldAddr 0 (tM 38)),dO 40 (.fieldAddr 0 (tM 39)),lD 41 40,mV 42 1,iA 43 41 42,lD 44 43,mV 45 5,dO 46 (.slice none (tM 44) none (some (tM 45)) none),iA 47 35 36,eO (.store 1 (tM 47) (tM 46))] (sO [mV 48 0,dO 49 (.nilCheck (tM 48)),dO 50 (.fieldAddr 1 (tM 49)),lD 51 50,mV 52 1,mV 53 5,dO 54 (.build [.int .i64 0,.int .i64 0] [(0,(1,tM 52)),(1,(1,tM 53))]),eO (.delete (some 2) (tM 51) (tM 54))] (.seq (sO [mV 55 5,bC 56 .eql 55 0] (.cond (tM 56) (.ops [mV 57 0,mV 58 0,dO 59 (.nilCheck (tM 58)),dO 60 (.fieldAddr 0 (tM 59)),dO 61 (.fieldAddr 0 (tM 60)),lD 62 61,mV 63 1,dO 64 (.slice none (tM 62) none (some (tM 63)) none),dO 65 (.nilCheck (tM 57)),dO 66 (.fieldAddr 0 (tM 65)),dO 67 (.fieldAddr 0 (tM 66)),eO (.store 1 (tM 67) (tM 64))]) .skip)) (.seq (sO [mV 68 1,bC 69 .sub 68 1,mV 7 69] (.block 0 (.loop (.seq (sO [mV 70 7,bC 71 .geq 70 0] (.cond (tM 71) .skip (.exit 0))) (.seq (.block 1 (sO [mV 74 0,dO 75 (.nilCheck (tM 74)),dO 76 (.fieldAddr 0 (tM 75)),dO 77 (.fieldAddr 0 (tM 76)),lD 78 77,mV 79 7,iA 80 78 79,lD 81 80,mV 8 81] (sO [mV 82 8,dO 83 (.mkFunc 94 [] [tM 6]),dO 84 (.callF false 93 [tM 82,tM 83]),bC 85 .sub 84 1,mV 9 85] (sO [mV 86 0,dO 87 (.nilCheck (tM 86)),dO 88 (.fieldAddr 1 (tM 87)),lD 89 88,mV 90 7,mV 91 9,dO 92 (.build [.int .i64 0,.int .i64 0] [(0,(1,tM 90)),(1,(1,tM 91))]),lD 93 6,eO (.mapUpdate (some 2) (tM 89) (tM 92) (tM 93))] (.ops [mV 94 8,mV 95 9,lD 96 6,mV 97 8,mV 98 9,iA 99 97 98,lD 100 99,iA 101 94 95,eO (.store 1 (tM 101) (tM 96)),eO (.store 1 (tM 6) (tM 100))]))))) (.ops [mV 72 7,bC 73 .sub 72 1,mV 7 73])))))) (sO [lD 102 6,mV 4 102] .ret)))))))⟩
theorem rk55:(Bm Tryz.prog byr).fns 55=some rc55:=by kernel_rfl
theorem rt55:T.fns 55=some rc55:=Bp rk55 (by decide) (by decide)
def rc56:IFunc:=⟨11,[.tmp 6],sO [dO 3 (.box (tM 0)),dO 4 (.box (tM 1)),dO 6 (.mv (cB false))] (sO [mV 7 2,dO 8 (.mkFunc 96 [] [tM 3,tM 4]),dO 9 (.callF false 95 [tM 7,tM 8]),dO 10 (.un .not (tM 9)),mV 6 10] .ret)⟩
theorem rk56:(Bm Tryz.prog byr).fns 56=some rc56:=by kernel_rfl
theorem rt56:T.fns 56=some rc56:=Bp rk56 (by decide) (by decide)
def rc58:IFunc:=⟨61,[.tmp 2],sO [dO 2 (.mv (.const (.slice none [] true)))] (.seq (sO [mV 6 0,lN 7 6,bC 8 .lss 7 2] (.cond (tM 8) (sO [mV 9 0,mV 2 9] .ret) .skip)) (.seq (sO [dO 3 (.mv (cI 1))] (.block 0 (.loop (.seq (sO [mV 10 3,mV 11 0,lN 12 11,bB 13 .lss 10 12] (.cond (tM 13) .skip (.exit 0))) (.seq (.block 1 (sO [mV 16 0,mV 17 3,iA 18 16 17,lD 19 18,mV 20 0,mV 21 3,bC 22 .sub 21 1,iA 23 20 22,lD 24 23,bB 25 .eql 19 24] (.cond (tM 25) (sO [mV 26 0,mV 27 3,dO 28 (.slice none (tM 26) (some (tM 27)) none none),mV 4 28] (.seq (sO [dO 5 (.mv (cI 1))] (.block 2 (.loop (.seq (sO [mV 29 5,mV 30 4,lN 31 30,bB 32 .lss 29 31] (.cond (tM 32) .skip (.exit 2))) (.seq (.block 3 (sO [mV 35 4,mV 36 5,iA 37 35 36,lD 38 37,mV 39 4,mV 40 5,bC 41 .sub 40 1,iA 42 39 41,lD 43 42,bB 44 .neq 38 43] (.cond (tM 44) (sO [mV 45 0,mV 46 3,mV 47 4,mV 48 5,iA 49 47 48,lD 50 49,iA 51 45 46,eO (.store 1 (tM 51) (tM 50))] (.ops [mV 52 3,bC 53 .add 52 1,mV 3 53])) .skip))) (.ops [mV 33 5,bC 34 .add 33 1,mV 5 34])))))) (sO [mV 54 0,mV 55 3,dO 56 (.slice none (tM 54) (some (tM 55)) none none),eO (.clear (.int .i64 0) (tM 56))] (sO [mV 57 0,mV 58 3,dO 59 (.slice none (tM 57) none (some (tM 58)) none),mV 2 59] .ret)))) .skip))) (.ops [mV 14 3,bC 15 .add 14 1,mV 3 15])))))) (sO [mV 60 0,mV 2 60] .ret)))⟩
theorem rk58:(Bm Tryz.prog byr).fns 58=some rc58:=by kernel_rfl
theorem rt58:T.fns 58=some rc58:=Bp rk58 (by decide) (by decide)
def rc59:IFunc:=⟨103,[.cell 4 none],sO [dO 2 (.box (tM 0)),dO 3 (.box (tM 1)),dO 4 (.alloc [.bool false])] (.seq (sO [lD 13 2,dO 14 (.nilCheck (tM 13)),dO 15 (.fieldAddr 0 (tM 14)),dO 16 (.fieldAddr 0 (tM 15)),lD 17 16,lN 18 17,dO 19 (.mv (cI 0))] (.block 0 (.loop (sO [bB 20 .lss 19 18] (.seq (.cond (tM 20) .skip (.exit 0)) (.seq (.block 1 (sO [mV 21 19,iA 22 17 19,lD 23 22,mV 5 21,mV 6 23] (sO [mV 24 6,lN 25 24,bC 26 .eql 25 0,mV 27 26,gV 28 5 27 false,gO 29 (.bin .gtr (tM 28) (cI 0)) 27 false,gV 30 29 27 false,gV 31 6 30 true,gO 32 (.len (tM 31)) 30 true,gO 33 (.load none (tM 2)) 30 true,gO 34 (.nilCheck (tM 33)) 30 true,gO 35 (.fieldAddr 0 (tM 34)) 30 true,gO 36 (.fieldAddr 0 (tM 35)) 30 true,gO 37 (.load none (tM 36)) 30 true,gV 38 5 30 true,gO 39 (.bin .sub (tM 38) (cI 1)) 30 true,gO 40 (.indexAddr 1 (tM 37) (tM 39)) 30 true,gO 41 (.load none (tM 40)) 30 true,gO 42 (.len (tM 41)) 30 true,gO 43 (.bin .gtr (tM 32) (tM 42)) 30 true,gO 44 (.pick (tM 30) (tM 43) (cB false)) 27 false,dO 45 (.pick (tM 27) (cB true) (tM 44))] (.cond (tM 45) (sO [eO (.store 1 (tM 4) (cB false))] .ret) .skip)))) (.ops [bC 46 .add 19 1,mV 19 46]))))))) (.seq (sO [lD 47 2,dO 48 (.nilCheck (tM 47)),dO 49 (.fieldAddr 0 (tM 48)),dO 50 (.load (some 1) (tM 49)),dO 51 (.callF false 99 [tM 50])] (.block 2 (.rangeF (tM 51) [52] (.ops [dO 7 (.alloc [.int .i64 0,.int .i64 0]),eO (.store 2 (tM 7) (tM 52))]) (.block 3 (sO [lD 54 2,dO 55 (.nilCheck (tM 54)),dO 56 (.fieldAddr 1 (tM 55)),lD 57 56,dO 58 (.fieldAddr 0 (tM 7)),lD 59 58,dO 60 (.fieldAddr 1 (tM 7)),lD 61 60,bC 62 .sub 61 1,dO 63 (.build [.int .i64 0,.int .i64 0] [(0,(1,tM 59)),(1,(1,tM 62))]),dO 64 (.lookup (some 2) (.int .i64 0) true (tM 57) (tM 63)),mV 53 64,xT 65 53 0,xT 66 53 1,mV 8 65,mV 9 66] (sO [lD 68 2,dO 69 (.nilCheck (tM 68)),dO 70 (.fieldAddr 1 (tM 69)),lD 71 70,dO 72 (.fieldAddr 0 (tM 7)),lD 73 72,bC 74 .sub 73 1,dO 75 (.fieldAddr 1 (tM 7)),lD 76 75,dO 77 (.build [.int .i64 0,.int .i64 0] [(0,(1,tM 74)),(1,(1,tM 76))]),dO 78 (.lookup (some 2) (.int .i64 0) true (tM 71) (tM 77)),mV 67 78,xT 79 67 0,xT 80 67 1,mV 10 79,mV 11 80] (sO [lD 81 2,dO 82 (.nilCheck (tM 81)),dO 83 (.fieldAddr 1 (tM 82)),lD 84 83,dO 85 (.load (some 2) (tM 7)),dO 86 (.lookup (some 2) (.int .i64 0) false (tM 84) (tM 85)),mV 12 86] (sO [mV 87 9,mV 88 87,gV 89 12 88 true,gV 90 8 88 true,gO 91 (.load none (tM 3)) 88 true,gO 92 (.bin .add (tM 90) (tM 91)) 88 true,gO 93 (.bin .lss (tM 89) (tM 92)) 88 true,dO 94 (.pick (tM 88) (tM 93) (cB false)),mV 95 94,gV 96 11 95 false,gV 97 96 95 false,gV 98 12 97 true,gV 99 10 97 true,gO 100 (.bin .leq (tM 98) (tM 99)) 97 true,gO 101 (.pick (tM 97) (tM 100) (cB false)) 95 false,dO 102 (.pick (tM 95) (cB true) (tM 101))] (.cond (tM 102) (sO [eO (.store 1 (tM 4) (cB false))] .ret) .skip))))))))) (sO [eO (.store 1 (tM 4) (cB true))] .ret)))⟩
theorem rk59:(Bm Tryz.prog byr).fns 59=some rc59:=by kernel_rfl
theorem rt59:T.fns 59=some rc59:=Bp rk59 (by decide) (by decide)
def rc60:IFunc:=⟨11,[.tmp 2],sO [dO 2 (.mv (cI 0))] (.seq (.block 0 (sO [mV 4 0,lN 5 4,bC 6 .gtr 5 12,mV 3 6] (.cond (tM 3) (sO [dO 2 (.mv (cI 6))] .ret) (sO [mV 8 0,dO 9 (.callF false 56 [cI 1,cI 99,tM 8]),dO 10 (.un .not (tM 9)),mV 7 10] (.cond (tM 7) (sO [dO 2 (.mv (cI 3))] .ret) .skip))))) (sO [dO 2 (.mv (cI 0))] .ret))⟩
theorem rk60:(Bm Tryz.prog byr).fns 60=some rc60:=by kernel_rfl
theorem rt60:T.fns 60=some rc60:=Bp rk60 (by decide) (by decide)
def rc61:IFunc:=⟨96,[.tmp 4,.tmp 5],sO [dO 3 (.box (tM 1)),dO 4 (.mv (cI 0)),dO 5 (.mv (cI 0))] (sO [dO 6 (.mv (cI (-1)))] (.seq .skip (.seq (sO [mV 10 0,dO 11 (.nilCheck (tM 10)),dO 12 (.fieldAddr 0 (tM 11)),dO 13 (.fieldAddr 0 (tM 12)),lD 14 13,lN 15 14,dO 16 (.mv (cI 0))] (.block 0 (.loop (sO [bB 17 .lss 16 15] (.seq (.cond (tM 17) .skip (.exit 0)) (.seq (.block 1 (sO [mV 18 16,iA 19 14 16,lD 20 19,mV 7 18,mV 8 20] (sO [mV 21 8,dO 22 (.mkFunc 100 [] [tM 3]),dO 23 (.callF false 93 [tM 21,tM 22]),mV 9 23] (.seq (sO [mV 24 6,bC 25 .lss 24 0] (.cond (tM 25) (.ops [mV 26 9,mV 6 26]) .skip)) (sO [mV 27 0,dO 28 (.nilCheck (tM 27)),dO 29 (.fieldAddr 1 (tM 28)),lD 30 29,mV 31 7,mV 32 9,dO 33 (.build [.int .i64 0,.int .i64 0] [(0,(1,tM 31)),(1,(1,tM 32))]),lD 34 3,eO (.mapUpdate (some 2) (tM 30) (tM 33) (tM 34))] (.seq (sO [mV 35 9,mV 36 8,lN 37 36,bB 38 .eql 35 37] (.cond (tM 38) (sO [mV 39 0,dO 40 (.nilCheck (tM 39)),dO 41 (.fieldAddr 0 (tM 40)),dO 42 (.fieldAddr 0 (tM 41)),dO 43 (.loadU none (tM 42) 8),mV 44 7,mV 45 8,lD 46 3,dO 47 (.buildSliceO none [.int .i64 0] [(0,(1,tM 46))]),dO 48 (.appendU 8 none 8 (tM 45) (tM 47)),iA 49 43 44,eO (.store 1 (tM 49) (tM 48))] (sO [mV 50 7,mV 51 6,mV 4 50,mV 5 51] .ret)) .skip)) (sO [mV 52 8,mV 53 9,lD 54 3,mV 55 8,mV 56 9,iA 57 55 56,lD 58 57,iA 59 52 53,eO (.store 1 (tM 59) (tM 54)),eO (.store 1 (tM 3) (tM 58))] (.exit 1)))))))) (.ops [bC 60 .add 16 1,mV 16 60]))))))) (sO [mV 61 0,mV 62 0,dO 63 (.nilCheck (tM 62)),dO 64 (.fieldAddr 0 (tM 63)),dO 65 (.fieldAddr 0 (tM 64)),lD 66 65,lD 67 3,dO 68 (.buildSliceO none [.int .i64 0] [(0,(1,tM 67))]),dO 69 (.buildSliceO none [.slice none [] true] [(0,(1,tM 68))]),dO 70 (.append none 24 (tM 66) (tM 69)),dO 71 (.nilCheck (tM 61)),dO 72 (.fieldAddr 0 (tM 71)),dO 73 (.fieldAddr 0 (tM 72)),eO (.store 1 (tM 73) (tM 70))] (sO [mV 74 0,dO 75 (.nilCheck (tM 74)),dO 76 (.fieldAddr 1 (tM 75)),lD 77 76,mV 78 0,dO 79 (.nilCheck (tM 78)),dO 80 (.fieldAddr 0 (tM 79)),dO 81 (.fieldAddr 0 (tM 80)),lD 82 81,lN 83 82,bC 84 .sub 83 1,dO 85 (.build [.int .i64 0,.int .i64 0] [(0,(1,tM 84)),(1,(1,cI 0))]),lD 86 3,eO (.mapUpdate (some 2) (tM 77) (tM 85) (tM 86))] (sO [mV 87 0,dO 88 (.nilCheck (tM 87)),dO 89 (.fieldAddr 0 (tM 88)),dO 90 (.fieldAddr 0 (tM 89)),lD 91 90,lN 92 91,bC 93 .sub 92 1,mV 94 6,dO 95 (.max [cI 0,tM 94]),mV 4 93,mV 5 95] .ret))))))⟩
theorem rk61:(Bm Tryz.prog byr).fns 61=some rc61:=by kernel_rfl
theorem rt61:T.fns 61=some rc61:=Bp rk61 (by decide) (by decide)
def rc62:IFunc:=⟨8,[.tmp 4],sO [dO 4 (.mv (cB false))] (sO [mV 5 0,mV 6 1,dO 7 (.callF false 101 [tM 5,tM 6]),mV 4 7] .ret)⟩
theorem rk62:(Bm Tryz.prog byr).fns 62=some rc62:=by kernel_rfl
theorem rt62:T.fns 62=some rc62:=Bp rk62 (by decide) (by decide)
def rc79:IFunc:=⟨9,[.tmp 4],sO [dO 4 (.mv (cB false))] (sO [mV 5 0,mV 6 1,dO 7 (.callF false 128 [tM 5,tM 6]),bC 8 .geq 7 0,mV 4 8] .ret)⟩
theorem rk79:(Bm Tryz.prog byr).fns 79=some rc79:=by kernel_rfl
theorem rt79:T.fns 79=some rc79:=Bp rk79 (by decide) (by decide)
def rc84:IFunc:=⟨13,[.tmp 4],sO [dO 4 (.mv (cB false))] (sO [mV 5 0,lD 6 1,bB 7 .lss 5 6,mV 8 7,gV 9 0 8 false,gO 10 (.load none (tM 2)) 8 false,gO 11 (.bin .gtr (tM 9) (tM 10)) 8 false,dO 12 (.pick (tM 8) (cB true) (tM 11)),mV 4 12] .ret)⟩
theorem rk84:(Bm Tryz.prog byr).fns 84=some rc84:=by kernel_rfl
theorem rt84:T.fns 84=some rc84:=Bp rk84 (by decide) (by decide)
def rc85:IFunc:=⟨19,[.tmp 4],sO [dO 4 (.mv (cI 0))] (.seq (sO [mV 6 0,lN 7 6,dO 8 (.mv (cI 0))] (.block 0 (.loop (sO [bB 9 .lss 8 7] (.seq (.cond (tM 9) .skip (.exit 0)) (.seq (.block 1 (sO [mV 10 8,mV 5 10] (sO [mV 11 1,mV 12 0,mV 13 5,iA 14 12 13,lD 15 14,bB 16 .eql 11 15] (.cond (tM 16) (sO [mV 17 5,mV 4 17] .ret) .skip)))) (.ops [bC 18 .add 8 1,mV 8 18]))))))) (sO [dO 4 (.mv (cI (-1)))] .ret))⟩
theorem rk85:(Bm Tryz.prog byr).fns 85=some rc85:=by kernel_rfl
theorem rt85:T.fns 85=some rc85:=Bp rk85 (by decide) (by decide)
def rc86:IFunc:=⟨25,[.tmp 2],sO [dO 2 (.mv (cI 0))] (.seq (sO [mV 5 0,lN 6 5,bC 7 .lss 6 1] (.cond (tM 7) (.ops [⟨some 8,.bad,none⟩,⟨none,.bad,none⟩]) .skip)) (sO [mV 9 0,dO 10 (.indexAddr 1 (tM 9) (cI 0)),lD 11 10,mV 3 11] (.seq (sO [dO 4 (.mv (cI 1))] (.block 0 (.loop (.seq (sO [mV 12 4,mV 13 0,lN 14 13,bB 15 .lss 12 14] (.cond (tM 15) .skip (.exit 0))) (.seq (.block 1 (.ops [mV 18 3,mV 19 0,mV 20 4,iA 21 19 20,lD 22 21,dO 23 (.min [tM 18,tM 22]),mV 3 23])) (.ops [mV 16 4,bC 17 .add 16 1,mV 4 17])))))) (sO [mV 24 3,mV 2 24] .ret))))⟩
theorem rk86:(Bm Tryz.prog byr).fns 86=some rc86:=by kernel_rfl
theorem rt86:T.fns 86=some rc86:=Bp rk86 (by decide) (by decide)
def rc88:IFunc:=⟨27,[.tmp 4],sO [dO 4 (.mv (.const (.slice none [] true)))] (.seq (sO [mV 5 1,bC 6 .lss 5 0] (.cond (tM 6) (.ops [⟨some 7,.bad,none⟩,⟨none,.bad,none⟩]) .skip)) (.seq (sO [mV 8 1,mV 9 0,dO 10 (.cap (tM 9)),mV 11 0,lN 12 11,bB 13 .sub 10 12,bB 14 .sub 8 13,mV 1 14] (sO [mV 15 1,bC 16 .gtr 15 0] (.cond (tM 16) (.ops [mV 17 0,mV 18 0,dO 19 (.cap (tM 18)),dO 20 (.slice none (tM 17) none (some (tM 19)) none),mV 21 1,dO 22 (.appendZ none [.int .i64 0] 8 (tM 20) (tM 21)),mV 23 0,lN 24 23,dO 25 (.slice none (tM 22) none (some (tM 24)) none),mV 0 25]) .skip))) (sO [mV 26 0,mV 4 26] .ret)))⟩
theorem rk88:(Bm Tryz.prog byr).fns 88=some rc88:=by kernel_rfl
theorem rt88:T.fns 88=some rc88:=Bp rk88 (by decide) (by decide)
def rc91:IFunc:=⟨20,[.tmp 4],sO [dO 4 (.mv (cI 0))] (sO [mV 7 0,dO 8 (.callF false 130 [tM 7]),mV 5 8] (sO [mV 9 1,dO 10 (.callF false 130 [tM 9]),mV 6 10] (.seq (sO [mV 11 5] (.cond (tM 11) (.seq (sO [mV 12 6] (.cond (tM 12) (sO [dO 4 (.mv (cI 0))] .ret) .skip)) (sO [dO 4 (.mv (cI (-1)))] .ret)) .skip)) (.seq (sO [mV 13 6] (.cond (tM 13) (sO [dO 4 (.mv (cI 1))] .ret) .skip)) (.seq (sO [mV 14 0,mV 15 1,bB 16 .lss 14 15] (.cond (tM 16) (sO [dO 4 (.mv (cI (-1)))] .ret) .skip)) (.seq (sO [mV 17 0,mV 18 1,bB 19 .gtr 17 18] (.cond (tM 19) (sO [dO 4 (.mv (cI 1))] .ret) .skip)) (sO [dO 4 (.mv (cI 0))] .ret)))))))⟩
theorem rk91:(Bm Tryz.prog byr).fns 91=some rc91:=by kernel_rfl
theorem rt91:T.fns 91=some rc91:=Bp rk91 (by decide) (by decide)
def rc93:IFunc:=⟨21,[.tmp 4],sO [dO 4 (.mv (cI 0))] (.seq (sO [mV 7 0,lN 8 7,dO 9 (.mv (cI 0))] (.block 0 (.loop (sO [bB 10 .lss 9 8] (.seq (.cond (tM 10) .skip (.exit 0)) (.seq (.block 1 (sO [mV 11 9,iA 12 7 9,lD 13 12,mV 5 11,mV 6 13] (sO [mV 14 1,mV 15 6,dO 16 (.call false (tM 14) [tM 15])] (.cond (tM 16) (sO [mV 17 5,mV 4 17] .ret) .skip)))) (.ops [bC 18 .add 9 1,mV 9 18]))))))) (sO [mV 19 0,lN 20 19,mV 4 20] .ret))⟩
theorem rk93:(Bm Tryz.prog byr).fns 93=some rc93:=by kernel_rfl
theorem rt93:T.fns 93=some rc93:=Bp rk93 (by decide) (by decide)
def rc94:IFunc:=⟨7,[.tmp 3],sO [dO 3 (.mv (cB false))] (sO [mV 4 0,lD 5 1,bB 6 .geq 4 5,mV 3 6] .ret)⟩
theorem rk94:(Bm Tryz.prog byr).fns 94=some rc94:=by kernel_rfl
theorem rt94:T.fns 94=some rc94:=Bp rk94 (by decide) (by decide)
def rc95:IFunc:=⟨9,[.tmp 4],sO [dO 4 (.mv (cB false))] (sO [mV 5 0,mV 6 1,dO 7 (.callF false 131 [tM 5,tM 6]),bC 8 .geq 7 0,mV 4 8] .ret)⟩
theorem rk95:(Bm Tryz.prog byr).fns 95=some rc95:=by kernel_rfl
theorem rt95:T.fns 95=some rc95:=Bp rk95 (by decide) (by decide)
def rc96:IFunc:=⟨13,[.tmp 4],sO [dO 4 (.mv (cB false))] (sO [mV 5 0,lD 6 1,bB 7 .lss 5 6,mV 8 7,gV 9 0 8 false,gO 10 (.load none (tM 2)) 8 false,gO 11 (.bin .gtr (tM 9) (tM 10)) 8 false,dO 12 (.pick (tM 8) (cB true) (tM 11)),mV 4 12] .ret)⟩
theorem rk96:(Bm Tryz.prog byr).fns 96=some rc96:=by kernel_rfl
theorem rt96:T.fns 96=some rc96:=Bp rk96 (by decide) (by decide)
def rc98:IFunc:=⟨8,[.tmp 2],sO [dO 2 (.mv (cI 0))] (.seq (.cond (cB false) (sO [mV 3 0,dO 4 (.conv .u32 (tM 3)),dO 5 (.callF false 141 [tM 4]),mV 2 5] .ret) .skip) (sO [mV 6 0,dO 7 (.callF false 142 [tM 6]),mV 2 7] .ret))⟩
theorem rk98:(Bm Tryz.prog byr).fns 98=some rc98:=by kernel_rfl
theorem rt98:T.fns 98=some rc98:=Bp rk98 (by decide) (by decide)
def rc99:IFunc:=⟨4,[.tmp 2],sO [dO 1 (.box (tM 0)),dO 2 (.mv (.const .nilfn))] (sO [dO 3 (.mkFunc 143 [] [tM 1]),mV 2 3] .ret)⟩
theorem rk99:(Bm Tryz.prog byr).fns 99=some rc99:=by kernel_rfl
theorem rt99:T.fns 99=some rc99:=Bp rk99 (by decide) (by decide)
def rc100:IFunc:=⟨7,[.tmp 3],sO [dO 3 (.mv (cB false))] (sO [mV 4 0,lD 5 1,bB 6 .gtr 4 5,mV 3 6] .ret)⟩
theorem rk100:(Bm Tryz.prog byr).fns 100=some rc100:=by kernel_rfl
theorem rt100:T.fns 100=some rc100:=Bp rk100 (by decide) (by decide)
def rc101:IFunc:=⟨26,[.tmp 4],sO [dO 4 (.mv (cB false))] (.seq (sO [mV 6 0,lN 7 6,mV 8 1,lN 9 8,bB 10 .neq 7 9] (.cond (tM 10) (sO [dO 4 (.mv (cB false))] .ret) .skip)) (.seq (sO [dO 5 (.mv (cI 0))] (.block 0 (.loop (.seq (sO [mV 11 5,mV 12 0,lN 13 12,bB 14 .lss 11 13] (.cond (tM 14) .skip (.exit 0))) (.seq (.block 1 (sO [mV 17 0,mV 18 5,iA 19 17 18,lD 20 19,mV 21 1,mV 22 5,iA 23 21 22,lD 24 23,bB 25 .neq 20 24] (.cond (tM 25) (sO [dO 4 (.mv (cB false))] .ret) .skip))) (.ops [mV 15 5,bC 16 .add 15 1,mV 5 16])))))) (sO [dO 4 (.mv (cB true))] .ret)))⟩
theorem rk101:(Bm Tryz.prog byr).fns 101=some rc101:=by kernel_rfl
theorem rt101:T.fns 101=some rc101:=Bp rk101 (by decide) (by decide)
def rc128:IFunc:=⟨19,[.tmp 4],sO [dO 4 (.mv (cI 0))] (.seq (sO [mV 6 0,lN 7 6,dO 8 (.mv (cI 0))] (.block 0 (.loop (sO [bB 9 .lss 8 7] (.seq (.cond (tM 9) .skip (.exit 0)) (.seq (.block 1 (sO [mV 10 8,mV 5 10] (sO [mV 11 1,mV 12 0,mV 13 5,iA 14 12 13,lD 15 14,dO 16 (.call false (tM 11) [tM 15])] (.cond (tM 16) (sO [mV 17 5,mV 4 17] .ret) .skip)))) (.ops [bC 18 .add 8 1,mV 8 18]))))))) (sO [dO 4 (.mv (cI (-1)))] .ret))⟩
theorem rk128:(Bm Tryz.prog byr).fns 128=some rc128:=by kernel_rfl
theorem rt128:T.fns 128=some rc128:=Bp rk128 (by decide) (by decide)
def rc130:IFunc:=⟨6,[.tmp 2],sO [dO 2 (.mv (cB false))] (sO [mV 3 0,mV 4 0,bB 5 .neq 3 4,mV 2 5] .ret)⟩
theorem rk130:(Bm Tryz.prog byr).fns 130=some rc130:=by kernel_rfl
theorem rt130:T.fns 130=some rc130:=Bp rk130 (by decide) (by decide)
def rc131:IFunc:=⟨19,[.tmp 4],sO [dO 4 (.mv (cI 0))] (.seq (sO [mV 6 0,lN 7 6,dO 8 (.mv (cI 0))] (.block 0 (.loop (sO [bB 9 .lss 8 7] (.seq (.cond (tM 9) .skip (.exit 0)) (.seq (.block 1 (sO [mV 10 8,mV 5 10] (sO [mV 11 1,mV 12 0,mV 13 5,iA 14 12 13,lD 15 14,dO 16 (.call false (tM 11) [tM 15])] (.cond (tM 16) (sO [mV 17 5,mV 4 17] .ret) .skip)))) (.ops [bC 18 .add 8 1,mV 8 18]))))))) (sO [dO 4 (.mv (cI (-1)))] .ret))⟩
theorem rk131:(Bm Tryz.prog byr).fns 131=some rc131:=by kernel_rfl
theorem rt131:T.fns 131=some rc131:=Bp rk131 (by decide) (by decide)
def rc143:IFunc:=⟨27,[],sO [dO 6 (.fieldAddr 0 (tM 1)),lD 7 6,lN 8 7,dO 9 (.mv (cI 0))] (.block 0 (.loop (sO [bB 10 .lss 9 8] (.seq (.cond (tM 10) .skip (.exit 0)) (.seq (.block 1 (sO [mV 11 9,iA 12 7 9,lD 13 12,mV 3 11,mV 4 13] (sO [mV 14 4,lN 15 14,dO 16 (.mv (cI 0))] (.block 2 (.loop (sO [bB 17 .lss 16 15] (.seq (.cond (tM 17) .skip (.exit 2)) (.seq (.block 3 (sO [mV 18 16,mV 5 18] (sO [mV 19 0,mV 20 3,mV 21 5,dO 22 (.build [.int .i64 0,.int .i64 0] [(0,(1,tM 20)),(1,(1,tM 21))]),dO 23 (.call true (tM 19) [tM 22]),dO 24 (.un .not (tM 23))] (.cond (tM 24) .ret .skip)))) (.ops [bC 25 .add 16 1,mV 16 25]))))))))) (.ops [bC 26 .add 9 1,mV 9 26]))))))⟩
theorem rk143:(Bm Tryz.prog byr).fns 143=some rc143:=by kernel_rfl
theorem rt143:T.fns 143=some rc143:=Bp rk143 (by decide) (by decide)
def tbR:List (Nat×IFunc):=[(13,rc13),(19,rc19),(20,rc20),(21,rc21),(22,rc22),(23,rc23),(24,rc24),(25,rc25),(26,rc26),(27,rc27),(28,rc28),(37,rc37),(38,rc38),(42,rc42),(43,rc43),(45,rc45),(47,rc47),(48,rc48),(49,rc49),(50,rc50),(51,rc51),(52,rc52),(53,rc53),(54,rc54),(55,rc55),(56,rc56),(58,rc58),(59,rc59),(60,rc60),(61,rc61),(62,rc62),(79,rc79),(84,rc84),(85,rc85),(86,rc86),(88,rc88),(91,rc91),(93,rc93),(94,rc94),(95,rc95),(96,rc96),(98,rc98),(99,rc99),(100,rc100),(101,rc101),(128,rc128),(130,rc130),(131,rc131),(143,rc143),(57,Hk),(92,Jg)]
theorem A9k:Ov T tbR:=(Bn rt13 (Bn rt19 (Bn rt20 (Bn rt21 (Bn rt22 (Bn rt23 (Bn rt24 (Bn rt25 (Bn rt26 (Bn rt27 (Bn rt28 (Bn rt37 (Bn rt38 (Bn rt42 (Bn rt43 (Bn rt45 (Bn rt47 (Bn rt48 (Bn rt49 (Bn rt50 (Bn rt51 (Bn rt52 (Bn rt53 (Bn rt54 (Bn rt55 (Bn rt56 (Bn rt58 (Bn rt59 (Bn rt60 (Bn rt61 (Bn rt62 (Bn rt79 (Bn rt84 (Bn rt85 (Bn rt86 (Bn rt88 (Bn rt91 (Bn rt93 (Bn rt94 (Bn rt95 (Bn rt96 (Bn rt98 (Bn rt99 (Bn rt100 (Bn rt101 (Bn rt128 (Bn rt130 (Bn rt131 (Bn rt143 (Bn t57 (Bn (Bp k92 (by decide) (by decide)) Ajq)))))))))))))))))))))))))))))))))))))))))))))))))))
def rsR:IC:=(sO [mV 56 10,dO 57 (.callF false 19 [tM 56]),mV 55 57,xT 58 55 0,xT 59 55 1,mV 11 58,mV 12 59] (.seq (sO [mV 60 12,bC 61 .neq 60 0,mV 62 61,gV 63 11 62 false,gO 64 (.bin .lss (tM 63) (cI 0)) 62 false,dO 65 (.pick (tM 62) (cB true) (tM 64)),mV 66 65,gV 67 11 66 false,gV 68 8 66 false,gO 69 (.bin .geq (tM 67) (tM 68)) 66 false,dO 70 (.pick (tM 66) (cB true) (tM 69))] (.cond (tM 70) (sO [dO 4 (.mv (cB false))] .ret) .skip)) (sO [mV 72 5,mV 73 11,dO 74 (.callF false 20 [tM 72,tM 73]),mV 71 74,xT 75 71 0,xT 76 71 1,mV 13 75,mV 12 76] (.seq (sO [mV 77 12,bC 78 .neq 77 0,mV 79 78,gV 80 13 79 false,gO 81 (.callF false 21 [tM 80]) 79 false,gO 82 (.bin .neq (tM 81) (cI 0)) 79 false,dO 83 (.pick (tM 79) (cB true) (tM 82)),mV 84 83,gV 85 13 84 false,gO 86 (.len (tM 85)) 84 false,gV 87 5 84 false,gO 88 (.bin .neq (tM 86) (tM 87)) 84 false,dO 89 (.pick (tM 84) (cB true) (tM 88))] (.cond (tM 89) (sO [dO 4 (.mv (cB false))] .ret) .skip)) (sO [mV 90 13,dO 91 (.callF false 22 [tM 90,cI 0]),mV 14 91] (sO [dO 92 (.buildSliceO none [.slice none [] true,.slice none [] true] [(0,(1,.const (.slice none [] true))),(1,(1,.const (.slice none [] true)))]),mV 15 92] (sO [dO 93 (.buildSliceO none [.slice none [] true,.slice none [] true] [(0,(1,.const (.slice none [] true))),(1,(1,.const (.slice none [] true)))]),mV 16 93] (.seq (sO [dO 17 (.mv (cI 0))] (.block 0 (.loop (.seq (sO [mV 94 17,mV 95 14,lN 96 95,bB 97 .lss 94 96] (.cond (tM 97) .skip (.exit 0))) (.seq (.block 1 (.ops [mV 100 15,mV 101 14,mV 102 17,iA 103 101 102,dO 104 (.loadL none (tM 103) 104 190 []),mV 105 16,mV 106 14,mV 107 17,iA 108 106 107,dO 109 (.loadL none (tM 108) 109 190 []),mV 110 15,mV 111 14,mV 112 17,iA 113 111 112,lD 114 113,iA 115 110 114,lD 116 115,mV 117 17,bC 118 .add 117 1,dO 119 (.buildSlice none [.int .i64 0] [(0,(1,tM 118))]),dO 120 (.appendL 120 190 none 8 (tM 116) (tM 119)),mV 121 16,mV 122 14,mV 123 17,iA 124 122 123,dO 125 (.loadL none (tM 124) 125 190 []),iA 126 121 125,dO 127 (.loadL none (tM 126) 127 190 []),mV 128 14,mV 129 17,iA 130 128 129,dO 131 (.loadL none (tM 130) 131 190 []),bC 132 .add 131 1,dO 133 (.buildSlice none [.int .i64 0] [(0,(1,tM 132))]),dO 134 (.appendL 134 190 none 8 (tM 127) (tM 133)),iA 135 100 104,eO (.store 1 (tM 135) (tM 120)),iA 136 105 109,eO (.store 1 (tM 136) (tM 134))])) (.ops [mV 98 17,bC 99 .add 98 1,mV 17 99])))))) (sO [mV 138 16,mV 139 15,dO 140 (.callF false 23 [tM 138,tM 139]),mV 137 140,xT 141 137 0,xT 142 137 1,mV 18 141,mV 12 142] (.seq (sO [mV 143 15,dO 144 (.callF false 24 [tM 143]),bC 145 .neq 144 0,mV 146 145,gV 147 16 146 false,gO 148 (.callF false 25 [tM 147]) 146 false,gO 149 (.bin .neq (tM 148) (cI 0)) 146 false,dO 150 (.pick (tM 146) (cB true) (tM 149)),mV 151 150,gV 152 12 151 false,gO 153 (.bin .neq (tM 152) (cI 0)) 151 false,dO 154 (.pick (tM 151) (cB true) (tM 153)),mV 155 154,gV 156 18 155 false,gO 157 (.callF false 26 [tM 156]) 155 false,gO 158 (.bin .neq (tM 157) (cI 0)) 155 false,dO 159 (.pick (tM 155) (cB true) (tM 158)),mV 160 159,gV 161 18 160 false,gO 162 (.len (tM 161)) 160 false,gV 163 5 160 false,gO 164 (.bin .mul (cI 2) (tM 163)) 160 false,gO 165 (.bin .neq (tM 162) (tM 164)) 160 false,dO 166 (.pick (tM 160) (cB true) (tM 165))] (.cond (tM 166) (sO [dO 4 (.mv (cB false))] .ret) .skip)) (sO [mV 168 18,dO 169 (.callF false 27 [tM 168]),mV 167 169,xT 170 167 0,xT 171 167 1,xT 172 167 2,mV 19 170,mV 20 171,mV 12 172] (sO [mV 173 12,bC 174 .eql 173 0,mV 175 174,gV 176 19 175 true,gV 177 16 175 true,gO 178 (.callF false 28 [tM 176,tM 177]) 175 true,dO 179 (.pick (tM 175) (tM 178) (cB false)),mV 180 179,gV 181 20 180 true,gV 182 15 180 true,gO 183 (.callF false 28 [tM 181,tM 182]) 180 true,dO 184 (.pick (tM 180) (tM 183) (cB false)),mV 185 184,gO 186 (.callF false 6 []) 185 true,dO 187 (.pick (tM 185) (tM 186) (cB false)),mV 4 187] .ret))))))))))))
theorem Aul:c4=⟨188,[.tmp 4],sO [dO 4 (.mv (cB false))] (.seq (sO [mV 21 1,lN 22 21,bC 23 .gtr 22 60] (.cond (tM 23) (sO [dO 24 (.callF false 6 []),mV 4 24] .ret) .skip)) (sO [mV 25 0,dO 26 (.bin .rem (tM 25) (.const (.int .u8 6))),dO 27 (.conv .i64 (tM 26)),dO 28 (.bin .add (cI 1) (tM 27)),mV 5 28] (sO [mV 30 5,mV 31 5,dO 32 (.buildSlice none [.int .i64 0,.int .i64 0] [(0,(1,tM 30)),(1,(1,tM 31))]),dO 33 (.callF false 16 [tM 32]),mV 29 33,xT 34 29 0,xT 35 29 1,mV 6 34,mV 7 35] (sO [mV 37 5,dO 38 (.callF false 17 [tM 37]),mV 36 38,xT 39 36 0,xT 40 36 1,mV 8 39,mV 9 40] (.seq (sO [mV 41 7,bC 42 .neq 41 0,mV 43 42,gV 44 9 43 false,gO 45 (.bin .neq (tM 44) (cI 0)) 43 false,dO 46 (.pick (tM 43) (cB true) (tM 45)),mV 47 46,gV 48 6 47 false,gV 49 8 47 false,gO 50 (.bin .neq (tM 48) (tM 49)) 47 false,dO 51 (.pick (tM 47) (cB true) (tM 50))] (.cond (tM 51) (sO [dO 4 (.mv (cB false))] .ret) .skip)) (sO [mV 52 5,mV 53 1,dO 54 (.callF false 18 [tM 52,tM 53]),mV 10 54] rsR))))))⟩:=by kernel_rfl
def rsE (X:Nat->AV) (n b:Int) (t:List Int):Env:=[X 0,X 1,X 2,X 3,X 4,.int .i64 n,X 6,X 7,.int .i64 b,X 9,Ff t,X 11,X 12,X 13,X 14,X 15,X 16,X 17,X 18,X 19,X 20,X 21,X 22,X 23,X 24,X 25,X 26,X 27,X 28,X 29,X 30,X 31,X 32,X 33,X 34,X 35,X 36,X 37,X 38,X 39,X 40,X 41,X 42,X 43,X 44,X 45,X 46,X 47,X 48,X 49,X 50,X 51,X 52,X 53,X 54]
noncomputable def Anv (x:EX) (E:TE):Bool:=
 match x with
 | .exit _=>false
 | _=>match gT E 4 with
  | .bool b=>b
  | _=>false
noncomputable def Yw (a:List AV):List AV->Option AV:=List.rec (motive:=fun _=>List AV->Option AV) (fun b=>match b with
 | []=>some (.int .i64 0)
 | _::_=>some (.int .i64 (-1))) (fun x _ ih b=>match b with
 | []=>Je x (fun q _=>is64 q (some (.int .i64 1)) none) none
 | y::b=>Je x (fun q i=>is64 q (Je y (fun q' j=>is64 q' (match ltI i j with
  | true=>some (.int .i64 (-1))
  | false=>match ltI j i with
   | true=>some (.int .i64 1)
   | false=>ih b) none) none) none) none) a
noncomputable def Avw (xs:List AV):Option AV:=
 match xs with
 | [.slice none a _,.slice none b _]=>(match Nat.ble a.length 1000 with
  | true=>Yw a b
  | false=>none)
 | _=>none
noncomputable def Qn (p:Int->Bool) (d:Nat->Int) (l:List AV):Nat->Option AV:=List.rec (motive:=fun _=>Nat->Option AV) (fun k=>some (.int .i64 (d k))) (fun x _ ih k=>Je x (fun q i=>is64 q (match p i with
 | true=>some (.int .i64 (k:Nat))
 | false=>ih (k+1)) none) none) l
noncomputable def Axc (xs:List AV):Option AV:=
 match xs with
 | [.slice none a _,.int .i64 x]=>(match Nat.ble a.length 1000 with
  | true=>Qn (fun i=>eqI x i) (fun _ => -1) a 0
  | false=>none)
 | _=>none
noncomputable def Awu (xs:List AV):Option AV:=
 match xs with
 | [.slice none a _,.clo f [] [.ptr [.int .i64 u] 0]]=>(match Nat.ble a.length 1000 with
  | true=>(match Nat.beq f 100 with
   | true=>Qn (fun i=>ltI u i) (fun k=>(k:Nat)) a 0
   | false=>match Nat.beq f 94 with
    | true=>Qn (fun i => !ltI i u) (fun k=>(k:Nat)) a 0
    | false=>none)
  | false=>none)
 | _=>none
noncomputable def ntC:List (Nat×(List AV->Option AV)):=[(47,Avw),(85,Axc),(93,Awu)]
noncomputable def rsB (l:List AnsY) (X:Nat->AV) (n b:Int) (t:List Int):Bool:=fC rsR fun c=>(A5q (rsE X n b t) 0 [] fun t=>Nu (Ma T tbR ntC l 60) 0 c ⟨55,t⟩ ⟨188,[]⟩ fun x E _ => .ret (Anv x E)).allB fun b=>b
def tyL (n:Int) (l:List (List Int)):List AnsY:=[tyY n l,⟨6,[],.bool true,false⟩]
end Go.Ev.YtbgodhhdojjbmaaGreatC
namespace Go.Ev.YtbgodhhdojjbmaaGreatC
open Go Go.Proofs
theorem Kr {v:AV} {k:IntKind->Int->Option AV} {r:AV} (h:Je v k none=some r):∃q z,v = .int q z/\k q z=some r:=by
 cases v with
 | int q z=>exact ⟨q,z,rfl,h⟩
 | _=>cases h
theorem Mp {q:IntKind} {u:Option AV} {r:AV} (h:is64 q u none=some r):q = .i64/\u=some r:=by
 cases q with
 | i64=>exact ⟨rfl,h⟩
 | _=>cases h
theorem Aka (b:List AV):Yw [] b=match b with
 | []=>some (.int .i64 0)
 | _::_=>some (.int .i64 (-1)):=rfl
theorem Akb (x:AV) (a:List AV):Yw (x::a) []=Je x (fun q _=>is64 q (some (.int .i64 1)) none) none:=rfl
theorem Akc (x y:AV) (a b:List AV):Yw (x::a) (y::b)=Je x (fun q i=>is64 q (Je y (fun q' j=>is64 q' (match ltI i j with
  | true=>some (.int .i64 (-1))
  | false=>match ltI j i with
   | true=>some (.int .i64 1)
   | false=>Yw a b) none) none) none) none:=rfl
def Oj (x y:Int):Int:=if x<y then -1 else if y<x then 1 else 0
attribute [local irreducible] Res.all evC Do Dr Bv Bd Dw Bg Bj G GO GV GP GC R
theorem A3s (x:Int):Con T 1 130 [.int .i64 x] (.bool false):=by
 refine Dd rt130 fun n hn V hV => ?_
 have e:(x != x)=false:=by simp
 simp (disch:=first | assumption | omega) only [rc130,go_sem,↓reduceIte,e]
 exact hV _ _ (Ea _ _ _)
theorem Ake (x y:Int):Con T 2 91 [.int .i64 x,.int .i64 y] (.int .i64 (Oj x y)):=by
 refine Dd rt91 fun n hn V hV => ?_
 simp (disch:=first | assumption | omega) only [rc91,go_sem,↓reduceIte]
 refine Ee (A3s x) (by omega) (by repeat (first | exact Dt _ | refine Dj (by repeat (first | exact Dp _ _ | exact Bq _ _ _ _ | exact Ea _ _ _ | exact Dv _ _ _ _ _ | exact Eq _ _ _ _ | exact Ex _ _ | refine Db ?_ ?_ | refine Eo ?_ | refine Ey ?_ ?_ | refine Fg ?_ ?_ ?_)) ?_)) rfl ?_
 simp (disch:=first | assumption | omega) only [go_sem,↓reduceIte]
 refine Ee (A3s y) (by omega) (by repeat (first | exact Dt _ | refine Dj (by repeat (first | exact Dp _ _ | exact Bq _ _ _ _ | exact Ea _ _ _ | exact Dv _ _ _ _ _ | exact Eq _ _ _ _ | exact Ex _ _ | refine Db ?_ ?_ | refine Eo ?_ | refine Ey ?_ ?_ | refine Fg ?_ ?_ ?_)) ?_)) rfl ?_
 by_cases h1:x<y
 ·have e1:Oj x y = -1:=if_pos h1
  rw [e1] at hV
  have d1:decide (x<y)=true:=decide_eq_true h1
  simp (disch:=first | assumption | omega) only [go_sem,↓reduceIte,d1,Bool.false_eq_true]
  exact hV _ _ (Bq _ _ _ _)
 have d1:decide (x<y)=false:=decide_eq_false h1
 by_cases h2:y<x
 ·have e1:Oj x y=1:=by rw [Oj,if_neg h1,if_pos h2]
  rw [e1] at hV
  have d2:decide (x>y)=true:=decide_eq_true h2
  simp (disch:=first | assumption | omega) only [go_sem,↓reduceIte,d1,d2,Bool.false_eq_true]
  exact hV _ _ (Bq _ _ _ _)
 ·have e1:Oj x y=0:=by rw [Oj,if_neg h1,if_neg h2]
  rw [e1] at hV
  have d2:decide (x>y)=false:=decide_eq_false h2
  simp (disch:=first | assumption | omega) only [go_sem,↓reduceIte,d1,d2,Bool.false_eq_true]
  exact hV _ _ (Bq _ _ _ _)
theorem A6k (a b:List AV) (ea eb:Bool) (r:AV) (ha:a.length<=1000) (hr:Yw a b=some r):Con T 3 47 [.slice none a ea,.slice none b eb] r:=by
 refine Dd rt47 fun n hn V hV => ?_
 simp (disch:=first | assumption | omega) only [rc47,go_sem,↓reduceIte]
 refine Dm (fun M st=>∃i:Nat,M=a.length-i/\i<=a.length/\At st.env [(0,.slice none a ea),(1,.slice none b eb),(9,.slice none a ea),(10,.int .i64 a.length),(11,.int .i64 (i:Nat))]/\i<=b.length/\Yw (a.drop i) (b.drop i)=some r) a.length (by omega)
  ⟨0,by omega,by omega,by (simp only [go_sem,↓reduceIte]) <;> simp,by omega,hr⟩ ?_
 rintro M e h hM ⟨i,hMi,hi,hE,hib,hcm⟩ P hP
 simp only [Bz,Dc] at hE
 obtain ⟨f0,f1,f9,f10,f11,-⟩:=hE
 by_cases hlt:i<a.length
 ·have d1:decide (i<a.length)=true:=decide_eq_true hlt
  rw [List.drop_eq_getElem_cons hlt] at hcm
  have hga:a[i]? = some a[i]:=List.getElem?_eq_getElem hlt
  by_cases hlb:i<b.length
  ·have d2:decide (b.length<=i)=false:=decide_eq_false (by omega)
   have d3:decide ((i:Int)>=(b.length:Int))=false:=decide_eq_false (by omega)
   rw [List.drop_eq_getElem_cons hlb,Akc] at hcm
   have hgb:b[i]? = some b[i]:=List.getElem?_eq_getElem hlb
   obtain ⟨q,x,hx,hcm⟩:=Kr hcm
   obtain ⟨rfl,hcm⟩:=Mp hcm
   obtain ⟨q',y,hy,hcm⟩:=Kr hcm
   obtain ⟨rfl,hcm⟩:=Mp hcm
   rw [Mr,Mr] at hcm
   rw [hx] at hga
   rw [hy] at hgb
   simp (disch:=first | assumption | omega) only [go_sem,↓reduceIte,f0,f1,f9,f10,f11,d1,d2,d3,hga,hgb,Bool.false_eq_true,AV.cells]
   refine Ee (Ake x y) (by omega) (by repeat (first | exact Dt _ | refine Dj (by repeat (first | exact Dp _ _ | exact Bq _ _ _ _ | exact Ea _ _ _ | exact Dv _ _ _ _ _ | exact Eq _ _ _ _ | exact Ex _ _ | refine Db ?_ ?_ | refine Eo ?_ | refine Ey ?_ ?_ | refine Fg ?_ ?_ ?_)) ?_)) rfl ?_
   by_cases h1:x<y
   ·rw [decide_eq_true h1] at hcm
    cases hcm
    have e1:Oj x y = -1:=if_pos h1
    have e2:((-1:Int) != 0)=true:=rfl
    simp (disch:=first | assumption | omega) only [go_sem,↓reduceIte,e1,e2]
    exact hV _ _ (Bq _ _ _ _)
   rw [decide_eq_false h1] at hcm
   by_cases h2:y<x
   ·rw [decide_eq_true h2] at hcm
    cases hcm
    have e1:Oj x y=1:=by rw [Oj,if_neg h1,if_pos h2]
    have e2:((1:Int) != 0)=true:=rfl
    simp (disch:=first | assumption | omega) only [go_sem,↓reduceIte,e1,e2]
    exact hV _ _ (Bq _ _ _ _)
   ·rw [decide_eq_false h2] at hcm
    have e1:Oj x y=0:=by rw [Oj,if_neg h1,if_neg h2]
    have e2:((0:Int) != 0)=false:=rfl
    simp (disch:=first | assumption | omega) only [go_sem,↓reduceIte,f0,f1,f9,f10,f11,e1,e2,Bool.false_eq_true]
    exact hP (a.length-(i+1)) _ (by omega) ⟨i+1,rfl,by omega,by (simp only [go_sem,↓reduceIte,f0,f1,f9,f10]) <;> simp,by omega,hcm⟩
  ·have d2:decide (b.length<=i)=true:=decide_eq_true (by omega)
   have d3:decide ((i:Int)>=(b.length:Int))=true:=decide_eq_true (by omega)
   rw [List.drop_eq_nil_of_le (by omega:b.length<=i),Akb] at hcm
   obtain ⟨q,x,hx,hcm⟩:=Kr hcm
   obtain ⟨rfl,hcm⟩:=Mp hcm
   rw [hx] at hga
   cases hcm
   simp (disch:=first | assumption | omega) only [go_sem,↓reduceIte,f0,f1,f9,f10,f11,d1,d2,d3,hga,AV.cells]
   exact hV _ _ (Bq _ _ _ _)
 ·have d1:decide (i<a.length)=false:=decide_eq_false hlt
  rw [List.drop_eq_nil_of_le (by omega:a.length<=i),Aka] at hcm
  by_cases hlb:a.length<b.length
  ·have d2:decide (a.length<b.length)=true:=decide_eq_true hlb
   rw [List.drop_eq_getElem_cons (by omega:i<b.length)] at hcm
   cases hcm
   simp (disch:=first | assumption | omega) only [go_sem,↓reduceIte,f0,f1,f9,f10,f11,d1,d2,Bool.false_eq_true]
   exact hV _ _ (Bq _ _ _ _)
  ·have d2:decide (a.length<b.length)=false:=decide_eq_false hlb
   rw [List.drop_eq_nil_of_le (by omega:b.length<=i)] at hcm
   cases hcm
   simp (disch:=first | assumption | omega) only [go_sem,↓reduceIte,f0,f1,f9,f10,f11,d1,d2,Bool.false_eq_true]
   exact hV _ _ (Bq _ _ _ _)
theorem A6w (p:Int->Bool) (d:Nat->Int) (k:Nat):Qn p d [] k=some (.int .i64 (d k)):=rfl
theorem A4d (p:Int->Bool) (d:Nat->Int) (x:AV) (l:List AV) (k:Nat):Qn p d (x::l) k=Je x (fun q i=>is64 q (match p i with
 | true=>some (.int .i64 (k:Nat))
 | false=>Qn p d l (k+1)) none) none:=rfl
theorem Akg (a:List AV) (ea:Bool) (x:Int) (r:AV) (ha:a.length<=1000) (hr:Qn (fun i=>eqI x i) (fun _ => -1) a 0=some r):Con T 3 85 [.slice none a ea,.int .i64 x] r:=by
 refine Dd rt85 fun n hn V hV => ?_
 simp (disch:=first | assumption | omega) only [rc85,go_sem,↓reduceIte]
 refine Dm (fun M st=>∃i:Nat,M=a.length-i/\i<=a.length/\At st.env [(0,.slice none a ea),(1,.int .i64 x),(6,.slice none a ea),(7,.int .i64 a.length),(8,.int .i64 (i:Nat))]/\Qn (fun i=>eqI x i) (fun _ => -1) (a.drop i) i=some r) a.length (by omega)
  ⟨0,by omega,by omega,by (simp only [go_sem,↓reduceIte]) <;> simp,hr⟩ ?_
 rintro M e h hM ⟨i,hMi,hi,hE,hcm⟩ P hP
 simp only [Bz,Dc] at hE
 obtain ⟨f0,f1,f6,f7,f8,-⟩:=hE
 by_cases hlt:i<a.length
 ·have d1:decide (i<a.length)=true:=decide_eq_true hlt
  have hga:a[i]? = some a[i]:=List.getElem?_eq_getElem hlt
  rw [List.drop_eq_getElem_cons hlt,A4d] at hcm
  obtain ⟨q,y,hy,hcm⟩:=Kr hcm
  obtain ⟨rfl,hcm⟩:=Mp hcm
  rw [hy] at hga
  simp only [Rd] at hcm
  by_cases hxy:x=y
  ·subst hxy
   rw [decide_eq_true rfl] at hcm
   cases hcm
   have e1:(x==x)=true:=beq_self_eq_true x
   simp (disch:=first | assumption | omega) only [go_sem,↓reduceIte,f0,f1,f6,f7,f8,d1,hga,AV.cells,e1]
   exact hV _ _ (Bq _ _ _ _)
  ·rw [decide_eq_false hxy] at hcm
   have e1:(x==y)=false:=beq_eq_false_iff_ne.2 hxy
   simp (disch:=first | assumption | omega) only [go_sem,↓reduceIte,f0,f1,f6,f7,f8,d1,hga,AV.cells,e1,Bool.false_eq_true]
   refine hP (a.length-(i+1)) _ (by omega) ⟨i+1,rfl,by omega,by (simp only [go_sem,↓reduceIte,f0,f1,f6,f7]) <;> simp,?_⟩
   simp only [Rd]
   exact hcm
 ·have d1:decide (i<a.length)=false:=decide_eq_false hlt
  rw [List.drop_eq_nil_of_le (by omega:a.length<=i),A6w] at hcm
  cases hcm
  simp (disch:=first | assumption | omega) only [go_sem,↓reduceIte,f0,f1,f6,f7,f8,d1,Bool.false_eq_true]
  exact hV _ _ (Bq _ _ _ _)
theorem A6l (p:Int->Bool) (f:Nat) (u:Int) (hcl:∀x:Int,Con T 1 f ([]++[.int .i64 x]++[.ptr [.int .i64 u] 0]) (.bool (p x))) (a:List AV) (ea:Bool) (r:AV) (ha:a.length<=1000) (hr:Qn p (fun k=>(k:Nat)) a 0=some r):Con T 3 93 [.slice none a ea,.clo f [] [.ptr [.int .i64 u] 0]] r:=by
 refine Dd rt93 fun n hn V hV => ?_
 simp (disch:=first | assumption | omega) only [rc93,go_sem,↓reduceIte]
 refine Dm (fun M st=>∃i:Nat,M=a.length-i/\i<=a.length/\At st.env [(0,.slice none a ea),(1,.clo f [] [.ptr [.int .i64 u] 0]),(7,.slice none a ea),(8,.int .i64 a.length),(9,.int .i64 (i:Nat))]/\Qn p (fun k=>(k:Nat)) (a.drop i) i=some r) a.length (by omega)
  ⟨0,by omega,by omega,by (simp only [go_sem,↓reduceIte]) <;> simp,hr⟩ ?_
 rintro M e h hM ⟨i,hMi,hi,hE,hcm⟩ P hP
 simp only [Bz,Dc] at hE
 obtain ⟨f0,f1,f7,f8,f9,-⟩:=hE
 by_cases hlt:i<a.length
 ·have d1:decide (i<a.length)=true:=decide_eq_true hlt
  have hga:a[i]? = some a[i]:=List.getElem?_eq_getElem hlt
  rw [List.drop_eq_getElem_cons hlt,A4d] at hcm
  obtain ⟨q,y,hy,hcm⟩:=Kr hcm
  obtain ⟨rfl,hcm⟩:=Mp hcm
  rw [hy] at hga
  simp (disch:=first | assumption | omega) only [go_sem,↓reduceIte,f0,f1,f7,f8,f9,d1,hga,AV.cells]
  refine Ee (hcl y) (by omega) (Fw _ _ _ (Dj (Eq _ _ _ _) (Dt _))) (Kb _ _) ?_
  cases hp:p y with
  | true =>
   rw [hp] at hcm
   cases hcm
   simp (disch:=first | assumption | omega) only [go_sem,↓reduceIte,f9]
   exact hV _ _ (Bq _ _ _ _)
  | false =>
   rw [hp] at hcm
   simp (disch:=first | assumption | omega) only [go_sem,↓reduceIte,f0,f1,f7,f8,f9,Bool.false_eq_true]
   exact hP (a.length-(i+1)) _ (by omega) ⟨i+1,rfl,by omega,by (simp only [go_sem,↓reduceIte,f0,f1,f7,f8]) <;> simp,hcm⟩
 ·have d1:decide (i<a.length)=false:=decide_eq_false hlt
  rw [List.drop_eq_nil_of_le (by omega:a.length<=i),A6w] at hcm
  obtain rfl:i=a.length:=by omega
  cases hcm
  simp (disch:=first | assumption | omega) only [go_sem,↓reduceIte,f0,f1,f7,f8,f9,d1,Bool.false_eq_true]
  exact hV _ _ (Bq _ _ _ _)
theorem Aki (u x:Int):Con T 1 100 ([]++[.int .i64 x]++[.ptr [.int .i64 u] 0]) (.bool (ltI u x)):=by
 refine Dd rt100 fun n hn V hV => ?_
 rw [Mr] at hV
 simp (disch:=first | assumption | omega) only [rc100,go_sem,↓reduceIte,List.cons_append]
 exact hV _ _ (Ea _ _ _)
theorem Ahb (u x:Int):Con T 1 94 ([]++[.int .i64 x]++[.ptr [.int .i64 u] 0]) (.bool (!ltI x u)):=by
 refine Dd rt94 fun n hn V hV => ?_
 have e:(!ltI x u)=decide (x>=u):=by
  rw [Mr,<-decide_not]
  exact decide_eq_decide.2 (by omega)
 rw [e] at hV
 simp (disch:=first | assumption | omega) only [rc94,go_sem,↓reduceIte,List.cons_append]
 exact hV _ _ (Ea _ _ _)
theorem Hi {k:Nat} (hk:3<=k):Xm T k ntC:=by
 intro p hp xs r hr
 simp only [ntC,List.mem_cons,List.not_mem_nil,or_false] at hp
 rcases hp with rfl | rfl | rfl
 ·simp only at hr ⊢
  unfold Avw at hr
  split at hr
  ·next a ea b eb =>
   rw [Kl] at hr
   by_cases ha:a.length<=1000
   ·rw [decide_eq_true ha] at hr
    exact Es (Dz (A6k a b ea eb r ha hr) hk)
   ·rw [decide_eq_false ha] at hr
    cases hr
  ·cases hr
 ·simp only at hr ⊢
  unfold Axc at hr
  split at hr
  ·next a ea x =>
   rw [Kl] at hr
   by_cases ha:a.length<=1000
   ·rw [decide_eq_true ha] at hr
    exact Es (Dz (Akg a ea x r ha hr) hk)
   ·rw [decide_eq_false ha] at hr
    cases hr
  ·cases hr
 ·simp only at hr ⊢
  unfold Awu at hr
  split at hr
  ·next a ea f u =>
   rw [Kl] at hr
   by_cases ha:a.length<=1000
   ·rw [decide_eq_true ha] at hr
    simp only [Ni] at hr
    by_cases h1:f=100
    ·rw [decide_eq_true h1] at hr
     subst h1
     exact Es (Dz (A6l _ _ u (Aki u) a ea r ha hr) hk)
    ·rw [decide_eq_false h1] at hr
     by_cases h2:f=94
     ·rw [decide_eq_true h2] at hr
      subst h2
      exact Es (Dz (A6l _ _ u (Ahb u) a ea r ha hr) hk)
     ·rw [decide_eq_false h2] at hr
      cases hr
   ·rw [decide_eq_false ha] at hr
    cases hr
  ·cases hr
end Go.Ev.YtbgodhhdojjbmaaGreatC
namespace Go.Ev.YtbgodhhdojjbmaaGreatC
open Go Go.Proofs
def raC (a b:List Int):AnsY:=⟨24,[.slice none [Ff a,Ff b] false],.int .i64 0,false⟩
def raK (a b:List Int):AnsY:=⟨25,[.slice none [Ff a,Ff b] false],.int .i64 0,false⟩
def PT (n b:Int) (L:List (List Int)) (t:List Int):Prop:=∃l:List AnsY,(∀a∈l,YOk T 64 a)/\∀X,rsB (tyL n L++l) X n b t=true
def raL (m:Nat):AnsY:=raK (List.replicate m 1) (List.replicate m 2)
def PQ (m:Nat) (b:Int) (L:List (List Int)) (t x y:List Int):Prop:=zTB T tbR ntC [] 60 24 [.slice none [Ff x,Ff y] false] (.int .i64 0)=true/\∀X,rsB (tyL m L++[raL m,raC x y]) X m b t=true
theorem raM {P:List Int->Prop} {t:List Int} {l:List (List Int)} (h:P t) (r:∀x∈l,P x):∀x∈t::l,P x:=List.forall_mem_cons.2 ⟨h,r⟩
theorem raN {P:List Int->Prop}:∀x∈([]:List (List Int)),P x:=fun _ h=>by cases h
theorem raA {P:List Int->Prop} {l r:List (List Int)} (h1:∀x∈l,P x) (h2:∀x∈r,P x):∀x∈l++r,P x:=fun x hx=>(List.mem_append.1 hx).elim (h1 x) (h2 x)
theorem raZ {f:Nat} {xs:List AV} {r:AV} (h:zTB T tbR ntC [] 60 f xs r=true):YOk T 64 ⟨f,xs,r,false⟩:=zT A9k (Hi (by decide)) (k:=3) (fun _ h=>by cases h) h
theorem raQ {m:Nat} {b:Int} {L:List (List Int)} {t x y:List Int} (h:YOk T 64 (raL m)) (hq:PQ m b L t x y):PT m b L t:=⟨[raL m,raC x y],fM h (fM (raZ hq.1) fN),hq.2⟩
theorem ck1:YOk T 64 (raL 1):=raZ (by kernel_rfl)
theorem ck2:YOk T 64 (raL 2):=raZ (by kernel_rfl)
theorem ck3:YOk T 64 (raL 3):=raZ (by kernel_rfl)
theorem ck4:YOk T 64 (raL 4):=raZ (by kernel_rfl)
theorem ck5:YOk T 64 (raL 5):=raZ (by kernel_rfl)
theorem ck6:YOk T 64 (raL 6):=raZ (by kernel_rfl)
end Go.Ev.YtbgodhhdojjbmaaGreatC
namespace Go.Ev
def Jv:List Int->List Int
 | []=>[]
 | [a]=>[a]
 | a::_::r=>a::Jv r
def Jt:List Int->List Int
 | []=>[]
 | [_]=>[]
 | _::b::r=>b::Jt r
theorem Zg (a:Int) (r:List Int):Jv (a::r)=a::Jt r/\Jt (a::r)=Jv r:=by
 induction r generalizing a with
 | nil=>exact ⟨rfl,rfl⟩
 | cons b r ih =>
  obtain ⟨i1,i2⟩:=ih b
  constructor
  ·rw [i2]; rfl
  ·rw [i1]; rfl
theorem Acn:∀l:List Int,(Jv l).length<=l.length/\(Jt l).length<=l.length
 | []=>⟨Nat.le_refl _,Nat.le_refl _⟩
 | a::r=>by
  obtain ⟨h1,h2⟩:=Acn r
  obtain ⟨o1,o2⟩:=Zg a r
  rw [o1,o2]
  simp only [List.length_cons]
  omega
theorem Aco:∀(l:List Int) (P:Int->Prop),(∀x∈l,P x)->(∀x∈Jv l,P x)/\(∀x∈Jt l,P x)
 | [],_,_=>⟨fun x hx=>by simp [Jv] at hx,fun x hx=>by simp [Jt] at hx⟩
 | a::r,P,h=>by
  obtain ⟨h1,h2⟩:=Aco r P fun x hx=>h x (by simp [hx])
  obtain ⟨o1,o2⟩:=Zg a r
  rw [o1,o2]
  refine ⟨fun x hx => ?_,h1⟩
  rcases List.mem_cons.1 hx with rfl | hx
  ·exact h _ (by simp)
  ·exact h2 x hx
def Hc (n:Nat) (b:List Int):Nat:=(b.headD 0).toNat%n
def grF:Nat->Nat->List Int->List Int
 | _,0,_=>[]
 | 0,_+1,_=>[]
 | k+1,n+1,b=>hgL (grF k (Hc (n+1) b) (Jv (b.drop 1))) (grF k (n-Hc (n+1) b) (Jt (b.drop 1)))
theorem Wm:∀(k n:Nat) (b:List Int),n<=k->grF k n b∈trF k n
 | 0,0,_,_=>by rw [grF,trF]; exact List.mem_singleton.2 rfl
 | _+1,0,_,_=>by rw [grF,trF]; exact List.mem_singleton.2 rfl
 | 0,n+1,_,h=>by omega
 | k+1,n+1,b,h=>by
  have hlt:Hc (n+1) b<n+1:=Nat.mod_lt _ (by omega)
  rw [grF]
  exact Auv (by omega) (Wm k _ _ (by omega)) (Wm k _ _ (by omega))
theorem Acd {k n:Nat} {b:List Int} (h:n<=k):(grF k n b).length=n:=A9m k n _ (Wm k n b h)
theorem A9n:∀(k n:Nat) (t:List Int),t∈trF k n->∀x∈t,0<=x/\x<n
 | 0,0,t,h,x,hx=>by
  rw [trF,List.mem_singleton] at h
  rw [h] at hx; cases hx
 | _+1,0,t,h,x,hx=>by
  rw [trF,List.mem_singleton] at h
  rw [h] at hx; cases hx
 | 0,n+1,t,h,_,_=>by
  rw [trF] at h
  cases h
 | k+1,n+1,t,h,x,hx=>by
  rw [trF,List.mem_flatMap] at h
  obtain ⟨a,ha,h⟩:=h
  rw [List.mem_flatMap] at h
  obtain ⟨l,hl,h⟩:=h
  obtain ⟨r,hr,rfl⟩:=List.mem_map.1 h
  have:=List.mem_range.1 ha
  rw [hgL,List.mem_append,List.mem_cons] at hx
  rcases hx with hx | rfl | hx
  ·obtain ⟨y,hy,rfl⟩:=List.mem_map.1 hx
   have:=A9n k a l hl y hy
   omega
  ·omega
  ·obtain ⟨y,hy,rfl⟩:=List.mem_map.1 hx
   have:=A9n k (n-a) r hr y hy
   omega
end Go.Ev
namespace Go.Ev.YtbgodhhdojjbmaaGreatC
open Go Go.Proofs
abbrev Adg (l:List Int):AV:=.slice none (l.map (.int .u8)) false
theorem Ajc {lo lo':Nat} {h:Bc} {v:AV} {k:IntKind} {l:List Int} (ho:Own lo h v k l) (hl:lo'<=lo):Own lo' h v k l:=by
 rcases ho with h1 | ⟨key,ver,h1,h2⟩
 ·exact .inl h1
 ·exact .inr ⟨key,ver,Nat.le_trans hl h1,h2⟩
attribute [local irreducible] Res.all evC Do Dr Bv Bd Dw Bg Bj G GO GV GP GC R
theorem Ann {n:Nat} {l r:List Int} (hl:l.length<=100) (hr:r.length<=100) (bl:∀x∈l,0<=x/\x<=1000) (br:∀x∈r,0<=x/\x<=1000) {h:Bc} {V:AV×Bc->Prop}
  (hV:∀x h',Own h.length h' x .i64 (hgL l r)->V (x,h')):(Bg T (n+1) true (.fn 44) [Ff l,Ff r] h).all V:=by
 rw [Ew t44]
 simp (disch:=first | assumption | omega) only [c44,go_sem,↓reduceIte]
 refine Dm (fun M st=>∃(i:Nat) (x:AV),M=l.length-i/\i<=l.length/\At st.env [(0,Ff l),(1,Ff r),(5,x),(6,.int .i64 (i:Nat))]/\Own (h.length+40) st.heap x .i64 ((l.take i).map (·+1))/\h.length+40<=st.heap.length) l.length (by omega)
  ⟨0,.slice none [] true,by omega,by omega,by (simp only [go_sem,↓reduceIte]) <;> simp,by simpa using Il _ _ _,by simp⟩ ?_
 rintro M e h1 hM ⟨i,x,hMi,hi,hE,hO,hl1⟩ P hP
 simp only [Bz,Dc] at hE hO hl1
 obtain ⟨f0,f1,f5,f6,-⟩:=hE
 have hol:((l.take i).map (·+1)).length<=100:=by rw [List.length_map,List.length_take]; omega
 by_cases hlt:i<l.length
 ·have d1:decide (i<l.length)=true:=decide_eq_true hlt
  have hg:l[i]? = some l[i]:=List.getElem?_eq_getElem hlt
  have hb:=bl _ (List.getElem_mem hlt)
  have hts:(l.take i).map (·+1)++[l[i]+1]=(l.take (i+1)).map (·+1):=by rw [List.take_succ_eq_append_getElem hlt]; simp only [List.map_append,List.map_cons,List.map_nil]
  simp (disch:=first | assumption | omega) only [go_sem,↓reduceIte,f0,f1,f5,f6,d1,hg]
  refine Gq (b:=8) (by first | with_reducible rfl | (simp only [Bh,List.length_append,List.length_replicate]; done) | (simp only [Bh,List.length_append,List.length_replicate]; omega)) hO hl1 (by omega) fun x' h' hO' _ hL _ _ => ?_
  rw [hts] at hO'
  simp (disch:=first | assumption | omega) only [go_sem,↓reduceIte,f0,f1,f5,f6]
  exact hP (l.length-(i+1)) _ (by omega) ⟨i+1,x',rfl,by omega,by (simp only [go_sem,↓reduceIte,f0,f1]) <;> simp,hO',(show h.length+40<=h'.length by omega)⟩
 obtain rfl:i=l.length:=by omega
 have d1:decide (l.length<l.length)=false:=decide_eq_false (by omega)
 rw [List.take_length] at hO hol
 simp (disch:=first | assumption | omega) only [go_sem,↓reduceIte,f0,f1,f5,f6,d1,Bool.false_eq_true]
 refine Gq (b:=8) (by first | with_reducible rfl | (simp only [Bh,List.length_append,List.length_replicate]; done) | (simp only [Bh,List.length_append,List.length_replicate]; omega)) hO hl1 (by omega) fun x0 h2 hO2 _ hL2 _ _ => ?_
 have hl2:h.length+40<=h2.length:=by omega
 simp (disch:=first | assumption | omega) only [go_sem,↓reduceIte,f0,f1,f5,f6]
 refine Dm (fun M st=>∃(i:Nat) (x:AV),M=r.length-i/\i<=r.length/\At st.env [(0,Ff l),(1,Ff r),(5,x),(7,.int .i64 (i:Nat))]/\Own (h.length+40) st.heap x .i64 (l.map (·+1)++[0]++(r.take i).map (·+1))/\h.length+40<=st.heap.length) r.length (by omega)
  ⟨0,x0,by omega,by omega,by (simp only [go_sem,↓reduceIte,f0,f1]) <;> simp,by simpa using hO2,hl2⟩ ?_
 clear f0 f1 f5 f6 e hO hO2 hL2
 rintro M e h3 hM ⟨i,x,hMi,hi,hE,hO,hl1⟩ P2 hP2
 simp only [Bz,Dc] at hE hO hl1
 obtain ⟨f0,f1,f5,f7,-⟩:=hE
 have hol2:(l.map (·+1)++[0]++(r.take i).map (·+1)).length<=300:=by simp only [List.length_append,List.length_map,List.length_take,List.length_singleton]; omega
 by_cases hlt:i<r.length
 ·have d2:decide (i<r.length)=true:=decide_eq_true hlt
  have hg:r[i]? = some r[i]:=List.getElem?_eq_getElem hlt
  have hb:=br _ (List.getElem_mem hlt)
  have hts:l.map (·+1)++[0]++(r.take i).map (·+1)++[r[i]+1]=l.map (·+1)++[0]++(r.take (i+1)).map (·+1):=by rw [List.take_succ_eq_append_getElem hlt]; simp only [List.map_append,List.map_cons,List.map_nil,List.append_assoc]
  simp (disch:=first | assumption | omega) only [go_sem,↓reduceIte,f0,f1,f5,f7,d2,hg]
  refine Gq (b:=8) (by first | with_reducible rfl | (simp only [Bh,List.length_append,List.length_replicate]; done) | (simp only [Bh,List.length_append,List.length_replicate]; omega)) hO hl1 (by omega) fun x' h' hO' _ hL _ _ => ?_
  rw [hts] at hO'
  simp (disch:=first | assumption | omega) only [go_sem,↓reduceIte,f0,f1,f5,f7]
  exact hP2 (r.length-(i+1)) _ (by omega) ⟨i+1,x',rfl,by omega,by (simp only [go_sem,↓reduceIte,f0,f1]) <;> simp,hO',(show h.length+40<=h'.length by omega)⟩
 obtain rfl:i=r.length:=by omega
 have d2:decide (r.length<r.length)=false:=decide_eq_false (by omega)
 rw [List.take_length] at hO
 have he:l.map (·+1)++[0]++r.map (·+1)=hgL l r:=by simp [hgL]
 rw [he] at hO
 simp (disch:=first | assumption | omega) only [go_sem,↓reduceIte,f0,f1,f5,f7,d2,Bool.false_eq_true,Gf,mapR]
 exact hV _ _ (Ajc hO (by omega))
end Go.Ev.YtbgodhhdojjbmaaGreatC
namespace Go.Ev.YtbgodhhdojjbmaaGreatC
open Go Go.Proofs
theorem Ace {k n:Nat} {b:List Int} (h:n<=k) (hk:k<=100):∀x∈grF k n b,0<=x/\x<=1000:=fun x hx=>by
 have:=A9n k n _ (Wm k n b h) x hx
 omega
theorem gJ9 {call:Bf} {base:Nat} {Q:EX×St->Prop} {c:IC} {ks:List Kont} {goal:Prop} (I:Env->Bc->Prop) (main:(∀e h,I e h->G call base Q c ks ⟨e,h⟩)->goal) (key:∀e h,I e h->G call base Q c ks ⟨e,h⟩):goal:=main key
attribute [local irreducible] Res.all evC Do Dr Bv Bd Dw Bg Bj G GO GV GP GC R
set_option maxHeartbeats 1000000 in
theorem Rt:∀(k n:Nat) (by':List Int),n<=k->k<=6->by'.length<=60->(∀x∈by',0<=x/\x<=255)->Aju T (k+2) 18 [.int .i64 (n:Nat),Adg by'] (Ff (grF k n by'))
 | k,0,by',_,_,_,_=>by
  have e:grF k 0 by'=[]:=by cases k <;> rfl
  rw [e]
  refine A0g t18 fun m hm V hV => ?_
  have d0:decide (((0:Nat):Int)<1)=true:=rfl
  have d1:decide ((0:Int)<1)=true:=rfl
  simp (disch:=first | assumption | omega) only [c18,go_sem,↓reduceIte,d0,d1]
  exact hV _ _ (Dv _ _ _ _ _) (Ahl _ _ _ _)
 | 0,n+1,_,h,_,_,_=>by omega
 | k+1,n+1,by',hn,hk,hl,hb=>by
  refine A0g t18 fun m hm V hV => ?_
  obtain ⟨m,rfl⟩:∃q,m=q+1:=⟨m-1,by omega⟩
  have hat:Hc (n+1) by'<n+1:=Nat.mod_lt _ (by omega)
  have hol:=Acn (by'.drop 1)
  have hom:=Aco (by'.drop 1) (fun x=>0<=x/\x<=255) (fun x hx=>hb x (List.mem_of_mem_drop hx))
  rw [List.length_drop] at hol
  have ih1:=Rt k (Hc (n+1) by') (Jv (by'.drop 1)) (by omega) (by omega) (by omega) hom.1
  have ih2:=Rt k (n-Hc (n+1) by') (Jt (by'.drop 1)) (by omega) (by omega) (by omega) hom.2
  have l1:=Acd (b:=Jv (by'.drop 1)) (show Hc (n+1) by'<=k by omega)
  have l2:=Acd (b:=Jt (by'.drop 1)) (show n-Hc (n+1) by'<=k by omega)
  have r1:=Ace (b:=Jv (by'.drop 1)) (show Hc (n+1) by'<=k by omega) (by omega)
  have r2:=Ace (b:=Jt (by'.drop 1)) (show n-Hc (n+1) by'<=k by omega) (by omega)
  have d0:decide ((((n+1:Nat):Nat):Int)<1)=false:=decide_eq_false (by omega)
  have d1:decide ((n:Int)+1<1)=false:=decide_eq_false (by omega)
  apply gJ9 (call:=Bg T (m+1)) (base:=0) (Q:=Fin [.tmp 4] V) fun e h=>At e [(0,.int .i64 ((n+1:Nat):Int)),(1,Adg by'),(5,.int .i64 (Hc (n+1) by':Nat)),(6,.slice none [] true),(7,.slice none [] true),(8,.int .i64 1)]/\53<=h.length
  ·intro hJ
   cases hby:by' with
   | nil =>
    subst hby
    have e0:Hc (n+1) []=0:=by simp [Hc]
    have q1:decide ((0:Int)>0)=false:=rfl
    simp (disch:=first | assumption | omega) only [c18,go_sem,↓reduceIte,d0,d1,q1,List.map_nil,List.length_nil,Bool.false_eq_true]
    exact hJ _ _ ⟨by rw [e0]; (simp only [go_sem,↓reduceIte]) <;> simp,by simp⟩
   | cons a r =>
    subst hby
    obtain ⟨ha0,ha1⟩:=hb a (by simp)
    obtain ⟨w,rfl⟩:=Int.eq_ofNat_of_zero_le ha0
    have e0:(w:Int)%((n:Int)+1)=(Hc (n+1) ((w:Int)::r):Nat):=by simp [Hc]
    have e1:(w:Int)%((n+1:Nat):Int)=(Hc (n+1) ((w:Int)::r):Nat):=by simp [Hc]
    have q1:decide (((((w:Int)::r).length:Nat):Int)>0)=true:=by simp
    have q2:decide (((r.length+1:Nat):Int)>0)=true:=decide_eq_true (by omega)
    have q3:decide ((r.length:Int)+1>0)=true:=decide_eq_true (by omega)
    have g0:((w:Int)::r)[0]? = some (w:Int):=rfl
    simp (disch:=first | assumption | omega) only [c18,go_sem,↓reduceIte,d0,d1,q1,q2,q3,g0,A0b,e0,e1,List.length_cons,Bool.false_eq_true]
    exact hJ _ _ ⟨by (simp only [go_sem,↓reduceIte]) <;> simp,by simp⟩
  rintro e h ⟨hE,hl53⟩
  simp only [Bz,Dc] at hE
  obtain ⟨f0,f1,f5,f6,f7,f8,-⟩:=hE
  have hbd:∀i,1<=i->(h:i<by'.length)->by'.drop i=by'[i]::by'.drop (i+1):=fun i _ h=>List.drop_eq_getElem_cons h
  refine Dm (fun M st=>∃(i:Nat) (x y:AV) (L R:List Int),M=by'.length+1-i/\1<=i/\i<=by'.length+1/\At st.env [(0,.int .i64 ((n+1:Nat):Int)),(1,Adg by'),(5,.int .i64 (Hc (n+1) by':Nat)),(6,x),(7,y),(8,.int .i64 (i:Nat))]/\
    L++(if i%2=1 then Jv (by'.drop i) else Jt (by'.drop i))=Jv (by'.drop 1)/\R++(if i%2=1 then Jt (by'.drop i) else Jv (by'.drop i))=Jt (by'.drop 1)/\
    Own 53 st.heap x .u8 L/\Own 53 st.heap y .u8 R/\(∀j,Fn x=some j->Fn y≠some j)/\53<=st.heap.length) by'.length (by omega)
   ⟨1,.slice none [] true,.slice none [] true,[],[],by omega,by omega,by omega,by (simp only [go_sem,↓reduceIte,f0,f1,f5,f6,f7,f8]) <;> simp,by simp,by simp,Il _ _ _,Il _ _ _,by simp [Fn],hl53⟩ ?_
  clear f0 f1 f5 f6 f7 f8 hl53 e h
  rintro M e h hM ⟨i,x,y,L,R,hMi,hi1,hi2,hE,hL,hR,hO,hO2,hdis,hl53⟩ P hP
  simp only [Bz,Dc] at hE hO hO2 hl53
  obtain ⟨f0,f1,f5,f6,f7,f8,-⟩:=hE
  by_cases hlt:i<by'.length
  ·have c1:decide (i<by'.length)=true:=decide_eq_true hlt
   have c2:decide ((i:Int)<(by'.length:Int))=true:=decide_eq_true (by omega)
   have hg:by'[i]? = some by'[i]:=List.getElem?_eq_getElem hlt
   have hlL:L.length<=60:=by
    have:=congrArg List.length hL
    rw [List.length_append] at this
    omega
   have hlR:R.length<=60:=by
    have:=congrArg List.length hR
    rw [List.length_append] at this
    omega
   have hd:=hbd i hi1 hlt
   obtain ⟨o1,o2⟩:=Zg by'[i] (by'.drop (i+1))
   rw [hd,o1,o2] at hL hR
   by_cases hodd:i%2=1
   ·have r1:((i:Int)%2==1)=true:=by simp; omega
    have r2:(((i%2:Nat):Int)==1)=true:=by simp; omega
    rw [if_pos hodd] at hL hR
    simp (disch:=first | assumption | omega) only [go_sem,↓reduceIte,f0,f1,f5,f6,f7,f8,c1,c2,hg,A0b,r1,r2]
    refine Gq (b:=1) (by first | with_reducible rfl | (simp only [Bh,List.length_append,List.length_replicate]; done) | (simp only [Bh,List.length_append,List.length_replicate]; omega)) hO hl53 (by omega) fun x' h' hO' _ hL' hG hK => ?_
    simp (disch:=first | assumption | omega) only [go_sem,↓reduceIte,f0,f1,f5,f6,f7,f8]
    refine hP (by'.length+1-(i+1)) _ (by omega) ⟨i+1,x',y,L++[by'[i]],R,rfl,by omega,by omega,by (simp only [go_sem,↓reduceIte,f0,f1,f5,f7]) <;> simp,by rw [if_neg (by omega),<-hL]; simp,by rw [if_neg (by omega),<-hR],hO',hO2.other fun j hj=>hG j (hO2.keyLt j hj) fun hc=>hdis j hc hj,fun j hj hy => ?_,(show 53<=h'.length by omega)⟩
    rcases hK j hj with h5 | h5
    ·exact hdis j h5 hy
    ·have:=hO2.keyLt j hy; omega
   ·have r1:((i:Int)%2==1)=false:=by simp; omega
    have r2:(((i%2:Nat):Int)==1)=false:=by simp; omega
    rw [if_neg hodd] at hL hR
    simp (disch:=first | assumption | omega) only [go_sem,↓reduceIte,f0,f1,f5,f6,f7,f8,c1,c2,hg,A0b,r1,r2,Bool.false_eq_true]
    refine Gq (b:=1) (by first | with_reducible rfl | (simp only [Bh,List.length_append,List.length_replicate]; done) | (simp only [Bh,List.length_append,List.length_replicate]; omega)) hO2 hl53 (by omega) fun x' h' hO' _ hL' hG hK => ?_
    simp (disch:=first | assumption | omega) only [go_sem,↓reduceIte,f0,f1,f5,f6,f7,f8]
    refine hP (by'.length+1-(i+1)) _ (by omega) ⟨i+1,x,x',L,R++[by'[i]],rfl,by omega,by omega,by (simp only [go_sem,↓reduceIte,f0,f1,f5,f6]) <;> simp,by rw [if_pos (by omega),<-hL],by rw [if_pos (by omega),<-hR]; simp,hO.other fun j hj=>hG j (hO.keyLt j hj) fun hc=>hdis j hj hc,hO',fun j hj hy => ?_,(show 53<=h'.length by omega)⟩
    rcases hK j hy with h5 | h5
    ·exact hdis j hj h5
    ·have:=hO.keyLt j hj; omega
  ·have c1:decide (i<by'.length)=false:=decide_eq_false hlt
   have c2:decide ((i:Int)<(by'.length:Int))=false:=decide_eq_false (by omega)
   have hde:by'.drop i=[]:=List.drop_eq_nil_of_le (by omega)
   rw [hde] at hL hR
   have hL':L=Jv (by'.drop 1):=by rw [<-hL]; split <;> simp [Jv,Jt]
   have hR':R=Jt (by'.drop 1):=by rw [<-hR]; split <;> simp [Jv,Jt]
   subst hL' hR'
   have es:(n:Int)+1-1-(Hc (n+1) by':Nat)=((n-Hc (n+1) by':Nat):Int):=by omega
   have es2:(n:Int)-(Hc (n+1) by':Nat)=((n-Hc (n+1) by':Nat):Int):=by omega
   have es3:(n:Int)+1-1=(n:Int):=by omega
   simp (disch:=first | assumption | omega) only [go_sem,↓reduceIte,f0,f1,f5,f6,f7,f8,c1,c2,Bool.false_eq_true]
   refine A2k ih1 (by omega) (Fw _ _ _ (Dj (Xu hO) (Dt _))) ?_
   simp (disch:=first | assumption | omega) only [go_sem,↓reduceIte,f0,f1,f5,f6,f7,f8,es,es2,es3]
   refine A2k ih2 (by omega) (Fw _ _ _ (Dj (Xu hO2) (Dt _))) ?_
   simp (disch:=first | assumption | omega) only [go_sem,↓reduceIte]
   refine Gi (Ann (by omega) (by omega) r1 r2 fun z h' hz => ?_)
   simp (disch:=first | assumption | omega) only [c18,go_sem,↓reduceIte,Gf,mapR]
   exact hV _ _ (by rw [grF]; exact Xu hz) (Ahk hz)
end Go.Ev.YtbgodhhdojjbmaaGreatC
namespace Go.Ev.YtbgodhhdojjbmaaGreatC
open Go Go.Proofs
theorem Aum {kw n0:Nat} (hkw:kw+60<=n0) {X:Nat->AV} {n b:Int} {t:List Int} {l:List AnsY} (hn:Xm T kw ntC) (hl:∀a∈l,YOk T kw a) (hb:rsB l X n b t=true):G (Bg T n0) 0 (Fin [.tmp 4] fun p=>p.1 = .bool true) rsR [] ⟨rsE X n b t,List.replicate 188 .none⟩:=by
 unfold rsB at hb
 rw [Aoo] at hb
 have hlen:(rsE X n b t).length=55:=rfl
 generalize rsE X n b t=e0 at hb hlen ⊢
 generalize rsR=code at hb ⊢
 obtain ⟨t',h1,hE⟩:=Alb e0 (fun t=>Nu (Ma T tbR ntC l 60) 0 code ⟨55,t⟩ ⟨188,[]⟩ fun x E _=>Res.ret (Anv x E))
 rw [h1] at hb
 rw [hlen] at hE
 have hS:RH (List.replicate 188 .none) ⟨188,[]⟩:=⟨List.length_replicate,by
  funext k
  rw [Lp]
  rfl⟩
 have h2:=Xo (Yv A9k hn hl 60) code hE hS (Res.allB_all _ _ hb)
 have h3:=Ii (c1:=Bg T (kw+60)) (c2:=Bg T n0) (fun raw t xs h Q hq=>Hn T hkw raw t xs h Q hq) 0 code _ _ h2
 refine Res.all_mono _ h3 fun p hp => ?_
 obtain ⟨x,s⟩:=p
 obtain ⟨E,s',h4,h5,h6⟩:=hp
 have h6:Anv x E=true:=h6
 have key:(match gT E 4 with | .bool b=>b | _=>false)=true->Bs s.env 4 = .bool true:=by
  intro hs
  rw [h4.get]
  cases hg:gT E 4 <;> rw [hg] at hs <;> first | (simp only at hs; rw [hs]) | (cases hs)
 cases x with
 | exit id=>cases h6
 | normal=>exact key h6
 | ret=>exact key h6
attribute [local irreducible] Res.all evC Do Dr Bv Bd Dw Bg Bj G GO GV GP GC R
set_option maxHeartbeats 1000000 in
theorem Nn (n0 kw:Nat) (hn:20000<=n0) (hkw:kw+60<=n0) (hW:Con T kw 6 [] (.bool true)) (a0:Int) (h0:0<=a0) (a1:List Int) (b1:∀x∈a1,0<=x/\x<=255) (n b:Nat) (hq:1+a0%6=(n:Int)) (hn6:n<=6)
  (hR:Con T 61 16 [Ff [(n:Int),(n:Int)]] (.tuple [.int .i64 (b:Nat),.int .i64 0])) (hS:Con T 61 17 [.int .i64 (n:Nat)] (.tuple [.int .i64 (b:Nat),.int .i64 0]))
  {L:List (List Int)} (hnt:Xm T kw ntC) (hk:64<=kw) (hl:∀a∈tyL (n:Nat) L,YOk T kw a) (hB:∀t∈trF 6 n,PT (n:Nat) (b:Nat) L t):(Dw (Bg T n0) c4 [.int .u8 a0,Adg a1] []).all fun p=>p.1 = .bool true:=by
 rw [A7p,Aul]
 have e00:((0:Int) != 0)=false:=rfl
 have r0:=Int.emod_nonneg a0 (show (6:Int)≠0 by decide)
 have r1:=Int.emod_lt_of_pos a0 (show (0:Int)<6 by decide)
 have hrem:Ef .rem (.int .u8 a0) (.int .u8 6) = .ret (.int .u8 (a0%6)):=by
  simp only [Ef,Kg,if_true]
  rw [if_neg (by omega),Int.tmod_eq_emod_of_nonneg h0]
 have ebb:((b:Int) != (b:Int))=false:=by simp
 have hWs:∀{base:Nat} {Q:EX×St->Prop} {d:Option Nat} {L:List IOper} {ks:List Kont} {e:Env} {h:Bc},GP (Bg T n0) base Q d L ks e (Bg T n0 false (.fn 6) [] h)=GO (Bg T n0) base Q L ks ⟨Bk e d (.bool true),h⟩:=Hb hW (by omega) (Dt _) rfl
 by_cases hc:a1.length<=60
 case neg =>
  have q1:decide (((a1.length:Nat):Int)>60)=true:=decide_eq_true (by omega)
  simp (disch:=first | assumption | omega) only [go_sem,↓reduceIte,q1,hWs]
 have q1:decide (((a1.length:Nat):Int)>60)=false:=decide_eq_false (by omega)
 simp (disch:=first | assumption | omega) only [go_sem,↓reduceIte,q1,hrem,hq,Bool.false_eq_true]
 refine Ee hR (by omega) (by repeat (first | exact Dt _ | refine Dj (by repeat (first | exact Dp _ _ | exact Bq _ _ _ _ | exact Ea _ _ _ | exact Dv _ _ _ _ _ | exact Eq _ _ _ _ | exact Ex _ _ | refine Db ?_ ?_ | refine Eo ?_ | refine Ey ?_ ?_ | refine Fg ?_ ?_ ?_)) ?_)) rfl ?_
 simp (disch:=first | assumption | omega) only [go_sem,↓reduceIte,q1,hrem,hq,Bool.false_eq_true]
 refine Ee hS (by omega) (by repeat (first | exact Dt _ | refine Dj (by repeat (first | exact Dp _ _ | exact Bq _ _ _ _ | exact Ea _ _ _ | exact Dv _ _ _ _ _ | exact Eq _ _ _ _ | exact Ex _ _ | refine Db ?_ ?_ | refine Eo ?_ | refine Ey ?_ ?_ | refine Fg ?_ ?_ ?_)) ?_)) rfl ?_
 simp (disch:=first | assumption | omega) only [go_sem,↓reduceIte,q1,hrem,hq,e00,ebb,Bool.false_eq_true]
 refine A2k (Rt 6 n a1 hn6 (by omega) hc b1) (by omega) (by repeat (first | exact Dt _ | refine Dj (by repeat (first | exact Dp _ _ | exact Bq _ _ _ _ | exact Ea _ _ _ | exact Dv _ _ _ _ _ | exact Eq _ _ _ _ | exact Ex _ _ | refine Db ?_ ?_ | refine Eo ?_ | refine Ey ?_ ?_ | refine Fg ?_ ?_ ?_)) ?_)) ?_
 simp (disch:=first | assumption | omega) only [go_sem,↓reduceIte,Bool.false_eq_true]
 have key:∀e:Env,e=rsE (fun i=>Bs e i) (n:Nat) (b:Nat) (grF 6 n a1)->G (Bg T n0) 0 (Fin [.tmp 4] fun p=>p.1 = .bool true) rsR [] ⟨e,List.replicate 188 .none⟩:=fun e he=>by
  rw [he]
  obtain ⟨l,h1,h2⟩:=hB _ (Wm 6 n a1 hn6)
  exact Aum hkw hnt (fun a ha=>(List.mem_append.1 ha).elim (hl a) fun ha=>(h1 a ha).mono hk) (h2 _)
 refine key _ ?_
 kernel_rfl
theorem Ahs {n base:Nat} {Q:EX×St->Prop} {d:Option Nat} {L:List IOper} {ks:List Kont} {e:Env} {h:Bc} {ex:Bool}
  (hq:∀h',(∀j,j<h.length->Bb h' j=Bb h j)->h.length<=h'.length->GO (Bg T (n+1)) base Q L ks ⟨Bk e d (.slice none [] true),h'⟩) :
  GP (Bg T (n+1)) base Q d L ks e (Bg T (n+1) true (.fn 92) [.slice none [] ex] h):=by
 refine Gi ?_
 rw [Ew tCl]
 simp (disch:=omega) only [Jg,go_sem,↓reduceIte]
 refine ⟨?_,hq _ (fun j hj=>Bi _ _ _) (by simp only [List.length_append]; omega)⟩
 have hroom:Et 0 8=true:=Lx (by omega)
 have hcs:De (h++List.replicate 8 AObj.none) (.slice none [] ex)=some (none,0,[]):=by simp [De,Ek]
 have hap:Dh (h.length+8) none 8 (.slice none [] true) (.slice none [] ex) (h++List.replicate 8 AObj.none) = .ret (.slice none [] true,h++List.replicate 8 AObj.none):=by
  simp only [Dh,hcs,Nat.add_zero,List.length_nil,hroom,ne_eq,not_true_eq_false,if_false,Bool.true_eq_false,or_self,if_true]
 rw [hap,Iy]
 simp (disch:=omega) only [go_sem,↓reduceIte,Gf,mapR]
 exact hq _ (fun j hj=>Bi _ _ _) (by simp only [List.length_append]; omega)
set_option maxHeartbeats 1000000 in
theorem Akf {l r:List Int} (hl:l.length<=100) (hr:r.length<=100) (bl:∀x∈l,0<=x/\x<=1000) (br:∀x∈r,0<=x/\x<=1000):Con T 3 89 [Ff l,Ff r] (Ff (hgL l r)):=by
 refine Dd t89 fun n hn V hV => ?_
 obtain ⟨n,rfl⟩:∃m,n=m+1:=⟨n-1,by omega⟩
 simp (disch:=first | assumption | omega) only [c89,go_sem,↓reduceIte]
 apply Arn (call:=Bg T (n+1)) (base:=0) (Q:=Fin [.tmp 4] V) fun e h=>∃x,At e [(1,Ff r),(8,x)]/\Own 27 h x .i64 l/\27<=h.length
 ·intro hJ
  by_cases h0:l=[]
  ·subst h0
   refine Ahs fun h' hf hle => ?_
   exact hJ _ _ ⟨.slice none [] true,by simp only [go_sem,↓reduceIte],Il _ _ _,by simpa using hle⟩
  ·have h1:1<=l.length:=Nat.one_le_iff_ne_zero.2 fun hc=>h0 (List.length_eq_zero_iff.1 hc)
   refine Aht h1 (by omega) fun key ver h' hH hk1 hk2 hf hle => ?_
   simp only [List.length_replicate] at hk1 hle
   exact hJ _ _ ⟨_,by simp only [go_sem,↓reduceIte],.inr ⟨key,ver,hk1,rfl,hH⟩,hle⟩
 rintro e h ⟨x,hE,hO,hl27⟩
 simp only [Bz,Dc] at hE
 obtain ⟨f1,f8,-⟩:=hE
 simp (disch:=first | assumption | omega) only [go_sem,↓reduceIte,f1,f8]
 refine Gq (b:=8) (by first | with_reducible rfl | (simp only [Bh,List.length_append,List.length_replicate]; done) | (simp only [Bh,List.length_append,List.length_replicate]; omega)) hO hl27 (by omega) fun x1 h1 hO1 _ hL1 _ _ => ?_
 have hl1:27<=h1.length:=by omega
 simp (disch:=first | assumption | omega) only [go_sem,↓reduceIte,f1,f8]
 have hcr:De h1 (Ff r)=some (none,r.length,r.map (.int .i64)):=by simp [De,Ek]
 refine Aea (b:=8) (m:=r.length) (l2:=r) (by first | with_reducible rfl | (simp only [Bh,List.length_append,List.length_replicate]; done) | (simp only [Bh,List.length_append,List.length_replicate]; omega)) hO1 hl1 hcr rfl (by simp only [List.length_append,List.length_singleton]; omega) fun x2 h2 hO2 _ hL2 _ _ => ?_
 have hl2:27<=h2.length:=by omega
 clear hO hO1 hcr
 rcases hO2 with ⟨h0,_⟩ | ⟨key,ver,hk27,rfl,hH⟩
 ·simp at h0
 have hlen:(l++[-1]++r).length=l.length+1+r.length:=by simp; omega
 rw [hlen]
 simp (disch:=first | assumption | omega) only [go_sem,↓reduceIte,f1,f8]
 have hW:(l++[-1]++r).map (·+1)=hgL l r:=by simp [hgL]
 have hWb:∀y∈l++[-1]++r,-1<=y/\y<=1000:=fun y hy=>by
  rcases List.mem_append.1 hy with hy | hy
  ·rcases List.mem_append.1 hy with hy | hy
   ·have:=bl y hy; omega
   ·have:=List.mem_singleton.1 hy; omega
  ·have:=br y hy; omega
 generalize l++[-1]++r=W at *
 obtain ⟨N,hN⟩:∃N,l.length+1+r.length=N:=⟨_,rfl⟩
 have hN2:l.length+(1+r.length)=N:=by omega
 rw [hN] at hlen
 rw [hN2]
 refine Dm (fun M st=>∃i:Nat,M=N-i/\i<=N/\At st.env [(5,.oslice key ver none 0 N none),(15,.int .i64 (N:Nat)),(16,.int .i64 (i:Nat))]/\Bb st.heap key = .cells ver (((W.take i).map (·+1)++W.drop i).map (.int .i64))) N (by omega)
  ⟨0,by omega,by omega,by (simp only [go_sem,↓reduceIte]) <;> simp <;> omega,by simpa using hH⟩ ?_
 clear f1 f8 hH e
 rintro M e h hM ⟨i,hMi,hi,hE,hH⟩ P hP
 simp only [Bz,Dc] at hE hH
 obtain ⟨f5,f15,f16,-⟩:=hE
 by_cases hlt:i<N
 ·have d1:decide (i<N)=true:=decide_eq_true hlt
  have hiW:i<W.length:=by omega
  have hti:((W.take i).map (·+1)).length=i:=by rw [List.length_map,List.length_take]; omega
  have hg:((W.take i).map (·+1)++W.drop i)[i]? = some W[i]:=by
   rw [List.getElem?_append_right (by omega),hti,Nat.sub_self,List.getElem?_drop,Nat.add_zero,List.getElem?_eq_getElem hiW]
  have hst:((W.take i).map (·+1)++W.drop i).set i (W[i]+1)=(W.take (i+1)).map (·+1)++W.drop (i+1):=by
   rw [List.set_append_right _ _ (by omega),hti,Nat.sub_self,List.drop_eq_getElem_cons hiW,List.set_cons_zero,List.take_succ_eq_append_getElem hiW]
   simp only [List.map_append,List.map_cons,List.map_nil,List.append_assoc,List.cons_append,List.nil_append]
  have hb:=hWb _ (List.getElem_mem hiW)
  have hll:((W.take i).map (·+1)++W.drop i).length=N:=by rw [List.length_append,hti,List.length_drop]; omega
  have q1:(i<N)=True:=eq_true hlt
  simp (disch:=first | assumption | omega) only [go_sem,↓reduceIte,f5,f15,f16,d1,q1,hH,hg,hll,Sx,hst,List.length_map]
  refine ⟨by omega,hP (N-(i+1)) _ (by omega) ⟨i+1,rfl,by omega,?_,?_⟩⟩
  ·(simp only [go_sem,↓reduceIte,f5,f15]) <;> simp
  ·simp only [getH_setH_self]
 ·obtain rfl:i=N:=by omega
  have d1:decide (i<i)=false:=decide_eq_false (by omega)
  rw [List.take_of_length_le (by omega),List.drop_eq_nil_of_le (by omega),List.append_nil,hW] at hH
  simp (disch:=first | assumption | omega) only [go_sem,↓reduceIte,f5,f15,f16,d1,Int.lt_irrefl,decide_false,Bool.false_eq_true]
  have hgl:(hgL l r).length=i:=by rw [<-hW,List.length_map,hlen]
  exact hV _ _ (A2h hH hgl.symm)
end Go.Ev.YtbgodhhdojjbmaaGreatC
namespace Go.Ev.YtbgodhhdojjbmaaGreatC
open Go.Proofs
def rc46:IFunc:=⟨45,[.tmp 2],sO [dO 2 (.mv (.const (.slice none [] true)))] (.seq (sO [mV 9 0,bC 10 .eql 9 0] (.cond (tM 10) (sO [dO 11 (.buildSliceO none [.slice none [] true] [(0,(1,.const (.slice none [] true)))]),mV 2 11] .ret) .skip)) (sO [dO 3 (.mv (.const (.slice none [] true)))] (.seq (sO [mV 12 0,dO 13 (.mv (cI 0))] (.block 0 (.loop (sO [bB 14 .lss 13 12] (.seq (.cond (tM 14) .skip (.exit 0)) (.seq (.block 1 (sO [mV 15 13,mV 4 15] (sO [mV 16 4,dO 17 (.callF false 46 [tM 16]),lN 18 17,dO 19 (.mv (cI 0))] (.block 2 (.loop (sO [bB 20 .lss 19 18] (.seq (.cond (tM 20) .skip (.exit 2)) (.seq (.block 3 (sO [iA 21 17 19,lD 22 21,mV 6 22] (sO [mV 23 0,bC 24 .sub 23 1,mV 25 4,bB 26 .sub 24 25,dO 27 (.callF false 46 [tM 26]),lN 28 27,dO 29 (.mv (cI 0))] (.block 4 (.loop (sO [bB 30 .lss 29 28] (.seq (.cond (tM 30) .skip (.exit 4)) (.seq (.block 5 (sO [iA 31 27 29,lD 32 31,mV 8 32] (.ops [mV 33 3,mV 34 6,mV 35 8,dO 36 (.callF false 89 [tM 34,tM 35]),dO 37 (.buildSliceO none [.slice none [] true] [(0,(1,tM 36))]),dO 38 (.append none 24 (tM 33) (tM 37)),mV 3 38]))) (.ops [bC 39 .add 29 1,mV 29 39]))))))))) (.ops [bC 40 .add 19 1,mV 19 40]))))))))) (.ops [bC 41 .add 13 1,mV 13 41]))))))) (sO [mV 42 3,dO 43 (.callF true 90 [tM 42,.const (.clo 47 [] [])])] (sO [mV 44 3,mV 2 44] .ret)))))⟩
theorem rk46:(Bm Tryz.prog byr).fns 46=some rc46:=by kernel_rfl
theorem rt46:T.fns 46=some rc46:=Bp rk46 (by decide) (by decide)
def rc90:IFunc:=⟨14,[],sO [mV 5 0,lN 6 5,mV 4 6] (.ops [mV 7 0,mV 8 4,mV 9 4,dO 10 (.conv .u64 (tM 9)),dO 11 (.callF false 98 [tM 10]),mV 12 1,dO 13 (.callF true 129 [tM 7,cI 0,tM 8,tM 11,tM 12])])⟩
theorem rk90:(Bm Tryz.prog byr).fns 90=some rc90:=by kernel_rfl
theorem rt90:T.fns 90=some rc90:=Bp rk90 (by decide) (by decide)
def rc129:IFunc:=⟨148,[],sO [dO 10 (.mv (cB true))] (sO [dO 11 (.mv (cB true))] (.block 0 (.loop (.block 1 (sO [mV 21 2,mV 22 1,bB 23 .sub 21 22,mV 12 23] (.seq (sO [mV 24 12,bC 25 .leq 24 12] (.cond (tM 25) (sO [mV 26 0,mV 27 1,mV 28 2,mV 29 4,dO 30 (.callF true 177 [tM 26,tM 27,tM 28,tM 29])] .ret) .skip)) (.seq (sO [mV 31 3,bC 32 .eql 31 0] (.cond (tM 32) (sO [mV 33 0,mV 34 1,mV 35 2,mV 36 4,dO 37 (.callF true 178 [tM 33,tM 34,tM 35,tM 36])] .ret) .skip)) (.seq (sO [mV 38 10,dO 39 (.un .not (tM 38))] (.cond (tM 39) (sO [mV 40 0,mV 41 1,mV 42 2,mV 43 4,dO 44 (.callF true 179 [tM 40,tM 41,tM 42,tM 43])] (.ops [mV 45 3,bC 46 .sub 45 1,mV 3 46])) .skip)) (sO [mV 48 0,mV 49 1,mV 50 2,mV 51 4,dO 52 (.callF true 180 [tM 48,tM 49,tM 50,tM 51]),mV 47 52,xT 53 47 0,xT 54 47 1,mV 13 53,mV 14 54] (.seq (sO [mV 55 14,bC 56 .eql 55 2] (.cond (tM 56) (sO [mV 57 0,mV 58 1,mV 59 2,mV 60 4,dO 61 (.callF true 181 [tM 57,tM 58,tM 59,tM 60])] (sO [mV 62 2,bC 63 .sub 62 1,mV 64 13,mV 65 1,bB 66 .sub 64 65,bB 67 .sub 63 66,mV 13 67] (.ops [dO 14 (.mv (cI 1))]))) .skip)) (.seq (sO [mV 68 10,mV 69 68,gV 70 11 69 true,dO 71 (.pick (tM 69) (tM 70) (cB false)),mV 72 71,gV 73 14 72 true,gO 74 (.bin .eql (tM 73) (cI 1)) 72 true,dO 75 (.pick (tM 72) (tM 74) (cB false))] (.cond (tM 75) (sO [mV 76 0,mV 77 1,mV 78 2,mV 79 4,dO 80 (.callF true 182 [tM 76,tM 77,tM 78,tM 79])] (.cond (tM 80) .ret .skip)) .skip)) (.seq (sO [mV 81 1,bC 82 .gtr 81 0,mV 83 82,gV 84 4 83 true,gV 85 0 83 true,gV 86 1 83 true,gO 87 (.bin .sub (tM 86) (cI 1)) 83 true,gO 88 (.indexAddr 1 (tM 85) (tM 87)) 83 true,gO 89 (.load none (tM 88)) 83 true,gV 90 0 83 true,gV 91 13 83 true,gO 92 (.indexAddr 1 (tM 90) (tM 91)) 83 true,gO 93 (.load none (tM 92)) 83 true,gO 94 (.call false (tM 84) [tM 89,tM 93]) 83 true,gO 95 (.bin .lss (tM 94) (cI 0)) 83 true,gO 96 (.un .not (tM 95)) 83 true,dO 97 (.pick (tM 83) (tM 96) (cB false))] (.cond (tM 97) (sO [mV 98 0,mV 99 1,mV 100 2,mV 101 13,mV 102 4,dO 103 (.callF true 183 [tM 98,tM 99,tM 100,tM 101,tM 102]),mV 15 103] (sO [mV 104 15,mV 1 104] (.exit 1))) .skip)) (sO [mV 106 0,mV 107 1,mV 108 2,mV 109 13,mV 110 4,dO 111 (.callF true 184 [tM 106,tM 107,tM 108,tM 109,tM 110]),mV 105 111,xT 112 105 0,xT 113 105 1,mV 16 112,mV 17 113] (sO [mV 114 17,mV 11 114] (sO [mV 115 16,mV 116 1,bB 117 .sub 115 116,mV 118 2,mV 119 16,bB 120 .sub 118 119,mV 18 117,mV 19 120] (sO [mV 121 12,bC 122 .quo 121 8,mV 20 122] (sO [mV 123 18,mV 124 19,bB 125 .lss 123 124] (.cond (tM 125) (sO [mV 126 18,mV 127 20,bB 128 .geq 126 127,mV 10 128] (sO [mV 129 0,mV 130 1,mV 131 16,mV 132 3,mV 133 4,dO 134 (.callF true 129 [tM 129,tM 130,tM 131,tM 132,tM 133])] (.ops [mV 135 16,bC 136 .add 135 1,mV 1 136]))) (sO [mV 137 19,mV 138 20,bB 139 .geq 137 138,mV 10 139] (sO [mV 140 0,mV 141 16,bC 142 .add 141 1,mV 143 2,mV 144 3,mV 145 4,dO 146 (.callF true 129 [tM 140,tM 142,tM 143,tM 144,tM 145])] (.ops [mV 147 16,mV 2 147])))))))))))))))))))))⟩
theorem rk129:(Bm Tryz.prog byr).fns 129=some rc129:=by kernel_rfl
theorem rt129:T.fns 129=some rc129:=Bp rk129 (by decide) (by decide)
def rc141:IFunc:=⟨19,[.tmp 2],sO [dO 2 (.mv (cI 0))] (.seq (sO [mV 3 0,dO 4 (.bin .geq (tM 3) (.const (.int .u32 65536)))] (.cond (tM 4) (sO [mV 5 0,dO 6 (.bin .shr (tM 5) (.const (.int .u64 16))),mV 0 6] (.ops [dO 2 (.mv (cI 16))])) .skip)) (.seq (sO [mV 7 0,dO 8 (.bin .geq (tM 7) (.const (.int .u32 256)))] (.cond (tM 8) (sO [mV 9 0,dO 10 (.bin .shr (tM 9) (.const (.int .u64 8))),mV 0 10] (.ops [mV 11 2,bC 12 .add 11 8,mV 2 12])) .skip)) (sO [mV 13 2,mV 14 0,dO 15 (.conv .u8 (tM 14)),dO 16 (.strIdx [0,1,2,2,3,3,3,3,4,4,4,4,4,4,4,4,5,5,5,5,5,5,5,5,5,5,5,5,5,5,5,5,6,6,6,6,6,6,6,6,6,6,6,6,6,6,6,6,6,6,6,6,6,6,6,6,6,6,6,6,6,6,6,6,7,7,7,7,7,7,7,7,7,7,7,7,7,7,7,7,7,7,7,7,7,7,7,7,7,7,7,7,7,7,7,7,7,7,7,7,7,7,7,7,7,7,7,7,7,7,7,7,7,7,7,7,7,7,7,7,7,7,7,7,7,7,7,7,8,8,8,8,8,8,8,8,8,8,8,8,8,8,8,8,8,8,8,8,8,8,8,8,8,8,8,8,8,8,8,8,8,8,8,8,8,8,8,8,8,8,8,8,8,8,8,8,8,8,8,8,8,8,8,8,8,8,8,8,8,8,8,8,8,8,8,8,8,8,8,8,8,8,8,8,8,8,8,8,8,8,8,8,8,8,8,8,8,8,8,8,8,8,8,8,8,8,8,8,8,8,8,8,8,8,8,8,8,8,8,8,8,8,8,8,8,8,8,8,8,8,8,8,8,8,8,8] (tM 15)),dO 17 (.conv .i64 (tM 16)),bB 18 .add 13 17,mV 2 18] .ret)))⟩
theorem rk141:(Bm Tryz.prog byr).fns 141=some rc141:=by kernel_rfl
theorem rt141:T.fns 141=some rc141:=Bp rk141 (by decide) (by decide)
def rc142:IFunc:=⟨25,[.tmp 2],sO [dO 2 (.mv (cI 0))] (.seq (sO [mV 3 0,dO 4 (.bin .geq (tM 3) (.const (.int .u64 4294967296)))] (.cond (tM 4) (sO [mV 5 0,dO 6 (.bin .shr (tM 5) (.const (.int .u64 32))),mV 0 6] (.ops [dO 2 (.mv (cI 32))])) .skip)) (.seq (sO [mV 7 0,dO 8 (.bin .geq (tM 7) (.const (.int .u64 65536)))] (.cond (tM 8) (sO [mV 9 0,dO 10 (.bin .shr (tM 9) (.const (.int .u64 16))),mV 0 10] (.ops [mV 11 2,bC 12 .add 11 16,mV 2 12])) .skip)) (.seq (sO [mV 13 0,dO 14 (.bin .geq (tM 13) (.const (.int .u64 256)))] (.cond (tM 14) (sO [mV 15 0,dO 16 (.bin .shr (tM 15) (.const (.int .u64 8))),mV 0 16] (.ops [mV 17 2,bC 18 .add 17 8,mV 2 18])) .skip)) (sO [mV 19 2,mV 20 0,dO 21 (.conv .u8 (tM 20)),dO 22 (.strIdx [0,1,2,2,3,3,3,3,4,4,4,4,4,4,4,4,5,5,5,5,5,5,5,5,5,5,5,5,5,5,5,5,6,6,6,6,6,6,6,6,6,6,6,6,6,6,6,6,6,6,6,6,6,6,6,6,6,6,6,6,6,6,6,6,7,7,7,7,7,7,7,7,7,7,7,7,7,7,7,7,7,7,7,7,7,7,7,7,7,7,7,7,7,7,7,7,7,7,7,7,7,7,7,7,7,7,7,7,7,7,7,7,7,7,7,7,7,7,7,7,7,7,7,7,7,7,7,7,8,8,8,8,8,8,8,8,8,8,8,8,8,8,8,8,8,8,8,8,8,8,8,8,8,8,8,8,8,8,8,8,8,8,8,8,8,8,8,8,8,8,8,8,8,8,8,8,8,8,8,8,8,8,8,8,8,8,8,8,8,8,8,8,8,8,8,8,8,8,8,8,8,8,8,8,8,8,8,8,8,8,8,8,8,8,8,8,8,8,8,8,8,8,8,8,8,8,8,8,8,8,8,8,8,8,8,8,8,8,8,8,8,8,8,8,8,8,8,8,8,8,8,8,8,8,8,8] (tM 21)),dO 23 (.conv .i64 (tM 22)),bB 24 .add 19 23,mV 2 24] .ret))))⟩
theorem rk142:(Bm Tryz.prog byr).fns 142=some rc142:=by kernel_rfl
theorem rt142:T.fns 142=some rc142:=Bp rk142 (by decide) (by decide)
def rc177:IFunc:=⟨53,[],sO [mV 10 1,bC 11 .add 10 1,mV 8 11] (.block 0 (.loop (.seq (sO [mV 12 8,mV 13 2,bB 14 .lss 12 13] (.cond (tM 14) .skip (.exit 0))) (.seq (.block 1 (sO [mV 17 8,mV 9 17] (.block 2 (.loop (.seq (sO [mV 18 9,mV 19 1,bB 20 .gtr 18 19,mV 21 20,gV 22 3 21 true,gV 23 0 21 true,gV 24 9 21 true,gO 25 (.indexAddr 1 (tM 23) (tM 24)) 21 true,gO 26 (.load none (tM 25)) 21 true,gV 27 0 21 true,gV 28 9 21 true,gO 29 (.bin .sub (tM 28) (cI 1)) 21 true,gO 30 (.indexAddr 1 (tM 27) (tM 29)) 21 true,gO 31 (.load none (tM 30)) 21 true,gO 32 (.call false (tM 22) [tM 26,tM 31]) 21 true,gO 33 (.bin .lss (tM 32) (cI 0)) 21 true,dO 34 (.pick (tM 21) (tM 33) (cB false))] (.cond (tM 34) .skip (.exit 2))) (.seq (.block 3 (.ops [mV 37 0,mV 38 9,mV 39 0,mV 40 9,bC 41 .sub 40 1,mV 42 0,mV 43 9,bC 44 .sub 43 1,iA 45 42 44,lD 46 45,mV 47 0,mV 48 9,iA 49 47 48,lD 50 49,iA 51 37 38,eO (.store 1 (tM 51) (tM 46)),iA 52 39 41,eO (.store 1 (tM 52) (tM 50))])) (.ops [mV 35 9,bC 36 .sub 35 1,mV 9 36]))))))) (.ops [mV 15 8,bC 16 .add 15 1,mV 8 16])))))⟩
theorem rk177:(Bm Tryz.prog byr).fns 177=some rc177:=by kernel_rfl
theorem rt177:T.fns 177=some rc177:=Bp rk177 (by decide) (by decide)
def rc178:IFunc:=⟨60,[],sO [mV 13 1,mV 8 13] (sO [dO 9 (.mv (cI 0))] (sO [mV 14 2,mV 15 1,bB 16 .sub 14 15,mV 10 16] (.seq (sO [mV 17 10,bC 18 .sub 17 1,bC 19 .quo 18 2,mV 11 19] (.block 0 (.loop (.seq (sO [mV 20 11,bC 21 .geq 20 0] (.cond (tM 21) .skip (.exit 0))) (.seq (.block 1 (.ops [mV 24 0,mV 25 11,mV 26 10,mV 27 8,mV 28 3,dO 29 (.callF true 232 [tM 24,tM 25,tM 26,tM 27,tM 28])])) (.ops [mV 22 11,bC 23 .sub 22 1,mV 11 23])))))) (sO [mV 30 10,bC 31 .sub 30 1,mV 12 31] (.block 2 (.loop (.seq (sO [mV 32 12,bC 33 .geq 32 0] (.cond (tM 33) .skip (.exit 2))) (.seq (.block 3 (sO [mV 36 0,mV 37 8,mV 38 0,mV 39 8,mV 40 12,bB 41 .add 39 40,mV 42 0,mV 43 8,mV 44 12,bB 45 .add 43 44,iA 46 42 45,lD 47 46,mV 48 0,mV 49 8,iA 50 48 49,lD 51 50,iA 52 36 37,eO (.store 1 (tM 52) (tM 47)),iA 53 38 41,eO (.store 1 (tM 53) (tM 51))] (.ops [mV 54 0,mV 55 9,mV 56 12,mV 57 8,mV 58 3,dO 59 (.callF true 232 [tM 54,tM 55,tM 56,tM 57,tM 58])]))) (.ops [mV 34 12,bC 35 .sub 34 1,mV 12 35])))))))))⟩
theorem rk178:(Bm Tryz.prog byr).fns 178=some rc178:=by kernel_rfl
theorem rt178:T.fns 178=some rc178:=Bp rk178 (by decide) (by decide)
def rc179:IFunc:=⟨67,[],sO [mV 13 2,mV 14 1,bB 15 .sub 13 14,mV 8 15] (sO [mV 16 8,bC 17 .geq 16 8] (.cond (tM 17) (sO [mV 18 8,dO 19 (.conv .u64 (tM 18)),dO 9 (.alloc [.int .u64 0]),eO (.store 1 (tM 9) (tM 19))] (sO [mV 20 8,dO 21 (.callF false 186 [tM 20]),mV 10 21] (sO [mV 22 1,mV 23 8,bC 24 .quo 23 4,bC 25 .mul 24 2,bB 26 .add 22 25,bC 27 .sub 26 1,mV 11 27] (.block 0 (.loop (.seq (sO [mV 28 11,mV 29 1,mV 30 8,bC 31 .quo 30 4,bC 32 .mul 31 2,bB 33 .add 29 32,bC 34 .add 33 1,bB 35 .leq 28 34] (.cond (tM 35) .skip (.exit 0))) (.seq (.block 1 (sO [dO 38 (.callF true 187 [tM 9]),mV 39 10,dO 40 (.bin .sub (tM 39) (.const (.int .u64 1))),bB 41 .and 38 40,dO 42 (.conv .i64 (tM 41)),mV 12 42] (.seq (sO [mV 43 12,mV 44 8,bB 45 .geq 43 44] (.cond (tM 45) (.ops [mV 46 12,mV 47 8,bB 48 .sub 46 47,mV 12 48]) .skip)) (.ops [mV 49 0,mV 50 11,mV 51 0,mV 52 1,mV 53 12,bB 54 .add 52 53,mV 55 0,mV 56 1,mV 57 12,bB 58 .add 56 57,iA 59 55 58,lD 60 59,mV 61 0,mV 62 11,iA 63 61 62,lD 64 63,iA 65 49 50,eO (.store 1 (tM 65) (tM 60)),iA 66 51 54,eO (.store 1 (tM 66) (tM 64))])))) (.ops [mV 36 11,bC 37 .add 36 1,mV 11 37])))))))) .skip))⟩
theorem rk179:(Bm Tryz.prog byr).fns 179=some rc179:=by kernel_rfl
theorem rt179:T.fns 179=some rc179:=Bp rk179 (by decide) (by decide)
def rc180:IFunc:=⟨63,[.tmp 8,.tmp 9],sO [dO 8 (.mv (cI 0)),dO 9 (.mv (cI 0))] (sO [mV 15 2,mV 16 1,bB 17 .sub 15 16,mV 10 17] (sO [dO 11 (.alloc [.int .i64 0])] (sO [mV 18 1,mV 19 10,bC 20 .quo 19 4,bC 21 .mul 20 1,bB 22 .add 18 21,mV 12 22] (sO [mV 23 1,mV 24 10,bC 25 .quo 24 4,bC 26 .mul 25 2,bB 27 .add 23 26,mV 13 27] (sO [mV 28 1,mV 29 10,bC 30 .quo 29 4,bC 31 .mul 30 3,bB 32 .add 28 31,mV 14 32] (.seq (sO [mV 33 10,bC 34 .geq 33 8] (.cond (tM 34) (.seq (sO [mV 35 10,bC 36 .geq 35 50] (.cond (tM 36) (sO [mV 37 0,mV 38 12,mV 39 3,dO 40 (.callF true 233 [tM 37,tM 38,tM 11,tM 39]),mV 12 40] (sO [mV 41 0,mV 42 13,mV 43 3,dO 44 (.callF true 233 [tM 41,tM 42,tM 11,tM 43]),mV 13 44] (.ops [mV 45 0,mV 46 14,mV 47 3,dO 48 (.callF true 233 [tM 45,tM 46,tM 11,tM 47]),mV 14 48]))) .skip)) (.ops [mV 49 0,mV 50 12,mV 51 13,mV 52 14,mV 53 3,dO 54 (.callF true 234 [tM 49,tM 50,tM 51,tM 52,tM 11,tM 53]),mV 13 54])) .skip)) (sO [lD 55 11] (.block 0 (sO [bC 58 .eql 55 0,mV 57 58] (.cond (tM 57) (sO [mV 59 13,mV 8 59,dO 9 (.mv (cI 1))] .ret) (sO [bC 61 .eql 55 12,mV 60 61] (.cond (tM 60) (sO [mV 62 13,mV 8 62,dO 9 (.mv (cI 2))] .ret) (sO [mV 56 13,mV 8 56,dO 9 (.mv (cI 0))] .ret)))))))))))))⟩
theorem rk180:(Bm Tryz.prog byr).fns 180=some rc180:=by kernel_rfl
theorem rt180:T.fns 180=some rc180:=Bp rk180 (by decide) (by decide)
def rc181:IFunc:=⟨34,[],sO [mV 10 1,mV 8 10] (sO [mV 11 2,bC 12 .sub 11 1,mV 9 12] (.block 0 (.loop (.seq (sO [mV 13 8,mV 14 9,bB 15 .lss 13 14] (.cond (tM 15) .skip (.exit 0))) (.block 1 (sO [mV 16 0,mV 17 8,mV 18 0,mV 19 9,mV 20 0,mV 21 9,iA 22 20 21,lD 23 22,mV 24 0,mV 25 8,iA 26 24 25,lD 27 26,iA 28 16 17,eO (.store 1 (tM 28) (tM 23)),iA 29 18 19,eO (.store 1 (tM 29) (tM 27))] (sO [mV 30 8,bC 31 .add 30 1,mV 8 31] (.ops [mV 32 9,bC 33 .sub 32 1,mV 9 33]))))))))⟩
theorem rk181:(Bm Tryz.prog byr).fns 181=some rc181:=by kernel_rfl
theorem rt181:T.fns 181=some rc181:=Bp rk181 (by decide) (by decide)
def rc182:IFunc:=⟨141,[.tmp 8],sO [dO 8 (.mv (cB false))] (sO [mV 13 1,bC 14 .add 13 1,mV 9 14] (.seq (sO [dO 10 (.mv (cI 0))] (.block 0 (.loop (.seq (sO [mV 15 10,bC 16 .lss 15 5] (.cond (tM 16) .skip (.exit 0))) (.seq (.block 1 (.seq (.block 2 (.loop (.seq (sO [mV 19 9,mV 20 2,bB 21 .lss 19 20,mV 22 21,gV 23 3 22 true,gV 24 0 22 true,gV 25 9 22 true,gO 26 (.indexAddr 1 (tM 24) (tM 25)) 22 true,gO 27 (.load none (tM 26)) 22 true,gV 28 0 22 true,gV 29 9 22 true,gO 30 (.bin .sub (tM 29) (cI 1)) 22 true,gO 31 (.indexAddr 1 (tM 28) (tM 30)) 22 true,gO 32 (.load none (tM 31)) 22 true,gO 33 (.call false (tM 23) [tM 27,tM 32]) 22 true,gO 34 (.bin .lss (tM 33) (cI 0)) 22 true,gO 35 (.un .not (tM 34)) 22 true,dO 36 (.pick (tM 22) (tM 35) (cB false))] (.cond (tM 36) .skip (.exit 2))) (.block 3 (.ops [mV 37 9,bC 38 .add 37 1,mV 9 38]))))) (.seq (sO [mV 39 9,mV 40 2,bB 41 .eql 39 40] (.cond (tM 41) (sO [dO 8 (.mv (cB true))] .ret) .skip)) (.seq (sO [mV 42 2,mV 43 1,bB 44 .sub 42 43,bC 45 .lss 44 50] (.cond (tM 45) (sO [dO 8 (.mv (cB false))] .ret) .skip)) (sO [mV 46 0,mV 47 9,mV 48 0,mV 49 9,bC 50 .sub 49 1,mV 51 0,mV 52 9,bC 53 .sub 52 1,iA 54 51 53,lD 55 54,mV 56 0,mV 57 9,iA 58 56 57,lD 59 58,iA 60 46 47,eO (.store 1 (tM 60) (tM 55)),iA 61 48 50,eO (.store 1 (tM 61) (tM 59))] (.seq (sO [mV 62 9,mV 63 1,bB 64 .sub 62 63,bC 65 .geq 64 2] (.cond (tM 65) (sO [mV 66 9,bC 67 .sub 66 1,mV 11 67] (.block 4 (.loop (.seq (sO [mV 68 11,bC 69 .geq 68 1] (.cond (tM 69) .skip (.exit 4))) (.seq (.block 5 (.seq (sO [mV 72 3,mV 73 0,mV 74 11,iA 75 73 74,lD 76 75,mV 77 0,mV 78 11,bC 79 .sub 78 1,iA 80 77 79,lD 81 80,dO 82 (.call false (tM 72) [tM 76,tM 81]),bC 83 .lss 82 0,dO 84 (.un .not (tM 83))] (.cond (tM 84) (.exit 4) .skip)) (.ops [mV 85 0,mV 86 11,mV 87 0,mV 88 11,bC 89 .sub 88 1,mV 90 0,mV 91 11,bC 92 .sub 91 1,iA 93 90 92,lD 94 93,mV 95 0,mV 96 11,iA 97 95 96,lD 98 97,iA 99 85 86,eO (.store 1 (tM 99) (tM 94)),iA 100 87 89,eO (.store 1 (tM 100) (tM 98))]))) (.ops [mV 70 11,bC 71 .sub 70 1,mV 11 71])))))) .skip)) (sO [mV 101 2,mV 102 9,bB 103 .sub 101 102,bC 104 .geq 103 2] (.cond (tM 104) (sO [mV 105 9,bC 106 .add 105 1,mV 12 106] (.block 6 (.loop (.seq (sO [mV 107 12,mV 108 2,bB 109 .lss 107 108] (.cond (tM 109) .skip (.exit 6))) (.seq (.block 7 (.seq (sO [mV 112 3,mV 113 0,mV 114 12,iA 115 113 114,lD 116 115,mV 117 0,mV 118 12,bC 119 .sub 118 1,iA 120 117 119,lD 121 120,dO 122 (.call false (tM 112) [tM 116,tM 121]),bC 123 .lss 122 0,dO 124 (.un .not (tM 123))] (.cond (tM 124) (.exit 6) .skip)) (.ops [mV 125 0,mV 126 12,mV 127 0,mV 128 12,bC 129 .sub 128 1,mV 130 0,mV 131 12,bC 132 .sub 131 1,iA 133 130 132,lD 134 133,mV 135 0,mV 136 12,iA 137 135 136,lD 138 137,iA 139 125 126,eO (.store 1 (tM 139) (tM 134)),iA 140 127 129,eO (.store 1 (tM 140) (tM 138))]))) (.ops [mV 110 12,bC 111 .add 110 1,mV 12 111])))))) .skip)))))))) (.ops [mV 17 10,bC 18 .add 17 1,mV 10 18])))))) (sO [dO 8 (.mv (cB false))] .ret)))⟩
theorem rk182:(Bm Tryz.prog byr).fns 182=some rc182:=by kernel_rfl
theorem rt182:T.fns 182=some rc182:=Bp rk182 (by decide) (by decide)
def rc183:IFunc:=⟨90,[.tmp 10],sO [dO 10 (.mv (cI 0))] (sO [mV 13 0,mV 14 1,mV 15 0,mV 16 3,mV 17 0,mV 18 3,iA 19 17 18,lD 20 19,mV 21 0,mV 22 1,iA 23 21 22,lD 24 23,iA 25 13 14,eO (.store 1 (tM 25) (tM 20)),iA 26 15 16,eO (.store 1 (tM 26) (tM 24))] (sO [mV 27 1,bC 28 .add 27 1,mV 29 2,bC 30 .sub 29 1,mV 11 28,mV 12 30] (.seq (.block 0 (.loop (.block 1 (.seq (.block 2 (.loop (.seq (sO [mV 31 11,mV 32 12,bB 33 .leq 31 32,mV 34 33,gV 35 4 34 true,gV 36 0 34 true,gV 37 1 34 true,gO 38 (.indexAddr 1 (tM 36) (tM 37)) 34 true,gO 39 (.load none (tM 38)) 34 true,gV 40 0 34 true,gV 41 11 34 true,gO 42 (.indexAddr 1 (tM 40) (tM 41)) 34 true,gO 43 (.load none (tM 42)) 34 true,gO 44 (.call false (tM 35) [tM 39,tM 43]) 34 true,gO 45 (.bin .lss (tM 44) (cI 0)) 34 true,gO 46 (.un .not (tM 45)) 34 true,dO 47 (.pick (tM 34) (tM 46) (cB false))] (.cond (tM 47) .skip (.exit 2))) (.block 3 (.ops [mV 48 11,bC 49 .add 48 1,mV 11 49]))))) (.seq (.block 4 (.loop (.seq (sO [mV 50 11,mV 51 12,bB 52 .leq 50 51,mV 53 52,gV 54 4 53 true,gV 55 0 53 true,gV 56 1 53 true,gO 57 (.indexAddr 1 (tM 55) (tM 56)) 53 true,gO 58 (.load none (tM 57)) 53 true,gV 59 0 53 true,gV 60 12 53 true,gO 61 (.indexAddr 1 (tM 59) (tM 60)) 53 true,gO 62 (.load none (tM 61)) 53 true,gO 63 (.call false (tM 54) [tM 58,tM 62]) 53 true,gO 64 (.bin .lss (tM 63) (cI 0)) 53 true,dO 65 (.pick (tM 53) (tM 64) (cB false))] (.cond (tM 65) .skip (.exit 4))) (.block 5 (.ops [mV 66 12,bC 67 .sub 66 1,mV 12 67]))))) (.seq (sO [mV 68 11,mV 69 12,bB 70 .gtr 68 69] (.cond (tM 70) (.exit 0) .skip)) (sO [mV 71 0,mV 72 11,mV 73 0,mV 74 12,mV 75 0,mV 76 12,iA 77 75 76,lD 78 77,mV 79 0,mV 80 11,iA 81 79 80,lD 82 81,iA 83 71 72,eO (.store 1 (tM 83) (tM 78)),iA 84 73 74,eO (.store 1 (tM 84) (tM 82))] (sO [mV 85 11,bC 86 .add 85 1,mV 11 86] (.ops [mV 87 12,bC 88 .sub 87 1,mV 12 88]))))))))) (sO [mV 89 11,mV 10 89] .ret))))⟩
theorem rk183:(Bm Tryz.prog byr).fns 183=some rc183:=by kernel_rfl
theorem rt183:T.fns 183=some rc183:=Bp rk183 (by decide) (by decide)
def rc184:IFunc:=⟨178,[.tmp 10,.tmp 11],sO [dO 10 (.mv (cI 0)),dO 11 (.mv (cB false))] (sO [mV 14 0,mV 15 1,mV 16 0,mV 17 3,mV 18 0,mV 19 3,iA 20 18 19,lD 21 20,mV 22 0,mV 23 1,iA 24 22 23,lD 25 24,iA 26 14 15,eO (.store 1 (tM 26) (tM 21)),iA 27 16 17,eO (.store 1 (tM 27) (tM 25))] (sO [mV 28 1,bC 29 .add 28 1,mV 30 2,bC 31 .sub 30 1,mV 12 29,mV 13 31] (.seq (.block 0 (.loop (.seq (sO [mV 32 12,mV 33 13,bB 34 .leq 32 33,mV 35 34,gV 36 4 35 true,gV 37 0 35 true,gV 38 12 35 true,gO 39 (.indexAddr 1 (tM 37) (tM 38)) 35 true,gO 40 (.load none (tM 39)) 35 true,gV 41 0 35 true,gV 42 1 35 true,gO 43 (.indexAddr 1 (tM 41) (tM 42)) 35 true,gO 44 (.load none (tM 43)) 35 true,gO 45 (.call false (tM 36) [tM 40,tM 44]) 35 true,gO 46 (.bin .lss (tM 45) (cI 0)) 35 true,dO 47 (.pick (tM 35) (tM 46) (cB false))] (.cond (tM 47) .skip (.exit 0))) (.block 1 (.ops [mV 48 12,bC 49 .add 48 1,mV 12 49]))))) (.seq (.block 2 (.loop (.seq (sO [mV 50 12,mV 51 13,bB 52 .leq 50 51,mV 53 52,gV 54 4 53 true,gV 55 0 53 true,gV 56 13 53 true,gO 57 (.indexAddr 1 (tM 55) (tM 56)) 53 true,gO 58 (.load none (tM 57)) 53 true,gV 59 0 53 true,gV 60 1 53 true,gO 61 (.indexAddr 1 (tM 59) (tM 60)) 53 true,gO 62 (.load none (tM 61)) 53 true,gO 63 (.call false (tM 54) [tM 58,tM 62]) 53 true,gO 64 (.bin .lss (tM 63) (cI 0)) 53 true,gO 65 (.un .not (tM 64)) 53 true,dO 66 (.pick (tM 53) (tM 65) (cB false))] (.cond (tM 66) .skip (.exit 2))) (.block 3 (.ops [mV 67 13,bC 68 .sub 67 1,mV 13 68]))))) (.seq (sO [mV 69 12,mV 70 13,bB 71 .gtr 69 70] (.cond (tM 71) (sO [mV 72 0,mV 73 13,mV 74 0,mV 75 1,mV 76 0,mV 77 1,iA 78 76 77,lD 79 78,mV 80 0,mV 81 13,iA 82 80 81,lD 83 82,iA 84 72 73,eO (.store 1 (tM 84) (tM 79)),iA 85 74 75,eO (.store 1 (tM 85) (tM 83))] (sO [mV 86 13,mV 10 86,dO 11 (.mv (cB true))] .ret)) .skip)) (sO [mV 87 0,mV 88 12,mV 89 0,mV 90 13,mV 91 0,mV 92 13,iA 93 91 92,lD 94 93,mV 95 0,mV 96 12,iA 97 95 96,lD 98 97,iA 99 87 88,eO (.store 1 (tM 99) (tM 94)),iA 100 89 90,eO (.store 1 (tM 100) (tM 98))] (sO [mV 101 12,bC 102 .add 101 1,mV 12 102] (sO [mV 103 13,bC 104 .sub 103 1,mV 13 104] (.seq (.block 4 (.loop (.block 5 (.seq (.block 6 (.loop (.seq (sO [mV 105 12,mV 106 13,bB 107 .leq 105 106,mV 108 107,gV 109 4 108 true,gV 110 0 108 true,gV 111 12 108 true,gO 112 (.indexAddr 1 (tM 110) (tM 111)) 108 true,gO 113 (.load none (tM 112)) 108 true,gV 114 0 108 true,gV 115 1 108 true,gO 116 (.indexAddr 1 (tM 114) (tM 115)) 108 true,gO 117 (.load none (tM 116)) 108 true,gO 118 (.call false (tM 109) [tM 113,tM 117]) 108 true,gO 119 (.bin .lss (tM 118) (cI 0)) 108 true,dO 120 (.pick (tM 108) (tM 119) (cB false))] (.cond (tM 120) .skip (.exit 6))) (.block 7 (.ops [mV 121 12,bC 122 .add 121 1,mV 12 122]))))) (.seq (.block 8 (.loop (.seq (sO [mV 123 12,mV 124 13,bB 125 .leq 123 124,mV 126 125,gV 127 4 126 true,gV 128 0 126 true,gV 129 13 126 true,gO 130 (.indexAddr 1 (tM 128) (tM 129)) 126 true,gO 131 (.load none (tM 130)) 126 true,gV 132 0 126 true,gV 133 1 126 true,gO 134 (.indexAddr 1 (tM 132) (tM 133)) 126 true,gO 135 (.load none (tM 134)) 126 true,gO 136 (.call false (tM 127) [tM 131,tM 135]) 126 true,gO 137 (.bin .lss (tM 136) (cI 0)) 126 true,gO 138 (.un .not (tM 137)) 126 true,dO 139 (.pick (tM 126) (tM 138) (cB false))] (.cond (tM 139) .skip (.exit 8))) (.block 9 (.ops [mV 140 13,bC 141 .sub 140 1,mV 13 141]))))) (.seq (sO [mV 142 12,mV 143 13,bB 144 .gtr 142 143] (.cond (tM 144) (.exit 4) .skip)) (sO [mV 145 0,mV 146 12,mV 147 0,mV 148 13,mV 149 0,mV 150 13,iA 151 149 150,lD 152 151,mV 153 0,mV 154 12,iA 155 153 154,lD 156 155,iA 157 145 146,eO (.store 1 (tM 157) (tM 152)),iA 158 147 148,eO (.store 1 (tM 158) (tM 156))] (sO [mV 159 12,bC 160 .add 159 1,mV 12 160] (.ops [mV 161 13,bC 162 .sub 161 1,mV 13 162]))))))))) (sO [mV 163 0,mV 164 13,mV 165 0,mV 166 1,mV 167 0,mV 168 1,iA 169 167 168,lD 170 169,mV 171 0,mV 172 13,iA 173 171 172,lD 174 173,iA 175 163 164,eO (.store 1 (tM 175) (tM 170)),iA 176 165 166,eO (.store 1 (tM 176) (tM 174))] (sO [mV 177 13,mV 10 177,dO 11 (.mv (cB false))] .ret)))))))))))⟩
theorem rk184:(Bm Tryz.prog byr).fns 184=some rc184:=by kernel_rfl
theorem rt184:T.fns 184=some rc184:=Bp rk184 (by decide) (by decide)
def rc186:IFunc:=⟨7,[.tmp 2],sO [dO 2 (.mv (.const (.int .u64 0)))] (sO [mV 3 0,dO 4 (.conv .u64 (tM 3)),dO 5 (.callF false 98 [tM 4]),dO 6 (.bin .shl (.const (.int .u64 1)) (tM 5)),mV 2 6] .ret)⟩
theorem rk186:(Bm Tryz.prog byr).fns 186=some rc186:=by kernel_rfl
theorem rt186:T.fns 186=some rc186:=Bp rk186 (by decide) (by decide)
def rc187:IFunc:=⟨33,[.tmp 2],sO [dO 2 (.mv (.const (.int .u64 0)))] (sO [mV 3 0,dO 4 (.nilCheck (tM 3)),lD 5 4,mV 6 0,dO 7 (.nilCheck (tM 6)),lD 8 7,dO 9 (.bin .shl (tM 8) (.const (.int .u64 13))),bB 10 .xor 5 9,dO 11 (.nilCheck (tM 3)),eO (.store 1 (tM 11) (tM 10))] (sO [mV 12 0,dO 13 (.nilCheck (tM 12)),lD 14 13,mV 15 0,dO 16 (.nilCheck (tM 15)),lD 17 16,dO 18 (.bin .shr (tM 17) (.const (.int .u64 7))),bB 19 .xor 14 18,dO 20 (.nilCheck (tM 12)),eO (.store 1 (tM 20) (tM 19))] (sO [mV 21 0,dO 22 (.nilCheck (tM 21)),lD 23 22,mV 24 0,dO 25 (.nilCheck (tM 24)),lD 26 25,dO 27 (.bin .shl (tM 26) (.const (.int .u64 17))),bB 28 .xor 23 27,dO 29 (.nilCheck (tM 21)),eO (.store 1 (tM 29) (tM 28))] (sO [mV 30 0,dO 31 (.nilCheck (tM 30)),lD 32 31,mV 2 32] .ret))))⟩
theorem rk187:(Bm Tryz.prog byr).fns 187=some rc187:=by kernel_rfl
theorem rt187:T.fns 187=some rc187:=Bp rk187 (by decide) (by decide)
def rc232:IFunc:=⟨82,[],sO [mV 12 1,mV 10 12] (.block 0 (.loop (.block 1 (sO [mV 13 10,dO 14 (.bin .mul (cI 2) (tM 13)),bC 15 .add 14 1,mV 11 15] (.seq (sO [mV 16 11,mV 17 2,bB 18 .geq 16 17] (.cond (tM 18) (.exit 0) .skip)) (.seq (sO [mV 19 11,bC 20 .add 19 1,mV 21 2,bB 22 .lss 20 21,mV 23 22,gV 24 4 23 true,gV 25 0 23 true,gV 26 3 23 true,gV 27 11 23 true,gO 28 (.bin .add (tM 26) (tM 27)) 23 true,gO 29 (.indexAddr 1 (tM 25) (tM 28)) 23 true,gO 30 (.load none (tM 29)) 23 true,gV 31 0 23 true,gV 32 3 23 true,gV 33 11 23 true,gO 34 (.bin .add (tM 32) (tM 33)) 23 true,gO 35 (.bin .add (tM 34) (cI 1)) 23 true,gO 36 (.indexAddr 1 (tM 31) (tM 35)) 23 true,gO 37 (.load none (tM 36)) 23 true,gO 38 (.call false (tM 24) [tM 30,tM 37]) 23 true,gO 39 (.bin .lss (tM 38) (cI 0)) 23 true,dO 40 (.pick (tM 23) (tM 39) (cB false))] (.cond (tM 40) (.ops [mV 41 11,bC 42 .add 41 1,mV 11 42]) .skip)) (.seq (sO [mV 43 4,mV 44 0,mV 45 3,mV 46 10,bB 47 .add 45 46,iA 48 44 47,lD 49 48,mV 50 0,mV 51 3,mV 52 11,bB 53 .add 51 52,iA 54 50 53,lD 55 54,dO 56 (.call false (tM 43) [tM 49,tM 55]),bC 57 .lss 56 0,dO 58 (.un .not (tM 57))] (.cond (tM 58) .ret .skip)) (sO [mV 59 0,mV 60 3,mV 61 10,bB 62 .add 60 61,mV 63 0,mV 64 3,mV 65 11,bB 66 .add 64 65,mV 67 0,mV 68 3,mV 69 11,bB 70 .add 68 69,iA 71 67 70,lD 72 71,mV 73 0,mV 74 3,mV 75 10,bB 76 .add 74 75,iA 77 73 76,lD 78 77,iA 79 59 62,eO (.store 1 (tM 79) (tM 72)),iA 80 63 66,eO (.store 1 (tM 80) (tM 78))] (.ops [mV 81 11,mV 10 81])))))))))⟩
theorem rk232:(Bm Tryz.prog byr).fns 232=some rc232:=by kernel_rfl
theorem rt232:T.fns 232=some rc232:=Bp rk232 (by decide) (by decide)
def rc233:IFunc:=⟨18,[.tmp 8],sO [dO 8 (.mv (cI 0))] (sO [mV 9 0,mV 10 1,bC 11 .sub 10 1,mV 12 1,mV 13 1,bC 14 .add 13 1,mV 15 2,mV 16 3,dO 17 (.callF true 234 [tM 9,tM 11,tM 12,tM 14,tM 15,tM 16]),mV 8 17] .ret)⟩
theorem rk233:(Bm Tryz.prog byr).fns 233=some rc233:=by kernel_rfl
theorem rt233:T.fns 233=some rc233:=Bp rk233 (by decide) (by decide)
def rc234:IFunc:=⟨41,[.tmp 12],sO [dO 12 (.mv (cI 0))] (sO [mV 14 0,mV 15 1,mV 16 2,mV 17 4,mV 18 5,dO 19 (.callF true 283 [tM 14,tM 15,tM 16,tM 17,tM 18]),mV 13 19,xT 20 13 0,xT 21 13 1,mV 1 20,mV 2 21] (sO [mV 23 0,mV 24 2,mV 25 3,mV 26 4,mV 27 5,dO 28 (.callF true 283 [tM 23,tM 24,tM 25,tM 26,tM 27]),mV 22 28,xT 29 22 0,xT 30 22 1,mV 2 29,mV 3 30] (sO [mV 32 0,mV 33 1,mV 34 2,mV 35 4,mV 36 5,dO 37 (.callF true 283 [tM 32,tM 33,tM 34,tM 35,tM 36]),mV 31 37,xT 38 31 0,xT 39 31 1,mV 1 38,mV 2 39] (sO [mV 40 2,mV 12 40] .ret))))⟩
theorem rk234:(Bm Tryz.prog byr).fns 234=some rc234:=by kernel_rfl
theorem rt234:T.fns 234=some rc234:=Bp rk234 (by decide) (by decide)
def rc283:IFunc:=⟨32,[.tmp 10,.tmp 11],sO [dO 10 (.mv (cI 0)),dO 11 (.mv (cI 0))] (.seq (sO [mV 12 4,mV 13 0,mV 14 2,iA 15 13 14,lD 16 15,mV 17 0,mV 18 1,iA 19 17 18,lD 20 19,dO 21 (.call false (tM 12) [tM 16,tM 20]),bC 22 .lss 21 0] (.cond (tM 22) (sO [mV 23 3,dO 24 (.nilCheck (tM 23)),lD 25 24,bC 26 .add 25 1,dO 27 (.nilCheck (tM 23)),eO (.store 1 (tM 27) (tM 26))] (sO [mV 28 2,mV 29 1,mV 10 28,mV 11 29] .ret)) .skip)) (sO [mV 30 1,mV 31 2,mV 10 30,mV 11 31] .ret))⟩
theorem rk283:(Bm Tryz.prog byr).fns 283=some rc283:=by kernel_rfl
theorem rt283:T.fns 283=some rc283:=Bp rk283 (by decide) (by decide)
def tbW:List (Nat×IFunc):=[(46,rc46),(90,rc90),(129,rc129),(141,rc141),(142,rc142),(177,rc177),(178,rc178),(179,rc179),(180,rc180),(181,rc181),(182,rc182),(183,rc183),(184,rc184),(186,rc186),(187,rc187),(232,rc232),(233,rc233),(234,rc234),(283,rc283)]++tbR
theorem Oo:Ov T tbW:=(Bn rt46 (Bn rt90 (Bn rt129 (Bn rt141 (Bn rt142 (Bn rt177 (Bn rt178 (Bn rt179 (Bn rt180 (Bn rt181 (Bn rt182 (Bn rt183 (Bn rt184 (Bn rt186 (Bn rt187 (Bn rt232 (Bn rt233 (Bn rt234 (Bn rt283 A9k)))))))))))))))))))
end Go.Ev.YtbgodhhdojjbmaaGreatC
