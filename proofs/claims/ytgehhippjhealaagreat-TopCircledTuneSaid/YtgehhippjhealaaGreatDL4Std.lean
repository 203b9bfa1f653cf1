/- The code of functions that are walked, compiled for the evaluator, as text. A part of the proof. A part of the proof. A part of the proof. A part of the proof. No condition but those that stand in each. -/
import Derived.Test.YtgehhippjhealaaGreatDTopW
import Derived.Test.YtgehhippjhealaaGreatDTopShd
import Derived.Test.YtgehhippjhealaaGreatDEvKer3
import Derived.Test.YtgehhippjhealaaGreatDEvOpen
import Derived.Test.YtgehhippjhealaaGreatDL4M9
import Derived.Test.YtgehhippjhealaaGreatDEvSort
set_option linter.unusedSimpArgs false
set_option linter.unusedVariables false
set_option maxRecDepth 100000
namespace Go.Ev.YtgehhippjhealaaGreatC
open Go.Proofs
def c3:IFunc:=⟨216,[.tmp 4],sO [dO 4 (.mv (cB false))] (.seq (sO [mV 21 0,lN 22 21,bC 23 .gtr 22 8,mV 24 23,gV 25 0 24 false,gO 26 (.callF false 7 [tM 25]) 24 false,gO 27 (.bin .neq (tM 26) (cI 0)) 24 false,dO 28 (.pick (tM 24) (cB true) (tM 27))] (.cond (tM 28) (sO [dO 29 (.callF false 8 []),mV 4 29] .ret) .skip)) (sO [mV 30 0,lN 31 30,dO 32 (.build [.int .i64 0,.slice (some 2) [] true] [(0,(1,tM 31))]),dO 5 (.alloc [.int .i64 0,.slice (some 2) [] true]),eO (.store 2 (tM 5) (tM 32))] (.seq (sO [dO 6 (.mv (cI 0))] (.block 0 (.loop (.seq (sO [mV 33 6,mV 34 0,lN 35 34,bB 36 .lss 33 35] (.cond (tM 36) .skip (.exit 0))) (.seq (.block 1 (.ops [dO 39 (.fieldAddr 1 (tM 5)),lD 40 39,mV 41 6,mV 42 0,mV 43 6,iA 44 42 43,lD 45 44,dO 46 (.build [.int .i64 0,.int .i64 0] [(0,(1,tM 41)),(1,(1,tM 45))]),dO 47 (.buildSlice (some 2) [.int .i64 0,.int .i64 0] [(0,(2,tM 46))]),dO 48 (.append (some 2) 16 (tM 40) (tM 47)),dO 49 (.fieldAddr 1 (tM 5)),eO (.store 1 (tM 49) (tM 48))])) (.ops [mV 37 6,bC 38 .add 37 1,mV 6 38])))))) (sO [mV 51 0,dO 52 (.callF false 9 [tM 51]),mV 50 52,xT 53 50 0,xT 54 50 1,mV 7 53,mV 8 54] (sO [mV 56 0,dO 57 (.callF false 10 [tM 56]),mV 55 57,xT 58 55 0,xT 59 55 1,mV 9 58,mV 10 59] (sO [dO 61 (.load (some 2) (tM 5)),dO 62 (.callF false 11 [tM 61]),mV 60 62,xT 63 60 0,xT 64 60 1,mV 11 63,mV 12 64] (sO [dO 66 (.load (some 2) (tM 5)),dO 67 (.callF false 12 [tM 66]),mV 65 67,xT 68 65 0,xT 69 65 1,mV 13 68,mV 14 69] (sO [dO 71 (.load (some 2) (tM 5)),dO 72 (.callF false 13 [tM 71]),mV 70 72,xT 73 70 0,xT 74 70 1,mV 15 73,mV 16 74] (.seq (sO [mV 75 8,bC 76 .neq 75 0,mV 77 76,gV 78 10 77 false,gO 79 (.bin .neq (tM 78) (cI 0)) 77 false,dO 80 (.pick (tM 77) (cB true) (tM 79)),mV 81 80,gV 82 12 81 false,gO 83 (.bin .neq (tM 82) (cI 0)) 81 false,dO 84 (.pick (tM 81) (cB true) (tM 83)),mV 85 84,gV 86 7 85 false,gO 87 (.len (tM 86)) 85 false,gO 88 (.bin .lss (tM 87) (cI 1)) 85 false,dO 89 (.pick (tM 85) (cB true) (tM 88)),mV 90 89,gV 91 7 90 false,gO 92 (.len (tM 91)) 90 false,gV 93 0 90 false,gO 94 (.len (tM 93)) 90 false,gO 95 (.bin .gtr (tM 92) (tM 94)) 90 false,dO 96 (.pick (tM 90) (cB true) (tM 95)),mV 97 96,gV 98 9 97 false,gO 99 (.len (tM 98)) 97 false,gV 100 7 97 false,gO 101 (.len (tM 100)) 97 false,gO 102 (.bin .add (tM 99) (tM 101)) 97 false,gV 103 0 97 false,gO 104 (.len (tM 103)) 97 false,gO 105 (.bin .neq (tM 102) (tM 104)) 97 false,dO 106 (.pick (tM 97) (cB true) (tM 105))] (.cond (tM 106) (sO [dO 4 (.mv (cB false))] .ret) .skip)) (.seq (sO [mV 107 7,lN 108 107,bC 109 .eql 108 1] (.cond (tM 109) (.seq (sO [mV 110 11,mV 111 0,lN 112 111,bB 113 .neq 110 112,mV 114 113,gV 115 14 114 false,gO 116 (.bin .neq (tM 115) (cI 0)) 114 false,dO 117 (.pick (tM 114) (cB true) (tM 116)),mV 118 117,gV 119 13 118 false,gV 120 7 118 false,gO 121 (.indexAddr 1 (tM 120) (cI 0)) 118 false,gO 122 (.load none (tM 121)) 118 false,gO 123 (.callF false 14 [tM 119,tM 122]) 118 false,gO 124 (.un .not (tM 123)) 118 false,dO 125 (.pick (tM 118) (cB true) (tM 124)),mV 126 125,gV 127 16 126 false,gO 128 (.bin .neq (tM 127) (cI 0)) 126 false,dO 129 (.pick (tM 126) (cB true) (tM 128)),mV 130 129,gV 131 15 130 false,gO 132 (.len (tM 131)) 130 false,gV 133 0 130 false,gO 134 (.len (tM 133)) 130 false,gO 135 (.bin .neq (tM 132) (tM 134)) 130 false,dO 136 (.pick (tM 130) (cB true) (tM 135))] (.cond (tM 136) (sO [dO 4 (.mv (cB false))] .ret) .skip)) (.seq (sO [dO 17 (.mv (cI 0))] (.block 2 (.loop (.seq (sO [mV 137 17,mV 138 15,lN 139 138,bB 140 .lss 137 139] (.cond (tM 140) .skip (.exit 2))) (.seq (.block 3 (sO [mV 143 15,mV 144 17,iA 145 143 144,lD 146 145,bC 147 .neq 146 0] (.cond (tM 147) (sO [dO 4 (.mv (cB false))] .ret) .skip))) (.ops [mV 141 17,bC 142 .add 141 1,mV 17 142])))))) (sO [dO 148 (.callF false 8 []),mV 4 148] .ret))) .skip)) (sO [mV 149 7,mV 150 1,dO 151 (.conv .i64 (tM 150)),mV 152 7,lN 153 152,bB 154 .rem 151 153,iA 155 149 154,lD 156 155,dO 157 (.callF true 15 [tM 156]),mV 18 157] (.seq (sO [dO 19 (.mv (cI 1))] (.block 4 (.loop (.seq (sO [mV 158 19,mV 159 18,lN 160 159,bB 161 .lss 158 160] (.cond (tM 161) .skip (.exit 4))) (.seq (.block 5 (sO [mV 164 19,mV 20 164] (.block 6 (.loop (.seq (sO [mV 165 20,bC 166 .gtr 165 0,mV 167 166,gV 168 18 167 true,gV 169 20 167 true,gO 170 (.indexAddr 1 (tM 168) (tM 169)) 167 true,gO 171 (.load none (tM 170)) 167 true,gV 172 18 167 true,gV 173 20 167 true,gO 174 (.bin .sub (tM 173) (cI 1)) 167 true,gO 175 (.indexAddr 1 (tM 172) (tM 174)) 167 true,gO 176 (.load none (tM 175)) 167 true,gO 177 (.bin .lss (tM 171) (tM 176)) 167 true,dO 178 (.pick (tM 167) (tM 177) (cB false))] (.cond (tM 178) .skip (.exit 6))) (.seq (.block 7 (.ops [mV 181 18,mV 182 20,mV 183 18,mV 184 20,bC 185 .sub 184 1,mV 186 18,mV 187 20,bC 188 .sub 187 1,iA 189 186 188,lD 190 189,mV 191 18,mV 192 20,iA 193 191 192,lD 194 193,iA 195 181 182,eO (.store 1 (tM 195) (tM 190)),iA 196 183 185,eO (.store 1 (tM 196) (tM 194))])) (.ops [mV 179 20,bC 180 .sub 179 1,mV 20 180]))))))) (.ops [mV 162 19,bC 163 .add 162 1,mV 19 163])))))) (sO [mV 197 11,bC 198 .eql 197 0,mV 199 198,gV 200 14 199 true,gO 201 (.bin .eql (tM 200) (cI 19)) 199 true,dO 202 (.pick (tM 199) (tM 201) (cB false)),mV 203 202,gV 204 16 203 true,gO 205 (.bin .eql (tM 204) (cI 19)) 203 true,dO 206 (.pick (tM 203) (tM 205) (cB false)),mV 207 206,gO 208 (.load (some 2) (tM 5)) 207 true,gV 209 18 207 true,gO 210 (.callF false 16 [tM 208,cI 2,tM 209]) 207 true,gO 211 (.bin .eql (tM 210) (cI 0)) 207 true,dO 212 (.pick (tM 207) (tM 211) (cB false)),mV 213 212,gO 214 (.callF false 8 []) 213 true,dO 215 (.pick (tM 213) (tM 214) (cB false)),mV 4 215] .ret)))))))))))))⟩
theorem k3:(Bt Tryz.prog byr).fns 3=some c3:=by kernel_rfl
theorem t3:T.fns 3=some c3:=Bw k3 (by decide) (by decide)
def c10:IFunc:=⟨16,[.tmp 2,.tmp 3],sO [dO 2 (.mv (.const (.slice (some 2) [] true))),dO 3 (.mv (cI 0))] (sO [mV 7 0,dO 8 (.callF false 36 [tM 7]),mV 6 8,xT 9 6 0,xT 10 6 1,mV 4 9,mV 5 10] (.seq (sO [mV 11 5,bC 12 .neq 11 0] (.cond (tM 12) (sO [mV 13 5,dO 2 (.mv (.const (.slice (some 2) [] true))),mV 3 13] .ret) .skip)) (sO [mV 14 4,dO 15 (.callF false 39 [tM 14]),mV 2 15,dO 3 (.mv (cI 0))] .ret)))⟩
theorem k10:(Bt Tryz.prog byr).fns 10=some c10:=by kernel_rfl
theorem t10:T.fns 10=some c10:=Bw k10 (by decide) (by decide)
def c11:IFunc:=⟨61,[.tmp 2,.tmp 3],sO [dO 1 (.box (tM 0)),dO 2 (.mv (cI 0)),dO 3 (.mv (cI 0))] (sO [dO 10 (.load (some 2) (tM 1)),dO 11 (.callF false 40 [tM 10]),mV 9 11,xT 12 9 0,xT 13 9 1,mV 4 12,mV 5 13] (.seq (sO [mV 14 5,bC 15 .neq 14 0] (.cond (tM 15) (sO [mV 16 5,dO 2 (.mv (cI 0)),mV 3 16] .ret) .skip)) (sO [mV 17 4,dO 18 (.callF false 41 [tM 17]),mV 6 18] (.seq (sO [mV 19 6,lN 20 19,bC 21 .eql 20 0] (.cond (tM 21) (sO [dO 2 (.mv (cI 0)),dO 3 (.mv (cI 0))] .ret) .skip)) (.seq (sO [mV 22 4,dO 23 (.nilCheck (tM 22)),dO 24 (.fieldAddr 2 (tM 23)),dO 25 (.load (some 8) (tM 24)),dO 26 (.build [.int .i64 0,.int .i64 0,.int .i64 0,.int .i64 0,.int .i64 0,.int .i64 0,.int .i64 0,.int .i64 0] []),dO 27 (.eqAgg 8 false (tM 25) (tM 26))] (.cond (tM 27) (sO [mV 28 4,dO 29 (.callF false 42 [tM 28]),dO 30 (.fieldAddr 1 (tM 1)),lD 31 30,lN 32 31,bB 33 .mul 29 32,mV 2 33,dO 3 (.mv (cI 0))] .ret) .skip)) (sO [mV 34 4,dO 35 (.nilCheck (tM 34)),dO 36 (.fieldAddr 2 (tM 35)),dO 37 (.sliceA none 8 (tM 36) none none none),dO 38 (.callF false 43 [tM 37,cI (-1)]),mV 7 38] (sO [dO 39 (.fieldAddr 1 (tM 1)),lD 40 39,dO 41 (.fieldAddr 1 (tM 1)),lD 42 41,lN 43 42,dO 44 (.fieldAddr 1 (tM 1)),lD 45 44,lN 46 45,dO 47 (.slice (some 2) (tM 40) none (some (tM 43)) (some (tM 46))),mV 48 7,mV 49 6,dO 50 (.indexAddr 1 (tM 49) (cI 0)),lD 51 50,dO 52 (.build [.int .i64 0,.int .i64 0] [(0,(1,tM 48)),(1,(1,tM 51))]),dO 53 (.buildSlice (some 2) [.int .i64 0,.int .i64 0] [(0,(2,tM 52))]),dO 54 (.append (some 2) 16 (tM 47) (tM 53)),mV 8 54] (sO [dO 55 (.fieldAddr 0 (tM 1)),lD 56 55,mV 57 8,dO 58 (.build [.int .i64 0,.slice (some 2) [] true] [(0,(1,tM 56)),(1,(1,tM 57))]),dO 59 (.callF true 44 [tM 58]),dO 60 (.callF false 42 [tM 59]),mV 2 60,dO 3 (.mv (cI 0))] .ret))))))))⟩
theorem k11:(Bt Tryz.prog byr).fns 11=some c11:=by kernel_rfl
theorem t11:T.fns 11=some c11:=Bw k11 (by decide) (by decide)
def c12:IFunc:=⟨22,[.tmp 2,.tmp 3],sO [dO 1 (.box (tM 0)),dO 2 (.mv (.const (.slice none [] true))),dO 3 (.mv (cI 0))] (sO [dO 7 (.load (some 2) (tM 1)),dO 8 (.callF false 40 [tM 7]),mV 6 8,xT 9 6 0,xT 10 6 1,mV 4 9,mV 5 10] (.seq (.block 0 (sO [mV 12 5,bC 13 .neq 12 0,mV 11 13] (.cond (tM 11) (sO [mV 14 5,dO 2 (.mv (.const (.slice none [] true))),mV 3 14] .ret) (sO [mV 16 4,dO 17 (.callF false 41 [tM 16]),lN 18 17,bC 19 .eql 18 0,mV 15 19] (.cond (tM 15) (sO [dO 2 (.mv (.const (.slice none [] true))),dO 3 (.mv (cI 19))] .ret) .skip))))) (sO [mV 20 4,dO 21 (.callF true 45 [tM 20]),mV 2 21,dO 3 (.mv (cI 0))] .ret)))⟩
theorem k12:(Bt Tryz.prog byr).fns 12=some c12:=by kernel_rfl
theorem t12:T.fns 12=some c12:=Bw k12 (by decide) (by decide)
def c13:IFunc:=⟨18,[.tmp 2,.tmp 3],sO [dO 1 (.box (tM 0)),dO 2 (.mv (.const (.slice none [] true))),dO 3 (.mv (cI 0))] (sO [dO 7 (.load (some 2) (tM 1)),dO 8 (.callF true 46 [tM 7]),mV 6 8,xT 9 6 0,xT 10 6 1,mV 4 9,mV 5 10] (.seq (sO [mV 11 5,bC 12 .neq 11 0] (.cond (tM 12) (sO [mV 13 5,dO 2 (.mv (.const (.slice none [] true))),mV 3 13] .ret) .skip)) (sO [mV 14 4,dO 15 (.nilCheck (tM 14)),dO 16 (.fieldAddr 10 (tM 15)),lD 17 16,mV 2 17,dO 3 (.mv (cI 0))] .ret)))⟩
theorem k13:(Bt Tryz.prog byr).fns 13=some c13:=by kernel_rfl
theorem t13:T.fns 13=some c13:=Bw k13 (by decide) (by decide)
def c16:IFunc:=⟨40,[.tmp 6],sO [dO 3 (.box (tM 0)),dO 6 (.mv (cI 0))] (sO [dO 11 (.load (some 2) (tM 3)),dO 12 (.callF false 40 [tM 11]),mV 10 12,xT 13 10 0,xT 14 10 1,mV 7 13,mV 8 14] (.seq (.block 0 (sO [mV 16 8,bC 17 .neq 16 0,mV 15 17] (.cond (tM 15) (sO [mV 18 8,mV 6 18] .ret) (sO [mV 20 1,dO 21 (.buildSlice none [.int .i64 0] [(0,(1,tM 20))]),dO 22 (.callF false 47 [cI 1,cI 2,tM 21]),dO 23 (.un .not (tM 22)),mV 19 23] (.cond (tM 19) (sO [dO 6 (.mv (cI 2))] .ret) (sO [mV 25 2,dO 26 (.fieldAddr 0 (tM 3)),lD 27 26,dO 28 (.callF false 48 [tM 25,tM 27]),dO 29 (.un .not (tM 28)),mV 24 29] (.cond (tM 24) (sO [dO 6 (.mv (cI 3))] .ret) .skip))))))) (sO [mV 30 7,dO 31 (.mkFunc 49 [tM 30] []),mV 9 31] (.seq (sO [mV 32 1,bC 33 .eql 32 1] (.cond (tM 33) (.ops [mV 34 7,dO 35 (.mkFunc 50 [tM 34] []),mV 9 35]) .skip)) (.seq (sO [mV 36 9,mV 37 2,dO 38 (.call false (tM 36) [tM 37]),dO 39 (.un .not (tM 38))] (.cond (tM 39) (sO [dO 6 (.mv (cI 14))] .ret) .skip)) (sO [dO 6 (.mv (cI 0))] .ret))))))⟩
theorem k16:(Bt Tryz.prog byr).fns 16=some c16:=by kernel_rfl
theorem t16:T.fns 16=some c16:=Bw k16 (by decide) (by decide)
def c39:IFunc:=⟨80,[.tmp 2],sO [dO 2 (.mv (.const (.slice (some 2) [] true)))] (sO [⟨some 10,.mkMap,none⟩,mV 3 10] (sO [mV 11 0,dO 12 (.nilCheck (tM 11)),dO 13 (.fieldAddr 0 (tM 12)),dO 14 (.fieldAddr 0 (tM 13)),lD 15 14,dO 16 (.callF true 97 [tM 15]),mV 4 16] (.seq (sO [mV 17 4,lN 18 17,dO 19 (.mv (cI 0))] (.block 0 (.loop (sO [bB 20 .lss 19 18] (.seq (.cond (tM 20) .skip (.exit 0)) (.seq (.block 1 (sO [mV 21 19,iA 22 17 19,lD 23 22,mV 5 21,mV 6 23] (.ops [mV 24 3,mV 25 6,dO 26 (.build [.int .i64 0] [(0,(1,tM 25))]),mV 27 5,eO (.mapUpdate (some 1) (tM 24) (tM 26) (tM 27))]))) (.ops [bC 28 .add 19 1,mV 19 28]))))))) (sO [dO 7 (.mv (.const (.slice (some 2) [] true)))] (.seq (sO [mV 29 4,lN 30 29,dO 31 (.mv (cI 0))] (.block 2 (.loop (sO [bB 32 .lss 31 30] (.seq (.cond (tM 32) .skip (.exit 2)) (.seq (.block 3 (sO [mV 33 31,mV 8 33] (.seq (.block 4 (.loop (.seq (sO [mV 34 3,mV 35 8,dO 36 (.build [.int .i64 0] [(0,(1,tM 35))]),dO 37 (.lookup (some 1) (.int .i64 0) false (tM 34) (tM 36)),mV 38 8,bB 39 .neq 37 38] (.cond (tM 39) .skip (.exit 4))) (.block 5 (sO [mV 40 4,mV 41 8,iA 42 40 41,lD 43 42,mV 9 43] (sO [mV 44 7,mV 45 8,mV 46 9,dO 47 (.build [.int .i64 0,.int .i64 0] [(0,(1,tM 45)),(1,(1,tM 46))]),dO 48 (.buildSlice (some 2) [.int .i64 0,.int .i64 0] [(0,(2,tM 47))]),dO 49 (.append (some 2) 16 (tM 44) (tM 48)),mV 7 49] (sO [mV 50 4,mV 51 8,mV 52 4,mV 53 9,mV 54 4,mV 55 9,iA 56 54 55,lD 57 56,mV 58 4,mV 59 8,iA 60 58 59,lD 61 60,iA 62 50 51,eO (.store 1 (tM 62) (tM 57)),iA 63 52 53,eO (.store 1 (tM 63) (tM 61))] (sO [mV 64 3,mV 65 9,dO 66 (.build [.int .i64 0] [(0,(1,tM 65))]),mV 67 9,eO (.mapUpdate (some 1) (tM 64) (tM 66) (tM 67))] (.ops [mV 68 3,mV 69 4,mV 70 8,iA 71 69 70,lD 72 71,dO 73 (.build [.int .i64 0] [(0,(1,tM 72))]),mV 74 8,eO (.mapUpdate (some 1) (tM 68) (tM 73) (tM 74))]))))))))) (.ops [mV 75 3,mV 76 8,dO 77 (.build [.int .i64 0] [(0,(1,tM 76))]),eO (.delete (some 1) (tM 75) (tM 77))])))) (.ops [bC 78 .add 31 1,mV 31 78]))))))) (sO [mV 79 7,mV 2 79] .ret))))))⟩
theorem k39:(Bt Tryz.prog byr).fns 39=some c39:=by kernel_rfl
theorem t39:T.fns 39=some c39:=Bw k39 (by decide) (by decide)
def c40:IFunc:=⟨12,[.tmp 2,.tmp 3],sO [dO 1 (.box (tM 0)),dO 2 (.mv (.const .nilptr)),dO 3 (.mv (cI 0))] (.seq (sO [dO 5 (.load (some 2) (tM 1)),dO 6 (.callF false 98 [tM 5]),mV 4 6] (sO [mV 7 4,bC 8 .neq 7 0] (.cond (tM 8) (sO [mV 9 4,dO 2 (.mv (.const .nilptr)),mV 3 9] .ret) .skip))) (sO [dO 10 (.load (some 2) (tM 1)),dO 11 (.callF true 44 [tM 10]),mV 2 11,dO 3 (.mv (cI 0))] .ret))⟩
theorem k40:(Bt Tryz.prog byr).fns 40=some c40:=by kernel_rfl
theorem t40:T.fns 40=some c40:=Bw k40 (by decide) (by decide)
def c41:IFunc:=⟨71,[.tmp 2],sO [dO 2 (.mv (.const (.slice none [] true)))] (.seq (sO [mV 9 0,mV 10 0,mV 11 0,dO 12 (.nilCheck (tM 11)),dO 13 (.fieldAddr 0 (tM 12)),dO 14 (.fieldAddr 1 (tM 13)),lD 15 14,dO 16 (.indexAddr 2 (tM 15) (cI 0)),dO 17 (.indexAddrA 2 1 (tM 16) (cI 0)),lD 18 17,dO 19 (.callF false 99 [tM 10,tM 18]),dO 20 (.callF false 49 [tM 9,tM 19])] (.cond (tM 20) (sO [dO 2 (.mv (.const (.slice none [] true)))] .ret) .skip)) (sO [dO 3 (.mv (cI 0)),dO 4 (.mv (cI 0))] (.seq (sO [mV 21 0,dO 22 (.nilCheck (tM 21)),dO 23 (.fieldAddr 2 (tM 22)),dO 24 (.load (some 8) (tM 23)),dO 25 (.mv (cI 0))] (.block 0 (.loop (sO [bC 26 .lss 25 8] (.seq (.cond (tM 26) .skip (.exit 0)) (.seq (.block 1 (sO [mV 27 25,dO 28 (.index none 8 (tM 24) (tM 25)),mV 5 27,mV 6 28] (sO [mV 29 6,bC 30 .gtr 29 0] (.cond (tM 30) (sO [mV 31 3,mV 32 6,bB 33 .add 31 32,mV 3 33] (.ops [mV 34 5,mV 4 34])) .skip)))) (.ops [bC 35 .add 25 1,mV 25 35]))))))) (sO [dO 7 (.mv (.const (.slice none [] true)))] (.seq (sO [mV 36 3] (.block 2 (sO [bC 38 .eql 36 0,mV 37 38] (.cond (tM 37) (sO [mV 39 0,dO 40 (.nilCheck (tM 39)),dO 41 (.fieldAddr 0 (tM 40)),dO 42 (.fieldAddr 0 (tM 41)),lD 43 42,dO 44 (.mv (cI 0))] (.block 3 (.loop (sO [bB 45 .lss 44 43] (.seq (.cond (tM 45) .skip (.exit 3)) (.seq (.block 4 (sO [mV 46 44,dO 8 (.alloc [.int .i64 0]),eO (.store 1 (tM 8) (tM 46))] (sO [mV 47 0,dO 48 (.nilCheck (tM 47)),dO 49 (.fieldAddr 0 (tM 48)),dO 50 (.fieldAddr 1 (tM 49)),lD 51 50,dO 52 (.mkFunc 101 [] [tM 8]),dO 53 (.callF false 100 [tM 51,tM 52])] (.cond (tM 53) (.ops [mV 54 7,mV 55 7,lN 56 55,mV 57 7,lN 58 57,dO 59 (.slice none (tM 54) none (some (tM 56)) (some (tM 58))),lD 60 8,dO 61 (.buildSlice none [.int .i64 0] [(0,(1,tM 60))]),dO 62 (.append none 8 (tM 59) (tM 61)),mV 7 62]) .skip)))) (.ops [bC 63 .add 44 1,mV 44 63]))))))) (sO [bC 65 .eql 36 1,mV 64 65] (.cond (tM 64) (.ops [mV 66 7,mV 67 4,dO 68 (.buildSlice none [.int .i64 0] [(0,(1,tM 67))]),dO 69 (.append none 8 (tM 66) (tM 68)),mV 7 69]) .skip)))))) (sO [mV 70 7,mV 2 70] .ret))))))⟩
theorem k41:(Bt Tryz.prog byr).fns 41=some c41:=by kernel_rfl
theorem t41:T.fns 41=some c41:=Bw k41 (by decide) (by decide)
def c44:IFunc:=⟨51,[.tmp 2],sO [dO 1 (.box (tM 0)),dO 2 (.mv (.const .nilptr))] (sO [dO 6 (.load (some 2) (tM 1)),dO 7 (.fieldAddr 1 (tM 1)),lD 8 7,lN 9 8,dO 10 (.mkSlice none [.int .i64 0] 8 (tM 9) (tM 9)),dO 11 (.build [.int .i64 0,.slice (some 2) [] true,.int .i64 0,.int .i64 0,.int .i64 0,.int .i64 0,.int .i64 0,.int .i64 0,.int .i64 0,.int .i64 0,.slice none [] true] [(0,(2,tM 6)),(10,(1,tM 10))]),dO 12 (.box (tM 11)),mV 3 12] (sO [mV 13 3,dO 14 (.nilCheck (tM 13)),dO 15 (.fieldAddr 2 (tM 14)),dO 16 (.sliceA none 8 (tM 15) none none none),eO (.clear (.int .i64 0) (tM 16))] (.seq (sO [mV 17 3,dO 18 (.nilCheck (tM 17)),dO 19 (.fieldAddr 0 (tM 18)),dO 20 (.fieldAddr 1 (tM 19)),lD 21 20,lN 22 21,dO 23 (.mv (cI 0))] (.block 0 (.loop (sO [bB 24 .lss 23 22] (.seq (.cond (tM 24) .skip (.exit 0)) (.seq (.block 1 (sO [dO 25 (.indexAddr 2 (tM 21) (tM 23)),dO 26 (.load (some 2) (tM 25)),dO 5 (.alloc [.int .i64 0,.int .i64 0]),eO (.store 2 (tM 5) (tM 26))] (sO [mV 27 3,dO 28 (.indexAddrA 2 1 (tM 5) (cI 0)),lD 29 28,dO 30 (.nilCheck (tM 27)),dO 31 (.fieldAddr 2 (tM 30)),dO 32 (.indexAddrA 8 1 (tM 31) (tM 29)),lD 33 32,bC 34 .add 33 1,dO 35 (.nilCheck (tM 27)),dO 36 (.fieldAddr 2 (tM 35)),dO 37 (.indexAddrA 8 1 (tM 36) (tM 29)),eO (.store 1 (tM 37) (tM 34))] (.ops [mV 38 3,dO 39 (.indexAddrA 2 1 (tM 5) (cI 1)),lD 40 39,dO 41 (.nilCheck (tM 38)),dO 42 (.fieldAddr 2 (tM 41)),dO 43 (.indexAddrA 8 1 (tM 42) (tM 40)),lD 44 43,bC 45 .sub 44 1,dO 46 (.nilCheck (tM 38)),dO 47 (.fieldAddr 2 (tM 46)),dO 48 (.indexAddrA 8 1 (tM 47) (tM 40)),eO (.store 1 (tM 48) (tM 45))])))) (.ops [bC 49 .add 23 1,mV 23 49]))))))) (sO [mV 50 3,mV 2 50] .ret))))⟩
theorem k44:(Bt Tryz.prog byr).fns 44=some c44:=by kernel_rfl
theorem t44:T.fns 44=some c44:=Bw k44 (by decide) (by decide)
def c45:IFunc:=⟨40,[.tmp 2],sO [dO 1 (.box (tM 0)),dO 2 (.mv (.const (.slice none [] true)))] (sO [dO 3 (.alloc [.slice none [] true])] (sO [dO 4 (.mv (cI (-1)))] (.seq (sO [lD 7 1,dO 8 (.nilCheck (tM 7)),dO 9 (.fieldAddr 0 (tM 8)),dO 10 (.fieldAddr 1 (tM 9)),lD 11 10,lN 12 11,dO 13 (.mv (cI 0))] (.block 0 (.loop (sO [bB 14 .lss 13 12] (.seq (.cond (tM 14) .skip (.exit 0)) (.seq (.block 1 (sO [lD 16 1,mV 17 4,lD 18 3,dO 19 (.callF true 105 [tM 16,tM 17,tM 18]),dO 20 (.callF false 104 [tM 19]),dO 21 (.mkFunc 106 [] [tM 1,tM 3]),dO 22 (.callF false 103 [tM 20,tM 21]),mV 15 22,xT 23 15 0,xT 24 15 1,mV 5 23,mV 6 24] (sO [lD 25 3,mV 26 5,dO 27 (.buildSlice none [.int .i64 0] [(0,(1,tM 26))]),dO 28 (.append none 8 (tM 25) (tM 27)),eO (.store 1 (tM 3) (tM 28))] (.ops [lD 29 1,dO 30 (.nilCheck (tM 29)),dO 31 (.fieldAddr 0 (tM 30)),dO 32 (.fieldAddr 1 (tM 31)),lD 33 32,mV 34 5,dO 35 (.indexAddr 2 (tM 33) (tM 34)),dO 36 (.indexAddrA 2 1 (tM 35) (cI 1)),lD 37 36,mV 4 37])))) (.ops [bC 38 .add 13 1,mV 13 38]))))))) (sO [lD 39 3,mV 2 39] .ret))))⟩
theorem k45:(Bt Tryz.prog byr).fns 45=some c45:=by kernel_rfl
theorem t45:T.fns 45=some c45:=Bw k45 (by decide) (by decide)
def c46:IFunc:=⟨22,[.tmp 2,.tmp 3],sO [dO 1 (.box (tM 0)),dO 2 (.mv (.const .nilptr)),dO 3 (.mv (cI 0))] (sO [dO 7 (.load (some 2) (tM 1)),dO 8 (.callF true 40 [tM 7]),mV 6 8,xT 9 6 0,xT 10 6 1,mV 4 9,mV 5 10] (.seq (.block 0 (sO [mV 12 5,bC 13 .neq 12 0,mV 11 13] (.cond (tM 11) (sO [mV 14 5,dO 2 (.mv (.const .nilptr)),mV 3 14] .ret) (sO [mV 16 4,dO 17 (.callF false 108 [tM 16]),dO 18 (.un .not (tM 17)),mV 15 18] (.cond (tM 15) (sO [dO 2 (.mv (.const .nilptr)),dO 3 (.mv (cI 19))] .ret) .skip))))) (sO [mV 19 4,dO 20 (.callF true 109 [tM 19])] (sO [mV 21 4,mV 2 21,dO 3 (.mv (cI 0))] .ret))))⟩
theorem k46:(Bt Tryz.prog byr).fns 46=some c46:=by kernel_rfl
theorem t46:T.fns 46=some c46:=Bw k46 (by decide) (by decide)
def c47:IFunc:=⟨11,[.tmp 6],sO [dO 3 (.box (tM 0)),dO 4 (.box (tM 1)),dO 6 (.mv (cB false))] (sO [mV 7 2,dO 8 (.mkFunc 111 [] [tM 3,tM 4]),dO 9 (.callF false 110 [tM 7,tM 8]),dO 10 (.un .not (tM 9)),mV 6 10] .ret)⟩
theorem k47:(Bt Tryz.prog byr).fns 47=some c47:=by kernel_rfl
theorem t47:T.fns 47=some c47:=Bw k47 (by decide) (by decide)
def c48:IFunc:=⟨24,[.tmp 4],sO [dO 4 (.mv (cB false))] (sO [dO 5 (.mv (cI 0))] (.seq (sO [mV 8 0,lN 9 8,dO 10 (.mv (cI 0))] (.block 0 (.loop (sO [bB 11 .lss 10 9] (.seq (.cond (tM 11) .skip (.exit 0)) (.seq (.block 1 (sO [iA 12 8 10,lD 13 12,mV 7 13] (.seq (sO [mV 14 5,mV 15 1,bC 16 .sub 15 1,mV 17 7,dO 18 (.buildSlice none [.int .i64 0] [(0,(1,tM 17))]),dO 19 (.callF false 47 [tM 14,tM 16,tM 18]),dO 20 (.un .not (tM 19))] (.cond (tM 20) (sO [dO 4 (.mv (cB false))] .ret) .skip)) (.ops [mV 21 7,bC 22 .add 21 1,mV 5 22])))) (.ops [bC 23 .add 10 1,mV 10 23]))))))) (sO [dO 4 (.mv (cB true))] .ret)))⟩
theorem k48:(Bt Tryz.prog byr).fns 48=some c48:=by kernel_rfl
theorem t48:T.fns 48=some c48:=Bw k48 (by decide) (by decide)
def c49:IFunc:=⟨43,[.tmp 4],sO [dO 4 (.mv (cB false))] (sO [dO 5 (.mv (cI 0))] (.seq (sO [mV 9 0,dO 10 (.nilCheck (tM 9)),dO 11 (.fieldAddr 0 (tM 10)),dO 12 (.fieldAddr 1 (tM 11)),lD 13 12,lN 14 13,dO 15 (.mv (cI 0))] (.block 0 (.loop (sO [bB 16 .lss 15 14] (.seq (.cond (tM 16) .skip (.exit 0)) (.seq (.block 1 (sO [dO 17 (.indexAddr 2 (tM 13) (tM 15)),dO 18 (.load (some 2) (tM 17)),dO 7 (.alloc [.int .i64 0,.int .i64 0]),eO (.store 2 (tM 7) (tM 18))] (sO [mV 19 1,dO 20 (.indexAddrA 2 1 (tM 7) (cI 0)),lD 21 20,dO 22 (.callF false 112 [tM 19,tM 21]),mV 8 22] (.seq (sO [mV 23 8,mV 24 1,dO 25 (.indexAddrA 2 1 (tM 7) (cI 1)),lD 26 25,dO 27 (.callF false 112 [tM 24,tM 26]),dO 28 (.eqB true (tM 23) (tM 27))] (.cond (tM 28) (sO [dO 4 (.mv (cB false))] .ret) .skip)) (sO [mV 29 8] (.cond (tM 29) (.ops [mV 30 5,bC 31 .add 30 1,mV 5 31]) .skip)))))) (.ops [bC 32 .add 15 1,mV 15 32]))))))) (sO [mV 33 0,dO 34 (.nilCheck (tM 33)),dO 35 (.fieldAddr 0 (tM 34)),dO 36 (.fieldAddr 1 (tM 35)),lD 37 36,lN 38 37,bC 39 .sub 38 1,mV 40 5,dO 41 (.buildSlice none [.int .i64 0] [(0,(1,tM 40))]),dO 42 (.callF false 47 [cI 1,tM 39,tM 41]),mV 4 42] .ret)))⟩
theorem k49:(Bt Tryz.prog byr).fns 49=some c49:=by kernel_rfl
theorem t49:T.fns 49=some c49:=Bw k49 (by decide) (by decide)
def c50:IFunc:=⟨32,[.tmp 4],sO [dO 4 (.mv (cB false))] (sO [dO 5 (.mv (cI 0))] (.seq (sO [mV 8 1,lN 9 8,dO 10 (.mv (cI 0))] (.block 0 (.loop (sO [bB 11 .lss 10 9] (.seq (.cond (tM 11) .skip (.exit 0)) (.seq (.block 1 (sO [iA 12 8 10,lD 13 12,mV 7 13] (.seq (sO [mV 14 0,mV 15 7,dO 16 (.nilCheck (tM 14)),dO 17 (.fieldAddr 2 (tM 16)),dO 18 (.indexAddrA 8 1 (tM 17) (tM 15)),lD 19 18,bC 20 .leq 19 0] (.cond (tM 20) (sO [dO 4 (.mv (cB false))] .ret) .skip)) (.ops [mV 21 5,mV 22 0,mV 23 7,dO 24 (.nilCheck (tM 22)),dO 25 (.fieldAddr 2 (tM 24)),dO 26 (.indexAddrA 8 1 (tM 25) (tM 23)),lD 27 26,bB 28 .add 21 27,mV 5 28])))) (.ops [bC 29 .add 10 1,mV 10 29]))))))) (sO [mV 30 5,bC 31 .gtr 30 1,mV 4 31] .ret)))⟩
theorem k50:(Bt Tryz.prog byr).fns 50=some c50:=by kernel_rfl
theorem t50:T.fns 50=some c50:=Bw k50 (by decide) (by decide)
def c98:IFunc:=⟨24,[.tmp 2],sO [dO 1 (.box (tM 0)),dO 2 (.mv (cI 0))] (sO [dO 4 (.mkFunc 168 [] [tM 1]),mV 3 4] (.seq (.block 0 (sO [dO 6 (.fieldAddr 0 (tM 1)),lD 7 6,dO 8 (.buildSlice none [.int .i64 0] [(0,(1,tM 7))]),dO 9 (.callF false 47 [cI 1,cI 8,tM 8]),dO 10 (.un .not (tM 9)),mV 11 10,gO 12 (.fieldAddr 1 (tM 1)) 11 false,gO 13 (.load none (tM 12)) 11 false,gO 14 (.len (tM 13)) 11 false,gO 15 (.buildSlice none [.int .i64 0] [(0,(1,tM 14))]) 11 false,gO 16 (.callF false 47 [cI 1,cI 14,tM 15]) 11 false,gO 17 (.un .not (tM 16)) 11 false,dO 18 (.pick (tM 11) (cB true) (tM 17)),mV 5 18] (.cond (tM 5) (sO [dO 2 (.mv (cI 6))] .ret) (sO [dO 20 (.fieldAddr 1 (tM 1)),lD 21 20,mV 22 3,dO 23 (.callF false 100 [tM 21,tM 22]),mV 19 23] (.cond (tM 19) (sO [dO 2 (.mv (cI 2))] .ret) .skip))))) (sO [dO 2 (.mv (cI 0))] .ret)))⟩
theorem k98:(Bt Tryz.prog byr).fns 98=some c98:=by kernel_rfl
theorem t98:T.fns 98=some c98:=Bw k98 (by decide) (by decide)
def c99:IFunc:=⟨69,[.tmp 4],sO [dO 4 (.mv (.const (.slice none [] true)))] (sO [mV 8 1,dO 9 (.buildSliceO none [.int .i64 0] [(0,(1,tM 8))]),mV 5 9] (.seq .skip (.seq (sO [dO 6 (.mv (cI 0))] (.block 0 (.loop (.seq (sO [mV 10 6,mV 11 0,dO 12 (.nilCheck (tM 11)),dO 13 (.fieldAddr 0 (tM 12)),dO 14 (.fieldAddr 1 (tM 13)),lD 15 14,lN 16 15,bB 17 .lss 10 16] (.cond (tM 17) .skip (.exit 0))) (.seq (.block 1 (sO [dO 20 (.mv (cI 0))] (.block 2 (.loop (sO [bC 21 .lss 20 2] (.seq (.cond (tM 21) .skip (.exit 2)) (.seq (.block 3 (sO [mV 22 20,mV 7 22] (sO [mV 23 5,mV 24 0,dO 25 (.nilCheck (tM 24)),dO 26 (.fieldAddr 0 (tM 25)),dO 27 (.fieldAddr 1 (tM 26)),lD 28 27,mV 29 6,mV 30 7,dO 31 (.indexAddr 2 (tM 28) (tM 29)),dO 32 (.indexAddrA 2 1 (tM 31) (tM 30)),lD 33 32,dO 34 (.callF false 112 [tM 23,tM 33]),mV 35 34,gV 36 5 35 true,gV 37 0 35 true,gO 38 (.nilCheck (tM 37)) 35 true,gO 39 (.fieldAddr 0 (tM 38)) 35 true,gO 40 (.fieldAddr 1 (tM 39)) 35 true,gO 41 (.load none (tM 40)) 35 true,gV 42 6 35 true,gV 43 7 35 true,gO 44 (.bin .sub (cI 1) (tM 43)) 35 true,gO 45 (.indexAddr 2 (tM 41) (tM 42)) 35 true,gO 46 (.indexAddrA 2 1 (tM 45) (tM 44)) 35 true,gO 47 (.load none (tM 46)) 35 true,gO 48 (.callF false 112 [tM 36,tM 47]) 35 true,gO 49 (.un .not (tM 48)) 35 true,dO 50 (.pick (tM 35) (tM 49) (cB false))] (.cond (tM 50) (sO [mV 51 5,mV 52 0,dO 53 (.nilCheck (tM 52)),dO 54 (.fieldAddr 0 (tM 53)),dO 55 (.fieldAddr 1 (tM 54)),lD 56 55,mV 57 6,mV 58 7,dO 59 (.bin .sub (cI 1) (tM 58)),dO 60 (.indexAddr 2 (tM 56) (tM 57)),dO 61 (.indexAddrA 2 1 (tM 60) (tM 59)),lD 62 61,dO 63 (.buildSliceO none [.int .i64 0] [(0,(1,tM 62))]),dO 64 (.append none 8 (tM 51) (tM 63)),mV 5 64] (sO [dO 6 (.mv (cI (-1)))] (.exit 1))) .skip)))) (.ops [bC 65 .add 20 1,mV 20 65])))))))) (.ops [mV 18 6,bC 19 .add 18 1,mV 6 19])))))) (sO [mV 66 5,dO 67 (.callF true 169 [tM 66])] (sO [mV 68 5,mV 4 68] .ret)))))⟩
theorem k99:(Bt Tryz.prog byr).fns 99=some c99:=by kernel_rfl
theorem t99:T.fns 99=some c99:=Bw k99 (by decide) (by decide)
def c100:IFunc:=⟨9,[.tmp 4],sO [dO 4 (.mv (cB false))] (sO [mV 5 0,mV 6 1,dO 7 (.callF false 170 [tM 5,tM 6]),bC 8 .geq 7 0,mV 4 8] .ret)⟩
theorem k100:(Bt Tryz.prog byr).fns 100=some c100:=by kernel_rfl
theorem t100:T.fns 100=some c100:=Bw k100 (by decide) (by decide)
def c101:IFunc:=⟨8,[.tmp 3],sO [dO 2 (.box (tM 0)),dO 3 (.mv (cB false))] (sO [dO 4 (.indexAddrA 2 1 (tM 2) (cI 0)),lD 5 4,lD 6 1,bB 7 .eql 5 6,mV 3 7] .ret)⟩
theorem k101:(Bt Tryz.prog byr).fns 101=some c101:=by kernel_rfl
theorem t101:T.fns 101=some c101:=Bw k101 (by decide) (by decide)
def c103:IFunc:=⟨21,[.tmp 4,.tmp 5],sO [dO 4 (.mv (cI 0)),dO 5 (.mv (cB false))] (.seq (sO [mV 9 0,lN 10 9,dO 11 (.mv (cI 0))] (.block 0 (.loop (sO [bB 12 .lss 11 10] (.seq (.cond (tM 12) .skip (.exit 0)) (.seq (.block 1 (sO [iA 13 9 11,lD 14 13,mV 7 14] (sO [mV 15 1,mV 16 7,dO 17 (.call false (tM 15) [tM 16])] (.cond (tM 17) (sO [mV 18 7,mV 4 18,dO 5 (.mv (cB true))] .ret) .skip)))) (.ops [bC 19 .add 11 1,mV 11 19]))))))) (sO [dO 8 (.mv (cI 0))] (sO [mV 20 8,mV 4 20,dO 5 (.mv (cB false))] .ret)))⟩
theorem k103:(Bt Tryz.prog byr).fns 103=some c103:=by kernel_rfl
theorem t103:T.fns 103=some c103:=Bw k103 (by decide) (by decide)
def c104:IFunc:=⟨5,[.tmp 2],sO [dO 2 (.mv (.const (.slice none [] true)))] (sO [mV 3 0,dO 4 (.callF true 171 [.const (.slice none [] true),tM 3]),mV 2 4] .ret)⟩
theorem k104:(Bt Tryz.prog byr).fns 104=some c104:=by kernel_rfl
theorem t104:T.fns 104=some c104:=Bw k104 (by decide) (by decide)
def c105:IFunc:=⟨8,[.tmp 6],sO [dO 3 (.box (tM 0)),dO 4 (.box (tM 1)),dO 5 (.box (tM 2)),dO 6 (.mv (.const .nilfn))] (sO [dO 7 (.mkFunc 172 [] [tM 3,tM 4,tM 5]),mV 6 7] .ret)⟩
theorem k105:(Bt Tryz.prog byr).fns 105=some c105:=by kernel_rfl
theorem t105:T.fns 105=some c105:=Bw k105 (by decide) (by decide)
def c106:IFunc:=⟨25,[.tmp 4],sO [dO 4 (.mv (cB false))] (sO [dO 5 (.loadL none (tM 1) 5 25 []),dO 6 (.loadL none (tM 1) 6 25 []),dO 7 (.nilCheck (tM 6)),dO 8 (.fieldAddr 0 (tM 7)),dO 9 (.fieldAddr 1 (tM 8)),dO 10 (.loadL none (tM 9) 10 25 []),mV 11 0,dO 12 (.indexAddr 2 (tM 10) (tM 11)),dO 13 (.indexAddrA 2 1 (tM 12) (cI 1)),dO 14 (.loadL none (tM 13) 14 25 []),lD 15 2,lD 16 2,lN 17 16,lD 18 2,lN 19 18,dO 20 (.slice none (tM 15) none (some (tM 17)) (some (tM 19))),mV 21 0,dO 22 (.buildSlice none [.int .i64 0] [(0,(1,tM 21))]),dO 23 (.appendL 23 25 none 8 (tM 20) (tM 22)),dO 24 (.callF false 107 [tM 5,tM 14,tM 23]),mV 4 24] .ret)⟩
theorem k106:(Bt Tryz.prog byr).fns 106=some c106:=by kernel_rfl
theorem t106:T.fns 106=some c106:=Bw k106 (by decide) (by decide)
def c107:IFunc:=⟨43,[.tmp 6],sO [dO 3 (.box (tM 0)),dO 6 (.mv (cB false))] (sO [lD 9 3,dO 10 (.nilCheck (tM 9)),dO 11 (.fieldAddr 0 (tM 10)),dO 12 (.fieldAddr 0 (tM 11)),lD 13 12,dO 14 (.build [.int .i64 0,.slice (some 2) [] true] [(0,(1,tM 13))]),dO 7 (.alloc [.int .i64 0,.slice (some 2) [] true]),eO (.store 2 (tM 7) (tM 14))] (.seq (sO [lD 15 3,mV 16 2,dO 17 (.callF false 105 [tM 15,cI (-1),tM 16])] (.block 0 (.rangeF (tM 17) [18] (.ops [mV 8 18]) (.block 1 (.ops [dO 19 (.fieldAddr 1 (tM 7)),lD 20 19,lD 21 3,dO 22 (.nilCheck (tM 21)),dO 23 (.fieldAddr 0 (tM 22)),dO 24 (.fieldAddr 1 (tM 23)),lD 25 24,mV 26 8,dO 27 (.indexAddr 2 (tM 25) (tM 26)),dO 28 (.load (some 2) (tM 27)),dO 29 (.buildSlice (some 2) [.int .i64 0,.int .i64 0] [(0,(2,tM 28))]),dO 30 (.append (some 2) 16 (tM 20) (tM 29)),dO 31 (.fieldAddr 1 (tM 7)),eO (.store 1 (tM 31) (tM 30))]))))) (sO [dO 32 (.fieldAddr 1 (tM 7)),lD 33 32,lN 34 33,bC 35 .eql 34 0,mV 36 35,gO 37 (.load (some 2) (tM 7)) 36 false,gO 38 (.callF true 44 [tM 37]) 36 false,gO 39 (.callF false 41 [tM 38]) 36 false,gV 40 1 36 false,gO 41 (.callF false 112 [tM 39,tM 40]) 36 false,dO 42 (.pick (tM 36) (cB true) (tM 41)),mV 6 42] .ret)))⟩
theorem k107:(Bt Tryz.prog byr).fns 107=some c107:=by kernel_rfl
theorem t107:T.fns 107=some c107:=Bw k107 (by decide) (by decide)
def c108:IFunc:=⟨65,[.tmp 2],sO [dO 2 (.mv (cB false))] (.seq (sO [mV 9 0,dO 10 (.nilCheck (tM 9)),dO 11 (.fieldAddr 0 (tM 10)),dO 12 (.fieldAddr 1 (tM 11)),lD 13 12,lN 14 13,dO 15 (.mv (cI 0))] (.block 0 (.loop (sO [bB 16 .lss 15 14] (.seq (.cond (tM 16) .skip (.exit 0)) (.seq (.block 1 (sO [dO 17 (.indexAddr 2 (tM 13) (tM 15)),dO 18 (.load (some 2) (tM 17)),dO 4 (.alloc [.int .i64 0,.int .i64 0]),eO (.store 2 (tM 4) (tM 18))] (sO [mV 19 0,dO 20 (.nilCheck (tM 19)),dO 21 (.fieldAddr 0 (tM 20)),dO 22 (.fieldAddr 1 (tM 21)),lD 23 22,lN 24 23,dO 25 (.mv (cI 0))] (.block 2 (.loop (sO [bB 26 .lss 25 24] (.seq (.cond (tM 26) .skip (.exit 2)) (.seq (.block 3 (sO [dO 27 (.indexAddr 2 (tM 23) (tM 25)),dO 28 (.load (some 2) (tM 27)),dO 6 (.alloc [.int .i64 0,.int .i64 0]),eO (.store 2 (tM 6) (tM 28))] (sO [dO 29 (.indexAddrA 2 1 (tM 4) (cI 0)),lD 30 29,dO 31 (.indexAddrA 2 1 (tM 6) (cI 0)),lD 32 31,dO 33 (.build [.int .i64 0,.int .i64 0] [(0,(1,tM 30)),(1,(1,tM 32))]),dO 34 (.indexAddrA 2 1 (tM 4) (cI 0)),lD 35 34,dO 36 (.indexAddrA 2 1 (tM 6) (cI 1)),lD 37 36,dO 38 (.build [.int .i64 0,.int .i64 0] [(0,(1,tM 35)),(1,(1,tM 37))]),dO 39 (.indexAddrA 2 1 (tM 4) (cI 1)),lD 40 39,dO 41 (.indexAddrA 2 1 (tM 6) (cI 0)),lD 42 41,dO 43 (.build [.int .i64 0,.int .i64 0] [(0,(1,tM 40)),(1,(1,tM 42))]),dO 44 (.indexAddrA 2 1 (tM 4) (cI 1)),lD 45 44,dO 46 (.indexAddrA 2 1 (tM 6) (cI 1)),lD 47 46,dO 48 (.build [.int .i64 0,.int .i64 0] [(0,(1,tM 45)),(1,(1,tM 47))]),dO 49 (.buildSlice (some 2) [.int .i64 0,.int .i64 0,.int .i64 0,.int .i64 0,.int .i64 0,.int .i64 0,.int .i64 0,.int .i64 0] [(0,(2,tM 33)),(2,(2,tM 38)),(4,(2,tM 43)),(6,(2,tM 48))]),lN 50 49,dO 51 (.mv (cI 0))] (.block 4 (.loop (sO [bB 52 .lss 51 50] (.seq (.cond (tM 52) .skip (.exit 4)) (.seq (.block 5 (sO [dO 53 (.indexAddr 2 (tM 49) (tM 51)),dO 54 (.load (some 2) (tM 53)),dO 8 (.alloc [.int .i64 0,.int .i64 0]),eO (.store 2 (tM 8) (tM 54))] (sO [mV 55 0,dO 56 (.indexAddrA 2 1 (tM 8) (cI 0)),lD 57 56,dO 58 (.indexAddrA 2 1 (tM 8) (cI 1)),lD 59 58,dO 60 (.callF false 173 [tM 55,tM 57,tM 59]),dO 61 (.un .not (tM 60))] (.cond (tM 61) (sO [dO 2 (.mv (cB false))] .ret) .skip)))) (.ops [bC 62 .add 51 1,mV 51 62]))))))))) (.ops [bC 63 .add 25 1,mV 25 63]))))))))) (.ops [bC 64 .add 15 1,mV 15 64]))))))) (sO [dO 2 (.mv (cB true))] .ret))⟩
theorem k108:(Bt Tryz.prog byr).fns 108=some c108:=by kernel_rfl
theorem t108:T.fns 108=some c108:=Bw k108 (by decide) (by decide)
def c111:IFunc:=⟨13,[.tmp 4],sO [dO 4 (.mv (cB false))] (sO [mV 5 0,lD 6 1,bB 7 .lss 5 6,mV 8 7,gV 9 0 8 false,gO 10 (.load none (tM 2)) 8 false,gO 11 (.bin .gtr (tM 9) (tM 10)) 8 false,dO 12 (.pick (tM 8) (cB true) (tM 11)),mV 4 12] .ret)⟩
theorem k111:(Bt Tryz.prog byr).fns 111=some c111:=by kernel_rfl
theorem t111:T.fns 111=some c111:=Bw k111 (by decide) (by decide)
def c168:IFunc:=⟨10,[.tmp 3],sO [dO 2 (.box (tM 0)),dO 3 (.mv (cB false))] (sO [dO 4 (.fieldAddr 0 (tM 1)),lD 5 4,bC 6 .sub 5 1,dO 7 (.sliceA none 2 (tM 2) none none none),dO 8 (.callF false 47 [cI 0,tM 6,tM 7]),dO 9 (.un .not (tM 8)),mV 3 9] .ret)⟩
theorem k168:(Bt Tryz.prog byr).fns 168=some c168:=by kernel_rfl
theorem t168:T.fns 168=some c168:=Bw k168 (by decide) (by decide)
def c170:IFunc:=⟨19,[.tmp 4],sO [dO 4 (.mv (cI 0))] (.seq (sO [mV 6 0,lN 7 6,dO 8 (.mv (cI 0))] (.block 0 (.loop (sO [bB 9 .lss 8 7] (.seq (.cond (tM 9) .skip (.exit 0)) (.seq (.block 1 (sO [mV 10 8,mV 5 10] (sO [mV 11 1,mV 12 0,mV 13 5,dO 14 (.indexAddr 2 (tM 12) (tM 13)),dO 15 (.load (some 2) (tM 14)),dO 16 (.call false (tM 11) [tM 15])] (.cond (tM 16) (sO [mV 17 5,mV 4 17] .ret) .skip)))) (.ops [bC 18 .add 8 1,mV 8 18]))))))) (sO [dO 4 (.mv (cI (-1)))] .ret))⟩
theorem k170:(Bt Tryz.prog byr).fns 170=some c170:=by kernel_rfl
theorem t170:T.fns 170=some c170:=Bw k170 (by decide) (by decide)
def c171:IFunc:=⟨13,[.tmp 4],sO [dO 2 (.box (tM 0)),dO 4 (.mv (.const (.slice none [] true)))] (.seq (sO [mV 6 1] (.block 0 (.rangeF (tM 6) [7] (.ops [mV 5 7]) (.block 1 (.ops [lD 8 2,mV 9 5,dO 10 (.buildSlice none [.int .i64 0] [(0,(1,tM 9))]),dO 11 (.append none 8 (tM 8) (tM 10)),eO (.store 1 (tM 2) (tM 11))]))))) (sO [lD 12 2,mV 4 12] .ret))⟩
theorem k171:(Bt Tryz.prog byr).fns 171=some c171:=by kernel_rfl
theorem t171:T.fns 171=some c171:=Bw k171 (by decide) (by decide)
def c172:IFunc:=⟨39,[],sO [lD 7 1,dO 8 (.nilCheck (tM 7)),dO 9 (.fieldAddr 0 (tM 8)),dO 10 (.fieldAddr 1 (tM 9)),lD 11 10,lN 12 11,dO 13 (.mv (cI 0))] (.block 0 (.loop (sO [bB 14 .lss 13 12] (.seq (.cond (tM 14) .skip (.exit 0)) (.seq (.block 1 (sO [mV 15 13,dO 16 (.indexAddr 2 (tM 11) (tM 13)),dO 17 (.load (some 2) (tM 16)),dO 6 (.alloc [.int .i64 0,.int .i64 0]),mV 5 15,eO (.store 2 (tM 6) (tM 17))] (sO [lD 18 2,bC 19 .lss 18 0,mV 20 19,gO 21 (.indexAddrA 2 1 (tM 6) (cI 0)) 20 false,gO 22 (.load none (tM 21)) 20 false,gO 23 (.load none (tM 2)) 20 false,gO 24 (.bin .eql (tM 22) (tM 23)) 20 false,dO 25 (.pick (tM 20) (cB true) (tM 24)),mV 26 25,gO 27 (.load none (tM 3)) 26 true,gV 28 5 26 true,gO 29 (.callF false 112 [tM 27,tM 28]) 26 true,gO 30 (.un .not (tM 29)) 26 true,dO 31 (.pick (tM 26) (tM 30) (cB false)),mV 32 31,gV 33 0 32 true,gV 34 5 32 true,gO 35 (.call true (tM 33) [tM 34]) 32 true,gO 36 (.un .not (tM 35)) 32 true,dO 37 (.pick (tM 32) (tM 36) (cB false))] (.cond (tM 37) .ret .skip)))) (.ops [bC 38 .add 13 1,mV 13 38]))))))⟩
theorem k172:(Bt Tryz.prog byr).fns 172=some c172:=by kernel_rfl
theorem t172:T.fns 172=some c172:=Bw k172 (by decide) (by decide)
def c173:IFunc:=⟨44,[.tmp 6],sO [dO 6 (.mv (cB false))] (sO [dO 7 (.alloc [.int .i64 0,.int .i64 0,.int .i64 0,.int .i64 0,.int .i64 0,.int .i64 0,.int .i64 0,.int .i64 0])] (sO [mV 11 1,dO 12 (.indexAddrA 8 1 (tM 7) (tM 11)),eO (.store 1 (tM 12) (cI 1))] (.block 0 (.loop (.block 1 (sO [dO 13 (.load (some 8) (tM 7)),dO 8 (.alloc [.int .i64 0,.int .i64 0,.int .i64 0,.int .i64 0,.int .i64 0,.int .i64 0,.int .i64 0,.int .i64 0]),eO (.store 8 (tM 8) (tM 13))] (.seq (sO [mV 14 0,dO 15 (.nilCheck (tM 14)),dO 16 (.fieldAddr 0 (tM 15)),dO 17 (.fieldAddr 1 (tM 16)),lD 18 17,lN 19 18,dO 20 (.mv (cI 0))] (.block 2 (.loop (sO [bB 21 .lss 20 19] (.seq (.cond (tM 21) .skip (.exit 2)) (.seq (.block 3 (sO [dO 22 (.indexAddr 2 (tM 18) (tM 20)),dO 23 (.load (some 2) (tM 22)),dO 10 (.alloc [.int .i64 0,.int .i64 0]),eO (.store 2 (tM 10) (tM 23))] (.ops [dO 24 (.indexAddrA 2 1 (tM 10) (cI 1)),lD 25 24,dO 26 (.indexAddrA 2 1 (tM 10) (cI 1)),lD 27 26,dO 28 (.indexAddrA 8 1 (tM 7) (tM 27)),lD 29 28,dO 30 (.indexAddrA 2 1 (tM 10) (cI 0)),lD 31 30,dO 32 (.indexAddrA 8 1 (tM 7) (tM 31)),lD 33 32,dO 34 (.max [tM 29,tM 33]),dO 35 (.indexAddrA 8 1 (tM 7) (tM 25)),eO (.store 1 (tM 35) (tM 34))]))) (.ops [bC 36 .add 20 1,mV 20 36]))))))) (sO [dO 37 (.load (some 8) (tM 8)),dO 38 (.load (some 8) (tM 7)),dO 39 (.eqAgg 8 false (tM 37) (tM 38))] (.cond (tM 39) (sO [mV 40 2,dO 41 (.indexAddrA 8 1 (tM 7) (tM 40)),lD 42 41,bC 43 .gtr 42 0,mV 6 43] .ret) .skip)))))))))⟩
theorem k173:(Bt Tryz.prog byr).fns 173=some c173:=by kernel_rfl
theorem t173:T.fns 173=some c173:=Bw k173 (by decide) (by decide)
end Go.Ev.YtgehhippjhealaaGreatC
namespace Go.Ev.YtgehhippjhealaaGreatC.P4
open Go.Ev
open Go Go.Proofs
structure Bk where
 notes:Int
 slurs:List (Int×Int)
def pA (p:Int×Int):AV:=.agg [.int .i64 p.1,.int .i64 p.2]
abbrev prs (l:List (Int×Int)):AV:=.slice (some 2) (l.map pA) false
abbrev bkA (b:Bk):AV:=.agg [.int .i64 b.notes,prs b.slurs]
abbrev Ej (l:List Int):AV:=.slice none (l.map (.int .i64)) false
end Go.Ev.YtgehhippjhealaaGreatC.P4
namespace Go.Ev.YtgehhippjhealaaGreatC.P4
open Go.Ev
open Go Go.Proofs
def A3v (g:Option Nat) (n:Nat) (h:Bc):AV->Res AV
 | .optr k ver off =>
  match Bb h k with
  | .cells v cs=>if v=ver/\off+n*Bf g<=cs.length then .ret (.oslice k ver g off n (some n)) else .fail
  | _ => .fail
 | .ptr cells off=>if off+n*Bf g<=cells.length then .ret (.slice g (Ee g n ((cells.drop off).take (n*Bf g))) false) else .fail
 | _ => .fail
theorem Aks {call:Bo} {base:Nat} {Q:EX×St->Prop} {ks:List Kont} {e:Env} {h:Bc} {l:List IOper} {d:Option Nat} (g:Option Nat) (n:Nat) (x:IX):GO call base Q (⟨d,.sliceA g n x none none none,none⟩::l) ks ⟨e,h⟩=GV call base Q d l ks e h (A3v g n h (x.ev e)):=by
 rw [Dn]
 simp only [Bh,GV,A3v]
 cases x.ev e with
 | optr k ver off =>
  simp only
  cases Bb h k with
  | cells v cs =>
   simp only
   split
   ·simp [sliceB,Res.bind,Res.all]
   ·rfl
  | _=>rfl
 | ptr cells off =>
  simp only
  split
  ·simp [sliceB,Res.bind,Res.all]
  ·rfl
 | _=>rfl
attribute [go_sem] Aks
attribute [local irreducible] Res.all evC Dd Df Br Bh Dj Bd Bi G GO GV GP GC R
theorem Arg {k f:Nat} {first cap:List AV} {p:Int->Bool} (xs:List Int) (hl:xs.length<=1000) (hc:∀x∈xs,Con T k f (first++[.int .i64 x]++cap) (.bool (p x))) (hz:∀h x,fz h (first++[.int .i64 x]++cap) = .ret (first++[.int .i64 x]++cap)) :
  Con T (k+1) 176 [Ej xs,.clo f first cap] (.int .i64 (Iw p xs 0)):=by
 refine Bu t176 fun n hn V hV => ?_
 simp (disch:=first | assumption | omega) only [c176,go_sem,↓reduceIte]
 refine Da (fun M s=>∃k:Nat,M=xs.length-k/\k<=xs.length/\At s.env [(0,Ej xs),(1,.clo f first cap),(7,.int .i64 xs.length),(8,.int .i64 k)]/\Iw p xs 0=Iw p (xs.drop k) k) xs.length (by omega) ⟨0,by simp,by omega,by simp [go_sem,↓reduceIte],rfl⟩ ?_
 rintro M e h hM ⟨k,rfl,hk,hE,hA⟩ P hP
 simp only [Bp,Bx] at hE
 obtain ⟨h0,h1,h7,h8,-⟩:=hE
 by_cases hlt:k<xs.length
 ·obtain ⟨y,hy⟩:=Fm hlt
  rw [Fy hy,Iw] at hA
  simp (disch:=first | assumption | omega) only [go_sem,↓reduceIte,h0,h1,h7,h8,hlt,hy]
  refine Do (hc y (List.mem_of_getElem? hy)) hn (hz _ _) (Fn _ _) ?_
  by_cases hp:p y=true
  ·simp (disch:=first | assumption | omega) only [go_sem,↓reduceIte,h0,h1,h7,h8,hp]
   exact hV _ _ (by rw [Bl,hA,if_pos hp])
  ·simp (disch:=first | assumption | omega) only [go_sem,↓reduceIte,h0,h1,h7,h8,hp]
   exact hP (xs.length-(k+1)) _ (by omega) ⟨k+1,rfl,by omega,by simp only [go_sem,↓reduceIte,h0,h1,h7],by rw [hA,if_neg hp]; rfl⟩
 ·simp (disch:=first | assumption | omega) only [go_sem,↓reduceIte,h0,h1,h7,h8,hlt]
  exact hV _ _ (by rw [Bl,hA,List.drop_eq_nil_of_le (by omega)]; rfl)
theorem Arz {k f:Nat} {first cap:List AV} {p:Int->Bool} (xs:List Int) (hl:xs.length<=1000) (hc:∀x∈xs,Con T k f (first++[.int .i64 x]++cap) (.bool (p x))) (hz:∀h x,fz h (first++[.int .i64 x]++cap) = .ret (first++[.int .i64 x]++cap))
  (hf:∀h,Bi h 8 (.clo f first cap) = .ret (.clo f first cap)):Con T (k+2) 110 [Ej xs,.clo f first cap] (.bool (xs.any p)):=by
 refine Bu t110 fun n hn V hV => ?_
 simp (disch:=first | assumption | omega) only [c110,go_sem,↓reduceIte]
 refine Do (Arg xs hl hc hz) hn (Dm _ _ _ _ (Bv (hf _) (Bz _))) (Ga _ _ _) ?_
 simp (disch:=first | assumption | omega) only [go_sem,↓reduceIte,Qs]
 exact hV _ _ (Dk _ _ _)
theorem Aes (x lo hi:Int):Con T 1 111 ([]++[.int .i64 x]++[.ptr [.int .i64 lo] 0,.ptr [.int .i64 hi] 0]) (.bool (decide (x<lo)||decide (x>hi))):=by
 refine Bu t111 fun n hn V hV => ?_
 by_cases g1:x<lo
 ·simp (disch:=first | assumption | omega) only [c111,go_sem,↓reduceIte,g1,List.cons_append]
  refine hV _ _ ?_
  simp [g1,Dk]
 ·simp (disch:=first | assumption | omega) only [c111,go_sem,↓reduceIte,g1,List.cons_append]
  refine hV _ _ ?_
  simp [g1,Dk]
def Qh (lo hi:Int) (xs:List Int):Bool:=!xs.any fun x=>decide (x<lo)||decide (x>hi)
theorem A4m (lo hi:Int) (xs:List Int) (hl:xs.length<=1000):Con T 4 47 [.int .i64 lo,.int .i64 hi,Ej xs] (.bool (Qh lo hi xs)):=by
 refine Bu t47 fun n hn V hV => ?_
 simp (disch:=first | assumption | omega) only [c47,go_sem,↓reduceIte]
 refine Do (Arz (p:=fun x=>decide (x<lo)||decide (x>hi)) xs hl (fun x _=>Aes x lo hi) (fun h x => ?_) (fun h => ?_)) hn (Dm _ _ _ _ (Bv (Gj (Db _ _) (Bn (Dz (cs:=[.int .i64 lo]) (by simp [go_sem,↓reduceIte]) (Bn (Bl _ _ _ _) (Db _ _))) (Bn (Dz (cs:=[.int .i64 hi]) (by simp [go_sem,↓reduceIte]) (Bn (Bl _ _ _ _) (Db _ _))) (Db _ _)))) (Bz _))) (Fn _ _) ?_
 ·exact Fa _ _ _ (Bv (Eg _ _ _ _) (Bv (Eg _ _ _ _) (Bz _)))
 ·exact Gj (Db _ _) (Bn (Eg _ _ _ _) (Bn (Eg _ _ _ _) (Db _ _)))
 simp (disch:=first | assumption | omega) only [go_sem,↓reduceIte]
 exact hV _ _ (Dk _ _ _)
section
variable {n base:Nat} {Q:EX×St->Prop} {d:Option Nat} {L:List IOper} {ks:List Kont} {e:Env} {h:Bc}
theorem Ann {lo hi:Int} {xs:List Int} {x:Bool} (hn:4<=n) (hl:xs.length<=1000) :
  GP (Bd T n) base Q d L ks e (Bd T n false (.fn 47) [.int .i64 lo,.int .i64 hi,.slice none (xs.map (.int .i64)) x] h)=GO (Bd T n) base Q L ks ⟨Bj e d (.bool (Qh lo hi xs)),h⟩:=
 Ey (A4m lo hi xs hl) hn (by repeat (first | exact Bz _ | refine Dm _ _ _ _ ?_ | refine Fa _ _ _ ?_)) rfl
theorem Fp {lo hi a:Int} {x:Bool} (hn:4<=n) :
  GP (Bd T n) base Q d L ks e (Bd T n false (.fn 47) [.int .i64 lo,.int .i64 hi,.slice none [.int .i64 a] x] h)=GO (Bd T n) base Q L ks ⟨Bj e d (.bool (!(decide (a<lo)||decide (a>hi)))),h⟩:=by
 have:=Ann (base:=base) (Q:=Q) (d:=d) (L:=L) (ks:=ks) (e:=e) (h:=h) (lo:=lo) (hi:=hi) (xs:=[a]) (x:=x) hn (by simp)
 rw [show Qh lo hi [a]=(!(decide (a<lo)||decide (a>hi))) by simp [Qh]] at this
 exact this
end
def Fj (x:Int):List Int->Int->Int
 | [],_ => -1
 | y::r,i=>if y=x then i else Fj x r (i+1)
def Hu (l:List Int) (x:Int):Int:=Fj x l 0
theorem Kw (x:Int):∀(l:List Int) (i:Int),0<=i->(Fj x l i>=0↔x∈l)
 | [],i,_=>by simp [Fj]
 | y::r,i,hi=>by
  unfold Fj
  split
  ·next h=>simp [h,hi]
  ·next h=>rw [Kw x r (i+1) (by omega),List.mem_cons]; exact ⟨.inr,fun h'=>h'.resolve_left fun e=>h e.symm⟩
theorem Aif (l:List Int) (x:Int) (hl:l.length<=1000):Con T 1 43 [Ej l,.int .i64 x] (.int .i64 (Hu l x)):=by
 refine Bu t43 fun n hn V hV => ?_
 simp (disch:=first | assumption | omega) only [c43,go_sem,↓reduceIte]
 refine Da (fun M s=>∃k:Nat,M=l.length-k/\k<=l.length/\At s.env [(0,Ej l),(1,.int .i64 x),(7,.int .i64 l.length),(8,.int .i64 k)]/\Hu l x=Fj x (l.drop k) k) l.length (by omega) ⟨0,by simp,by omega,by simp [go_sem,↓reduceIte],rfl⟩ ?_
 rintro M e h hM ⟨k,rfl,hk,hE,hA⟩ P hP
 simp only [Bp,Bx] at hE
 obtain ⟨h0,h1,h7,h8,-⟩:=hE
 by_cases hlt:k<l.length
 ·obtain ⟨y,hy⟩:=Fm hlt
  rw [Fy hy,Fj] at hA
  by_cases hxy:y=x
  ·subst hxy
   simp (disch:=first | assumption | omega) only [go_sem,↓reduceIte,h0,h1,h7,h8,hlt,hy,beq_self_eq_true]
   exact hV _ _ (by rw [Bl,hA,if_pos rfl])
  ·have hb:(x==y)=false:=by simpa using fun h=>hxy h.symm
   simp (disch:=first | assumption | omega) only [go_sem,↓reduceIte,h0,h1,h7,h8,hlt,hy,hb]
   exact hP (l.length-(k+1)) _ (by omega) ⟨k+1,rfl,by omega,by simp only [go_sem,↓reduceIte,h0,h1,h7],by rw [hA,if_neg hxy]; rfl⟩
 ·simp (disch:=first | assumption | omega) only [go_sem,↓reduceIte,h0,h1,h7,h8,hlt]
  exact hV _ _ (by rw [Bl,hA,List.drop_eq_nil_of_le (by omega)]; rfl)
theorem A5v (l:List Int) (x:Int) (hl:l.length<=1000):Con T 2 112 [Ej l,.int .i64 x] (.bool (l.contains x)):=by
 refine Bu t112 fun n hn V hV => ?_
 simp (disch:=first | assumption | omega) only [c112,go_sem,↓reduceIte]
 refine Do (Aif l x hl) hn (by repeat (first | exact Bz _ | refine Dm _ _ _ _ ?_ | refine Fa _ _ _ ?_)) (Ga _ _ _) ?_
 have hp:decide (Hu l x>=0)=l.contains x:=by
  rw [Bool.eq_iff_iff]
  simp [Hu,Kw]
 simp (disch:=first | assumption | omega) only [go_sem,↓reduceIte,hp]
 exact hV _ _ (Dk _ _ _)
theorem Mi {n base:Nat} {Q:EX×St->Prop} {d:Option Nat} {L:List IOper} {ks:List Kont} {e:Env} {h:Bc} {l:List Int} {x:Bool} {y:Int} (hn:2<=n) (hl:l.length<=1000):GP (Bd T n) base Q d L ks e (Bd T n false (.fn 112) [.slice none (l.map (.int .i64)) x,.int .i64 y] h)=GO (Bd T n) base Q L ks ⟨Bj e d (.bool (l.contains y)),h⟩:=
 Ey (A5v l y hl) hn (by repeat (first | exact Bz _ | refine Dm _ _ _ _ ?_ | refine Fa _ _ _ ?_)) rfl
theorem Ath {k f:Nat} {first cap:List AV} {p:Int×Int->Bool} (xs:List (Int×Int)) (hl:xs.length<=1000) (hc:∀x∈xs,Con T k f (first++[pA x]++cap) (.bool (p x))) (hz:∀h x,fz h (first++[pA x]++cap) = .ret (first++[pA x]++cap)) :
  Con T (k+1) 170 [prs xs,.clo f first cap] (.int .i64 (Iw p xs 0)):=by
 refine Bu t170 fun n hn V hV => ?_
 simp (disch:=first | assumption | omega) only [c170,go_sem,↓reduceIte]
 refine Da (fun M s=>∃k:Nat,M=xs.length-k/\k<=xs.length/\At s.env [(0,prs xs),(1,.clo f first cap),(7,.int .i64 xs.length),(8,.int .i64 k)]/\Iw p xs 0=Iw p (xs.drop k) k) xs.length (by omega) ⟨0,by simp,by omega,by simp [go_sem,↓reduceIte],rfl⟩ ?_
 rintro M e h hM ⟨k,rfl,hk,hE,hA⟩ P hP
 simp only [Bp,Bx] at hE
 obtain ⟨h0,h1,h7,h8,-⟩:=hE
 by_cases hlt:k<xs.length
 ·obtain ⟨y,hy⟩:=Fm hlt
  rw [Fy hy,Iw] at hA
  simp (disch:=first | assumption | omega) only [go_sem,↓reduceIte,h0,h1,h7,h8,hlt,hy,pA]
  refine Do (hc y (List.mem_of_getElem? hy)) hn (hz _ _) (Fn _ _) ?_
  by_cases hp:p y=true
  ·simp (disch:=first | assumption | omega) only [go_sem,↓reduceIte,h0,h1,h7,h8,hp]
   exact hV _ _ (by rw [Bl,hA,if_pos hp])
  ·simp (disch:=first | assumption | omega) only [go_sem,↓reduceIte,h0,h1,h7,h8,hp]
   exact hP (xs.length-(k+1)) _ (by omega) ⟨k+1,rfl,by omega,by simp only [go_sem,↓reduceIte,h0,h1,h7],by rw [hA,if_neg hp]; rfl⟩
 ·simp (disch:=first | assumption | omega) only [go_sem,↓reduceIte,h0,h1,h7,h8,hlt]
  exact hV _ _ (by rw [Bl,hA,List.drop_eq_nil_of_le (by omega)]; rfl)
theorem A9o {k f:Nat} {first cap:List AV} {p:Int×Int->Bool} (xs:List (Int×Int)) (hl:xs.length<=1000) (hc:∀x∈xs,Con T k f (first++[pA x]++cap) (.bool (p x))) (hz:∀h x,fz h (first++[pA x]++cap) = .ret (first++[pA x]++cap))
  (hf:∀h,Bi h 8 (.clo f first cap) = .ret (.clo f first cap)):Con T (k+2) 100 [prs xs,.clo f first cap] (.bool (xs.any p)):=by
 refine Bu t100 fun n hn V hV => ?_
 simp (disch:=first | assumption | omega) only [c100,go_sem,↓reduceIte]
 refine Do (Ath xs hl hc hz) hn (Dm _ _ _ _ (Bv (hf _) (Bz _))) (Ga _ _ _) ?_
 simp (disch:=first | assumption | omega) only [go_sem,↓reduceIte,Qs]
 exact hV _ _ (Dk _ _ _)
theorem Als (h:Bc) (p:Int×Int) (n:Nat):Bi h (n+2) (pA p) = .ret (pA p):=Fv (Bn (Bl _ _ _ _) (Bn (Bl _ _ _ _) (Db _ _)))
def A8z (N:Int) (x:Int):Bool:=decide (0<=x)&&decide (x<N)
def Qy (N:Int) (p:Int×Int):Bool:=!(A8z N p.1&&A8z N p.2)
def Zf (b:Bk):Int:=
 if b.notes<1\/b.notes>8\/b.slurs.length<1\/b.slurs.length>14 then 6 else if b.slurs.any (Qy b.notes) then 2 else 0
theorem Ane (N:Int) (l:List (Int×Int)) (p:Int×Int) (h1:1<=N) (h8:N<=8):Con T 5 168 ([]++[pA p]++[.ptr [.int .i64 N,prs l] 0]) (.bool (Qy N p)):=by
 refine Bu t168 fun n hn V hV => ?_
 simp (disch:=first | assumption | omega) only [c168,go_sem,↓reduceIte,pA,List.cons_append,List.nil_append,A3v,Bf,List.length_cons,List.length_nil,Nat.zero_add,Nat.le_refl,and_self]
 refine Do (A4m 0 (N-1) [p.1,p.2] (by simp)) hn (Fa _ _ _ (Fa _ _ _ (Bv (Ii (l:=[p.1,p.2]) (by simp only [go_sem,↓reduceIte]) rfl) (Bz _)))) (Fn _ _) ?_
 simp (disch:=first | assumption | omega) only [go_sem,↓reduceIte]
 refine hV _ _ ?_
 rw [Dk]
 congr 2
 rw [Bool.eq_iff_iff]
 simp [Qh,Qy,A8z]
 omega
theorem Wm (b:Bk) (hl:b.slurs.length<=20):Con T 9 98 [bkA b] (.int .i64 (Zf b)):=by
 refine Bu t98 fun n hn V hV => ?_
 by_cases g1:b.notes<1\/b.notes>8
 ·have hb:(!(decide (b.notes<1)||decide (b.notes>8)))=false:=by
   rcases g1 with g | g <;> simp [g]
  simp (disch:=first | assumption | omega) only [c98,go_sem,↓reduceIte,Fp,hb,Bool.not_false]
  refine hV _ _ ?_
  rw [Bl,Zf,if_pos (by omega)]
 ·have hb:(!(decide (b.notes<1)||decide (b.notes>8)))=true:=by simp; omega
  by_cases g2:b.slurs.length<1\/b.slurs.length>14
  ·have hb2:(!(decide ((b.slurs.length:Int)<1)||decide ((b.slurs.length:Int)>14)))=false:=by
    rw [Bool.not_eq_false']
    simp
    omega
   simp (disch:=first | assumption | omega) only [c98,go_sem,↓reduceIte,Fp,hb,hb2,Bool.not_false,Bool.not_true]
   refine hV _ _ ?_
   rw [Bl,Zf,if_pos (by omega)]
  ·have hb2:(!(decide ((b.slurs.length:Int)<1)||decide ((b.slurs.length:Int)>14)))=true:=by simp; omega
   simp (disch:=first | assumption | omega) only [c98,go_sem,↓reduceIte,Fp,hb,hb2,Bool.not_false,Bool.not_true]
   have hfz:∀h:Bc,Bb h 1 = .cells 0 [.int .i64 b.notes,prs b.slurs]->Bi h 8 (.clo 168 [] [.optr 1 0 0]) = .ret (.clo 168 [] [.ptr [.int .i64 b.notes,prs b.slurs] 0]):=fun h hh =>
    Gj (Db _ _) (Bn (Dz hh (Bn (Bl _ _ _ _) (Bn (Ds _ _ _ _ _) (Db _ _)))) (Db _ _))
   refine Do (A9o (p:=Qy b.notes) b.slurs (by omega) (fun x _=>Ane b.notes b.slurs x (by omega) (by omega)) (fun h x=>Bv (Als _ _ _) (Bv (Eg _ _ _ _) (Bz _))) (fun h=>Gj (Db _ _) (Bn (Eg _ _ _ _) (Db _ _)))) (by omega) (Dm _ _ _ _ (Bv (hfz _ (by simp only [go_sem,↓reduceIte])) (Bz _))) (Fn _ _) ?_
   by_cases ha:b.slurs.any (Qy b.notes)=true
   ·simp (disch:=first | assumption | omega) only [go_sem,↓reduceIte,ha]
    refine hV _ _ ?_
    rw [Bl,Zf,if_neg (by omega),if_pos ha]
   ·have ha':b.slurs.any (Qy b.notes)=false:=by simpa using ha
    simp (disch:=first | assumption | omega) only [go_sem,↓reduceIte,ha',Bool.false_eq_true]
    refine hV _ _ ?_
    rw [Bl,Zf,if_neg (by omega),if_neg ha]
theorem Abc {n base:Nat} {Q:EX×St->Prop} {d:Option Nat} {L:List IOper} {ks:List Kont} {e:Env} {h:Bc} {b:Bk} {x:Bool} (hn:9<=n) (hl:b.slurs.length<=20):GP (Bd T n) base Q d L ks e (Bd T n false (.fn 98) [.agg [.int .i64 b.notes,.slice (some 2) (b.slurs.map pA) x]] h)=GO (Bd T n) base Q L ks ⟨Bj e d (.int .i64 (Zf b)),h⟩:=
 Ey (Wm b hl) hn (Bv (Fv (Bn (Bl _ _ _ _) (Bn (Ds _ _ _ _ _) (Db _ _)))) (Bz _)) (Ga _ _ _)
open Go Go.Proofs Go.Ev
def sur (es:List Ed) (x:Nat):Int:=(od es x:Nat)-(idg es x:Nat)
def sr8 (s:Nat->Int):List AV:=(List.range 8).map fun v => .int .i64 (s v)
def stC (N:Int) (sv:AV) (s:Nat->Int) (p:AV):List AV:=.int .i64 N::sv::(sr8 s++[p])
theorem Ge (s:Nat->Int):(sr8 s).length=8:=by simp [sr8]
theorem A0i (s:Nat->Int) {v:Nat} (h:v<8):(sr8 s)[v]? = some (.int .i64 (s v)):=Gy 8 v _ h
theorem Ql (N:Int) (sv:AV) (s:Nat->Int) (p:AV):(stC N sv s p).length=11:=by simp [stC,Ge]
theorem Aui (N:Int) (sv:AV) (s:Nat->Int) (p:AV):(stC N sv s p)[0]? = some (.int .i64 N):=rfl
theorem Gl (N:Int) (sv:AV) (s:Nat->Int) (p:AV):(stC N sv s p)[1]? = some sv:=rfl
theorem Zx (N:Int) (sv:AV) (s:Nat->Int) (p:AV):((stC N sv s p).drop 2).take 8=sr8 s:=by
 unfold stC
 simp only [List.drop_succ_cons,List.drop_zero]
 rw [List.take_append_of_le_length (by rw [Ge]; exact Nat.le_refl _),List.take_of_length_le (by rw [Ge]; exact Nat.le_refl _)]
theorem A0t (N:Int) (sv:AV) (s:Nat->Int) (p:AV) {v:Nat} (h:v<8):(stC N sv s p)[2+v]? = some (.int .i64 (s v)):=by
 unfold stC
 rw [show 2+v=v+1+1 by omega,List.getElem?_cons_succ,List.getElem?_cons_succ,List.getElem?_append_left (by rw [Ge]; exact h),A0i s h]
theorem B2l (N:Int) (sv:AV) (s:Nat->Int) (p:AV) {v:Nat} (h:v<8):rd none (stC N sv s p) (2+v) = .ret (.int .i64 (s v)):=by
 simp only [rd,A0t N sv s p h]; rfl
theorem Ayc (N:Int) (sv:AV) (s:Nat->Int) (p:AV) {v:Nat} (h:v<8) (a:Int):(stC N sv s p).set (2+v) (.int .i64 a)=stC N sv (fun y=>if y=v then a else s y) p:=by
 unfold stC
 rw [show 2+v=v+1+1 by omega,List.set_cons_succ,List.set_cons_succ,List.set_append_left _ _ (by rw [Ge]; exact h)]
 congr 3
 unfold sr8
 rw [Ls]
 apply List.map_congr_left
 intro b _
 show _=AV.int .i64 (if b=v then a else s b)
 split <;> rfl
theorem Axc (h:Bc) (n:Nat) (s:Nat->Int) (p p':AV) (hp:Bi h (n+1) p = .ret p'):mapR (Bi h (n+1)) (sr8 s++[p]) = .ret (sr8 s++[p']):=by
 unfold sr8
 generalize List.range 8=l
 induction l with
 | nil=>exact Bn hp (Db _ _)
 | cons a r ih=>exact Bn (Bl _ _ _ _) ih
theorem A5j {h:Bc} {n:Nat} {N:Int} {sv sv':AV} (s:Nat->Int) {p p':AV} (hs:Bi h (n+1) sv = .ret sv') (hp:Bi h (n+1) p = .ret p'):mapR (Bi h (n+1)) (stC N sv s p) = .ret (stC N sv' s p'):=
 Bn (Bl _ _ _ _) (Bn hs (Axc _ _ _ _ _ hp))
def Fq (es:List Ed):List AV:=es.flatMap fun q=>[.int .i64 q.1,.int .i64 q.2]
theorem A9e (es:List Ed):(Fq es).length=es.length*2:=by
 induction es with
 | nil=>rfl
 | cons q r ih=>simp only [Fq,List.flatMap_cons,List.length_append,List.length_cons,List.length_nil] at ih ⊢; omega
theorem Abx {es:List Ed} {i:Nat} (h:i<es.length):(Fq es)[i*2]? = some (.int .i64 es[i].1)/\(Fq es)[i*2+1]? = some (.int .i64 es[i].2):=by
 induction es generalizing i with
 | nil=>simp at h
 | cons q r ih =>
  cases i with
  | zero=>simp [Fq]
  | succ i =>
   have:=ih (i:=i) (by simpa using h)
   have e1:(i+1)*2=i*2+1+1:=by omega
   simp only [Fq,List.flatMap_cons,List.cons_append,List.nil_append,e1,List.getElem?_cons_succ,List.getElem_cons_succ] at this ⊢
   exact this
def SlP (h:Bc) (sv:AV) (es:List Ed):Prop:=(∃x,sv = .slice (some 2) (es.map edA) x)\/∃key ver c,sv = .oslice key ver (some 2) 0 es.length c/\Bb h key = .cells ver (Fq es)
theorem SlP.rd {h:Bc} {sv:AV} {es:List Ed} (hs:SlP h sv es) {i:Nat} (hi:i<es.length):∃a,ixA 2 sv i = .ret a/\ldA (some 2) h a = .ret (edA es[i]):=by
 rcases hs with ⟨x,rfl⟩ | ⟨key,ver,c,rfl,hH⟩
 ·have:(es.map edA)[i]? = some (edA es[i]):=by rw [List.getElem?_map,List.getElem?_eq_getElem hi]; rfl
  exact ⟨.ptr (edA es[i]).cells 0,by simp only [A6q,Bf,if_true,this],rfl⟩
 ·obtain ⟨g1,g2⟩:=Abx hi
  refine ⟨.optr key ver (0+i*2),by simp only [A3m,Bf,hi,and_self,if_true],?_⟩
  have hl:=A9e es
  simp only [Acp,hH,if_true,Go.Ev.rd,Nat.zero_add,Bf]
  have:((Fq es).drop (i*2)).take 2=[.int .i64 es[i].1,.int .i64 es[i].2]:=by
   apply List.ext_getElem?
   intro j
   rw [List.getElem?_take]
   by_cases hj:j<2
   ·rw [if_pos hj,List.getElem?_drop]
    have:j=0\/j=1:=by omega
    rcases this with rfl | rfl
    ·simpa using g1
    ·simpa using g2
   ·rw [if_neg hj,List.getElem?_eq_none (by simp; omega)]
  rw [this]
  rw [if_pos (by omega)]
  rfl
theorem SlP.other {h h':Bc} {sv:AV} {es:List Ed} (hs:SlP h sv es) (hf:∀j,Ea sv=some j->Bb h' j=Bb h j):SlP h' sv es:=by
 rcases hs with h1 | ⟨key,ver,c,rfl,hH⟩
 ·exact .inl h1
 ·exact .inr ⟨key,ver,c,rfl,by rw [hf key rfl,hH]⟩
theorem SlP.len {h:Bc} {sv:AV} {es:List Ed} (hs:SlP h sv es):lenA sv=some es.length:=by
 rcases hs with ⟨x,rfl⟩ | ⟨key,ver,c,rfl,hH⟩
 ·simp [lenA]
 ·rfl
theorem SlP.one {h:Bc} {sv:AV} {es:List Ed} (hs:SlP h sv es):oneB sv=true:=by
 rcases hs with ⟨x,rfl⟩ | ⟨key,ver,c,rfl,hH⟩ <;> rfl
theorem SlP.cells {h:Bc} {sv:AV} {es:List Ed} (hs:SlP h sv es):sv.cells=[sv]:=by
 rcases hs with ⟨x,rfl⟩ | ⟨key,ver,c,rfl,hH⟩ <;> rfl
theorem Atf {es:List Ed} {i:Nat} (hi:i<es.length) (y:Nat):sur (es.take (i+1)) y=sur (es.take i) y+(if y=es[i].1 then 1 else 0)-(if y=es[i].2 then 1 else 0):=by
 have h1:od (es.take (i+1)) y=od (es.take i) y+if es[i].1=y then 1 else 0:=by
  simp only [od,List.take_succ_eq_append_getElem hi,List.countP_append,List.countP_singleton,beq_iff_eq]
 have h2:idg (es.take (i+1)) y=idg (es.take i) y+if es[i].2=y then 1 else 0:=by
  simp only [idg,List.take_succ_eq_append_getElem hi,List.countP_append,List.countP_singleton,beq_iff_eq]
 unfold sur
 rw [h1,h2]
 have e1:(y=es[i].1)=(es[i].1=y):=propext ⟨Eq.symm,Eq.symm⟩
 have e2:(y=es[i].2)=(es[i].2=y):=propext ⟨Eq.symm,Eq.symm⟩
 simp only [e1,e2]
 split <;> split <;> omega
theorem Aga (es:List Ed) (y:Nat) : -(es.length:Int)<=sur es y/\sur es y<=es.length:=by
 have h1:od es y<=es.length:=List.countP_le_length
 have h2:idg es y<=es.length:=List.countP_le_length
 unfold sur; omega
theorem Lh (h:Bc) (n k:Nat):Bb (h++List.replicate n .none) (h.length+k) = .none:=by
 rw [Bg]
 exact Ef _ _ (by omega)
def zer (m:Nat):List AV:=List.replicate m (.int .i64 0)
def Arr (N:Int) (sv:AV) (es:List Ed) (h:Bc) (v:AV) (h':Bc):Prop:=
 v = .optr (h.length+12) 0 0/\Bb h' (h.length+12) = .cells 0 (stC N sv (sur es) (.oslice (h.length+51) 0 none 0 es.length (some es.length)))/\Bb h' (h.length+51) = .cells 0 (zer es.length)/\(∀j,j<h.length->Bb h' j=Bb h j)/\h'.length=h.length+52
set_option maxHeartbeats 1000000 in
theorem A0m (N:Int) (es:List Ed) (hl:es.length<=20) (hn:∀q∈es,q.1<8/\q.2<8) (sv:AV) (h0:Bc) (hs:SlP h0 sv es) (hk:∀j,Ea sv=some j->j<h0.length) (n:Nat) (hn1:1<=n) {V:AV×Bc->Prop} (hV:∀v h',Arr N sv es h0 v h'->V (v,h')) :
  (Bd T n true (.fn 44) [.agg [.int .i64 N,sv]] h0).all V:=by
 obtain ⟨n,rfl⟩:∃n',n=n'+1:=⟨n-1,by omega⟩
 rw [Dt t44]
 have hn1:=Lh h0 51 1
 have hn12:=Lh h0 51 12
 have hn51:=Lh h0 51 51
 have hroom:Fl es.length 8=true:=If (by omega)
 have hspl:∀p:AV,Dr [AV.int IntKind.i64 N,sv,AV.int IntKind.i64 0,AV.int IntKind.i64 0,AV.int IntKind.i64 0,AV.int IntKind.i64 0,AV.int IntKind.i64 0,AV.int IntKind.i64 0,AV.int IntKind.i64 0,AV.int IntKind.i64 0,p] 2 (List.replicate 8 (AV.int IntKind.i64 0))=stC N sv (fun _=>0) p:=fun _=>rfl
 have hflat:(List.replicate es.length [AV.int IntKind.i64 0]).flatten=zer es.length:=by unfold zer; simp
 have hm1:∀n,n<=n:=fun n=>Nat.le_refl n
 simp (disch:=first | assumption | omega) only [c44,go_sem,↓reduceIte,hn1,hn12,hn51,next_none,hs.len,hs.one,hs.cells,hroom,A3v,Bf,clA,hspl,hflat,Gl,Ql]
 have hlh:(h0++List.replicate 51 AObj.none).length=h0.length+51:=by simp
 refine Da (fun M st=>∃i:Nat,M=es.length-i/\i<=es.length/\At st.env [(3,.optr (h0.length+12) 0 0),(21,sv),(22,.int .i64 es.length),(23,.int .i64 i)]/\
   Bb st.heap (h0.length+12) = .cells 0 (stC N sv (sur (es.take i)) (.oslice (h0.length+51) 0 none 0 es.length (some es.length)))/\Bb st.heap (h0.length+51) = .cells 0 (zer es.length)/\(∀j,j<h0.length->Bb st.heap j=Bb h0 j)/\st.heap.length=h0.length+52) es.length (by omega)
  ⟨0,by omega,by omega,by simp only [go_sem,↓reduceIte],?_,?_,fun j hj => ?_,by simp only [Be,hlh]; omega⟩ ?_
 ·simp only [go_sem,↓reduceIte]; rfl
 ·rw [Ba _ _ _ _ (by omega),Ba _ _ _ _ (by omega),getH_setH_self]
 ·rw [Ba _ _ _ _ (by omega),Ba _ _ _ _ (by omega),Ba _ _ _ _ (by omega),Ba _ _ _ _ (by omega),Bg]
 rintro M e h hM ⟨i,rfl,hi,hE,g12,g51,hF,hhl⟩ P hP
 simp only [Bp,Bx] at hE g12 g51 hF hhl
 obtain ⟨f3,f21,f22,f23,-⟩:=hE
 by_cases hlt:i<es.length
 ·have hq:=hn _ (List.getElem_mem hlt)
  obtain ⟨a,ha1,ha2⟩:=(hs.other (h':=h) fun j hj=>hF j (hk j hj)).rd hlt
  have hst:=Atf hlt
  have hb:=Aga (es.take i)
  have htl:(es.take i).length<=20:=by rw [List.length_take]; omega
  generalize hqd:es[i]=q at *
  obtain ⟨qa,qb⟩:=q
  simp only at hq hst
  obtain ⟨hq1,hq2⟩:=hq
  have n5:¬(h0.length+5=h0.length+12):=by omega
  have hba:=hb qa
  have hbb:=hb qb
  simp only [edA] at ha2
  simp (disch:=first | assumption | omega) only [go_sem,↓reduceIte,f3,f21,f22,f23,hlt,ha1,ha2,g12,n5,hq1,hq2,Ql,A0t,Ayc,B2l]
  refine ⟨by omega,by omega,?_⟩
  refine hP (es.length-(i+1)) _ (by omega) ⟨i+1,rfl,by omega,by simp only [go_sem,↓reduceIte,f3,f21,f22],?_,?_,fun j hj => ?_,by simp only [Be]; omega⟩
  ·rw [getH_setH_self]
   congr 2
   funext y
   rw [hst]
   by_cases h1:y=qb
   ·subst h1
    simp only [if_true]
    by_cases h2:y=qa
    ·subst h2
     simp only [if_true]
    ·simp only [if_neg h2]; omega
   ·rw [if_neg h1,if_neg h1]
    split
    ·next h2=>subst h2; omega
    ·omega
  ·rw [Ba _ _ _ _ (by omega),Ba _ _ _ _ (by omega),Ba _ _ _ _ (by omega),Ba _ _ _ _ (by omega)]; exact g51
  ·rw [Ba _ _ _ _ (by omega),Ba _ _ _ _ (by omega),Ba _ _ _ _ (by omega),Ba _ _ _ _ (by omega)]; exact hF j hj
 ·obtain rfl:i=es.length:=by omega
  rw [List.take_length] at g12
  simp (disch:=first | assumption | omega) only [go_sem,↓reduceIte,f3,f21,f22,f23,hlt]
  exact hV _ _ ⟨rfl,g12,g51,hF,hhl⟩
abbrev eds (es:List Ed):AV:=.slice (some 2) (es.map edA) false
abbrev stA (N:Int) (es:List Ed) (s:Nat->Int) (p:AV):AV:=.ptr (stC N (eds es) s p) 0
theorem Ih (h:Bc) (n:Nat) (N:Int) (es:List Ed) (s:Nat->Int) (p:AV):Bi h (n+1) (stA N es s p) = .ret (stA N es s p):=Eg _ _ _ _
theorem Jw {es:List Ed} {i:Nat} (h:i<es.length):(es.map edA)[i]? = some (edA es[i]):=by rw [List.getElem?_map,List.getElem?_eq_getElem h]; rfl
def Es (l:List Int) (x:Nat):Bool:=l.contains (x:Int)
def apB (es:List Ed) (l:List Int):Bool:=es.all (fun e=>Es l e.1==Es l e.2)&&(decide (1<=es.countP fun e=>Es l e.1)&&decide ((es.countP fun e=>Es l e.1)+1<=es.length))
theorem Rs {es:List Ed} {p:Ed->Bool} {i:Nat} (h:i<es.length):(es.take (i+1)).all p=((es.take i).all p&&p es[i]):=by
 rw [List.take_succ_eq_append_getElem h,List.all_append]; simp
set_option maxHeartbeats 1000000 in
theorem Aoq (N:Int) (es:List Ed) (s:Nat->Int) (p:AV) (l:List Int) (hl:es.length<=20) (hll:l.length<=1000):Con T 6 49 [stA N es s p,Ej l] (.bool (apB es l)):=by
 refine Bu t49 fun n hn V hV => ?_
 simp (disch:=first | assumption | omega) only [c49,stA,go_sem,↓reduceIte,Gl]
 refine Da (fun M st=>∃i:Nat,M=es.length-i/\i<=es.length/\At st.env [(0,stA N es s p),(1,Ej l),(5,.int .i64 ((es.take i).countP fun e=>Es l e.1:Nat)),(13,eds es),(14,.int .i64 es.length),(15,.int .i64 i)]/\(es.take i).all (fun e=>Es l e.1==Es l e.2)=true) es.length (by omega)
  ⟨0,by omega,by omega,by simp only [go_sem,↓reduceIte,stA,List.length_map]; rfl,rfl⟩ ?_
 rintro M e h hM ⟨i,rfl,hi,hE,hA⟩ P hP
 simp only [Bp,Bx] at hE hA
 obtain ⟨f0,f1,f5,f13,f14,f15,-⟩:=hE
 by_cases hlt:i<es.length
 ·have hg:=Jw hlt
  have hat:=Rs (p:=fun e=>Es l e.1==Es l e.2) hlt
  have hct:((es.take (i+1)).countP fun e=>Es l e.1)=((es.take i).countP fun e=>Es l e.1)+if Es l es[i].1 then 1 else 0:=by
   rw [List.take_succ_eq_append_getElem hlt,List.countP_append,List.countP_singleton]
  have hcl:((es.take i).countP fun e=>Es l e.1)<=20:=Nat.le_trans List.countP_le_length (by rw [List.length_take]; omega)
  rw [hA,Bool.true_and] at hat
  generalize hqd:es[i]=q at *
  obtain ⟨qa,qb⟩:=q
  simp only [edA] at hg
  by_cases heq:Es l qa=Es l qb
  ·have hb:(Es l qa==Es l qb)=true:=by simpa using heq
   have hb1:l.contains (qa:Int)=Es l qa:=rfl
   have hb2:l.contains (qb:Int)=Es l qb:=rfl
   cases hq:Es l qa with
   | true =>
    have hq2:=heq ▸ hq
    rw [hq] at hct
    simp (disch:=first | assumption | omega) only [go_sem,↓reduceIte,f0,f1,f5,f13,f14,f15,hlt,hg,Mi,hb1,hb2,hq,hq2,Bool.false_eq_true]
    exact hP (es.length-(i+1)) _ (by omega) ⟨i+1,rfl,by omega,by simp only [go_sem,↓reduceIte,f0,f1,f13,f14,hct,if_true,Int.natCast_add,Int.natCast_one],by rw [hat]; simp [hq,hq2]⟩
   | false =>
    have hq2:=heq ▸ hq
    rw [hq] at hct
    simp (disch:=first | assumption | omega) only [go_sem,↓reduceIte,f0,f1,f5,f13,f14,f15,hlt,hg,Mi,hb1,hb2,hq,hq2,Bool.false_eq_true]
    exact hP (es.length-(i+1)) _ (by omega) ⟨i+1,rfl,by omega,by simp only [go_sem,↓reduceIte,f0,f1,f5,f13,f14,hct,Bool.false_eq_true,Nat.add_zero],by rw [hat]; simp [hq,hq2]⟩
  ·have hb1:l.contains (qa:Int)=Es l qa:=rfl
   have hb2:l.contains (qb:Int)=Es l qb:=rfl
   have hap:apB es l=false:=by
    unfold apB
    have:es.all (fun e=>Es l e.1==Es l e.2)=false:=by
     rw [List.all_eq_false]
     exact ⟨es[i],List.getElem_mem hlt,by rw [hqd]; simpa using heq⟩
    rw [this,Bool.false_and]
   rw [hap] at hV
   cases hq:Es l qa with
   | true =>
    have hq2:Es l qb=false:=by
     cases h:Es l qb with
     | true=>exact absurd (hq.trans h.symm) heq
     | false=>rfl
    simp (disch:=first | assumption | omega) only [go_sem,↓reduceIte,f0,f1,f5,f13,f14,f15,hlt,hg,Mi,hb1,hb2,hq,hq2,Bool.false_eq_true]
    exact hV _ _ (Dk _ _ _)
   | false =>
    have hq2:Es l qb=true:=by
     cases h:Es l qb with
     | false=>exact absurd (hq.trans h.symm) heq
     | true=>rfl
    simp (disch:=first | assumption | omega) only [go_sem,↓reduceIte,f0,f1,f5,f13,f14,f15,hlt,hg,Mi,hb1,hb2,hq,hq2,Bool.false_eq_true]
    exact hV _ _ (Dk _ _ _)
 ·obtain rfl:i=es.length:=by omega
  simp (disch:=first | assumption | omega) only [go_sem,↓reduceIte,f0,f1,f5,f13,f14,f15,hlt,stA,Gl,List.length_map,Fp]
  refine hV _ _ ?_
  rw [Dk,apB]
  rw [List.take_length] at hA ⊢
  rw [hA,Bool.true_and]
  generalize es.countP (fun e=>Es l e.1)=k
  congr 2
  rw [Bool.eq_iff_iff]
  simp
  omega
section
variable {n base:Nat} {Q:EX×St->Prop} {d:Option Nat} {L:List IOper} {ks:List Kont} {e:Env} {h:Bc}
theorem Nn {N:Int} {es:List Ed} {s:Nat->Int} {p:AV} {l:List Int} {x:Bool} (hn:6<=n) (hl:es.length<=20) (hll:l.length<=1000):GP (Bd T n) base Q d L ks e (Bd T n false (.fn 49) [stA N es s p,.slice none (l.map (.int .i64)) x] h)=GO (Bd T n) base Q L ks ⟨Bj e d (.bool (apB es l)),h⟩:=
 Ey (Aoq N es s p l hl hll) hn (Bv (Ih _ _ _ _ _ _) (Dm _ _ _ _ (Bz _))) (Fn _ _)
end
def Jt (f:Int->Int):List Int->Int
 | []=>0
 | x::r=>f x+Jt f r
theorem Apz (f:Int->Int) (a b:List Int):Jt f (a++b)=Jt f a+Jt f b:=by
 induction a with
 | nil=>simp [Jt]
 | cons x r ih=>simp only [List.cons_append,Jt,ih]; omega
theorem Adr {f:Int->Int} {B:Nat} (hf:∀x,-(B:Int)<=f x/\f x<=B):∀l:List Int,-((l.length*B:Nat):Int)<=Jt f l/\Jt f l<=(l.length*B:Nat)
 | []=>by simp [Jt]
 | x::r=>by
  have:=Adr hf r
  have:=hf x
  have e1:(x::r).length*B=r.length*B+B:=by rw [List.length_cons,Nat.add_mul,Nat.one_mul]
  simp only [Jt]
  omega
def ovB (s:Nat->Int) (l:List Int):Bool:=l.all (fun n=>decide (0<s n.toNat))&&decide (1<Jt (fun n=>s n.toNat) l)
set_option maxHeartbeats 1000000 in
theorem Asg (N:Int) (es:List Ed) (s:Nat->Int) (hs:∀x,-20<=s x/\s x<=20) (p:AV) (l:List Int) (hll:l.length<=1000) (hl8:∀n∈l,0<=n/\n<8):Con T 1 50 [stA N es s p,Ej l] (.bool (ovB s l)):=by
 refine Bu t50 fun n hn V hV => ?_
 simp (disch:=first | assumption | omega) only [c50,go_sem,↓reduceIte,List.length_map]
 refine Da (fun M st=>∃i:Nat,M=l.length-i/\i<=l.length/\At st.env [(0,stA N es s p),(5,.int .i64 (Jt (fun n=>s n.toNat) (l.take i))),(8,Ej l),(9,.int .i64 l.length),(10,.int .i64 i)]/\(l.take i).all (fun n=>decide (0<s n.toNat))=true) l.length (by omega)
  ⟨0,by omega,by omega,by simp only [go_sem,↓reduceIte]; rfl,rfl⟩ ?_
 rintro M e h hM ⟨i,rfl,hi,hE,hA⟩ P hP
 simp only [Bp,Bx] at hE hA
 obtain ⟨f0,f5,f8,f9,f10,-⟩:=hE
 by_cases hlt:i<l.length
 ·obtain ⟨y,hy⟩:=Fm hlt
  have hgy:l[i]=y:=(List.getElem?_eq_some_iff.1 hy).2
  obtain ⟨y0,y8⟩:=hl8 y (List.mem_of_getElem? hy)
  have hny:Dq (.int .i64 y)=some y.toNat:=by simp [Dq,y0]
  have hy8:y.toNat<8:=by omega
  have hbx:=Adr (B:=20) (f:=fun n=>s n.toNat) (fun x=>hs _) (l.take i)
  have htl:(l.take i).length<=1000:=by rw [List.length_take]; omega
  have hsy:=hs y.toNat
  have hst:Jt (fun n=>s n.toNat) (l.take (i+1))=Jt (fun n=>s n.toNat) (l.take i)+s y.toNat:=by
   rw [List.take_succ_eq_append_getElem hlt,Apz,hgy]; simp [Jt]
  have hat:(l.take (i+1)).all (fun n=>decide (0<s n.toNat))=decide (0<s y.toNat):=by
   rw [List.take_succ_eq_append_getElem hlt,List.all_append,hA,hgy]; simp
  have hlow : -20000<=Jt (fun n=>s n.toNat) (l.take i)/\Jt (fun n=>s n.toNat) (l.take i)<=20000:=by
   have:(l.take i).length*20<=20000:=by omega
   omega
  by_cases hp:s y.toNat<=0
  ·have hb:decide (s y.toNat<=0)=true:=by simpa using hp
   simp (disch:=first | assumption | omega) only [go_sem,↓reduceIte,f0,f5,f8,f9,f10,hlt,hy,hny,stA,hy8,A0t,hb]
   refine hV _ _ ?_
   rw [Dk,ovB]
   have:l.all (fun n=>decide (0<s n.toNat))=false:=by
    rw [List.all_eq_false]
    exact ⟨y,List.mem_of_getElem? hy,by simpa using hp⟩
   rw [this,Bool.false_and]
  ·have hb:decide (s y.toNat<=0)=false:=by simpa using hp
   simp (disch:=first | assumption | omega) only [go_sem,↓reduceIte,f0,f5,f8,f9,f10,hlt,hy,hny,stA,hy8,A0t,hb,Bool.false_eq_true]
   exact hP (l.length-(i+1)) _ (by omega) ⟨i+1,rfl,by omega,by simp only [go_sem,↓reduceIte,f0,f8,f9,hst,stA],by rw [hat]; simp; omega⟩
 ·obtain rfl:i=l.length:=by omega
  rw [List.take_length] at hA f5
  simp (disch:=first | assumption | omega) only [go_sem,↓reduceIte,f0,f5,f8,f9,f10,hlt]
  refine hV _ _ ?_
  rw [Dk,ovB,hA,Bool.true_and]
theorem Zy {n base:Nat} {Q:EX×St->Prop} {d:Option Nat} {L:List IOper} {ks:List Kont} {e:Env} {h:Bc} {N:Int} {es:List Ed} {s:Nat->Int} {p:AV} {l:List Int} {x:Bool} (hn:1<=n) (hs:∀x,-20<=s x/\s x<=20) (hll:l.length<=1000) (hl8:∀n∈l,0<=n/\n<8):GP (Bd T n) base Q d L ks e (Bd T n false (.fn 50) [stA N es s p,.slice none (l.map (.int .i64)) x] h)=GO (Bd T n) base Q L ks ⟨Bj e d (.bool (ovB s l)),h⟩:=
 Ey (Asg N es s hs p l hll hl8) hn (Bv (Ih _ _ _ _ _ _) (Dm _ _ _ _ (Bz _))) (Fn _ _)
theorem Aca {lo:Nat} {h:Bc} {v x:AV} {k:IntKind} {l:List Int} {n:Nat} (hx:Own lo h x k l) (hv:v=x\/v=Ij x):Bi h (n+2) v = .ret (.slice none (l.map (.int k)) false):=by
 rcases hv with rfl | rfl
 ·exact Jd hx
 ·rcases hx with ⟨rfl,rfl⟩ | ⟨key,ver,_,rfl,hH⟩
  ·exact Jd (lo:=0) (Hj ..)
  ·exact Ii hH rfl
theorem Own.low {lo lo':Nat} {h:Bc} {v:AV} {k:IntKind} {l:List Int} (hx:Own lo h v k l) (hl:lo'<=lo):Own lo' h v k l:=by
 rcases hx with h1 | ⟨key,ver,h1,h2,h3⟩
 ·exact .inl h1
 ·exact .inr ⟨key,ver,by omega,h2,h3⟩
theorem Api {T:Cfg} {f n:Nat} {base:Nat} {Q:EX×St->Prop} {d:Option Nat} {L:List IOper} {ks:List Kont} {e:Env} {h:Bc} {lo:Nat} {v x:AV} {l:List Int} (hf:T.fns f=some Hc) (hx:Own lo h x .i64 l) (hv:v=x\/v=Ij x) (hl:0<l.length) (hl2:l.length<1099511627776)
  (H:∀h',Own lo h' x .i64 (Eo l)->GO (Bd T (n+1)) base Q L ks ⟨Bj e d (.tuple []),h'⟩) :
  GP (Bd T (n+1)) base Q d L ks e (Bd T (n+1) true (.fn f) [v] h):=by
 rcases hx with ⟨rfl,rfl⟩ | ⟨key,ver,hk,rfl,hH⟩
 ·simp at hl
 ·obtain ⟨cap,rfl⟩:∃cap,v = .oslice key ver none 0 l.length cap:=by
   rcases hv with rfl | rfl
   ·exact ⟨_,rfl⟩
   ·exact ⟨_,rfl⟩
  have hlen:(Eo l).length=l.length:=Md l
  have e0:Bd T (n+1) true (.fn f) [.oslice key ver none 0 l.length cap] h = .ret (.tuple [],setH (h++[.none]) key (.cells ver ((Eo l).map (.int .i64)))):=by
   have e1:Bb (h++[AObj.none]) key = .cells ver (l.map (.int .i64)):=by rw [Hy]; exact hH
   have e2:((l.map (AV.int .i64)).drop 0).take l.length=l.map (.int .i64):=by rw [List.drop_zero,List.take_of_length_le (by simp)]
   have e3:∀l:List Int,Qr (l.map (.int .i64))=some l:=fun l=>by
    induction l with
    | nil=>rfl
    | cons a r ih=>simp [Qr,ih]
   have e4:∀(xs:List AV) (ys:List AV),ys.length=xs.length->Dr xs 0 ys=ys:=fun xs ys hy=>by
    apply List.ext_getElem?
    intro i
    rw [Hr]
    split
    ·rfl
    ·next h=>rw [List.getElem?_eq_none (by omega),List.getElem?_eq_none (by omega)]
   simp only [Bd,hf,if_true,reduceIte,Dj,Hc,evC,List.replicate,Aae,e1]
   rw [if_pos ⟨trivial,by simp,hl,hl2⟩,e2,e3]
   simp only [Res.bind,mapR,Gs]
   rw [e4 _ _ (by simp [hlen])]
  rw [e0,Gu]
  exact H _ (.inr ⟨key,ver,hk,by rw [hlen],getH_setH_self _ _ _⟩)
theorem Ajp {call:Bo} {base:Nat} {Q:EX×St->Prop} {d:Option Nat} {L:List IOper} {ks:List Kont} {e:Env} {h:Bc} {lo b m kk:Nat} {v x y:AV} {k:IntKind} {l l2:List Int} (hv:v=x\/v=Ij x) (hkk:kk=h.length) (hx:Own lo h x k l) (hlo:lo<=h.length) (hy:De h y=some (none,m,l2.map (.int k))) (hm:m=l2.length) (hm0:0<m) (hr:(l.length+m)*b<=1099511627776)
  (H:∀x' h',Own lo h' x' k (l++l2)->(∀j,j<lo->Bb h' j=Bb h j)->h.length<=h'.length->(∀j,j<h.length->Ea x≠some j->Bb h' j=Bb h j)->(∀j,Ea x'=some j->Ea x=some j\/j=h.length)->GO call base Q L ks ⟨Bj e d x',h'⟩) :
  GP call base Q d L ks e (Dg kk none b v y h):=by
 rcases hv with rfl | rfl
 ·exact Xu hkk hx hlo hy hm hm0 hr H
 ·exact Rl hkk hx hlo hy hm hm0 hr fun x' h' h1 h2 h3 h4=>H x' h' h1 (fun j hj=>h2 j (by omega)) h3 (fun j hj _=>h2 j hj) (fun j hj => .inr (by rw [h4] at hj; exact (Option.some.inj hj).symm))
def Vu (es:List Ed) (a x:Nat):Prop:=∀p:Nat->Bool,(∀e∈es,p e.1=p e.2)->p a=true->p x=true
open Classical in
noncomputable def ptL (es:List Ed) (a:Nat):List Nat:=(List.range 8).filter fun x=>decide (Vu es a x)
theorem Ss {es:List Ed} {a x:Nat}:x∈ptL es a↔x<8/\Vu es a x:=by simp [ptL]
theorem A7s (es:List Ed) (a:Nat):Vu es a a:=fun _ _ h=>h
theorem Abh {es:List Ed} {a:Nat} {e:Ed} (he:e∈es):Vu es a e.1↔Vu es a e.2:=⟨fun h p hp hx=>by rw [<-hp e he]; exact h p hp hx,fun h p hp hx=>by rw [hp e he]; exact h p hp hx⟩
theorem Sw {l:List Nat} {x:Nat}:(x:Int)∈nI4 l↔x∈l:=by
 simp only [nI4,List.mem_map]
 constructor
 ·rintro ⟨b,hb,e⟩
  have:b=x:=by omega
  exact this ▸ hb
 ·exact fun h=>⟨x,h,rfl⟩
theorem Gq (l:List Nat):(nI4 l).length=l.length:=by simp [nI4]
theorem A7f:∀{l k:List Int},l.Pairwise (·<=·)->k.Pairwise (·<=·)->l.Perm k->l=k
 | [],k,_,_,h=>(List.nil_perm.1 h).symm
 | a::l,[],_,_,h=>absurd h.length_eq (by simp)
 | a::l,b::k,h1,h2,h=>by
  rw [List.pairwise_cons] at h1 h2
  have hab:a=b:=by
   have ha:a∈b::k:=h.mem_iff.1 List.mem_cons_self
   have hb:b∈a::l:=h.mem_iff.2 List.mem_cons_self
   rcases List.mem_cons.1 ha with h3 | h3
   ·exact h3
   ·rcases List.mem_cons.1 hb with h4 | h4
    ·exact h4.symm
    ·have:=h1.1 b h4; have:=h2.1 a h3; omega
  subst hab
  rw [A7f h1.2 h2.2 (List.Perm.cons_inv h)]
theorem Amr {es:List Ed} {a:Nat} {l:List Nat} (hn:l.Nodup) (hm:∀x,x∈l↔x∈ptL es a):Eo (nI4 l)=nI4 (ptL es a):=by
 have hp:(ptL es a).Nodup:=List.Nodup.sublist List.filter_sublist List.nodup_range
 refine A7f (Id _) ?_ ((Iv _).trans (List.Perm.map _ ((List.perm_ext_iff_of_nodup hn hp).2 hm)))
 unfold nI4 ptL
 rw [List.pairwise_map]
 refine List.Pairwise.sublist List.filter_sublist (List.Pairwise.imp (R:=(·<·)) (fun h=>by omega) List.pairwise_lt_range)
structure InPt (es:List Ed) (a:Nat) (l:List Nat):Prop where
 nd:l.Nodup
 lt:∀x∈l,x<8
 sub:∀x∈l,Vu es a x
 mem:a∈l
theorem InPt.len {es:List Ed} {a:Nat} {l:List Nat} (h:InPt es a l):l.length<=8:=by
 have:=List.Nodup.length_le_of_subset (l₂:=List.range 8) h.nd fun x hx=>List.mem_range.2 (h.lt x hx)
 simpa using this
theorem InPt.push {es:List Ed} {a:Nat} {l:List Nat} (h:InPt es a l) {x:Nat} (h1:x<8) (h2:Vu es a x) (h3:x∉l):InPt es a (l++[x]) where
 nd:=by
  rw [List.nodup_append]
  refine ⟨h.nd,by simp,fun y hy z hz e => ?_⟩
  obtain rfl:z=x:=by simpa using hz
  exact h3 (e ▸ hy)
 lt:=fun y hy=>by
  rcases List.mem_append.1 hy with hy | hy
  ·exact h.lt y hy
  ·obtain rfl:y=x:=by simpa using hy
   exact h1
 sub:=fun y hy=>by
  rcases List.mem_append.1 hy with hy | hy
  ·exact h.sub y hy
  ·obtain rfl:y=x:=by simpa using hy
   exact h2
 mem:=List.mem_append_left _ h.mem
theorem InPt.done {es:List Ed} {a:Nat} {l:List Nat} (h:InPt es a l) (hc:∀e∈es,(e.1∈l↔e.2∈l)) (x:Nat):x∈l↔x∈ptL es a:=by
 rw [Ss]
 refine ⟨fun hx=>⟨h.lt x hx,h.sub x hx⟩,fun ⟨_,hx⟩ => ?_⟩
 have:=hx (fun y=>decide (y∈l)) (fun e he=>by
  rw [Bool.eq_iff_iff]; simpa using hc e he) (by simpa using h.mem)
 simpa using this
set_option maxHeartbeats 2000000 in
theorem Alm (N:Int) (es:List Ed) (s:Nat->Int) (p:AV) (a:Nat) (hl:es.length<=20) (hn:∀q∈es,q.1<8/\q.2<8) (ha:a<8) (n:Nat) (hn5:5<=n) (h0:Bc) {V:AV×Bc->Prop} (hV:∀v x h',Own (h0.length+69) h' x .i64 (nI4 (ptL es a))->(v=x\/v=Ij x)->V (v,h')) :
  G (Bd T n) h0.length (Fin c99.results V) c99.body [] ⟨[stA N es s p,.int .i64 a],h0++List.replicate 69 .none⟩:=by
 have hb69:Bb (h0++List.replicate 69 AObj.none) (h0.length+69) = .none:=by rw [Bg]; exact Ef _ _ (by omega)
 simp (disch:=first | assumption | omega) only [c99,go_sem,↓reduceIte,hb69]
 refine Da (fun M st=>∃(i:Nat) (l:List Nat) (v x:AV),M=(8-l.length)*100+(es.length-i)/\i<=es.length/\At st.env [(0,stA N es s p),(5,v),(6,.int .i64 i)]/\Own (h0.length+69) st.heap x .i64 (nI4 l)/\(v=x\/v=Ij x)/\h0.length+69<=st.heap.length/\InPt es a l/\∀(j:Nat) (hj:j<es.length),j<i->(es[j].1∈l↔es[j].2∈l)) (7*100+es.length) (by omega)
  ⟨0,[a],.oslice (h0.length+69) 0 none 0 1 (some 1),.oslice (h0.length+69) 0 none 0 1 none,by simp,by omega,by simp only [go_sem,↓reduceIte],.inr ⟨h0.length+69,0,by omega,rfl,by simp only [go_sem,↓reduceIte]; rfl⟩,.inr rfl,by simp only [Be,List.length_replicate]; omega,⟨by simp,by simpa using ha,by simpa using A7s es a,by simp⟩,fun j _ h=>by omega⟩ ?_
 rintro M e h hM ⟨i,l,v,x,rfl,hi,hE,hO,hvx,hh69,hI,hcl⟩ P hP
 simp only [Bp,Bx] at hE hO hh69
 obtain ⟨f0,f5,f6,-⟩:=hE
 have hl8:=hI.len
 have hnl:(nI4 l).length<=1000:=by rw [Gq]; omega
 by_cases hlt:i<es.length
 ·have hg:=Jw hlt
  have hq:=hn _ (List.getElem_mem hlt)
  have hin:=Abh (a:=a) (List.getElem_mem hlt)
  have hcl':∀(h0:es[i].1∈l↔es[i].2∈l) (j:Nat) (hj:j<es.length),j<i+1->(es[j].1∈l↔es[j].2∈l):=fun h0 j hj hji=>by
   by_cases hji2:j<i
   ·exact hcl j hj hji2
   ·obtain rfl:j=i:=by omega
    exact h0
  generalize hqd:es[i]=q at *
  obtain ⟨qa,qb⟩:=q
  simp only at hq hin hcl'
  simp only [edA] at hg
  obtain ⟨hq1,hq2⟩:=hq
  simp (disch:=first | assumption | omega) only [go_sem,↓reduceIte,f0,f5,f6,stA,Gl,hlt,List.length_map]
  refine Da (fun M st=>∃k:Nat,M=2-k/\k<=2/\At st.env [(0,stA N es s p),(5,v),(6,.int .i64 i),(20,.int .i64 k)]/\st.heap=h/\(1<=k->qa∈l->qb∈l)/\(2<=k->qb∈l->qa∈l)) 2 (by omega)
   ⟨0,by omega,by omega,by simp only [go_sem,↓reduceIte,f0,f5,f6,stA],rfl,fun h=>by omega,fun h=>by omega⟩ ?_
  rintro M e2 h2 hM2 ⟨k,rfl,hk,hE2,rfl,hk1,hk2⟩ P2 hP2
  simp only [Bp,Bx] at hE2 hO hh69
  obtain ⟨f0,f5,f6,f20,-⟩:=hE2
  by_cases hlt2:k<2
  ·have hd2:decide ((k:Int)<2)=true:=by simp; omega
   obtain ⟨u,hu⟩:∃u,u=if k=0 then qa else qb:=⟨_,rfl⟩
   obtain ⟨w,hw⟩:∃w,w=if k=0 then qb else qa:=⟨_,rfl⟩
   have hn1k:Dq (.int .i64 (1-(k:Int)))=some (1-k):=by
    rw [show (1:Int)-(k:Int)=((1-k:Nat):Int) by omega]; exact Yv _ _
   have h1k:1-k<2:=by omega
   have hug:[AV.int IntKind.i64 (qa:Int),AV.int IntKind.i64 (qb:Int)][k]? = some (.int .i64 (u:Nat)):=by
    have:k=0\/k=1:=by omega
    rcases this with rfl | rfl <;> simp [hu]
   have hwg:[AV.int IntKind.i64 (qa:Int),AV.int IntKind.i64 (qb:Int)][1-k]? = some (.int .i64 (w:Nat)):=by
    have:k=0\/k=1:=by omega
    rcases this with rfl | rfl <;> simp [hw]
   have hw8:w<8:=by rw [hw]; split <;> assumption
   have huw:Vu es a u->Vu es a w:=by rw [hu,hw]; split; exact hin.1; exact hin.2
   have hfz:∀h:Bc,Own (h0.length+69) h x .i64 (nI4 l)->∀y:Int,fz h [v,.int .i64 y] = .ret [Ej (nI4 l),.int .i64 y]:=fun h ho y=>Bv (Aca ho hvx) (Fa _ _ _ (Bz _))
   simp (disch:=first | assumption | omega) only [go_sem,↓reduceIte,f0,f5,f6,f20,stA,Gl,hlt,hlt2,hd2,hg,hug,Uq]
   refine Do (A5v (nI4 l) u hnl) (by omega) (hfz _ hO _) (Fn _ _) ?_
   by_cases hul:u∈l
   ·have hc1:(nI4 l).contains (u:Int)=true:=by simpa using Sw.2 hul
    simp (disch:=first | assumption | omega) only [go_sem,↓reduceIte,f0,f5,f6,f20,stA,Gl,hlt,hlt2,hd2,hg,hug,hwg,hn1k,h1k,hc1,Uq]
    refine Do (A5v (nI4 l) w hnl) (by omega) (hfz _ hO _) (Fn _ _) ?_
    by_cases hwl:w∈l
    ·have hc2:(nI4 l).contains (w:Int)=true:=by simpa using Sw.2 hwl
     simp (disch:=first | assumption | omega) only [go_sem,↓reduceIte,f0,f5,f6,f20,hc2,Bool.not_true,Bool.false_eq_true]
     refine hP2 (2-(k+1)) _ (by omega) ⟨k+1,rfl,by omega,by simp only [go_sem,↓reduceIte,f0,f5,f6],rfl,fun h1 h2 => ?_,fun h1 h2 => ?_⟩
     ·by_cases hk0:k=0
      ·rw [hw,if_pos hk0] at hwl; exact hwl
      ·exact hk1 (by omega) h2
     ·have:k=1:=by omega
      rw [hw,if_neg (by omega)] at hwl; exact hwl
    ·have hc2:(nI4 l).contains (w:Int)=false:=by simpa using fun hm=>hwl (Sw.1 hm)
     have hnH:Bb h2 h2.length = .none:=Ef _ _ (Nat.le_refl _)
     simp (disch:=first | assumption | omega) only [go_sem,↓reduceIte,f0,f5,f6,f20,hc2,Bool.not_false,stA,Gl,hlt,hg,hwg,hn1k,h1k,Uq,hnH,next_none]
     have hO2:∀c:AObj,Own (h0.length+69) (setH h2 h2.length c) x .i64 (nI4 l):=fun c=>hO.other fun j hj=>Ba _ _ _ _ (fun h=>by
      rcases hO with ⟨_,rfl⟩ | ⟨key,ver,hk,rfl,hH⟩
      ·simp [Ea] at hj
      ·have:=El hH (by simp)
       simp [Ea] at hj
       omega)
     refine Ajp (l2:=[(w:Int)]) (m:=1) hvx (by rw [Be]) (hO2 _) (by rw [Be]; omega) (by simp only [De,getH_setH_self]; rfl) rfl (by omega) (by rw [Gq]; omega) fun x' h' hO' hF hL hF2 hF3 => ?_
     rw [Be] at hL
     simp (disch:=first | assumption | omega) only [go_sem,↓reduceIte,f0,f5,f6]
     refine hP ((8-(l++[w]).length)*100+(es.length-0)) _ ?_ ⟨0,l++[w],x',x',rfl,by omega,by simp only [go_sem,↓reduceIte,f0]; rfl,by simpa [nI4] using hO',.inl rfl,by simp only; omega,hI.push hw8 (huw (hI.sub u hul)) hwl,fun j _ h=>by omega⟩
     have:=(hI.push hw8 (huw (hI.sub u hul)) hwl).len
     rw [List.length_append,List.length_singleton] at this ⊢
     omega
   ·have hc1:(nI4 l).contains (u:Int)=false:=by simpa using fun hm=>hul (Sw.1 hm)
    simp (disch:=first | assumption | omega) only [go_sem,↓reduceIte,f0,f5,f6,f20,hc1,Bool.false_eq_true]
    refine hP2 (2-(k+1)) _ (by omega) ⟨k+1,rfl,by omega,by simp only [go_sem,↓reduceIte,f0,f5,f6],rfl,fun h1 h2 => ?_,fun h1 h2 => ?_⟩
    ·by_cases hk0:k=0
     ·rw [hu,if_pos hk0] at hul; exact absurd h2 hul
     ·exact hk1 (by omega) h2
    ·have:k=1:=by omega
     rw [hu,if_neg (by omega)] at hul; exact absurd h2 hul
  ·obtain rfl:k=2:=by omega
   have hd2:decide ((2:Int)<2)=false:=by decide
   simp (disch:=first | assumption | omega) only [go_sem,↓reduceIte,f0,f5,f6,f20,hd2,Bool.false_eq_true]
   exact hP ((8-l.length)*100+(es.length-(i+1))) _ (by omega) ⟨i+1,l,v,x,rfl,by omega,by simp only [go_sem,↓reduceIte,f0,f5],hO,hvx,hh69,hI,hcl' ⟨hk1 (by omega),hk2 (by omega)⟩⟩
 ·obtain rfl:i=es.length:=by omega
  have hm:=hI.done fun e he=>by
   obtain ⟨j,hj,rfl⟩:=List.mem_iff_getElem.1 he
   exact hcl j hj hj
  simp (disch:=first | assumption | omega) only [go_sem,↓reduceIte,f0,f5,f6,stA,Gl,hlt,List.length_map]
  obtain ⟨n,rfl⟩:∃n',n=n'+1:=⟨n-1,by omega⟩
  have hpos:0<l.length:=List.length_pos_of_mem hI.mem
  refine Api t169 hO hvx (by rw [Gq]; omega) (by omega) fun h2 hz => ?_
  simp (disch:=first | assumption | omega) only [go_sem,↓reduceIte,f5]
  rw [Amr hI.nd hm] at hz
  exact hV _ _ _ hz hvx
theorem Ask (N:Int) (es:List Ed) (s:Nat->Int) (p:AV) (a:Nat) (hl:es.length<=20) (hn:∀q∈es,q.1<8/\q.2<8) (ha:a<8):Con T 6 99 [stA N es s p,.int .i64 a] (Ej (nI4 (ptL es a))):=
 Bu t99 fun n hn5 V hV=>Alm N es s p a hl hn ha n hn5 [] fun v x h' ho hv=>hV v h' (Aca ho hv)
theorem Afw {n base:Nat} {Q:EX×St->Prop} {d:Option Nat} {L:List IOper} {ks:List Kont} {e:Env} {h:Bc} {N:Int} {es:List Ed} {s:Nat->Int} {p:AV} {a:Nat} (hn:6<=n) (hl:es.length<=20) (hn8:∀q∈es,q.1<8/\q.2<8) (ha:a<8):GP (Bd T n) base Q d L ks e (Bd T n false (.fn 99) [stA N es s p,.int .i64 a] h)=GO (Bd T n) base Q L ks ⟨Bj e d (Ej (nI4 (ptL es a))),h⟩:=
 Ey (Ask N es s p a hl hn8 ha) hn (Bv (Ih _ _ _ _ _ _) (Fa _ _ _ (Bz _))) rfl
def eI (q:Ed):Int×Int:=((q.1:Int),(q.2:Int))
theorem Aox (es:List Ed):(es.map eI).map pA=es.map edA:=by rw [List.map_map]; rfl
def upU (s:Nat->Int):Nat->Int
 | 0=>0
 | v+1=>upU s v+if 0<s v then s v else 0
def atU (s:Nat->Int):Nat->Nat
 | 0=>0
 | v+1=>if 0<s v then v else atU s v
theorem Ahl {s:Nat->Int} (hs:∀x,-20<=s x/\s x<=20):∀v,0<=upU s v/\upU s v<=20*v
 | 0=>by simp [upU]
 | v+1=>by
  have:=Ahl hs v
  have:=hs v
  simp only [upU]
  split <;> omega
noncomputable def Fe (N:Nat) (es:List Ed):List Nat:=
 if apB es (nI4 (ptL es (Dw es)))=true then []
 else if upU (sur es) 8=0 then (List.range N).filter fun v=>es.any fun q=>decide (q.1=v)
 else if upU (sur es) 8=1 then [atU (sur es) 8]
 else []
theorem Apl (n:Nat) (x:Int×Int):Con T 1 101 ([]++[pA x]++[.ptr [.int .i64 n] 0]) (.bool (x.1==(n:Int))):=by
 refine Bu t101 fun m hm V hV => ?_
 simp (disch:=first | assumption | omega) only [c101,go_sem,↓reduceIte,pA,List.cons_append,List.nil_append]
 exact hV _ _ (Dk _ _ _)
theorem Amh {es:List Ed} (hl:es.length<=20) (x:Nat) : -20<=sur es x/\sur es x<=20:=by
 have:=Aga es x; omega
theorem Oa {lo:Nat} {h:Bc} {v:AV} {k:IntKind} {l:List Int} {n:Nat} (ho:Own lo h v k l):Ei h (n+2) v=true:=by
 rcases ho with ⟨_,rfl⟩ | ⟨key,ver,_,rfl,hH⟩
 ·exact Zr _ _ _ _
 ·exact Xt hH
set_option maxHeartbeats 2000000 in
theorem A1g (N:Nat) (es:List Ed) (p:AV) (h0:es≠[]) (hN:N<=8) (hl:es.length<=20) (hn:∀q∈es,q.1<8/\q.2<8):ConF T 7 41 [stA N es (sur es) p] (Ej (nI4 (Fe N es))):=by
 refine Qd t41 fun n hn6 V hV => ?_
 have hs:=Amh hl
 have hpos:0<es.length:=List.length_pos_iff.2 h0
 have hg:=Jw hpos
 have hroot:es[0].1=Dw es:=by cases es with | nil=>exact absurd rfl h0 | cons q r=>rfl
 have hr8:Dw es<8:=by rw [<-hroot]; exact (hn _ (List.getElem_mem hpos)).1
 have hpl:(nI4 (ptL es (Dw es))).length<=1000:=by
  have:(ptL es (Dw es)).length<=(List.range 8).length:=List.length_filter_le _ _
  rw [Gq]; simp at this; omega
 generalize hqd:es[0]=q at *
 obtain ⟨qa,qb⟩:=q
 simp only at hroot
 simp only [edA] at hg
 rw [hroot] at hg
 have hap:∀b,apB es (nI4 (ptL es (Dw es)))=b->(apB es (nI4 (ptL es (Dw es))))=b:=fun _ h=>h
 by_cases ha:apB es (nI4 (ptL es (Dw es)))=true
 ·simp (disch:=first | assumption | omega) only [c41,go_sem,↓reduceIte,stA,Gl,hg]
  simp (disch:=first | assumption | omega) only [go_sem,↓reduceIte,Afw,Nn,ha]
  refine hV _ _ ?_ (Zr _ _ _ _)
  rw [Fe,if_pos ha]
  exact Ds _ _ _ _ _
 ·have ha':apB es (nI4 (ptL es (Dw es)))=false:=by simpa using ha
  have hst:Fe N es=if upU (sur es) 8=0 then (List.range N).filter (fun v=>es.any fun q=>decide (q.1=v)) else if upU (sur es) 8=1 then [atU (sur es) 8] else []:=by rw [Fe,if_neg ha]
  simp (disch:=first | assumption | omega) only [c41,go_sem,↓reduceIte,stA,Gl,hg,Afw,Nn,ha',Bool.false_eq_true,Ql,Zx]
  refine Da (fun M st=>∃v:Nat,M=8-v/\v<=8/\At st.env [(0,stA N es (sur es) p),(3,.int .i64 (upU (sur es) v)),(4,.int .i64 (atU (sur es) v)),(24,.agg (sr8 (sur es))),(25,.int .i64 v)]/\71<=st.heap.length) 8 (by omega)
   ⟨0,by omega,by omega,by simp only [go_sem,↓reduceIte]; simp only [upU,atU]; simp,by simp only [Be,List.length_replicate]; omega⟩ ?_
  rintro M e h hM ⟨v,rfl,hv,hE,hh⟩ P hP
  simp only [Bp,Bx] at hE hh
  obtain ⟨f0,f3,f4,f24,f25,-⟩:=hE
  by_cases hlt:v<8
  ·have hd:decide ((v:Int)<8)=true:=by simp; omega
   have hgv:=A0i (sur es) hlt
   have hbv:=hs v
   have hub:=Ahl hs v
   by_cases hp:0<sur es v
   ·have hdp:decide (sur es v>0)=true:=by simpa using hp
    simp (disch:=first | assumption | omega) only [go_sem,↓reduceIte,f0,f3,f4,f24,f25,hlt,hd,hgv,hdp]
    exact hP (8-(v+1)) _ (by omega) ⟨v+1,rfl,by omega,by simp only [go_sem,↓reduceIte,f0,f24,upU,atU,if_pos hp],hh⟩
   ·have hdp:decide (sur es v>0)=false:=by simpa using hp
    simp (disch:=first | assumption | omega) only [go_sem,↓reduceIte,f0,f3,f4,f24,f25,hlt,hd,hgv,hdp,Bool.false_eq_true]
    exact hP (8-(v+1)) _ (by omega) ⟨v+1,rfl,by omega,by simp only [go_sem,↓reduceIte,f0,f3,f4,f24,upU,atU,if_neg hp,Int.add_zero],hh⟩
  ·obtain rfl:v=8:=by omega
   have hd:decide ((8:Int)<8)=false:=by decide
   by_cases hu0:upU (sur es) 8=0
   ·have hb0:(upU (sur es) 8==0)=true:=by simpa using hu0
    rw [hu0] at f3
    rw [if_pos hu0] at hst
    have hb0:((0:Int)==0)=true:=rfl
    simp (disch:=first | assumption | omega) only [go_sem,↓reduceIte,f0,f3,f4,f24,f25,hd,hb0,Bool.false_eq_true,stA,Aui]
    obtain ⟨fr,hfr⟩:∃fr:Nat->Bool,fr=fun v=>es.any fun q=>decide (q.1=v):=⟨_,rfl⟩
    rw [<-hfr] at hst
    refine Da (fun M st=>∃(v:Nat) (x:AV),M=N-v/\v<=N/\At st.env [(0,stA N es (sur es) p),(7,x),(43,.int .i64 N),(44,.int .i64 v)]/\Own 71 st.heap x .i64 (nI4 ((List.range v).filter fr))/\71<=st.heap.length) N (by omega)
     ⟨0,.slice none [] true,by omega,by omega,by simp only [go_sem,↓reduceIte,f0],Hj ..,hh⟩ ?_
    rintro M e2 h2 hM2 ⟨v,x,rfl,hv2,hE2,hO,hh2⟩ P2 hP2
    simp only [Bp,Bx] at hE2 hO hh2
    obtain ⟨f0,f7,f43,f44,-⟩:=hE2
    by_cases hlt2:v<N
    ·have hvN:(v:Int)<(N:Int):=by omega
     have hO2:∀c c':AObj,Own 71 (setH (setH h2 8 c) 8 c') x .i64 (nI4 ((List.range v).filter fr)):=fun c c'=>(hO.setH (by omega)).setH (by omega)
     have hfl:((List.range v).filter fr).length<=8:=by
      have:=List.length_filter_le fr (List.range v)
      simp at this; omega
     have hrs:(List.range (v+1)).filter fr=(List.range v).filter fr++if fr v=true then [v] else []:=by
      rw [List.range_succ,List.filter_append]
      congr 1
      by_cases hf:fr v=true
      ·rw [if_pos hf,List.filter_cons,if_pos hf]; rfl
      ·rw [if_neg hf,List.filter_cons,if_neg hf]; rfl
     have hcc:=A9o (k:=1) (f:=101) (first:=[]) (cap:=[.ptr [.int .i64 v] 0]) (p:=fun x:Int×Int=>(x.1==(v:Int))) (es.map eI) (by simp; omega) (fun x _=>Apl v x) (fun h x=>Bv (Als _ _ _) (Bv (Eg _ _ _ _) (Bz _))) (fun h=>Gj (Db _ _) (Bn (Eg _ _ _ _) (Db _ _)))
     have hany:(es.map eI).any (fun x:Int×Int=>(x.1==(v:Int)))=fr v:=by
      rw [List.any_map,hfr]
      congr 1
      funext q
      rw [Bool.eq_iff_iff]
      simp only [Function.comp,eI,beq_iff_eq,decide_eq_true_eq]
      omega
     unfold prs at hcc
     rw [Aox,hany] at hcc
     have hlA:=hO.lenA
     rw [Gq] at hlA
     simp (disch:=first | assumption | omega) only [go_sem,↓reduceIte,f0,f7,f43,f44,hlt2,stA,Gl]
     refine Do hcc (by omega) (Dm _ _ _ _ (Bv (Gj (Db _ _) (Bn (Dz (cs:=[.int .i64 v]) (by simp only [go_sem,↓reduceIte]) (Bn (Bl _ _ _ _) (Db _ _))) (Db _ _))) (Bz _))) (Fn _ _) ?_
     by_cases hf:fr v=true
     ·rw [if_pos hf] at hrs
      simp (disch:=first | assumption | omega) only [go_sem,↓reduceIte,f0,f7,f43,f44,hlt2,hf,hlA]
      rw [Ape hO (k1:=.i64) (k2:=.i64) (by simp only [go_sem,↓reduceIte,Gq]) (by simp only [go_sem,↓reduceIte,Gq])]
      simp (disch:=first | assumption | omega) only [go_sem,↓reduceIte,f0,f7,f43,f44]
      refine Rl (l2:=[(v:Int)]) (m:=1) (by simp only [Be]; omega) (hO2 _ _) (by simp only [Be]; omega) rfl rfl (by omega) (by rw [Gq]; omega) fun x' h' hO' hF hL hK => ?_
      simp only [Be] at hL
      simp (disch:=first | assumption | omega) only [go_sem,↓reduceIte,f0,f7,f43,f44]
      exact hP2 (N-(v+1)) _ (by omega) ⟨v+1,x',rfl,by omega,by simp only [go_sem,↓reduceIte,f0,f43],by rw [hrs]; simpa [nI4] using hO',by show 71<=h'.length; omega⟩
     ·have hf':fr v=false:=by simpa using hf
      rw [if_neg hf,List.append_nil] at hrs
      simp (disch:=first | assumption | omega) only [go_sem,↓reduceIte,f0,f7,f43,f44,hlt2,hf',Bool.false_eq_true]
      exact hP2 (N-(v+1)) _ (by omega) ⟨v+1,x,rfl,by omega,by simp only [go_sem,↓reduceIte,f0,f7,f43],by rw [hrs]; exact hO2 _ _,by simp only [Be]; omega⟩
    ·obtain rfl:v=N:=by omega
     simp (disch:=first | assumption | omega) only [go_sem,↓reduceIte,f0,f7,f43,f44,hlt2]
     refine hV _ _ ?_ (Oa hO)
     rw [Jd hO,hst]
   ·have hb0:(upU (sur es) 8==0)=false:=by simpa using hu0
    rw [if_neg hu0] at hst
    by_cases hu1:upU (sur es) 8=1
    ·have hb1:(upU (sur es) 8==1)=true:=by simpa using hu1
     rw [if_pos hu1] at hst
     simp (disch:=first | assumption | omega) only [go_sem,↓reduceIte,f0,f3,f4,f24,f25,hd,hb0,hb1,Bool.false_eq_true]
     refine Is (lo:=0) (b:=8) rfl (Hj ..) (by omega) (by simp) fun x' h' hO' hF hL' _ _ => ?_
     simp (disch:=first | assumption | omega) only [go_sem,↓reduceIte]
     refine hV _ _ ?_ (Oa hO')
     rw [Jd hO',hst]; rfl
    ·have hb1:(upU (sur es) 8==1)=false:=by simpa using hu1
     rw [if_neg hu1] at hst
     simp (disch:=first | assumption | omega) only [go_sem,↓reduceIte,f0,f3,f4,f24,f25,hd,hb0,hb1,Bool.false_eq_true]
     refine hV _ _ ?_ (Zr _ _ _ _)
     rw [hst]
     exact Ds _ _ _ _ _
theorem Aju (N:Nat) (es:List Ed) (p:AV) (h0:es≠[]) (hN:N<=8) (hl:es.length<=20) (hn:∀q∈es,q.1<8/\q.2<8):Con T 7 41 [stA N es (sur es) p] (Ej (nI4 (Fe N es))):=(A1g N es p h0 hN hl hn).con
theorem Om {n base:Nat} {Q:EX×St->Prop} {d:Option Nat} {L:List IOper} {ks:List Kont} {e:Env} {h:Bc} {N:Nat} {es:List Ed} {p:AV} (hn:7<=n) (h0:es≠[]) (hN:N<=8) (hl:es.length<=20) (hn8:∀q∈es,q.1<8/\q.2<8):GP (Bd T n) base Q d L ks e (Bd T n false (.fn 41) [stA N es (sur es) p] h)=GO (Bd T n) base Q L ks ⟨Bj e d (Ej (nI4 (Fe N es))),h⟩:=
 Ey (Aju N es p h0 hN hl hn8) hn (Bv (Ih _ _ _ _ _ _) (Bz _)) rfl
def bkN (N:Nat) (es:List Ed):Bk:=⟨N,es.map eI⟩
structure OkB (N:Nat) (es:List Ed):Prop where
 n1:1<=N
 n8:N<=8
 ne:es≠[]
 le:es.length<=14
 lt:∀q∈es,q.1<N/\q.2<N
theorem OkB.lt8 {N:Nat} {es:List Ed} (h:OkB N es):∀q∈es,q.1<8/\q.2<8:=fun q hq=>by
 have:=h.lt q hq; have:=h.n8; omega
theorem OkB.le20 {N:Nat} {es:List Ed} (h:OkB N es):es.length<=20:=by have:=h.le; omega
theorem Alr {N:Nat} {es:List Ed} (h:OkB N es):Zf (bkN N es)=0:=by
 obtain ⟨h1,h2,h3,h4,h5⟩:=h
 have:0<es.length:=List.length_pos_iff.2 h3
 unfold Zf bkN
 rw [if_neg (by simp only [List.length_map]; omega),if_neg]
 intro ha
 obtain ⟨q,hq,hs⟩:=List.any_eq_true.1 ha
 obtain ⟨e,he,rfl⟩:=List.mem_map.1 hq
 have:=h5 e he
 simp [Qy,A8z,eI] at hs
 omega
theorem Nu (N:Nat) (es:List Ed):bkA (bkN N es) = .agg [.int .i64 N,eds es]:=by simp only [bkN,bkA,prs,Aox]
abbrev zS (es:List Ed):AV:=Ej (List.replicate es.length 0)
theorem Ahb (m:Nat):zer m=(List.replicate m (0:Int)).map (.int .i64):=by simp [zer]
abbrev stN (N:Nat) (es:List Ed):AV:=stA N es (sur es) (zS es)
theorem Axe {N:Nat} {es:List Ed} {h h':Bc} {v:AV} {n:Nat} (hp:Arr N (eds es) es h v h'):Bi h' (n+3) v = .ret (stN N es):=by
 obtain ⟨rfl,h1,h2,-,-⟩:=hp
 rw [Ahb] at h2
 exact Dz h1 (A5j _ (Ds _ _ _ _ _) (Ii h2 (by simp)))
theorem Ars (N:Nat) (es:List Ed) (hk:OkB N es):Con T 10 40 [bkA (bkN N es)] (.tuple [stN N es,.int .i64 0]):=by
 refine Bu t40 fun n hn V hV => ?_
 have hl20:(bkN N es).slurs.length<=20:=by have:=hk.le; simp [bkN]; omega
 have hck:=Alr hk
 have b0:((0:Int) != 0)=false:=rfl
 simp (disch:=first | assumption | omega) only [c40,go_sem,↓reduceIte,Abc,hck,b0,Bool.false_eq_true]
 have hA:=Nu N es
 simp only [bkA] at hA
 refine Ex ?_
 rw [hA]
 refine A0m N es (by have:=hk.le; omega) hk.lt8 (eds es) _ (.inl ⟨_,rfl⟩) (fun j hj=>by simp [Ea] at hj) n (by omega) fun v h' hp => ?_
 simp (disch:=first | assumption | omega) only [go_sem,↓reduceIte]
 exact hV _ _ (Ff (Axe hp) (Bl _ _ _ _))
section
variable {n base:Nat} {Q:EX×St->Prop} {d:Option Nat} {L:List IOper} {ks:List Kont} {e:Env} {h:Bc}
theorem Ib {N:Nat} {es:List Ed} {x:Bool} (hn:10<=n) (hk:OkB N es):GP (Bd T n) base Q d L ks e (Bd T n false (.fn 40) [.agg [.int .i64 N,.slice (some 2) (es.map edA) x]] h)=GO (Bd T n) base Q L ks ⟨Bj e d (.tuple [stN N es,.int .i64 0]),h⟩:=by
 have:=Ars N es hk
 rw [Nu] at this
 exact Ey this hn (Bv (Fv (Bn (Bl _ _ _ _) (Bn (Ds _ _ _ _ _) (Db _ _)))) (Bz _)) rfl
end
end Go.Ev.YtgehhippjhealaaGreatC.P4
