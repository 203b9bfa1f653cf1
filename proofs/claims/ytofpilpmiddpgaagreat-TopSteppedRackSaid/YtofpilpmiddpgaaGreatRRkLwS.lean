/- The code of functions that are walked, compiled for the evaluator, as text. Small functions of layers 6 and 8: within, the check of a sequence, find, the tapers that joints are, are rows equal, one habit behind another one. A new stand, and a taper put into one: what is handed over. The rack of a sequence, and its order. The piles of a sequence. A longest rising run, as the program finds it, and as the reference checks it. FROM STAMPS TO RACKS, STEP BY STEP: what the law's function answers, the works given. No condition but those that stand in each. -/
import Derived.Test.YtofpilpmiddpgaaGreatRStSteps
import Derived.Test.YtofpilpmiddpgaaGreatRStSme
import Derived.Test.YtofpilpmiddpgaaGreatRRkStd
import Derived.Test.YtofpilpmiddpgaaGreatRStCol
set_option linter.unusedSimpArgs false
set_option linter.unusedVariables false
set_option maxRecDepth 100000
namespace Go.Ev.YtofpilpmiddpgaaGreatC
open Go.Proofs
def c3:IFunc:=⟨154,[.tmp 2],sO [dO 2 (.mv (cB false))] (.seq (sO [mV 17 0,lN 18 17,bC 19 .gtr 18 10,mV 20 19,gV 21 0 20 false,gO 22 (.callF false 5 [tM 21]) 20 false,gO 23 (.bin .neq (tM 22) (cI 0)) 20 false,dO 24 (.pick (tM 20) (cB true) (tM 23))] (.cond (tM 24) (sO [dO 25 (.callF false 6 []),mV 2 25] .ret) .skip)) (sO [mV 27 0,dO 28 (.callF false 7 [tM 27]),mV 26 28,xT 29 26 0,xT 30 26 1,mV 3 29,mV 4 30] (.seq (sO [mV 31 4,bC 32 .neq 31 0,mV 33 32,gV 34 3 33 false,gO 35 (.bin .lss (tM 34) (cI 1)) 33 false,dO 36 (.pick (tM 33) (cB true) (tM 35)),mV 37 36,gV 38 3 37 false,gO 39 (.bin .gtr (tM 38) (cI 30)) 37 false,dO 40 (.pick (tM 37) (cB true) (tM 39))] (.cond (tM 40) (sO [dO 2 (.mv (cB false))] .ret) .skip)) (sO [mV 42 0,mV 43 3,bC 44 .sub 43 1,dO 45 (.callF false 8 [tM 42,tM 44]),mV 41 45,xT 46 41 0,xT 47 41 1,mV 5 46,mV 4 47] (.seq (sO [mV 48 4,bC 49 .neq 48 0,mV 50 49,gV 51 5 50 false,gO 52 (.callF false 5 [tM 51]) 50 false,gO 53 (.bin .neq (tM 52) (cI 0)) 50 false,dO 54 (.pick (tM 50) (cB true) (tM 53)),mV 55 54,gV 56 5 55 false,gO 57 (.len (tM 56)) 55 false,gV 58 0 55 false,gO 59 (.len (tM 58)) 55 false,gO 60 (.bin .neq (tM 57) (tM 59)) 55 false,dO 61 (.pick (tM 55) (cB true) (tM 60))] (.cond (tM 61) (sO [dO 2 (.mv (cB false))] .ret) .skip)) (sO [mV 63 0,mV 64 5,dO 65 (.callF false 9 [tM 63,tM 64]),mV 62 65,xT 66 62 0,xT 67 62 1,mV 6 66,mV 7 67] (sO [mV 69 0,dO 70 (.callF false 11 [tM 69]),dO 71 (.callF false 10 [tM 70]),mV 68 71,xT 72 68 0,xT 73 68 1,xT 74 68 2,mV 8 72,mV 9 73,mV 10 74] (sO [mV 76 5,dO 77 (.callF false 11 [tM 76]),dO 78 (.callF false 10 [tM 77]),mV 75 78,xT 79 75 0,xT 80 75 1,xT 81 75 2,mV 11 79,mV 12 80,mV 13 81] (sO [mV 83 6,dO 84 (.callF false 11 [tM 83]),dO 85 (.callF false 10 [tM 84]),mV 82 85,xT 86 82 0,xT 87 82 1,xT 88 82 2,mV 14 86,mV 15 87,mV 16 88] (.seq (sO [mV 89 7,bC 90 .neq 89 0,mV 91 90,gV 92 6 91 false,gV 93 0 91 false,gO 94 (.len (tM 93)) 91 false,gO 95 (.callF false 13 [tM 94]) 91 false,gO 96 (.callF false 12 [tM 92,tM 95]) 91 false,gO 97 (.un .not (tM 96)) 91 false,dO 98 (.pick (tM 91) (cB true) (tM 97)),mV 99 98,gV 100 10 99 false,gO 101 (.bin .neq (tM 100) (cI 0)) 99 false,dO 102 (.pick (tM 99) (cB true) (tM 101)),mV 103 102,gV 104 13 103 false,gO 105 (.bin .neq (tM 104) (cI 0)) 103 false,dO 106 (.pick (tM 103) (cB true) (tM 105)),mV 107 106,gV 108 16 107 false,gO 109 (.bin .neq (tM 108) (cI 0)) 107 false,dO 110 (.pick (tM 107) (cB true) (tM 109)),mV 111 110,gV 112 11 111 false,gV 113 9 111 false,gO 114 (.callF false 14 [tM 112,tM 113]) 111 false,gO 115 (.un .not (tM 114)) 111 false,dO 116 (.pick (tM 111) (cB true) (tM 115)),mV 117 116,gV 118 12 117 false,gV 119 8 117 false,gO 120 (.callF false 14 [tM 118,tM 119]) 117 false,gO 121 (.un .not (tM 120)) 117 false,dO 122 (.pick (tM 117) (cB true) (tM 121))] (.cond (tM 122) (sO [dO 2 (.mv (cB false))] .ret) .skip)) (.seq (sO [mV 123 14,lN 124 123,bC 125 .neq 124 1,mV 126 125,gV 127 14 126 false,gO 128 (.indexAddr 1 (tM 127) (cI 0)) 126 false,gO 129 (.load none (tM 128)) 126 false,gO 130 (.len (tM 129)) 126 false,gV 131 0 126 false,gO 132 (.len (tM 131)) 126 false,gO 133 (.bin .neq (tM 130) (tM 132)) 126 false,dO 134 (.pick (tM 126) (cB true) (tM 133)),mV 135 134,gV 136 3 135 false,gO 137 (.bin .leq (tM 136) (cI 2)) 135 false,gV 138 137 135 false,gV 139 8 138 true,gV 140 9 138 true,gO 141 (.callF false 14 [tM 139,tM 140]) 138 true,gO 142 (.un .not (tM 141)) 138 true,gO 143 (.pick (tM 138) (tM 142) (cB false)) 135 false,dO 144 (.pick (tM 135) (cB true) (tM 143))] (.cond (tM 144) (sO [dO 2 (.mv (cB false))] .ret) .skip)) (sO [mV 145 3,bC 146 .leq 145 2,mV 147 8,mV 148 9,dO 149 (.callF false 14 [tM 147,tM 148]),dO 150 (.eqB false (tM 146) (tM 149)),mV 151 150,gO 152 (.callF false 6 []) 151 true,dO 153 (.pick (tM 151) (tM 152) (cB false)),mV 2 153] .ret))))))))))))⟩
theorem k3:(Bp Tryz.prog byr).fns 3=some c3:=by kernel_rfl
theorem t3:T.fns 3=some c3:=Bt k3 (by decide) (by decide)
def c4:IFunc:=⟨170,[.tmp 2],sO [dO 2 (.mv (cB false))] (.seq (sO [mV 18 0,lN 19 18,bC 20 .gtr 19 10,mV 21 20,gV 22 0 21 false,gO 23 (.callF false 5 [tM 22]) 21 false,gO 24 (.bin .neq (tM 23) (cI 0)) 21 false,dO 25 (.pick (tM 21) (cB true) (tM 24))] (.cond (tM 25) (sO [dO 26 (.callF false 6 []),mV 2 26] .ret) .skip)) (sO [mV 28 0,dO 29 (.callF false 15 [tM 28]),mV 27 29,xT 30 27 0,xT 31 27 1,mV 3 30,mV 4 31] (sO [mV 33 0,dO 34 (.callF false 11 [tM 33]),dO 35 (.callF false 10 [tM 34]),mV 32 35,xT 36 32 0,xT 37 32 1,xT 38 32 2,mV 5 36,mV 6 37,mV 7 38] (sO [mV 40 0,dO 41 (.callF false 11 [tM 40]),dO 42 (.callF false 16 [tM 41]),mV 39 42,xT 43 39 0,xT 44 39 1,mV 8 43,mV 9 44] (.seq (sO [mV 45 4,bC 46 .neq 45 0,mV 47 46,gV 48 7 47 false,gO 49 (.bin .neq (tM 48) (cI 0)) 47 false,dO 50 (.pick (tM 47) (cB true) (tM 49)),mV 51 50,gV 52 9 51 false,gO 53 (.bin .neq (tM 52) (cI 0)) 51 false,dO 54 (.pick (tM 51) (cB true) (tM 53)),mV 55 54,gV 56 3 55 false,gO 57 (.len (tM 56)) 55 false,gO 58 (.bin .gtr (tM 57) (cI 45)) 55 false,dO 59 (.pick (tM 55) (cB true) (tM 58)),mV 60 59,gV 61 5 60 false,gO 62 (.len (tM 61)) 60 false,gO 63 (.bin .lss (tM 62) (cI 1)) 60 false,dO 64 (.pick (tM 60) (cB true) (tM 63)),mV 65 64,gV 66 5 65 false,gO 67 (.indexAddr 1 (tM 66) (cI 0)) 65 false,gO 68 (.load none (tM 67)) 65 false,gO 69 (.len (tM 68)) 65 false,gV 70 8 65 false,gO 71 (.len (tM 70)) 65 false,gO 72 (.bin .neq (tM 69) (tM 71)) 65 false,dO 73 (.pick (tM 65) (cB true) (tM 72)),mV 74 73,gV 75 3 74 false,gO 76 (.len (tM 75)) 74 false,gV 77 0 74 false,gO 78 (.len (tM 77)) 74 false,gV 79 8 74 false,gO 80 (.len (tM 79)) 74 false,gO 81 (.bin .sub (tM 78) (tM 80)) 74 false,gO 82 (.bin .lss (tM 76) (tM 81)) 74 false,dO 83 (.pick (tM 74) (cB true) (tM 82)),mV 84 83,gV 85 3 84 false,gO 86 (.len (tM 85)) 84 false,gV 87 5 84 false,gO 88 (.len (tM 87)) 84 false,gO 89 (.bin .sub (tM 88) (cI 1)) 84 false,gO 90 (.bin .lss (tM 86) (tM 89)) 84 false,dO 91 (.pick (tM 84) (cB true) (tM 90))] (.cond (tM 91) (sO [dO 2 (.mv (cB false))] .ret) .skip)) (sO [mV 92 0,dO 93 (.callF true 17 [tM 92]),mV 10 93] (sO [mV 94 8,lN 95 94,mV 11 95] (.seq (sO [dO 12 (.mv (cI 0))] (.block 0 (.loop (.seq (sO [mV 96 12,mV 97 3,lN 98 97,bB 99 .lss 96 98] (.cond (tM 99) .skip (.exit 0))) (.seq (.block 1 (sO [mV 102 3,mV 103 12,iA 104 102 103,lD 105 104,mV 13 105] (.seq (sO [mV 106 13,bC 107 .lss 106 0,mV 108 107,gV 109 13 108 false,gO 110 (.bin .add (tM 109) (cI 1)) 108 false,gV 111 10 108 false,gO 112 (.len (tM 111)) 108 false,gO 113 (.bin .geq (tM 110) (tM 112)) 108 false,dO 114 (.pick (tM 108) (cB true) (tM 113))] (.cond (tM 114) (sO [dO 2 (.mv (cB false))] .ret) .skip)) (sO [mV 115 10,mV 116 13,mV 117 10,mV 118 13,bC 119 .add 118 1,mV 120 10,mV 121 13,bC 122 .add 121 1,iA 123 120 122,lD 124 123,mV 125 10,mV 126 13,iA 127 125 126,lD 128 127,iA 129 115 116,eO (.store 1 (tM 129) (tM 124)),iA 130 117 119,eO (.store 1 (tM 130) (tM 128))] (sO [mV 132 10,dO 133 (.callF false 11 [tM 132]),dO 134 (.callF false 16 [tM 133]),mV 131 134,xT 135 131 0,xT 136 131 1,mV 14 135,mV 15 136] (sO [mV 138 10,dO 139 (.callF false 11 [tM 138]),mV 140 14,dO 141 (.callF false 18 [tM 139,tM 140]),mV 137 141,xT 142 137 0,xT 143 137 1,mV 16 142,mV 17 143] (.seq (sO [mV 144 15,bC 145 .neq 144 0,mV 146 145,gV 147 17 146 false,gO 148 (.bin .neq (tM 147) (cI 0)) 146 false,dO 149 (.pick (tM 146) (cB true) (tM 148)),mV 150 149,gV 151 16 150 false,gV 152 11 150 false,gO 153 (.bin .add (tM 152) (cI 1)) 150 false,gO 154 (.bin .gtr (tM 151) (tM 153)) 150 false,dO 155 (.pick (tM 150) (cB true) (tM 154)),mV 156 155,gV 157 16 156 false,gV 158 11 156 false,gO 159 (.bin .sub (tM 158) (cI 1)) 156 false,gO 160 (.bin .lss (tM 157) (tM 159)) 156 false,dO 161 (.pick (tM 156) (cB true) (tM 160))] (.cond (tM 161) (sO [dO 2 (.mv (cB false))] .ret) .skip)) (.ops [mV 162 16,mV 11 162])))))))) (.ops [mV 100 12,bC 101 .add 100 1,mV 12 101])))))) (sO [mV 163 11,mV 164 0,lN 165 164,bB 166 .eql 163 165,mV 167 166,gO 168 (.callF false 6 []) 167 true,dO 169 (.pick (tM 167) (tM 168) (cB false)),mV 2 169] .ret)))))))))⟩
theorem k4:(Bp Tryz.prog byr).fns 4=some c4:=by kernel_rfl
theorem t4:T.fns 4=some c4:=Bt k4 (by decide) (by decide)
def c11:IFunc:=⟨20,[.tmp 2],sO [dO 2 (.mv (.const (.slice none [] true)))] (sO [dO 3 (.mv (.const (.slice none [] true)))] (.seq (sO [dO 4 (.mv (cI 0))] (.block 0 (.loop (.seq (sO [mV 5 4,mV 6 0,lN 7 6,bB 8 .lss 5 7] (.cond (tM 8) .skip (.exit 0))) (.seq (.block 1 (.ops [mV 11 3,mV 12 0,mV 13 4,iA 14 12 13,lD 15 14,bC 16 .add 15 1,dO 17 (.buildSlice none [.int .i64 0] [(0,(1,tM 16))]),dO 18 (.append none 8 (tM 11) (tM 17)),mV 3 18])) (.ops [mV 9 4,bC 10 .add 9 1,mV 4 10])))))) (sO [mV 19 3,mV 2 19] .ret)))⟩
theorem k11:(Bp Tryz.prog byr).fns 11=some c11:=by kernel_rfl
theorem t11:T.fns 11=some c11:=Bt k11 (by decide) (by decide)
def c10:IFunc:=⟨59,[.tmp 2,.tmp 3,.tmp 4],sO [dO 2 (.mv (.const (.slice none [] true))),dO 3 (.mv (.const (.slice none [] true))),dO 4 (.mv (cI 0))] (.seq (sO [mV 13 0,dO 14 (.callF false 27 [tM 13]),mV 5 14] (sO [mV 15 5,bC 16 .neq 15 0] (.cond (tM 16) (sO [mV 17 5,dO 2 (.mv (.const (.slice none [] true))),dO 3 (.mv (.const (.slice none [] true))),mV 4 17] .ret) .skip))) (sO [dO 6 (.mv (.const (.slice none [] true)))] (sO [dO 18 (.callF true 28 [.const (.slice none [] true)]),mV 7 18] (sO [mV 19 7,dO 20 (.mkFunc 29 [tM 19] []),mV 8 20] (.seq (sO [mV 21 0,lN 22 21,dO 23 (.mv (cI 0))] (.block 0 (.loop (sO [bB 24 .lss 23 22] (.seq (.cond (tM 24) .skip (.exit 0)) (.seq (.block 1 (sO [mV 25 23,iA 26 21 23,lD 27 26,mV 9 25,mV 10 27] (sO [mV 29 8,mV 30 10,dO 31 (.call true (tM 29) [tM 30]),mV 28 31,xT 32 28 0,xT 33 28 1,mV 11 32,mV 12 33] (.seq (sO [mV 34 11,mV 35 6,lN 36 35,bB 37 .eql 34 36] (.cond (tM 37) (.ops [mV 38 6,dO 39 (.buildSliceO none [.slice none [] true] [(0,(1,.const (.slice none [] true)))]),dO 40 (.append none 24 (tM 38) (tM 39)),mV 6 40]) .skip)) (.ops [mV 41 6,mV 42 11,mV 43 6,mV 44 11,iA 45 43 44,lD 46 45,mV 47 9,bC 48 .add 47 1,dO 49 (.buildSlice none [.int .i64 0] [(0,(1,tM 48))]),dO 50 (.append none 8 (tM 46) (tM 49)),iA 51 41 42,eO (.store 1 (tM 51) (tM 50))]))))) (.ops [bC 52 .add 23 1,mV 23 52]))))))) (sO [mV 53 7,dO 54 (.nilCheck (tM 53)),dO 55 (.fieldAddr 0 (tM 54)),dO 56 (.fieldAddr 0 (tM 55)),lD 57 56,mV 58 6,mV 2 57,mV 3 58,dO 4 (.mv (cI 0))] .ret))))))⟩
theorem k10:(Bp Tryz.prog byr).fns 10=some c10:=by kernel_rfl
theorem t10:T.fns 10=some c10:=Bt k10 (by decide) (by decide)
def c16:IFunc:=⟨54,[.tmp 2,.tmp 3],sO [dO 2 (.mv (.const (.slice none [] true))),dO 3 (.mv (cI 0))] (.seq (sO [mV 10 0,dO 11 (.callF false 27 [tM 10]),mV 4 11] (sO [mV 12 4,bC 13 .neq 12 0] (.cond (tM 13) (sO [mV 14 4,dO 2 (.mv (.const (.slice none [] true))),mV 3 14] .ret) .skip))) (sO [mV 16 0,dO 17 (.callF false 34 [tM 16]),mV 15 17,xT 18 15 0,xT 19 15 1,mV 5 18,mV 6 19] (.seq (sO [mV 20 5,lN 21 20,bC 22 .eql 21 0] (.cond (tM 22) (sO [dO 2 (.mv (.const (.slice none [] true))),dO 3 (.mv (cI 0))] .ret) .skip)) (sO [mV 23 5,lN 24 23,dO 25 (.mkSlice none [.int .i64 0] 8 (tM 24) (tM 24)),mV 7 25] (sO [mV 26 5,mV 27 5,lN 28 27,bC 29 .sub 28 1,iA 30 26 29,lD 31 30,dO 32 (.indexAddr 1 (tM 31) (cI 0)),lD 33 32,mV 8 33] (.seq (sO [mV 34 7,lN 35 34,dO 36 (.mv (cI 0))] (.block 0 (.loop (sO [bB 37 .lss 36 35] (.seq (.cond (tM 37) .skip (.exit 0)) (.seq (.block 1 (sO [mV 38 36,mV 9 38] (sO [mV 39 7,mV 40 7,lN 41 40,bC 42 .sub 41 1,mV 43 9,bB 44 .sub 42 43,mV 45 8,iA 46 39 44,eO (.store 1 (tM 46) (tM 45))] (.ops [mV 47 6,mV 48 8,iA 49 47 48,lD 50 49,dO 51 (.max [cI 0,tM 50]),mV 8 51])))) (.ops [bC 52 .add 36 1,mV 36 52]))))))) (sO [mV 53 7,mV 2 53,dO 3 (.mv (cI 0))] .ret)))))))⟩
theorem k16:(Bp Tryz.prog byr).fns 16=some c16:=by kernel_rfl
theorem t16:T.fns 16=some c16:=Bt k16 (by decide) (by decide)
def c18:IFunc:=⟨41,[.tmp 4,.tmp 5],sO [dO 4 (.mv (cI 0)),dO 5 (.mv (cI 0))] (.seq (sO [mV 7 0,dO 8 (.callF false 35 [tM 7]),bC 9 .neq 8 0] (.cond (tM 9) (sO [mV 10 0,dO 11 (.callF false 35 [tM 10]),dO 4 (.mv (cI 0)),mV 5 11] .ret) .skip)) (.seq (sO [mV 12 1,mV 13 0,lN 14 13,dO 15 (.callF false 36 [tM 12,tM 14]),dO 16 (.un .not (tM 15))] (.cond (tM 16) (sO [dO 4 (.mv (cI 0)),dO 5 (.mv (cI 3))] .ret) .skip)) (.seq (sO [dO 6 (.mv (cI 1))] (.block 0 (.loop (.seq (sO [mV 17 6,mV 18 1,lN 19 18,bB 20 .lss 17 19] (.cond (tM 20) .skip (.exit 0))) (.seq (.block 1 (sO [mV 23 0,mV 24 1,mV 25 6,iA 26 24 25,lD 27 26,iA 28 23 27,lD 29 28,mV 30 0,mV 31 1,mV 32 6,bC 33 .sub 32 1,iA 34 31 33,lD 35 34,iA 36 30 35,lD 37 36,bB 38 .lss 29 37] (.cond (tM 38) (sO [dO 4 (.mv (cI 0)),dO 5 (.mv (cI 22))] .ret) .skip))) (.ops [mV 21 6,bC 22 .add 21 1,mV 6 22])))))) (sO [mV 39 1,lN 40 39,mV 4 40,dO 5 (.mv (cI 0))] .ret))))⟩
theorem k18:(Bp Tryz.prog byr).fns 18=some c18:=by kernel_rfl
theorem t18:T.fns 18=some c18:=Bt k18 (by decide) (by decide)
def c27:IFunc:=⟨11,[.tmp 2],sO [dO 2 (.mv (cI 0))] (.seq (.block 0 (sO [mV 4 0,lN 5 4,bC 6 .gtr 5 12,mV 3 6] (.cond (tM 3) (sO [dO 2 (.mv (cI 6))] .ret) (sO [mV 8 0,dO 9 (.callF false 60 [cI 1,cI 99,tM 8]),dO 10 (.un .not (tM 9)),mV 7 10] (.cond (tM 7) (sO [dO 2 (.mv (cI 3))] .ret) .skip))))) (sO [dO 2 (.mv (cI 0))] .ret))⟩
theorem k27:(Bp Tryz.prog byr).fns 27=some c27:=by kernel_rfl
theorem t27:T.fns 27=some c27:=Bt k27 (by decide) (by decide)
def c28:IFunc:=⟨49,[.tmp 2],sO [dO 2 (.mv (.const .nilptr))] (sO [⟨some 8,.mkMap,none⟩,dO 9 (.build [.slice none [] true,.fmap [] []] [(1,(1,tM 8))]),dO 10 (.box (tM 9)),mV 3 10] (.seq (sO [mV 11 0,lN 12 11,dO 13 (.mv (cI 0))] (.block 0 (.loop (sO [bB 14 .lss 13 12] (.seq (.cond (tM 14) .skip (.exit 0)) (.seq (.block 1 (sO [mV 15 13,iA 16 11 13,lD 17 16,mV 4 15,mV 5 17] (sO [mV 18 3,mV 19 3,dO 20 (.nilCheck (tM 19)),dO 21 (.fieldAddr 0 (tM 20)),dO 22 (.fieldAddr 0 (tM 21)),dO 23 (.loadL none (tM 22) 23 49 []),mV 24 5,dO 25 (.callD 25 49 61 [tM 24]),dO 26 (.buildSliceO none [.slice none [] true] [(0,(1,tM 25))]),dO 27 (.append none 24 (tM 23) (tM 26)),dO 28 (.nilCheck (tM 18)),dO 29 (.fieldAddr 0 (tM 28)),dO 30 (.fieldAddr 0 (tM 29)),eO (.store 1 (tM 30) (tM 27))] (sO [mV 31 5,lN 32 31,dO 33 (.mv (cI 0))] (.block 2 (.loop (sO [bB 34 .lss 33 32] (.seq (.cond (tM 34) .skip (.exit 2)) (.seq (.block 3 (sO [mV 35 33,iA 36 31 33,lD 37 36,mV 6 35,mV 7 37] (.ops [mV 38 3,dO 39 (.nilCheck (tM 38)),dO 40 (.fieldAddr 1 (tM 39)),lD 41 40,mV 42 4,mV 43 6,dO 44 (.build [.int .i64 0,.int .i64 0] [(0,(1,tM 42)),(1,(1,tM 43))]),mV 45 7,eO (.mapUpdate (some 2) (tM 41) (tM 44) (tM 45))]))) (.ops [bC 46 .add 33 1,mV 33 46])))))))))) (.ops [bC 47 .add 13 1,mV 13 47]))))))) (sO [mV 48 3,mV 2 48] .ret)))⟩
theorem k28:(Bp Tryz.prog byr).fns 28=some c28:=by kernel_rfl
theorem t28:T.fns 28=some c28:=Bt k28 (by decide) (by decide)
def c29:IFunc:=⟨96,[.tmp 4,.tmp 5],sO [dO 3 (.box (tM 1)),dO 4 (.mv (cI 0)),dO 5 (.mv (cI 0))] (sO [dO 6 (.mv (cI (-1)))] (.seq .skip (.seq (sO [mV 10 0,dO 11 (.nilCheck (tM 10)),dO 12 (.fieldAddr 0 (tM 11)),dO 13 (.fieldAddr 0 (tM 12)),lD 14 13,lN 15 14,dO 16 (.mv (cI 0))] (.block 0 (.loop (sO [bB 17 .lss 16 15] (.seq (.cond (tM 17) .skip (.exit 0)) (.seq (.block 1 (sO [mV 18 16,iA 19 14 16,lD 20 19,mV 7 18,mV 8 20] (sO [mV 21 8,dO 22 (.mkFunc 63 [] [tM 3]),dO 23 (.callF false 62 [tM 21,tM 22]),mV 9 23] (.seq (sO [mV 24 6,bC 25 .lss 24 0] (.cond (tM 25) (.ops [mV 26 9,mV 6 26]) .skip)) (sO [mV 27 0,dO 28 (.nilCheck (tM 27)),dO 29 (.fieldAddr 1 (tM 28)),lD 30 29,mV 31 7,mV 32 9,dO 33 (.build [.int .i64 0,.int .i64 0] [(0,(1,tM 31)),(1,(1,tM 32))]),lD 34 3,eO (.mapUpdate (some 2) (tM 30) (tM 33) (tM 34))] (.seq (sO [mV 35 9,mV 36 8,lN 37 36,bB 38 .eql 35 37] (.cond (tM 38) (sO [mV 39 0,dO 40 (.nilCheck (tM 39)),dO 41 (.fieldAddr 0 (tM 40)),dO 42 (.fieldAddr 0 (tM 41)),dO 43 (.loadU none (tM 42) 8),mV 44 7,mV 45 8,lD 46 3,dO 47 (.buildSliceO none [.int .i64 0] [(0,(1,tM 46))]),dO 48 (.appendU 8 none 8 (tM 45) (tM 47)),iA 49 43 44,eO (.store 1 (tM 49) (tM 48))] (sO [mV 50 7,mV 51 6,mV 4 50,mV 5 51] .ret)) .skip)) (sO [mV 52 8,mV 53 9,lD 54 3,mV 55 8,mV 56 9,iA 57 55 56,lD 58 57,iA 59 52 53,eO (.store 1 (tM 59) (tM 54)),eO (.store 1 (tM 3) (tM 58))] (.exit 1)))))))) (.ops [bC 60 .add 16 1,mV 16 60]))))))) (sO [mV 61 0,mV 62 0,dO 63 (.nilCheck (tM 62)),dO 64 (.fieldAddr 0 (tM 63)),dO 65 (.fieldAddr 0 (tM 64)),lD 66 65,lD 67 3,dO 68 (.buildSliceO none [.int .i64 0] [(0,(1,tM 67))]),dO 69 (.buildSliceO none [.slice none [] true] [(0,(1,tM 68))]),dO 70 (.append none 24 (tM 66) (tM 69)),dO 71 (.nilCheck (tM 61)),dO 72 (.fieldAddr 0 (tM 71)),dO 73 (.fieldAddr 0 (tM 72)),eO (.store 1 (tM 73) (tM 70))] (sO [mV 74 0,dO 75 (.nilCheck (tM 74)),dO 76 (.fieldAddr 1 (tM 75)),lD 77 76,mV 78 0,dO 79 (.nilCheck (tM 78)),dO 80 (.fieldAddr 0 (tM 79)),dO 81 (.fieldAddr 0 (tM 80)),lD 82 81,lN 83 82,bC 84 .sub 83 1,dO 85 (.build [.int .i64 0,.int .i64 0] [(0,(1,tM 84)),(1,(1,cI 0))]),lD 86 3,eO (.mapUpdate (some 2) (tM 77) (tM 85) (tM 86))] (sO [mV 87 0,dO 88 (.nilCheck (tM 87)),dO 89 (.fieldAddr 0 (tM 88)),dO 90 (.fieldAddr 0 (tM 89)),lD 91 90,lN 92 91,bC 93 .sub 92 1,mV 94 6,dO 95 (.max [cI 0,tM 94]),mV 4 93,mV 5 95] .ret))))))⟩
theorem k29:(Bp Tryz.prog byr).fns 29=some c29:=by kernel_rfl
theorem t29:T.fns 29=some c29:=Bt k29 (by decide) (by decide)
def c34:IFunc:=⟨77,[.tmp 2,.tmp 3],sO [dO 2 (.mv (.const (.slice none [] true))),dO 3 (.mv (.const (.slice none [] true)))] (sO [dO 4 (.mv (.const (.slice none [] true)))] (sO [dO 5 (.mv (.const (.slice none [] true)))] (sO [dO 12 (.callF true 28 [.const (.slice none [] true)]),mV 6 12] (.seq (sO [mV 13 0,lN 14 13,dO 15 (.mv (cI 0))] (.block 0 (.loop (sO [bB 16 .lss 15 14] (.seq (.cond (tM 16) .skip (.exit 0)) (.seq (.block 1 (sO [mV 17 15,iA 18 13 15,lD 19 18,mV 7 17,mV 8 19] (sO [mV 21 6,mV 22 8,dO 23 (.callF true 29 [tM 21,tM 22]),mV 20 23,xT 24 20 0,xT 25 20 1,mV 9 24,mV 10 25] (sO [dO 11 (.mv (cI (-1)))] (.seq (sO [mV 26 10,bC 27 .gtr 26 0] (.cond (tM 27) (.ops [mV 28 4,mV 29 10,bC 30 .sub 29 1,iA 31 28 30,lD 32 31,mV 33 4,mV 34 10,bC 35 .sub 34 1,iA 36 33 35,lD 37 36,lN 38 37,bC 39 .sub 38 1,iA 40 32 39,lD 41 40,mV 11 41]) .skip)) (sO [mV 42 5,mV 43 11,dO 44 (.buildSlice none [.int .i64 0] [(0,(1,tM 43))]),dO 45 (.append none 8 (tM 42) (tM 44)),mV 5 45] (.seq (sO [mV 46 10,mV 47 4,lN 48 47,bB 49 .eql 46 48] (.cond (tM 49) (.ops [mV 50 4,dO 51 (.buildSliceO none [.slice none [] true] [(0,(1,.const (.slice none [] true)))]),dO 52 (.append none 24 (tM 50) (tM 51)),mV 4 52]) .skip)) (.ops [mV 53 4,mV 54 10,mV 55 4,mV 56 10,iA 57 55 56,lD 58 57,mV 59 4,mV 60 10,iA 61 59 60,lD 62 61,lN 63 62,mV 64 4,mV 65 10,iA 66 64 65,lD 67 66,lN 68 67,dO 69 (.slice none (tM 58) none (some (tM 63)) (some (tM 68))),mV 70 7,dO 71 (.buildSlice none [.int .i64 0] [(0,(1,tM 70))]),dO 72 (.append none 8 (tM 69) (tM 71)),iA 73 53 54,eO (.store 1 (tM 73) (tM 72))])))))))) (.ops [bC 74 .add 15 1,mV 15 74]))))))) (sO [mV 75 4,mV 76 5,mV 2 75,mV 3 76] .ret)))))⟩
theorem k34:(Bp Tryz.prog byr).fns 34=some c34:=by kernel_rfl
theorem t34:T.fns 34=some c34:=Bt k34 (by decide) (by decide)
def c35:IFunc:=⟨25,[.tmp 2],sO [dO 2 (.mv (cI 0))] (.seq (sO [mV 4 0,lN 5 4,bC 6 .gtr 5 12] (.cond (tM 6) (sO [dO 2 (.mv (cI 6))] .ret) .skip)) (.seq (sO [dO 3 (.mv (cI 0))] (.block 0 (.loop (.seq (sO [mV 7 3,mV 8 0,lN 9 8,bB 10 .lss 7 9] (.cond (tM 10) .skip (.exit 0))) (.seq (.block 1 (sO [mV 13 0,mV 14 3,iA 15 13 14,lD 16 15,bC 17 .lss 16 1,mV 18 17,gV 19 0 18 false,gV 20 3 18 false,gO 21 (.indexAddr 1 (tM 19) (tM 20)) 18 false,gO 22 (.load none (tM 21)) 18 false,gO 23 (.bin .gtr (tM 22) (cI 99)) 18 false,dO 24 (.pick (tM 18) (cB true) (tM 23))] (.cond (tM 24) (sO [dO 2 (.mv (cI 3))] .ret) .skip))) (.ops [mV 11 3,bC 12 .add 11 1,mV 3 12])))))) (sO [dO 2 (.mv (cI 0))] .ret)))⟩
theorem k35:(Bp Tryz.prog byr).fns 35=some c35:=by kernel_rfl
theorem t35:T.fns 35=some c35:=Bt k35 (by decide) (by decide)
def c36:IFunc:=⟨41,[.tmp 4],sO [dO 4 (.mv (cB false))] (.seq (sO [dO 5 (.mv (cI 0))] (.block 0 (.loop (.seq (sO [mV 6 5,mV 7 0,lN 8 7,bB 9 .lss 6 8] (.cond (tM 9) .skip (.exit 0))) (.seq (.block 1 (sO [mV 12 0,mV 13 5,iA 14 12 13,lD 15 14,bC 16 .lss 15 0,mV 17 16,gV 18 0 17 false,gV 19 5 17 false,gO 20 (.indexAddr 1 (tM 18) (tM 19)) 17 false,gO 21 (.load none (tM 20)) 17 false,gV 22 1 17 false,gO 23 (.bin .geq (tM 21) (tM 22)) 17 false,dO 24 (.pick (tM 17) (cB true) (tM 23)),mV 25 24,gV 26 5 25 false,gO 27 (.bin .gtr (tM 26) (cI 0)) 25 false,gV 28 27 25 false,gV 29 0 28 true,gV 30 5 28 true,gO 31 (.indexAddr 1 (tM 29) (tM 30)) 28 true,gO 32 (.load none (tM 31)) 28 true,gV 33 0 28 true,gV 34 5 28 true,gO 35 (.bin .sub (tM 34) (cI 1)) 28 true,gO 36 (.indexAddr 1 (tM 33) (tM 35)) 28 true,gO 37 (.load none (tM 36)) 28 true,gO 38 (.bin .leq (tM 32) (tM 37)) 28 true,gO 39 (.pick (tM 28) (tM 38) (cB false)) 25 false,dO 40 (.pick (tM 25) (cB true) (tM 39))] (.cond (tM 40) (sO [dO 4 (.mv (cB false))] .ret) .skip))) (.ops [mV 10 5,bC 11 .add 10 1,mV 5 11])))))) (sO [dO 4 (.mv (cB true))] .ret))⟩
theorem k36:(Bp Tryz.prog byr).fns 36=some c36:=by kernel_rfl
theorem t36:T.fns 36=some c36:=Bt k36 (by decide) (by decide)
def c60:IFunc:=⟨11,[.tmp 6],sO [dO 3 (.box (tM 0)),dO 4 (.box (tM 1)),dO 6 (.mv (cB false))] (sO [mV 7 2,dO 8 (.mkFunc 102 [] [tM 3,tM 4]),dO 9 (.callF false 101 [tM 7,tM 8]),dO 10 (.un .not (tM 9)),mV 6 10] .ret)⟩
theorem k60:(Bp Tryz.prog byr).fns 60=some c60:=by kernel_rfl
theorem t60:T.fns 60=some c60:=Bt k60 (by decide) (by decide)
def c62:IFunc:=⟨21,[.tmp 4],sO [dO 4 (.mv (cI 0))] (.seq (sO [mV 7 0,lN 8 7,dO 9 (.mv (cI 0))] (.block 0 (.loop (sO [bB 10 .lss 9 8] (.seq (.cond (tM 10) .skip (.exit 0)) (.seq (.block 1 (sO [mV 11 9,iA 12 7 9,lD 13 12,mV 5 11,mV 6 13] (sO [mV 14 1,mV 15 6,dO 16 (.call false (tM 14) [tM 15])] (.cond (tM 16) (sO [mV 17 5,mV 4 17] .ret) .skip)))) (.ops [bC 18 .add 9 1,mV 9 18]))))))) (sO [mV 19 0,lN 20 19,mV 4 20] .ret))⟩
theorem k62:(Bp Tryz.prog byr).fns 62=some c62:=by kernel_rfl
theorem t62:T.fns 62=some c62:=Bt k62 (by decide) (by decide)
def c63:IFunc:=⟨7,[.tmp 3],sO [dO 3 (.mv (cB false))] (sO [mV 4 0,lD 5 1,bB 6 .gtr 4 5,mV 3 6] .ret)⟩
theorem k63:(Bp Tryz.prog byr).fns 63=some c63:=by kernel_rfl
theorem t63:T.fns 63=some c63:=Bt k63 (by decide) (by decide)
def c102:IFunc:=⟨13,[.tmp 4],sO [dO 4 (.mv (cB false))] (sO [mV 5 0,lD 6 1,bB 7 .lss 5 6,mV 8 7,gV 9 0 8 false,gO 10 (.load none (tM 2)) 8 false,gO 11 (.bin .gtr (tM 9) (tM 10)) 8 false,dO 12 (.pick (tM 8) (cB true) (tM 11)),mV 4 12] .ret)⟩
theorem k102:(Bp Tryz.prog byr).fns 102=some c102:=by kernel_rfl
theorem t102:T.fns 102=some c102:=Bt k102 (by decide) (by decide)
def c9:IFunc:=⟨45,[.tmp 4,.tmp 5],sO [dO 4 (.mv (.const (.slice none [] true))),dO 5 (.mv (cI 0))] (sO [mV 13 0,mV 14 1,dO 15 (.callF false 26 [tM 13,tM 14]),mV 12 15,xT 16 12 0,xT 17 12 1,xT 18 12 2,mV 6 16,mV 7 17,mV 8 18] (.seq (sO [mV 19 8,bC 20 .neq 19 0] (.cond (tM 20) (sO [mV 21 8,dO 4 (.mv (.const (.slice none [] true))),mV 5 21] .ret) .skip)) (sO [dO 9 (.mv (.const (.slice none [] true)))] (.seq (sO [mV 22 6,dO 23 (.nilCheck (tM 22)),dO 24 (.fieldAddr 0 (tM 23)),dO 25 (.fieldAddr 0 (tM 24)),lD 26 25,lN 27 26,dO 28 (.mv (cI 0))] (.block 0 (.loop (sO [bB 29 .lss 28 27] (.seq (.cond (tM 29) .skip (.exit 0)) (.seq (.block 1 (sO [iA 30 26 28,lD 31 30,mV 11 31] (.ops [mV 32 9,mV 33 7,dO 34 (.nilCheck (tM 33)),dO 35 (.fieldAddr 0 (tM 34)),dO 36 (.fieldAddr 0 (tM 35)),lD 37 36,mV 38 11,iA 39 37 38,lD 40 39,dO 41 (.buildSlice none [.int .i64 0] [(0,(1,tM 40))]),dO 42 (.append none 8 (tM 32) (tM 41)),mV 9 42]))) (.ops [bC 43 .add 28 1,mV 28 43]))))))) (sO [mV 44 9,mV 4 44,dO 5 (.mv (cI 0))] .ret)))))⟩
theorem k9:(Bp Tryz.prog byr).fns 9=some c9:=by kernel_rfl
theorem t9:T.fns 9=some c9:=Bt k9 (by decide) (by decide)
end Go.Ev.YtofpilpmiddpgaaGreatC
namespace Go.Ev.YtofpilpmiddpgaaGreatC
open Go Go.Proofs
abbrev Abq (L:List (List Nat)):AV:=.slice none (L.map fun r=>Dk (nI6 r)) false
theorem A4w {p:List Nat} {i x:Nat} (h:p[i]? = some x):(nI6 p)[i]? = some (x:Int):=by rw [nI6,List.getElem?_map,h]; rfl
theorem Vx (a b:List Nat):nI6 (a++b)=nI6 a++nI6 b:=by simp [nI6]
theorem Jx (p:List Nat):(tpP p).length=p.length:=by simp [tpP]
structure SeqK (w:List Nat):Prop where
 len:w.length<=12
 rng:∀y∈w,1<=y/\y<=99
theorem Afn {p:List Nat} (h10:p.length<=10) (h:∀x∈p,x<p.length):SeqK (tpP p):=⟨by rw [Jx]; omega,fun y hy=>by
 obtain ⟨x,hx,rfl⟩:=List.mem_map.1 hy
 have:=h x hx
 omega⟩
attribute [local irreducible] Res.all evC Dd Dg Bo Bf Dl Bg Bi G GO GV GP GC R
theorem A3q (x lo hi:Int):Con T 1 102 ([]++[.int .i64 x]++[.ptr [.int .i64 lo] 0,.ptr [.int .i64 hi] 0]) (.bool (decide (x<lo)||decide (x>hi))):=by
 refine Bs t102 fun n hn V hV => ?_
 by_cases g1:x<lo
 ·simp (disch:=first | assumption | omega) only [c102,go_sem,↓reduceIte,g1,List.cons_append]
  refine hV _ _ ?_
  simp [g1,Dm]
 ·simp (disch:=first | assumption | omega) only [c102,go_sem,↓reduceIte,g1,List.cons_append]
  refine hV _ _ ?_
  simp [g1,Dm]
theorem A6u (lo hi:Int) (xs:List Int) (hl:xs.length<=1000):Con T 4 60 [.int .i64 lo,.int .i64 hi,Dk xs] (.bool (Iz lo hi xs)):=by
 refine Bs t60 fun n hn V hV => ?_
 simp (disch:=first | assumption | omega) only [c60,go_sem,↓reduceIte]
 refine Dq (A0z (p:=fun x=>decide (x<lo)||decide (x>hi)) xs hl (fun x _=>A3q x lo hi) (fun h x => ?_) (fun h => ?_)) hn (Di _ _ _ _ (By (Gk (Df _ _) (Bv (Eu (cs:=[.int .i64 lo]) (by simp [go_sem,↓reduceIte]) (Bv (Bm _ _ _ _) (Df _ _))) (Bv (Eu (cs:=[.int .i64 hi]) (by simp [go_sem,↓reduceIte]) (Bv (Bm _ _ _ _) (Df _ _))) (Df _ _)))) (Bx _))) (Gs _ _) ?_
 ·exact Fi _ _ _ (By (Ea _ _ _ _) (By (Ea _ _ _ _) (Bx _)))
 ·exact Gk (Df _ _) (Bv (Ea _ _ _ _) (Bv (Ea _ _ _ _) (Df _ _)))
 simp (disch:=first | assumption | omega) only [go_sem,↓reduceIte]
 exact hV _ _ (Dm _ _ _)
theorem Yd (w:List Nat) (hw:SeqK w):Con T 5 27 [Dk (nI6 w)] (.int .i64 0):=by
 refine Bs t27 fun n hn V hV => ?_
 have hl:=Dw w
 have h12:=hw.len
 have d1:decide ((w.length:Int)>12)=false:=decide_eq_false (by omega)
 have w2:Iz 1 99 (nI6 w)=true:=by
  simp only [Iz,Bool.not_eq_true',List.any_eq_false,Bool.or_eq_true,decide_eq_true_eq]
  intro x hx
  obtain ⟨y,hy,rfl⟩:=List.mem_map.1 hx
  have:=hw.rng y hy
  omega
 simp (disch:=first | assumption | omega) only [c27,go_sem,↓reduceIte,hl,d1]
 refine Dq (A6u 1 99 (nI6 w) (by omega)) hn (Fi _ _ _ (Fi _ _ _ (Di _ _ _ _ (Bx _)))) (Gs _ _) ?_
 simp (disch:=first | assumption | omega) only [go_sem,↓reduceIte,w2]
 exact hV _ _ (Bm _ _ _ _)
theorem Aky (x y:Int):Con T 1 63 ([]++[.int .i64 x]++[.ptr [.int .i64 y] 0]) (.bool (decide (x>y))):=by
 refine Bs t63 fun n hn V hV => ?_
 simp (disch:=first | assumption | omega) only [c63,go_sem,↓reduceIte,List.cons_append]
 exact hV _ _ (Dm _ _ _)
theorem Acy (r:List Nat) (y:Nat) (hl:r.length<=1000):Con T 2 62 [Dk (nI6 r),.clo 63 [] [.ptr [.int .i64 (y:Nat)] 0]] (.int .i64 (Dr y r:Nat)):=by
 refine Bs t62 fun n hn V hV => ?_
 have hlr:=Dw r
 simp (disch:=first | assumption | omega) only [c62,go_sem,↓reduceIte,hlr]
 refine Da (fun M s=>∃k:Nat,M=r.length-k/\k<=r.length/\At s.env [(0,Dk (nI6 r)),(1,.clo 63 [] [.ptr [.int .i64 (y:Nat)] 0]),(7,Dk (nI6 r)),(8,.int .i64 r.length),(9,.int .i64 k)]/\Dr y r=k+Dr y (r.drop k)) r.length (by omega) ⟨0,by omega,by omega,by simp only [go_sem,↓reduceIte],by simp⟩ ?_
 rintro M e h hM ⟨k,rfl,hk,hE,hA⟩ P hP
 simp only [Br,Bw] at hE
 obtain ⟨f0,f1,f7,f8,f9,-⟩:=hE
 by_cases hlt:k<r.length
 ·have hlt':(k:Int)<(r.length:Int):=by omega
  have hg:=Fo hlt
  rw [List.drop_eq_getElem_cons hlt,Dr] at hA
  simp (disch:=first | assumption | omega) only [go_sem,↓reduceIte,f0,f1,f7,f8,f9,hlt',hg]
  refine Dq (Aky _ _) hn (Fi _ _ _ (By (Ea _ _ _ _) (Bx _))) (Gs _ _) ?_
  by_cases hp:r[k]>y
  ·have hp':decide (y<r[k])=true:=decide_eq_true hp
   rw [if_pos hp] at hA
   simp (disch:=first | assumption | omega) only [go_sem,↓reduceIte,hp']
   exact hV _ _ (by rw [Bm,hA]; rfl)
  ·have hp':decide (y<r[k])=false:=decide_eq_false hp
   rw [if_neg hp] at hA
   simp (disch:=first | assumption | omega) only [go_sem,↓reduceIte,hp',f9]
   exact hP (r.length-(k+1)) _ (by omega) ⟨k+1,rfl,by omega,by simp only [go_sem,↓reduceIte,f0,f1,f7,f8],by rw [hA]; omega⟩
 ·have hlt':¬(k:Int)<(r.length:Int):=by omega
  rw [List.drop_eq_nil_of_le (by omega)] at hA
  simp (disch:=first | assumption | omega) only [go_sem,↓reduceIte,f0,f8,f9,hlt',hlr]
  exact hV _ _ (by rw [Bm,hA,show Dr y []=0 from rfl]; congr 3; omega)
theorem Li (p:List Nat) (h10:p.length<=10) (hx:∀x∈p,x<=1000):A3d T 1 11 [Dk (nI6 p)] (Dk (nI6 (tpP p))):=by
 refine Ou t11 fun n hn V hV => ?_
 have hl:=Dw p
 simp (disch:=first | assumption | omega) only [c11,go_sem,↓reduceIte]
 refine Da (fun M s=>∃(k:Nat) (x:AV),M=p.length-k/\k<=p.length/\At s.env [(0,Dk (nI6 p)),(3,x),(4,.int .i64 k)]/\Own 20 s.heap x .i64 (nI6 (tpP (p.take k)))/\20<=s.heap.length) p.length (by omega)
  ⟨0,_,by omega,by omega,by simp only [go_sem,↓reduceIte],Hs ..,by simp⟩ ?_
 rintro M e h hM ⟨k,x,rfl,hk,hE,hO,hL⟩ P hP
 simp only [Br,Bw] at hE hO hL
 obtain ⟨f0,f3,f4,-⟩:=hE
 by_cases hlt:k<p.length
 ·have hlt':(k:Int)<(p.length:Int):=by omega
  have hg:=Fo hlt
  have hb:=hx _ (List.getElem_mem hlt)
  simp (disch:=first | assumption | omega) only [go_sem,↓reduceIte,f0,f3,f4,hl,hlt',hg]
  refine Is (by first | with_reducible rfl | (simp only [Bd,List.length_append,List.length_replicate]; done) | (simp only [Bd,List.length_append,List.length_replicate]; omega)) hO (by omega) (by rw [Dw,Jx,List.length_take]; omega) fun x' h2 hO' _ hL' _ _ => ?_
  simp (disch:=first | assumption | omega) only [go_sem,↓reduceIte,f4]
  refine hP (p.length-(k+1)) _ (by omega) ⟨k+1,x',rfl,by omega,by simp only [go_sem,↓reduceIte,f0],?_,(by omega:20<=h2.length)⟩
  have:nI6 (tpP (p.take (k+1)))=nI6 (tpP (p.take k))++[((p[k]:Nat):Int)+1]:=by
   rw [List.take_succ_eq_append_getElem hlt,tpP,tpP,List.map_append,Vx]
   simp [nI6]
  rw [this]
  exact hO'
 ·have hlt':¬(k:Int)<(p.length:Int):=by omega
  rw [List.take_of_length_le (by omega)] at hO
  simp (disch:=first | assumption | omega) only [go_sem,↓reduceIte,f0,f3,f4,hl,hlt']
  exact hV _ _ (Oc hO) (A1m hO)
end Go.Ev.YtofpilpmiddpgaaGreatC
namespace Go.Ev.YtofpilpmiddpgaaGreatC
open Go Go.Proofs
theorem Acj (k' v o l k:Nat) (g c:Option Nat):Mp (.oslice k' v g o l c) k=(k' != k):=rfl
theorem Ain (k' v o l k:Nat) (g c:Option Nat):A2z (.oslice k' v g o l c) k=(k'==k):=rfl
theorem Aig (y:Nat):Ez [] y=([[y]],0):=rfl
theorem Up (r:List Nat) (R:List (List Nat)) (y:Nat):Ez (r::R) y=if Dr y r<r.length then (r.set (Dr y r) y::(Ez R (r.getD (Dr y r) 0)).1,(Ez R (r.getD (Dr y r) 0)).2+1) else ((r++[y])::R,0):=rfl
attribute [local irreducible] Res.all evC Dd Dg Bo Bf Dl Bg Bi G GO GV GP GC R
theorem Uq {n:Nat} {h:Bc} {V:AV×Bc->Prop}
  (hV:∀h' K km,StdO h.length h' K (.slice none [] true) [] km 0->(∀j,j<h.length->Bb h' j=Bb h j)->h.length<=h'.length->V (.optr K 0 0,h')) :
  (Bg T (n+1) true (.fn 28) [.slice none [] true] h).all V:=by
 rw [Ei t28]
 have n10:Bb (h++List.replicate 49 .none) (h.length+10) = .none:=Fb _ _ _
 have n49:Bb (h++List.replicate 49 .none) (h.length+49) = .none:=Fb _ _ _
 simp (disch:=first | assumption | omega) only [c28,go_sem,↓reduceIte,n10,n49]
 refine Jt fun P => ?_
 have d0:¬(0:Int)<0:=by omega
 simp (disch:=first | assumption | omega) only [go_sem,↓reduceIte,d0,Ge,mapR]
 refine hV _ _ _ ⟨getH_setH_self _ _ _,A0c _ _,⟨0,[],[],[],?_,fun k hk=>by cases hk⟩,by omega,by omega⟩ (fun j hj => ?_) (by simp only [Bd,List.length_append]; omega)
 ·rw [Ba _ _ _ _ (by omega),getH_setH_self]
 ·rw [Ba _ _ _ _ (by omega),Ba _ _ _ _ (by omega),Bh]
def Kx (y:Nat) (R:List (List Nat)) (i:Nat):Int:=if i=0 then -1 else (Dr y (R.headD []):Nat)
set_option maxHeartbeats 2000000 in
theorem A9j {n B K:Nat} {h:Bc} {x:AV} {L:List RwT} {km vm:Nat} {R:List (List Nat)} {y:Nat} {V:AV×Bc->Prop} (hS:StdO B h K x L km vm) (hR:L.map RwT.l=R.map nI6) (hRl:R.length<=100) (hrl:∀r∈R,r.length<=100)
  (hV:∀h' x' L',StdO B h' K x' L' km vm->L'.map RwT.l=(Ez R y).1.map nI6->(∀j,j<h.length->¬StK K x L km j->Bb h' j=Bb h j)->h.length<=h'.length->(∀j,StK K x' L' km j->StK K x L km j\/h.length<=j)->V (.tuple [.int .i64 ((Ez R y).2:Nat),.int .i64 (Dr y (R.headD []):Nat)],h')) :
  (Bg T (n+3) true (.fn 29) [.optr K 0 0,.int .i64 (y:Nat)] h).all V:=by
 rw [Ei t29]
 have n3:Bb (h++List.replicate 96 .none) (h.length+3) = .none:=Fb _ _ _
 have hK:=hS.lt (j:=K) (.inl rfl)
 have nK3:¬(h.length+3=K):=by omega
 have hLR:L.length=R.length:=by have:=congrArg List.length hR; simpa using this
 have gK:Bb (h++List.replicate 96 .none) K = .cells 0 [x,.omap km vm]:=by rw [Bh]; exact hS.hd
 obtain ⟨x1,x2,x3⟩:=OwnG.isOne hS.lo.ls
 simp (disch:=first | assumption | omega) only [c29,go_sem,↓reduceIte,n3,nK3,gK,x3]
 refine Da (fun M st=>∃(i:Nat) (L1:List RwT) (yv:Nat) (D:List (List Nat)),M=R.length-i/\i<=R.length/\At st.env [(0,.optr K 0 0),(3,.optr (h.length+3) 0 0),(6,.int .i64 (Kx y R i)),(14,x),(15,.int .i64 L.length),(16,.int .i64 i)]/\Bb st.heap (h.length+3) = .cells 0 [.int .i64 (yv:Nat)]/\
   StdO B st.heap K x L1 km vm/\L1.map RwT.key=L.map RwT.key/\D.length=i/\L1.map RwT.l=(D++R.drop i).map nI6/\Ez R y=(D++(Ez (R.drop i) yv).1,i+(Ez (R.drop i) yv).2)/\(i=0->yv=y)/\(∀j,j<h.length->¬StK K x L km j->Bb st.heap j=Bb h j)/\h.length+96<=st.heap.length) R.length (by omega)
  ⟨0,L,y,[],by omega,by omega,by simp only [go_sem,↓reduceIte,Kx],by simp only [go_sem,↓reduceIte],?_,rfl,rfl,hR,?_,fun _=>rfl,fun j hj _ => ?_,by simp only [Bd,List.length_append,List.length_replicate]; omega⟩ ?_
 ·exact hS.other fun j hj=>by
   have:=hS.lt hj
   rw [Ba _ _ _ _ (by omega),Bh]
 ·rw [List.drop_zero,List.nil_append,Nat.zero_add]
 ·rw [Ba _ _ _ _ (by omega),Bh]
 clear gK n3
 rintro M e h1 hM ⟨i,L1,yv,D,rfl,hi,hE,g3,hS1,hkeys,hD,hL1,hput,hy0,hF,hlen⟩ P hP
 simp only [Br,Bw] at hE g3 hS1 hF hlen
 obtain ⟨f0,f3,f6,f14,f15,f16,-⟩:=hE
 have hL1l:L1.length=R.length:=by have:=congrArg List.length hkeys; simp only [List.length_map] at this; omega
 have kk:=hS1.neK
 have n3K:∀j,StK K x L1 km j->j≠h.length+3:=by
  intro j hj he
  have hj':StK K x L km j:=by
   rcases hj with hj | hj | hj | ⟨t,ht,hj⟩
   ·exact .inl hj
   ·exact .inr (.inl hj)
   ·exact .inr (.inr (.inl hj))
   ·have:j∈L1.map RwT.key:=List.mem_map.2 ⟨t,ht,hj⟩
    rw [hkeys] at this
    obtain ⟨t',ht',hj'⟩:=List.mem_map.1 this
    exact .inr (.inr (.inr ⟨t',ht',hj'⟩))
  have:=hS.lt hj'
  omega
 have hstk:∀j,StK K x L1 km j->StK K x L km j:=by
  intro j hj
  rcases hj with hj | hj | hj | ⟨t,ht,hj⟩
  ·exact .inl hj
  ·exact .inr (.inl hj)
  ·exact .inr (.inr (.inl hj))
  ·have:j∈L1.map RwT.key:=List.mem_map.2 ⟨t,ht,hj⟩
   rw [hkeys] at this
   obtain ⟨t',ht',hj'⟩:=List.mem_map.1 this
   exact .inr (.inr (.inr ⟨t',ht',hj'⟩))
 by_cases hlt:i<R.length
 ·have hlt':(i:Int)<(L.length:Int):=by omega
  have hil:i<L1.length:=by omega
  obtain ⟨⟨tk,tv,tc,tl⟩,ht⟩:∃t,L1[i]? = some t:=⟨_,List.getElem?_eq_getElem hil⟩
  have htm:=List.mem_of_getElem? ht
  obtain ⟨lk,lv,hxe,hlk⟩:=hS1.lo.get ht
  obtain ⟨_,gt,tne,tcap⟩:=hS1.lo.rw.at' _ htm
  simp only at gt tne tcap
  have hrow:tl=nI6 R[i]:=by
   have h1:(L1.map RwT.l)[i]? = some tl:=by rw [List.getElem?_map,ht]; rfl
   rw [hL1,List.getElem?_map,List.getElem?_append_right (by omega),hD,Nat.sub_self,List.getElem?_drop,Nat.add_zero,List.getElem?_eq_getElem hlt] at h1
   exact (Option.some.inj h1).symm
  have hdrop:=List.drop_eq_getElem_cons hlt
  have hrl100:=hrl _ (List.getElem_mem hlt)
  have htop:i=0->R.headD []=R[i]:=by
   rintro rfl
   cases R with
   | nil=>simp at hlt
   | cons a r=>rfl
  generalize R[i]=r at hrow hdrop hrl100 htop
  subst hrow
  have hrlen:=Dw r
  rw [hdrop,Up] at hput
  have hfst:Kx y R (i+1)=(Dr y (R.headD []):Nat):=by rw [Kx,if_neg (by omega)]
  have hav:(L1.map RwT.av)[i]? = some (.oslice tk tv none 0 (nI6 r).length tc):=by rw [List.getElem?_map,ht]; rfl
  have hpl:=Vy yv r
  subst hxe
  obtain ⟨nl1,nl2⟩:=hS1.neX (j:=lk) (.inl rfl)
  obtain ⟨nt1,nt2⟩:=hS1.neX (j:=tk) (.inr ⟨_,htm,rfl⟩)
  have ntl:tk≠lk:=hS1.lo.neX (j:=lk) rfl _ htm
  have nt3:=n3K tk (.inr (.inr (.inr ⟨_,htm,rfl⟩)))
  have nl3:=n3K lk (.inr (.inr (.inl rfl)))
  have nk3:=n3K K (.inl rfl)
  have nm3:=n3K km (.inr (.inl rfl))
  have ltK:=(hS1.lt (j:=K) (.inl rfl)).2
  have ltl:=(hS1.lt (j:=lk) (.inr (.inr (.inl rfl)))).2
  have ltt:=(hS1.lt (j:=tk) (.inr (.inr (.inr ⟨_,htm,rfl⟩)))).2
  simp (disch:=first | assumption | omega) only [go_sem,↓reduceIte,f0,f3,f6,f14,f15,f16,hlt',hil,hlk,hav]
  refine Dq (Acy r yv (by omega)) (by omega) (By (Hq gt rfl) (By (Gk (Df _ _) (Bv (Eu g3 (Bv (Bm _ _ _ _) (Df _ _))) (Df _ _))) (Bx _))) (Gt _ _ _) ?_
  apply A8q (call:=Bg T (n+2)) (base:=h.length) (Q:=Fin [.tmp 4,.tmp 5] V) fun e h2=>At e [(0,.optr K 0 0),(3,.optr (h.length+3) 0 0),(6,.int .i64 (Dr y (R.headD []):Nat)),(7,.int .i64 i),(8,.oslice tk tv none 0 (nI6 r).length tc),(9,.int .i64 (Dr yv r:Nat)),(14,.oslice lk lv none 0 L1.length none),(15,.int .i64 L.length),(16,.int .i64 i)]/\MpO h2 km vm/\h2.length=h1.length/\∀j,j≠km->Bb h2 j=Bb h1 j
  ·intro H
   have hd2:=hS1.hd
   by_cases hi0:i=0
   ·have hf0:Kx y R i = -1:=by rw [Kx,if_pos hi0]
    have hneg:(-1:Int)<0:=by omega
    have hpe:Dr y (R.headD [])=Dr yv r:=by rw [htop hi0,hy0 hi0]
    simp (disch:=first | assumption | omega) only [go_sem,↓reduceIte,f0,f3,f6,f14,f15,f16,hf0,hneg,hd2,g3]
    refine Aas hS1.mp fun h2 m1 m2 m3 => ?_
    exact H _ _ ⟨by simp only [go_sem,↓reduceIte,f0,f3,f14,f15,f16,hpe],m1,m2,m3⟩
   ·have hf0:Kx y R i=((Dr y (R.headD []):Nat):Int):=by rw [Kx,if_neg hi0]
    have hnn:¬((Dr y (R.headD []):Nat):Int)<0:=by omega
    simp (disch:=first | assumption | omega) only [go_sem,↓reduceIte,f0,f3,f6,f14,f15,f16,hf0,hnn,hd2,g3]
    refine Aas hS1.mp fun h2 m1 m2 m3 => ?_
    exact H _ _ ⟨by simp only [go_sem,↓reduceIte,f0,f3,f6,f14,f15,f16,hf0],m1,m2,m3⟩
  clear f0 f3 f6 f14 f15 f16
  rintro e h2 ⟨hE,m1,m2,m3⟩
  simp only [Br,Bw] at hE
  obtain ⟨f0,f3,f6,f7,f8,f9,f14,f15,f16,-⟩:=hE
  have hS2:=hS1.mapped m1 m3
  have gK2:Bb h2 K = .cells 0 [.oslice lk lv none 0 L1.length none,.omap km vm]:=hS2.hd
  have g32:Bb h2 (h.length+3) = .cells 0 [.int .i64 (yv:Nat)]:=by rw [m3 _ nm3.symm]; exact g3
  have gt2:Bb h2 tk = .cells tv ((nI6 r).map (.int .i64)):=by rw [m3 _ nt2]; exact gt
  have glk2:Bb h2 lk = .cells lv (L1.map RwT.av):=by rw [m3 _ nl2]; exact hlk
  have hF2:∀j,j<h.length->¬StK K (.oslice lk lv none 0 L1.length none) L km j->Bb h2 j=Bb h j:=fun j h1 h2=>by rw [m3 _ (fun he=>h2 (.inr (.inl he))),hF j h1 h2]
  by_cases hend:Dr yv r<r.length
  ·have e9:(((Dr yv r:Nat):Int)==((nI6 r).length:Int))=false:=by rw [hrlen,beq_eq_false_iff_ne]; omega
   have hg:=Fo hend
   have hpn:Dr yv r<(nI6 r).length:=by omega
   have hpn1:Dr yv r+1<=(nI6 r).length:=by omega
   have hgd:r.getD (Dr yv r) 0=r[Dr yv r]:=by rw [List.getD_eq_getElem?_getD,List.getElem?_eq_getElem hend]; rfl
   rw [if_pos hend,hgd] at hput
   simp (disch:=first | assumption | omega) only [go_sem,↓reduceIte,f0,f3,f6,f7,f8,f9,f14,f15,f16,e9,g32,gt2,hg,hpn,hpn1,nt3,nt3.symm]
   have hst2:∀j,StK K (.oslice lk lv none 0 L1.length none) (L1.set i ⟨tk,tv,tc,(nI6 r).set (Dr yv r) (yv:Nat)⟩) km j->StK K (.oslice lk lv none 0 L1.length none) L1 km j:=by
    rintro j (hj | hj | hj | ⟨u,hu,hj⟩)
    ·exact .inl hj
    ·exact .inr (.inl hj)
    ·exact .inr (.inr (.inl hj))
    ·rcases List.mem_or_eq_of_mem_set hu with hu | rfl
     ·exact .inr (.inr (.inr ⟨u,hu,hj⟩))
     ·exact .inr (.inr (.inr ⟨_,htm,hj⟩))
   have hset:∀{β:Type} (g:RwT->β) (t':RwT),(L1.set i t').map g=(L1.map g).set i (g t'):=fun g t'=>List.map_set
   refine hP (R.length-(i+1)) _ (by omega) ⟨i+1,L1.set i ⟨tk,tv,tc,(nI6 r).set (Dr yv r) (yv:Nat)⟩,r[Dr yv r],D++[r.set (Dr yv r) yv],rfl,by omega,by simp only [go_sem,↓reduceIte,f0,f3,f6,f14,f15,f16,hfst],by simp only [go_sem,↓reduceIte],(hS2.write ht).other fun j hj => ?_,?_,by simp [hD],?_,?_,fun he=>by omega,fun j hj hn => ?_,?_⟩
   ·exact Ba _ _ _ _ (n3K j (hst2 j hj)).symm
   ·rw [hset,<-hkeys]
    refine List.ext_getElem? fun m => ?_
    rw [List.getElem?_set]
    split
    ·next hm=>subst hm; rw [List.length_map,if_pos hil,List.getElem?_map,ht]; rfl
    ·rfl
   ·rw [hset,hL1,hdrop,List.map_append,List.set_append_right _ _ (by simp [hD]),List.length_map,hD,Nat.sub_self,List.map_cons,List.set_cons_zero,List.map_append,List.map_append,List.append_assoc]
    simp [nI6,List.map_set]
   ·rw [hput]
    simp only [List.append_assoc,List.cons_append,List.nil_append,Prod.mk.injEq,true_and]
    omega
   ·rw [Ba _ _ _ _ (by omega),Ba _ _ _ _ (fun he=>hn (hstk _ (.inr (.inr (.inr ⟨_,htm,he⟩)))))]
    exact hF2 j hj hn
   ·simp only [Bd]; omega
  ·have e9:(((Dr yv r:Nat):Int)==((nI6 r).length:Int))=true:=by rw [hrlen,beq_iff_eq]; omega
   rw [if_neg hend] at hput
   have ap:(tk != K)=true:=bne_iff_ne.2 nt1
   have n2:Bb h2 h2.length = .none:=Ds _ _ (Nat.le_refl _)
   have nn3:¬(h2.length=h.length+3):=by omega
   have nnK:¬(h2.length=K):=by omega
   simp (disch:=first | assumption | omega) only [go_sem,↓reduceIte,Aeg,Amw,Acj,Ain,ap,beq_self_eq_true,f0,f3,f6,f7,f8,f9,f14,f15,f16,e9,gK2,g32,n2,nn3,nnK]
   obtain ⟨H3,hH3⟩:∃H3,H3=setH h2 h2.length (.cells 0 [.int .i64 (yv:Nat)]):=⟨_,rfl⟩
   rw [<-hH3]
   have hH3l:H3.length=h2.length+1:=by rw [hH3,Bd]; omega
   have hkp:∀j,j<h2.length->Bb H3 j=Bb h2 j:=fun j hj=>by rw [hH3,Ba _ _ _ _ (by omega)]
   have hS3:=hS2.other fun j hj=>hkp j (hS2.lt hj).2
   refine Qa (t:=⟨tk,tv,tc,nI6 r⟩) (v:=(yv:Nat)) (by rw [hH3l]; omega) (A2v (by rw [hH3]; exact getH_setH_self ..)) (by show Bb H3 tk=_; rw [hkp _ (by omega)]; exact gt2) tcap (by simp only [hrlen]; omega) fun t' e1 e2 e3 => ?_
   obtain ⟨k',v',c',l'⟩:=t'
   simp only at e1 e2 e3
   subst e1 e2
   have hgr:=hS3.grown (i:=i) (t:=⟨tk,tv,tc,nI6 r⟩) (t':=⟨k',v',none,nI6 r++[((yv:Nat):Int)]⟩) ht rfl rfl e3
   have nk':¬(k'=lk):=by
    rcases e3 with e | e
    ·rw [e]; exact ntl
    ·omega
   have glk3:Bb H3 lk = .cells lv (L1.map RwT.av):=by rw [hkp _ (by omega)]; exact glk2
   have hil1:i+1<=L1.length:=hil
   simp (disch:=first | assumption | omega) only [go_sem,↓reduceIte,RwT.av,f6,f7,f14,f15,f16,hil,hil1,nk',glk3,Ge,mapR]
   have hp2:(Ez R y).2=i:=by rw [hput]; rfl
   have hk0:∀j,j<h.length->¬StK K (.oslice lk lv none 0 L1.length none) L km j->k'≠j/\lk≠j:=fun j hj hn=>⟨fun he=>by
    rcases e3 with e | e
    ·exact hn (hstk _ (.inr (.inr (.inr ⟨_,htm,by rw [<-he,e]⟩))))
    ·omega,fun he=>hn (.inr (.inr (.inl (by rw [<-he]; rfl))))⟩
   rw [hp2] at hV
   refine hV _ (.oslice lk lv none 0 (L1.set i ⟨k',v',none,nI6 r++[((yv:Nat):Int)]⟩).length none) (L1.set i ⟨k',v',none,nI6 r++[((yv:Nat):Int)]⟩) ?_ ?_ (fun j hj hn => ?_) ?_ fun j hj => ?_
   ·have e4:RwT.av ⟨k',v',none,nI6 r++[((yv:Nat):Int)]⟩ = .oslice k' v' none 0 ((nI6 r).length+1) none:=by simp [RwT.av]
    rw [e4] at hgr
    exact hgr
   ·rw [List.map_set,hL1,hdrop,hput,List.map_append,List.set_append_right _ _ (by simp [hD]),List.length_map,hD,Nat.sub_self,List.map_cons,List.set_cons_zero,List.map_append,List.map_cons,Vx]
    rfl
   ·obtain ⟨a1,a2⟩:=hk0 j hj hn
    rw [Ba _ _ _ _ a2,Ba _ _ _ _ a1,hkp j (by omega)]
    exact hF2 j hj hn
   ·simp only [Bd]; omega
   ·rcases hj with hj | hj | hj
    ·exact .inl (.inl hj)
    ·exact .inl (.inr (.inl hj))
    ·rcases A0b (n:=h.length) (t:=⟨tk,tv,tc,nI6 r⟩) ht (e3.elim (fun e => .inl e) fun e => .inr (by simp only; omega)) hj with hj | hj
     ·rcases hj with hj | hj
      ·exact .inl (hstk _ (.inr (.inr (.inl hj))))
      ·exact .inl (hstk _ (.inr (.inr (.inr hj))))
     ·exact .inr hj
 ·obtain rfl:i=R.length:=by omega
  have hlt':¬((R.length:Int)<(L.length:Int)):=by omega
  rw [List.drop_length,Aig] at hput
  rw [List.drop_length,List.append_nil] at hL1
  have gK1:=hS1.hd
  have n2:Bb h1 h1.length = .none:=Ds _ _ (Nat.le_refl _)
  have n21:Bb h1 (h1.length+1) = .none:=Ds _ _ (by omega)
  have ltK:=(hS1.lt (j:=K) (.inl rfl)).2
  have nn3:¬(h1.length=h.length+3):=by omega
  have nnK:¬(h1.length=K):=by omega
  have hmax:max h1.length (h1.length+1)=h1.length+1:=by omega
  have hne1:¬(h1.length=h1.length+1):=by omega
  simp (disch:=first | assumption | omega) only [go_sem,↓reduceIte,f0,f3,f6,f14,f15,f16,hlt',gK1,g3,n2,n21,nn3,nnK,hmax,hne1]
  obtain ⟨H2,hH2⟩:∃H2,H2=setH (setH h1 h1.length (.cells 0 [.int .i64 (yv:Nat)])) (h1.length+1) (.cells 0 [.oslice h1.length 0 none 0 1 (some 1)]):=⟨_,rfl⟩
  rw [<-hH2]
  have hH2l:H2.length=h1.length+2:=by rw [hH2,Bd,Bd]; omega
  have hkp:∀j,j<h1.length->Bb H2 j=Bb h1 j:=fun j hj=>by rw [hH2,Ba _ _ _ _ (by omega),Ba _ _ _ _ (by omega)]
  have hS2:=hS1.other fun j hj=>hkp j (hS1.lt hj).2
  have hr1:Bb H2 h1.length = .cells 0 [.int .i64 (yv:Nat)]:=by rw [hH2,Ba _ _ _ _ (by omega),getH_setH_self]
  refine Mf (lo:=B) (g:=none) (n:=L1.length) (m:=1) (c2:=[.oslice h1.length 0 none 0 1 (some 1)]) (by rw [hH2l]; omega) hS2.lo.ls (by decide) (by omega) (A2v (by rw [hH2]; exact getH_setH_self ..)) rfl (by omega) (by omega) fun x' h2 hO' hF' hL' hF2' hK' => ?_
  obtain ⟨c1,c2,c3⟩:=OwnG.isOne hO'
  have hxk:∀j,Do x=some j->LsK x L1 j:=fun j hj => .inl hj
  have kp2:∀j,j<h1.length->Do x≠some j->Bb h2 j=Bb h1 j:=fun j hj hne=>by rw [hF2' j (by omega) hne,hkp j hj]
  have hr2:Bb h2 h1.length = .cells 0 [.int .i64 (yv:Nat)]:=by
   rw [hF2' _ (by omega) fun he => ?_,hr1]
   have:=(hS1.lo.lt (hxk _ he)).2
   omega
  have gK2:Bb h2 K = .cells 0 [x,.omap km vm]:=by rw [kp2 K ltK fun he=>(hS1.neX (hxk _ he)).1 rfl]; exact gK1
  have gm2:MpO h2 km vm:=hS1.mp.other (kp2 km hS1.mp.lt fun he=>(hS1.neX (hxk _ he)).2 rfl)
  have g32:Bb h2 (h.length+3) = .cells 0 [.int .i64 (yv:Nat)]:=by rw [kp2 _ (by omega) fun he=>n3K _ (.inr (.inr (hxk _ he))) rfl]; exact g3
  have hLs2:LsO B h2 x' (L1++[⟨h1.length,0,some 1,[((yv:Nat):Int)]⟩]):=hS1.lo.more (h2:=h2) hO' (Nat.le_refl _) (by have:=(hS1.lt (j:=K) (.inl rfl)).1; omega) hr2 (by simp) (.inr rfl) fun u hu=>kp2 _ (hS1.lo.rw.keyLt hu) fun he=>hS1.lo.neX he u hu rfl
  have hxK:Do x'≠some K:=fun he=>by
   rcases hK' _ he with h5 | h5
   ·exact (hS1.neX (hxk _ h5)).1 rfl
   ·omega
  have hS3:StdO B (setH h2 K (.cells 0 [x',.omap km vm])) K x' (L1++[⟨h1.length,0,some 1,[((yv:Nat):Int)]⟩]) km vm:=by
   refine ⟨getH_setH_self ..,hLs2.other fun j hj=>Ba _ _ _ _ fun he => ?_,gm2.other (Ba _ _ _ _ kk),hS1.bk⟩
   subst he
   rcases hj with hj | ⟨t,ht,hj⟩
   ·exact hxK hj
   ·rcases List.mem_append.1 ht with ht | ht
    ·exact (hS1.neX (.inr ⟨t,ht,hj⟩)).1 rfl
    ·obtain rfl:t=_:=by simpa using ht
     simp only at hj
     omega
  have n3K':¬(K=h.length+3):=by omega
  have hsub:(L1.length:Int)+1-1=(L1.length:Int):=by omega
  have hL1L:(L1.length:Int)=((Ez R y).2:Nat):=by rw [hput]; omega
  simp (disch:=first | assumption | omega) only [go_sem,↓reduceIte,f0,f3,f6,gK2,g32,c1,c2,c3,nK3,n3K',hsub]
  refine Aas hS3.mp fun h3 m1 m2 m3 => ?_
  have hS4:=hS3.mapped m1 m3
  have gK4:=hS4.hd
  have hmx:(if Kx y R R.length>0 then Kx y R R.length else 0)=((Dr y (R.headD []):Nat):Int):=by
   cases R with
   | nil=>simp [Kx,Dr]
   | cons a r =>
    have e5:Kx y (a::r) (a::r).length=(Dr y a:Nat):=by rw [Kx,if_neg (by simp)]; rfl
    rw [e5]
    show _=((Dr y a:Nat):Int)
    split <;> omega
  simp (disch:=first | assumption | omega) only [go_sem,↓reduceIte,f0,f6,gK4,c3,hsub,Ge,mapR]
  rw [hmx,hL1L]
  refine hV _ _ _ hS4 ?_ (fun j hj hn => ?_) ?_ fun j hj => ?_
  ·rw [List.map_append,hL1,hput,List.map_append]
   rfl
  ·have hn1:¬StK K x L1 km j:=fun hc=>hn (hstk j hc)
   rw [m3 j fun he=>hn (.inr (.inl he)),Ba _ _ _ _ (fun he=>hn (.inl he.symm)),kp2 j (by omega) fun he=>hn (.inr (.inr (.inl he)))]
   exact hF j hj hn
  ·rw [m2,Bd]; omega
  ·rcases hj with hj | hj | hj | ⟨t,ht,hj⟩
   ·exact .inl (.inl hj)
   ·exact .inl (.inr (.inl hj))
   ·rcases hK' _ hj with h5 | h5
    ·exact .inl (.inr (.inr (.inl h5)))
    ·exact .inr (by omega)
   ·rcases List.mem_append.1 ht with ht | ht
    ·exact .inl (hstk _ (.inr (.inr (.inr ⟨t,ht,hj⟩))))
    ·obtain rfl:t=_:=by simpa using ht
     simp only at hj
     exact .inr (by omega)
end Go.Ev.YtofpilpmiddpgaaGreatC
namespace Go.Ev.YtofpilpmiddpgaaGreatC
open Go Go.Proofs
theorem A0k {L:List RwT} {R:List (List Nat)} (h:L.map RwT.l=R.map nI6):(L.map fun t=>AV.slice none (t.l.map (.int .i64)) false)=R.map fun r=>Dk (nI6 r):=by
 have:(L.map fun t=>AV.slice none (t.l.map (.int .i64)) false)=(L.map RwT.l).map fun l=>AV.slice none (l.map (.int .i64)) false:=by rw [List.map_map]; rfl
 rw [this,h,List.map_map]; rfl
theorem A3g (w:List Nat):(Es w).1.length=(Es w).2.length/\(Es w).1.length<=w.length/\∀r∈(Es w).1,r.length<=w.length:=by
 have key:∀R:List Nat,(Es R.reverse).1.length=(Es R.reverse).2.length/\(Es R.reverse).1.length<=R.reverse.length/\∀r∈(Es R.reverse).1,r.length<=R.reverse.length:=by
  intro R
  induction R with
  | nil=>exact ⟨rfl,Nat.le_refl _,fun r hr=>by cases hr⟩
  | cons y R ih =>
   obtain ⟨i1,i2,i3⟩:=ih
   have h1:(Es (R.reverse++[y])).1.length=(Es (R.reverse++[y])).2.length:=by rw [Xy]; simp
   rw [List.reverse_cons]
   refine ⟨h1,?_,?_⟩
   ·rw [Js,List.length_append,List.length_singleton]
    have key2:∀(T:List (List Nat)) (y:Nat),(Ez T y).1.length<=T.length+1:=by
     intro T
     induction T with
     | nil=>intro y; exact Nat.le_refl _
     | cons r T ih2 =>
      intro y
      rw [Up]
      split
      ·have:=ih2 (r.getD (Dr y r) 0)
       simp only [List.length_cons]; omega
      ·simp
    have:=key2 (Es R.reverse).1 y
    simp only; omega
   ·rw [Js,List.length_append,List.length_singleton]
    have key2:∀(T:List (List Nat)) (y N:Nat),(∀r∈T,r.length<=N)->∀r∈(Ez T y).1,r.length<=N+1:=by
     intro T
     induction T with
     | nil=>intro y N _ r hr; simp [Ez] at hr; rw [hr]; simp
     | cons q T ih2 =>
      intro y N hN r hr
      have hq:=hN q (by simp)
      rw [Up] at hr
      split at hr
      ·rcases List.mem_cons.1 hr with rfl | hr
       ·rw [List.length_set]; omega
       ·exact ih2 _ N (fun r hr=>hN r (by simp [hr])) r hr
      ·rcases List.mem_cons.1 hr with rfl | hr
       ·simp; omega
       ·have:=hN r (by simp [hr]); omega
    exact key2 _ _ _ i3
 have:=key w.reverse
 rwa [List.reverse_reverse] at this
theorem Afr (w:List Nat):∀r∈(Es w).2,r.length<=w.length:=by
 have key:∀R:List Nat,∀r∈(Es R.reverse).2,r.length<=R.reverse.length:=by
  intro R
  induction R with
  | nil=>intro r hr; cases hr
  | cons y R ih =>
   rw [List.reverse_cons,Js]
   intro r hr
   simp only [Nm] at hr
   rw [List.length_append,List.length_singleton]
   split at hr
   ·rcases List.mem_append.1 hr with hr | hr
    ·have:=ih r hr; omega
    ·obtain rfl:r=_:=by simpa using hr
     simp
   ·rcases List.mem_or_eq_of_mem_set hr with hr | rfl
    ·have:=ih r hr; omega
    ·rw [List.length_append,List.length_singleton,List.getD_eq_getElem?_getD]
     cases hg:(Es R.reverse).2[(Ez (Es R.reverse).1 y).2]? with
     | none=>simp
     | some q=>have:=ih q (List.mem_of_getElem? hg); simp only [Option.getD_some]; omega
 have:=key w.reverse
 rwa [List.reverse_reverse] at this
theorem LsO.fresh {B:Nat} {h h2:Bc} {xo:AV} {Lo:List RwT} {lk lv v':Nat} {a:Int} (hs:LsO B h xo Lo) (hO:OwnG B h2 (.oslice lk lv none 0 (Lo.length+1) none) none (Lo.length+1) (Lo.map RwT.av++[.slice none [] true])) (hl:h.length<=h2.length) (hB:B<=h.length) (hk:Do xo=some lk\/h.length<=lk) (hf:∀u∈Lo,Bb h2 u.key=Bb h u.key) (hlk:lk<h2.length) :
  LsO B (setH (setH h2 h2.length (.cells v' [.int .i64 a])) lk (.cells lv ((Lo.map RwT.av++[AV.slice none [] true]).set Lo.length (.oslice h2.length v' none 0 1 none)))) (.oslice lk lv none 0 (Lo.length+1) none) (Lo++[⟨h2.length,v',none,[a]⟩]):=by
 have hBk:=(OwnG.cellsK hO (j:=lk) rfl).1
 have hne:∀u∈Lo,u.key≠lk:=fun u hu he=>by
  rcases hk with hk | hk
  ·exact hs.neX hk u hu he
  ·have:=hs.rw.keyLt hu; omega
 refine ⟨.inr ⟨lk,lv,hBk,by simp,?_,by simp [Be]⟩,hs.rw.more (by simp only; omega) (fun u hu => ?_) ?_ (by simp) (.inl rfl) fun u hu => ?_⟩
 ·rw [getH_setH_self,List.set_append_right _ _ (by simp),List.length_map,Nat.sub_self,List.map_append]
  rfl
 ·have:=hs.rw.keyLt hu
  simp only; omega
 ·simp only
  rw [Ba _ _ _ _ (by omega),getH_setH_self]; rfl
 ·have:=hs.rw.keyLt hu
  rw [Ba _ _ _ _ (fun e=>hne u hu e.symm),Ba _ _ _ _ (by omega),hf u hu]
attribute [local irreducible] Res.all evC Dd Dg Bo Bf Dl Bg Bi G GO GV GP GC R
set_option maxHeartbeats 2000000 in
theorem Acv (w:List Nat) (hw:SeqK w):Con T 8 10 [Dk (nI6 w)] (.tuple [Abq (Es w).1,Abq (Es w).2,.int .i64 0]):=by
 refine Bs t10 fun n hn V hV => ?_
 obtain ⟨n,rfl⟩:∃m,n=m+3:=⟨n-3,by omega⟩
 have e0:((0:Int) != 0)=false:=rfl
 have hl:=Dw w
 have h12:=hw.len
 simp (disch:=first | assumption | omega) only [c10,go_sem,↓reduceIte]
 refine Dq (Yd w hw) (by omega) (Di _ _ _ _ (Bx _)) rfl ?_
 simp (disch:=first | assumption | omega) only [go_sem,↓reduceIte,e0]
 refine Fm (Uq fun h0 K km hS0 _ hL0 => ?_)
 simp only [List.length_replicate] at hS0 hL0
 simp (disch:=first | assumption | omega) only [go_sem,↓reduceIte,hl]
 refine Da (fun M st=>∃(k:Nat) (x xo:AV) (L Lo:List RwT),M=w.length-k/\k<=w.length/\At st.env [(6,xo),(7,.optr K 0 0),(8,.clo 29 [.optr K 0 0] []),(21,Dk (nI6 w)),(22,.int .i64 w.length),(23,.int .i64 k)]/\StdO 59 st.heap K x L km 0/\L.map RwT.l=(Es (w.take k)).1.map nI6/\LsO 59 st.heap xo Lo/\Lo.map RwT.l=(Es (w.take k)).2.map nI6/\(∀j,LsK xo Lo j->¬StK K x L km j)/\59<=st.heap.length) w.length (by omega)
  ⟨0,_,_,[],[],by omega,by omega,by simp only [go_sem,↓reduceIte],hS0,rfl,A0c _ _,rfl,fun j hj=>(A8v hj).elim,hL0⟩ ?_
 clear hS0 hL0
 rintro M e h hM ⟨k,x,xo,L,Lo,rfl,hk,hE,hS,hLl,hO,hLo,hsep,hlen⟩ P hP
 simp only [Br,Bw] at hE hS hO hlen
 obtain ⟨f6,f7,f8,f21,f22,f23,-⟩:=hE
 by_cases hlt:k<w.length
 ·have hlt':(k:Int)<(w.length:Int):=by omega
  have hg:=Fo hlt
  obtain ⟨b1,b2,b3⟩:=A3g (w.take k)
  have htl:(w.take k).length=k:=by rw [List.length_take]; omega
  rw [htl] at b2 b3
  have hsn:=Js (w.take k) w[k]
  rw [<-List.take_succ_eq_append_getElem hlt,htl] at hsn
  have hq:(Ez (Es (w.take k)).1 w[k]).2<=(Es (w.take k)).2.length:=by
   rw [Xy]
   have:=(Abj (Hw (Jb (w.take k))) (0,w[k])).2.2
   simpa using this
  have hLol:Lo.length=(Es (w.take k)).2.length:=by have:=congrArg List.length hLo; simpa using this
  have hOr:∀q,((Es (w.take k)).2.getD q []).length<=100:=fun q=>by
   have h5:=Afr (w.take k)
   rw [List.getD_eq_getElem?_getD]
   cases hg:(Es (w.take k)).2[q]? with
   | none=>simp
   | some r=>have:=h5 r (List.mem_of_getElem? hg); rw [htl] at this; simp only [Option.getD_some]; omega
  generalize Es (w.take k)=bw at *
  obtain ⟨R,O⟩:=bw
  simp only at hLl hLo b1 b2 b3 hsn hq hLol hOr
  simp (disch:=first | assumption | omega) only [go_sem,↓reduceIte,f6,f7,f8,f21,f22,f23,hlt',hg]
  refine Fm (A9j hS hLl (by omega) (fun r hr=>by have:=b3 r hr; omega) fun h1 x1 L1 hS1 hL1 hF1 hlen1 hK1 => ?_)
  have hO1:LsO 59 h1 xo Lo:=hO.other fun j hj=>hF1 j (hO.lt hj).2 (hsep j hj)
  have hsep1:∀j,LsK xo Lo j->¬StK K x1 L1 km j:=fun j hj hc=>by
   rcases hK1 j hc with h5 | h5
   ·exact hsep j hj h5
   ·have:=(hO.lt hj).2; omega
  obtain ⟨o1,o2,o3⟩:=OwnG.isOne hO1.ls
  generalize hqd:(Ez R w[k]).2=q at *
  generalize (Ez R w[k]).1=R1 at *
  have n1:Bb h1 h1.length = .none:=Ds _ _ (Nat.le_refl _)
  by_cases hq1:q=Lo.length
  ·subst hq1
   have e9:((Lo.length:Int)==(Lo.length:Int))=true:=by rw [beq_iff_eq]
   have hadd:Nm O Lo.length (k+1)=O++[[k+1]]:=by rw [Nm,if_pos (by omega)]
   simp (disch:=first | assumption | omega) only [go_sem,↓reduceIte,f6,o3,e9,n1]
   have hl59:59<=h1.length:=by omega
   refine Mf (lo:=59) (g:=none) (n:=Lo.length) (m:=1) (cs:=Lo.map RwT.av) (c2:=[.slice none [] true]) (by first | with_reducible rfl | (simp only [Bd,List.length_append,List.length_replicate]; done) | (simp only [Bd,List.length_append,List.length_replicate]; omega)) ?_ (by decide) (by simp only [Bd]; omega) (A2v (getH_setH_self ..)) rfl (by omega) (by omega) fun xo' h2 hO2 hFa hLa hFb hKo => ?_
   ·exact hO1.ls.other fun j hj=>Ba _ _ _ _ (by have:=(hO1.lt (.inl hj)).2; omega)
   rcases hO2 with ⟨h0,_,_⟩ | ⟨lk,lv,hlk,rfl,hH,hcl⟩
   ·omega
   simp only [Bd] at hLa hFb
   have hO2:OwnG 59 h2 (.oslice lk lv none 0 (Lo.length+1) none) none (Lo.length+1) (Lo.map RwT.av++[.slice none [] true]):=.inr ⟨lk,lv,hlk,rfl,hH,hcl⟩
   have hlk2:=Dy hH (by simp)
   have n2:Bb h2 h2.length = .none:=Ds _ _ (Nat.le_refl _)
   have hget:(Lo.map RwT.av++[AV.slice none [] true])[Lo.length]? = some (.slice none [] true):=by rw [List.getElem?_append_right (by simp),List.length_map,Nat.sub_self]; rfl
   have hql:Lo.length<Lo.length+1:=by omega
   have kp:∀j,j<h1.length->Do xo≠some j->Bb h2 j=Bb h1 j:=fun j hj hne=>by rw [hFb j (by omega) hne,Ba _ _ _ _ (by omega)]
   simp (disch:=first | assumption | omega) only [go_sem,↓reduceIte,f6,hH,hget,hql]
   refine Oz (m:=1) (l2:=[(k:Int)+1]) (by first | with_reducible rfl | (simp only [Bd,List.length_append,List.length_replicate]; done) | (simp only [Bd,List.length_append,List.length_replicate]; omega)) rfl rfl (by omega) (by omega) ?_
   have nlk:¬(h2.length=lk):=by omega
   have hcs:Lo.length+1<=Lo.length+1:=by omega
   simp (disch:=first | assumption | omega) only [go_sem,↓reduceIte,hH,hql,n2,nlk,hcs,f23]
   have hko:Do xo=some lk\/h1.length<=lk:=by
    rcases hKo lk rfl with h5 | h5
    ·exact .inl h5
    ·right; rw [h5,Bd]; omega
   have hfr:=hO1.fresh (v':=0) (a:=(k:Int)+1) hO2 (by omega) hl59 hko (fun u hu=>kp _ (hO1.rw.keyLt hu) fun he=>hO1.neX he u hu rfl) hlk2
   refine hP (w.length-(k+1)) _ (by omega) ⟨k+1,x1,.oslice lk lv none 0 (Lo.length+1) none,L1,Lo++[⟨h2.length,0,none,[(k:Int)+1]⟩],rfl,by omega,by simp only [go_sem,↓reduceIte,f7,f8,f21,f22],?_,?_,?_,?_,fun j hj hc => ?_,?_⟩
   ·refine hS1.other fun j hj => ?_
    have hjl:=(hS1.lt hj).2
    have hjk:Do xo≠some j:=fun he=>hsep1 j (.inl he) hj
    have hjlk:j≠lk:=fun he=>by
     rcases hko with h5 | h5
     ·exact hjk (by rw [h5,he])
     ·omega
    rw [Ba _ _ _ _ hjlk.symm,Ba _ _ _ _ (by omega)]
    exact kp j hjl hjk
   ·rw [hsn]; exact hL1
   ·exact hfr
   ·rw [hsn,hadd,List.map_append,hLo,List.map_append]
    simp [nI6]
   ·rcases hj with hj | ⟨u,hu,hj⟩
    ·obtain rfl:lk=j:=by simpa [Do] using hj
     rcases hko with h5 | h5
     ·exact hsep1 _ (.inl h5) hc
     ·have:=(hS1.lt hc).2; omega
    ·rcases List.mem_append.1 hu with hu | hu
     ·exact hsep1 _ (.inr ⟨u,hu,hj⟩) hc
     ·obtain rfl:u=_:=by simpa using hu
      simp only at hj
      have:=(hS1.lt hc).2; omega
   ·simp only [Bd]; omega
  ·have e9:((q:Int)==(Lo.length:Int))=false:=by rw [beq_eq_false_iff_ne]; omega
   have hadd:Nm O q (k+1)=O.set q (O.getD q []++[k+1]):=by rw [Nm,if_neg (by omega)]
   have hql:q<Lo.length:=by omega
   obtain ⟨⟨tk,tv,tc,tl⟩,ht⟩:∃t,Lo[q]? = some t:=⟨_,List.getElem?_eq_getElem hql⟩
   have htm:=List.mem_of_getElem? ht
   obtain ⟨lk,lv,rfl,hH⟩:=hO1.get ht
   obtain ⟨_,gt,tne,tcap⟩:=hO1.rw.at' _ htm
   simp only at gt tne tcap
   have hrow:tl=nI6 (O.getD q []):=by
    have h1:(Lo.map RwT.l)[q]? = some tl:=by rw [List.getElem?_map,ht]; rfl
    rw [hLo,List.getElem?_map,List.getElem?_eq_getElem (by omega)] at h1
    rw [List.getD_eq_getElem?_getD,List.getElem?_eq_getElem (by omega)]
    exact (Option.some.inj h1).symm
   have hav:(Lo.map RwT.av)[q]? = some (.oslice tk tv none 0 tl.length tc):=by rw [List.getElem?_map,ht]; rfl
   have tll:tl.length<=100:=by
    rw [hrow,Dw]
    exact hOr q
   simp (disch:=first | assumption | omega) only [go_sem,↓reduceIte,f6,e9,hH,hql,hav]
   refine Qa (t:=⟨tk,tv,tc,tl⟩) (v:=(k:Int)+1) (by first | with_reducible rfl | (simp only [Bd,List.length_append,List.length_replicate]; done) | (simp only [Bd,List.length_append,List.length_replicate]; omega)) rfl gt tcap (by simp only; omega) fun t' e1 e2 e3 => ?_
   obtain ⟨k',v',c',l'⟩:=t'
   simp only at e1 e2 e3
   subst e1 e2
   have hgr:=hO1.grown (i:=q) (t:=⟨tk,tv,tc,tl⟩) (t':=⟨k',v',none,tl++[(k:Int)+1]⟩) ht rfl rfl e3
   have ntl:tk≠lk:=hO1.neX (j:=lk) rfl _ htm
   have ltl:=(hO1.lt (j:=lk) (.inl rfl)).2
   have nk':¬(k'=lk):=by
    rcases e3 with e | e
    ·rw [e]; exact ntl
    ·omega
   have hql1:q+1<=Lo.length:=hql
   simp (disch:=first | assumption | omega) only [go_sem,↓reduceIte,RwT.av,hql,hql1,nk',hH,f23]
   have e4:RwT.av ⟨k',v',none,tl++[(k:Int)+1]⟩ = .oslice k' v' none 0 (tl.length+1) none:=by simp [RwT.av]
   rw [e4] at hgr
   refine hP (w.length-(k+1)) _ (by omega) ⟨k+1,x1,.oslice lk lv none 0 (Lo.set q ⟨k',v',none,tl++[(k:Int)+1]⟩).length none,L1,Lo.set q ⟨k',v',none,tl++[(k:Int)+1]⟩,rfl,by omega,by simp only [go_sem,↓reduceIte,f6,f7,f8,f21,f22,List.length_set],?_,?_,hgr,?_,fun j hj hc => ?_,?_⟩
   ·refine hS1.other fun j hj => ?_
    have hjl:=(hS1.lt hj).2
    have h5:j≠lk:=fun he=>hsep1 lk (.inl rfl) (he ▸ hj)
    have h6:j≠k':=fun he=>by
     rcases e3 with e | e
     ·exact hsep1 tk (.inr ⟨_,htm,rfl⟩) (by rw [<-e,<-he]; exact hj)
     ·omega
    rw [Ba _ _ _ _ h5.symm,Ba _ _ _ _ h6.symm]
   ·rw [hsn]; exact hL1
   ·rw [hsn,hadd,List.map_set,hLo,List.map_set,hrow,Vx]
    rfl
   ·have h5:LsK (.oslice lk lv none 0 Lo.length none) (Lo.set q ⟨k',v',none,tl++[(k:Int)+1]⟩) j:=by
     rcases hj with hj | hj
     ·exact .inl hj
     ·exact .inr hj
    rcases A0b (n:=h1.length) (t:=⟨tk,tv,tc,tl⟩) ht (e3.elim (fun e => .inl e) fun e => .inr (by simp only; omega)) h5 with h6 | h6
    ·exact hsep1 j h6 hc
    ·have:=(hS1.lt hc).2; omega
   ·simp only [Bd]; omega
 ·have hlt':¬(k:Int)<(w.length:Int):=by omega
  rw [List.take_of_length_le (by omega)] at hLl hLo
  have gK:=hS.hd
  simp (disch:=first | assumption | omega) only [go_sem,↓reduceIte,f6,f7,f22,f23,hlt',gK]
  exact hV _ _ (Ft (by rw [hS.lo.frz,A0k hLl]) (by rw [hO.frz,A0k hLo]) (Bm _ _ _ _))
end Go.Ev.YtofpilpmiddpgaaGreatC
namespace Go.Ev.YtofpilpmiddpgaaGreatC
open Go Go.Proofs
theorem Adu (w:List Nat):(Es w).1.headD []=Dn w:=by
 by_cases h:w=[]
 ·subst h; rfl
 ·obtain ⟨T,hT⟩:=A3h h
  rw [hT]; rfl
theorem A9g (w:List Nat):∀p∈(Eh w).out,p.length<=w.length:=by
 have key:∀R:List Nat,∀p∈(Eh R.reverse).out,p.length<=R.reverse.length:=by
  intro R
  induction R with
  | nil=>intro p hp; cases hp
  | cons y R ih =>
   rw [List.reverse_cons,Um]
   intro p hp
   simp only [Hz] at hp
   rw [List.length_append,List.length_singleton]
   split at hp
   ·rcases List.mem_append.1 hp with hp | hp
    ·have:=ih p hp; omega
    ·obtain rfl:p=_:=by simpa using hp
     simp
   ·rcases List.mem_or_eq_of_mem_set hp with hp | rfl
    ·have:=ih p hp; omega
    ·rw [List.length_append,List.length_singleton,List.getD_eq_getElem?_getD]
     cases hg:(Eh R.reverse).out[Dr y (Dn R.reverse)]? with
     | none=>simp
     | some q=>have:=ih q (List.mem_of_getElem? hg); simp only [Option.getD_some]; omega
 have:=key w.reverse
 rwa [List.reverse_reverse] at this
attribute [local irreducible] Res.all evC Dd Dg Bo Bf Dl Bg Bi G GO GV GP GC R
set_option maxHeartbeats 2000000 in
theorem Add (w:List Nat) (h12:w.length<=12):Con T 8 34 [Dk (nI6 w)] (.tuple [Abq (Eh w).out,Dk (Eh w).bef]):=by
 refine Bs t34 fun n hn V hV => ?_
 obtain ⟨n,rfl⟩:∃m,n=m+3:=⟨n-3,by omega⟩
 have hl:=Dw w
 simp (disch:=first | assumption | omega) only [c34,go_sem,↓reduceIte]
 refine Fm (Uq fun h0 K km hS0 _ hL0 => ?_)
 simp only [List.length_replicate] at hS0 hL0
 simp (disch:=first | assumption | omega) only [go_sem,↓reduceIte,hl]
 refine Da (fun M st=>∃(k:Nat) (x xo xb:AV) (L Lo:List RwT),M=w.length-k/\k<=w.length/\At st.env [(4,xo),(5,xb),(6,.optr K 0 0),(13,Dk (nI6 w)),(14,.int .i64 w.length),(15,.int .i64 k)]/\StdO 77 st.heap K x L km 0/\L.map RwT.l=(Es (w.take k)).1.map nI6/\LsO 77 st.heap xo Lo/\Lo.map RwT.l=(Eh (w.take k)).out.map nI6/\(∀t∈Lo,t.cap=none)/\Own 77 st.heap xb .i64 (Eh (w.take k)).bef/\
   (∀j,LsK xo Lo j->¬StK K x L km j)/\(∀j,Do xb=some j->¬StK K x L km j/\¬LsK xo Lo j)/\77<=st.heap.length) w.length (by omega)
  ⟨0,_,_,_,[],[],by omega,by omega,by simp only [go_sem,↓reduceIte],hS0,rfl,A0c _ _,rfl,(fun t ht=>by cases ht),Hs ..,fun j hj=>(A8v hj).elim,(fun j hj=>by cases hj),hL0⟩ ?_
 clear hS0 hL0
 rintro M e h hM ⟨k,x,xo,xb,L,Lo,rfl,hk,hE,hS,hLl,hO,hLo,hcap,hb,hsep,hsb,hlen⟩ P hP
 simp only [Br,Bw] at hE hS hO hb hlen
 obtain ⟨f4,f5,f6,f13,f14,f15,-⟩:=hE
 by_cases hlt:k<w.length
 ·have hlt':(k:Int)<(w.length:Int):=by omega
  have hg:=Fo hlt
  obtain ⟨b1,b2,b3⟩:=A3g (w.take k)
  have htl:(w.take k).length=k:=by rw [List.length_take]; omega
  rw [htl] at b2 b3
  have hsn:=Js (w.take k) w[k]
  rw [<-List.take_succ_eq_append_getElem hlt,htl] at hsn
  have hps:=Um (w.take k) w[k]
  rw [<-List.take_succ_eq_append_getElem hlt,Hz,htl] at hps
  have hPI:=Zc (w.take k)
  have hhd:=Adu (w.take k)
  have hLol:Lo.length=(Eh (w.take k)).out.length:=by have:=congrArg List.length hLo; simpa using this
  have hpr:=Vy w[k] (Dn (w.take k))
  have hol:=hPI.ol
  have hrf:(Dn (w.take k)).length<=k:=by have:=Lf (w.take k); omega
  have hbl:=hPI.bl
  rw [htl] at hbl
  have hPl:∀(j:Nat) (p:List Nat),(Eh (w.take k)).out[j]? = some p->p.length<=100:=fun j p hp=>by
   have:=A9g (w.take k) p (List.mem_of_getElem? hp)
   omega
  have hne:=hPI.ne
  simp (disch:=first | assumption | omega) only [go_sem,↓reduceIte,f4,f5,f6,f13,f14,f15,hlt',hg]
  refine Fm (A9j hS hLl (by omega) (fun r hr=>by have:=b3 r hr; omega) fun h1 x1 L1 hS1 hL1 hF1 hlen1 hK1 => ?_)
  have hL1':L1.map RwT.l=(Es (w.take (k+1))).1.map nI6:=by rw [hsn]; exact hL1
  clear hL1 hsn hPI
  rw [hhd]
  generalize (Ez (Es (w.take k)).1 w[k]).2=row at *
  generalize Dr w[k] (Dn (w.take k))=q at *
  have hpo:(Eh (w.take k)).out.length<=12:=by omega
  rw [<-hol] at hpr
  generalize Eh (w.take k)=bp at *
  obtain ⟨po,pb⟩:=bp
  simp only at hLo hb hps hLol hpr hbl hPl hne hpo
  have hO1:LsO 77 h1 xo Lo:=hO.other fun j hj=>hF1 j (hO.lt hj).2 (hsep j hj)
  have hb1:Own 77 h1 xb .i64 pb:=hb.other fun j hj=>hF1 j (hb.keyLt j hj) (hsb j hj).1
  have hfr:∀j,j<h.length->¬StK K x L km j->¬StK K x1 L1 km j:=fun j hj hn hc=>by
   rcases hK1 j hc with h5 | h5
   ·exact hn h5
   ·omega
  have hsep1:∀j,LsK xo Lo j->¬StK K x1 L1 km j:=fun j hj=>hfr j (hO.lt hj).2 (hsep j hj)
  have hsb1:∀j,Do xb=some j->¬StK K x1 L1 km j/\¬LsK xo Lo j:=fun j hj=>⟨hfr j (hb.keyLt j hj) (hsb j hj).1,(hsb j hj).2⟩
  have h77:77<=h1.length:=by omega
  clear hfr hK1 hF1 hS hO hb hsep hsb
  apply A8q (call:=Bg T (n+3)) (base:=0) (Q:=Fin [.tmp 2,.tmp 3] V) fun e h2=>∃xb',At e [(4,xo),(6,.optr K 0 0),(7,.int .i64 k),(10,.int .i64 q),(13,Dk (nI6 w)),(14,.int .i64 w.length),(15,.int .i64 k),(45,xb')]/\Own 77 h2 xb' .i64 (pb++[if q=0 then -1 else Mg (po.getD (q-1) [])])/\(∀j,j<h1.length->Do xb≠some j->Bb h2 j=Bb h1 j)/\h1.length<=h2.length/\∀j,Do xb'=some j->Do xb=some j\/j=h1.length
  ·intro H
   by_cases hq0:q=0
   ·subst hq0
    have dq:decide (((0:Nat):Int)>0)=false:=rfl
    have dq2:decide ((0:Int)>0)=false:=rfl
    simp (disch:=first | assumption | omega) only [go_sem,↓reduceIte,f4,f5,f6,f13,f14,f15,dq,dq2]
    refine Is (by first | with_reducible rfl | (simp only [Bd,List.length_append,List.length_replicate]; done) | (simp only [Bd,List.length_append,List.length_replicate]; omega)) hb1 h77 (show (pb.length+1)*8<=1099511627776 by omega) fun xb' h2 c1 _ c2 c3 c4 => ?_
    exact H _ _ ⟨xb',by simp only [go_sem,↓reduceIte,f4,f5,f6,f13,f14,f15],c1,c3,c2,c4⟩
   ·obtain ⟨q',rfl⟩:∃q',q=q'+1:=⟨q-1,by omega⟩
    have dq:decide ((((q'+1:Nat):Int))>0)=true:=decide_eq_true (by omega)
    have dq2:decide (((q':Int)+1)>0)=true:=decide_eq_true (by omega)
    have hql:q'<Lo.length:=by omega
    obtain ⟨⟨tk,tv,tc,tl⟩,ht⟩:∃t,Lo[q']? = some t:=⟨_,List.getElem?_eq_getElem hql⟩
    have htm:=List.mem_of_getElem? ht
    obtain ⟨lk,lv,rfl,hH⟩:=hO1.get ht
    obtain ⟨_,gt,tne,_⟩:=hO1.rw.at' _ htm
    simp only at gt tne
    have hpq:po[q']? = some po[q']:=List.getElem?_eq_getElem (by omega)
    have hrow:tl=nI6 po[q']:=by
     have h1:(Lo.map RwT.l)[q']? = some tl:=by rw [List.getElem?_map,ht]; rfl
     rw [hLo,List.getElem?_map,hpq] at h1
     exact (Option.some.inj h1).symm
    have hpn:=hne _ _ hpq
    have hval:(if q'+1=0 then (-1:Int) else Mg (po.getD (q'+1-1) []))=Mg po[q']:=by
     rw [if_neg (by omega),Nat.add_sub_cancel,List.getD_eq_getElem?_getD,hpq]; rfl
    rw [hval] at H
    have hpl:=hPl _ _ hpq
    generalize po[q']=p at hrow hpn hpl H
    obtain ⟨m,hm⟩:∃m,p.length=m+1:=⟨p.length-1,by have:=List.length_pos_iff.2 hpn; omega⟩
    have hlast:p[m]? = some (p[m]'(by omega)):=List.getElem?_eq_getElem (by omega)
    have hln:Mg p=((p[m]'(by omega):Nat):Int):=by
     have h5:p[p.length-1]? = some (p[m]'(by omega)):=by rw [show p.length-1=m by omega]; exact hlast
     rw [Mg,List.getLast?_eq_getElem?,h5]
    rw [hln] at H
    have hgm:=A4w hlast
    have hav:(Lo.map RwT.av)[q']? = some (.oslice tk tv none 0 tl.length tc):=by rw [List.getElem?_map,ht]; rfl
    have htl':tl.length=m+1:=by rw [hrow,Dw,hm]
    rw [hrow] at gt
    rw [htl'] at hav
    have hs1:(q':Int)+1-1=(q':Int):=by omega
    have hs2:(m:Int)+1-1=(m:Int):=by omega
    have hm1:m<m+1:=by omega
    simp (disch:=first | assumption | omega) only [go_sem,↓reduceIte,f4,f5,f6,f13,f14,f15,dq,dq2,hs1,hH,hql,hav,hs2,hm1,gt,hgm]
    refine Is (by first | with_reducible rfl | (simp only [Bd,List.length_append,List.length_replicate]; done) | (simp only [Bd,List.length_append,List.length_replicate]; omega)) hb1 h77 (show (pb.length+1)*8<=1099511627776 by omega) fun xb' h2 c1 _ c2 c3 c4 => ?_
    exact H _ _ ⟨xb',by simp only [go_sem,↓reduceIte,f4,f5,f6,f13,f14,f15],c1,c3,c2,c4⟩
  clear f4 f5 f6 f13 f14 f15
  rintro e h2 ⟨xb',hE,hb2,hF2,hlen2,hk2⟩
  simp only [Br,Bw] at hE
  obtain ⟨f4,f6,f7,f10,f13,f14,f15,f45,-⟩:=hE
  have hO2:LsO 77 h2 xo Lo:=hO1.other fun j hj=>hF2 j (hO1.lt hj).2 fun he=>(hsb1 j he).2 hj
  have hS2:StdO 77 h2 K x1 L1 km 0:=hS1.other fun j hj=>hF2 j (hS1.lt hj).2 fun he=>(hsb1 j he).1 hj
  have hsb2:∀j,Do xb'=some j->¬StK K x1 L1 km j/\¬LsK xo Lo j:=fun j hj=>by
   rcases hk2 j hj with h5 | h5
   ·exact hsb1 j h5
   ·exact ⟨fun hc=>by have:=(hS1.lt hc).2; omega,fun hc=>by have:=(hO1.lt hc).2; omega⟩
  have h77b:77<=h2.length:=by omega
  clear hF2 hk2 hsb1 hb1 hO1 hS1
  obtain ⟨o1,o2,o3⟩:=OwnG.isOne hO2.ls
  have n1:Bb h2 h2.length = .none:=Ds _ _ (Nat.le_refl _)
  by_cases hq1:q=Lo.length
  ·subst hq1
   have e9:((Lo.length:Int)==(Lo.length:Int))=true:=by rw [beq_iff_eq]
   rw [if_pos hLol] at hps
   simp (disch:=first | assumption | omega) only [go_sem,↓reduceIte,f4,f6,f7,f10,f45,o3,e9,n1]
   refine Mf (lo:=77) (g:=none) (n:=Lo.length) (m:=1) (cs:=Lo.map RwT.av) (c2:=[.slice none [] true]) (by first | with_reducible rfl | (simp only [Bd,List.length_append,List.length_replicate]; done) | (simp only [Bd,List.length_append,List.length_replicate]; omega)) ?_ (by decide) (by simp only [Bd]; omega) (A2v (getH_setH_self ..)) rfl (by omega) (by omega) fun xo' h3 hO3 hFa hLa hFb hKo => ?_
   ·exact hO2.ls.other fun j hj=>Ba _ _ _ _ (by have:=(hO2.lt (.inl hj)).2; omega)
   rcases hO3 with ⟨h0,_,_⟩ | ⟨lk,lv,hlk,rfl,hH,hcl⟩
   ·omega
   simp only [Bd] at hLa hFb
   have hO3:OwnG 77 h3 (.oslice lk lv none 0 (Lo.length+1) none) none (Lo.length+1) (Lo.map RwT.av++[.slice none [] true]):=.inr ⟨lk,lv,hlk,rfl,hH,hcl⟩
   have hlk3:=Dy hH (by simp)
   have n3:Bb h3 h3.length = .none:=Ds _ _ (Nat.le_refl _)
   have hget:(Lo.map RwT.av++[AV.slice none [] true])[Lo.length]? = some (.slice none [] true):=by rw [List.getElem?_append_right (by simp),List.length_map,Nat.sub_self]; rfl
   have hql:Lo.length<Lo.length+1:=by omega
   have kp:∀j,j<h2.length->Do xo≠some j->Bb h3 j=Bb h2 j:=fun j hj hn=>by rw [hFb j (by omega) hn,Ba _ _ _ _ (by omega)]
   have hnl:(([]:List AV).length:Int)=0:=rfl
   simp (disch:=first | assumption | omega) only [go_sem,↓reduceIte,f4,f10,hH,hget,hql]
   rw [Xs (Hs 0 h3 .i64) (k1:=.i64) (k2:=.i64) (by simp only [go_sem,↓reduceIte]) (by simp only [go_sem,↓reduceIte])]
   simp (disch:=first | assumption | omega) only [go_sem,↓reduceIte,f7,Jd]
   refine Oz (m:=1) (l2:=[(k:Int)]) (by first | with_reducible rfl | (simp only [Bd,List.length_append,List.length_replicate]; done) | (simp only [Bd,List.length_append,List.length_replicate]; omega)) rfl rfl (by omega) (by omega) ?_
   have nlk:¬(h3.length=lk):=by omega
   have hcs:Lo.length+1<=Lo.length+1:=by omega
   simp (disch:=first | assumption | omega) only [go_sem,↓reduceIte,hH,hql,n3,nlk,hcs,f15]
   have hko:Do xo=some lk\/h2.length<=lk:=by
    rcases hKo lk rfl with h5 | h5
    ·exact .inl h5
    ·right; rw [h5,Bd]; omega
   have hfr:=hO2.fresh (v':=0) (a:=(k:Int)) hO3 (by omega) h77b hko (fun u hu=>kp _ (hO2.rw.keyLt hu) fun he=>hO2.neX he u hu rfl) hlk3
   have kp2:∀j,j<h2.length->¬LsK xo Lo j->Bb (setH (setH h3 h3.length (.cells 0 [.int .i64 (k:Int)])) lk (.cells lv ((Lo.map RwT.av++[AV.slice none [] true]).set Lo.length (.oslice h3.length 0 none 0 1 none)))) j=Bb h2 j:=fun j hj hn=>by
    have hjk:Do xo≠some j:=fun he=>hn (.inl he)
    have hjlk:j≠lk:=fun he=>by
     rcases hko with h5 | h5
     ·exact hjk (by rw [h5,he])
     ·omega
    rw [Ba _ _ _ _ hjlk.symm,Ba _ _ _ _ (by omega)]
    exact kp j hj hjk
   have hls:∀j,LsK (.oslice lk lv none 0 (Lo.length+1) none) (Lo++[⟨h3.length,0,none,[(k:Int)]⟩]) j->LsK xo Lo j\/h2.length<=j:=by
    rintro j (hj | ⟨u,hu,hj⟩)
    ·obtain rfl:lk=j:=by simpa [Do] using hj
     rcases hko with h5 | h5
     ·exact .inl (.inl h5)
     ·exact .inr h5
    ·rcases List.mem_append.1 hu with hu | hu
     ·exact .inl (.inr ⟨u,hu,hj⟩)
     ·obtain rfl:u=_:=by simpa using hu
      simp only at hj
      exact .inr (by omega)
   refine hP (w.length-(k+1)) _ (by omega) ⟨k+1,x1,.oslice lk lv none 0 (Lo.length+1) none,xb',L1,Lo++[⟨h3.length,0,none,[(k:Int)]⟩],rfl,by omega,by simp only [go_sem,↓reduceIte,f6,f13,f14,f45],hS2.other fun j hj=>kp2 j (hS2.lt hj).2 fun hc=>hsep1 j hc hj,hL1',hfr,?_,?_,?_,fun j hj hc => ?_,fun j hj=>⟨(hsb2 j hj).1,fun hc => ?_⟩,?_⟩
   ·rw [hps,List.map_append,hLo,List.map_append]
    simp [nI6]
   ·intro t ht
    rcases List.mem_append.1 ht with ht | ht
    ·exact hcap t ht
    ·obtain rfl:t=_:=by simpa using ht
     rfl
   ·rw [hps]
    exact hb2.other fun j hj=>kp2 j (hb2.keyLt j hj) (hsb2 j hj).2
   ·rcases hls j hj with h5 | h5
    ·exact hsep1 j h5 hc
    ·have:=(hS2.lt hc).2; omega
   ·rcases hls j hc with h5 | h5
    ·exact (hsb2 j hj).2 h5
    ·have:=hb2.keyLt j hj; omega
   ·simp only [Bd]; omega
  ·have e9:((q:Int)==(Lo.length:Int))=false:=by rw [beq_eq_false_iff_ne]; omega
   rw [if_neg (by omega)] at hps
   have hql:q<Lo.length:=by omega
   obtain ⟨⟨tk,tv,tc,tl⟩,ht⟩:∃t,Lo[q]? = some t:=⟨_,List.getElem?_eq_getElem hql⟩
   have htm:=List.mem_of_getElem? ht
   obtain ⟨lk,lv,rfl,hH⟩:=hO2.get ht
   obtain ⟨tB,gt,tne,_⟩:=hO2.rw.at' _ htm
   have tc0:=hcap _ htm
   simp only at gt tne tc0 tB
   subst tc0
   have hpq:po[q]? = some po[q]:=List.getElem?_eq_getElem (by omega)
   have hgd:po.getD q []=po[q]:=by rw [List.getD_eq_getElem?_getD,hpq]; rfl
   have hrow:tl=nI6 po[q]:=by
    have h1:(Lo.map RwT.l)[q]? = some tl:=by rw [List.getElem?_map,ht]; rfl
    rw [hLo,List.getElem?_map,hpq] at h1
    exact (Option.some.inj h1).symm
   have hpl:=hPl _ _ hpq
   have hav:(Lo.map RwT.av)[q]? = some (.oslice tk tv none 0 tl.length none):=by rw [List.getElem?_map,ht]; rfl
   have tll:tl.length<=100:=by rw [hrow,Dw]; exact hpl
   have hOw:Own 0 h2 (.oslice tk tv none 0 tl.length none) .i64 tl:=.inr ⟨tk,tv,by omega,rfl,gt⟩
   simp (disch:=first | assumption | omega) only [go_sem,↓reduceIte,f4,f6,f7,f10,f45,o3,e9,hH,hql,hav]
   rw [Xs hOw (k1:=.i64) (k2:=.i64) (by simp only [go_sem,↓reduceIte]) (by simp only [go_sem,↓reduceIte])]
   simp (disch:=first | assumption | omega) only [go_sem,↓reduceIte,f7,Jd]
   refine Qa (t:=⟨tk,tv,some tl.length,tl⟩) (v:=(k:Int)) (by first | with_reducible rfl | (simp only [Bd,List.length_append,List.length_replicate]; done) | (simp only [Bd,List.length_append,List.length_replicate]; omega)) rfl gt (.inr rfl) (by simp only; omega) fun t' e1 e2 e3 => ?_
   obtain ⟨k',v',c',l'⟩:=t'
   simp only at e1 e2 e3
   subst e1 e2
   have hgr:=hO2.grown (i:=q) (t:=⟨tk,tv,none,tl⟩) (t':=⟨k',v',none,tl++[(k:Int)]⟩) ht rfl rfl e3
   have ntl:tk≠lk:=hO2.neX (j:=lk) rfl _ htm
   have ltl:=(hO2.lt (j:=lk) (.inl rfl)).2
   have nk':¬(k'=lk):=by
    rcases e3 with e | e
    ·rw [e]; exact ntl
    ·omega
   have hql1:q+1<=Lo.length:=hql
   simp (disch:=first | assumption | omega) only [go_sem,↓reduceIte,RwT.av,hql,hql1,nk',hH,f15]
   have e4:RwT.av ⟨k',v',none,tl++[(k:Int)]⟩ = .oslice k' v' none 0 (tl.length+1) none:=by simp [RwT.av]
   rw [e4] at hgr
   have kp2:∀j,j<h2.length->¬LsK (.oslice lk lv none 0 Lo.length none) Lo j->Bb (setH (setH h2 k' (.cells v' ((tl++[(k:Int)]).map (.int .i64)))) lk (.cells lv ((Lo.map RwT.av).set q (.oslice k' v' none 0 (tl.length+1) none)))) j=Bb h2 j:=fun j hj hn=>by
    have h5:j≠lk:=fun he=>hn (.inl (by rw [he]; rfl))
    have h6:j≠k':=fun he=>by
     rcases e3 with e | e
     ·exact hn (.inr ⟨_,htm,by rw [he,e]⟩)
     ·omega
    rw [Ba _ _ _ _ h5.symm,Ba _ _ _ _ h6.symm]
   have hls:∀j,LsK (.oslice lk lv none 0 (Lo.set q ⟨k',v',none,tl++[(k:Int)]⟩).length none) (Lo.set q ⟨k',v',none,tl++[(k:Int)]⟩) j->LsK (.oslice lk lv none 0 Lo.length none) Lo j\/h2.length<=j:=by
    intro j hj
    have h5:LsK (.oslice lk lv none 0 Lo.length none) (Lo.set q ⟨k',v',none,tl++[(k:Int)]⟩) j:=by
     rcases hj with hj | hj
     ·exact .inl hj
     ·exact .inr hj
    exact A0b (n:=h2.length) (t:=⟨tk,tv,none,tl⟩) ht (e3.elim (fun e => .inl e) fun e => .inr (by simp only; omega)) h5
   refine hP (w.length-(k+1)) _ (by omega) ⟨k+1,x1,.oslice lk lv none 0 (Lo.set q ⟨k',v',none,tl++[(k:Int)]⟩).length none,xb',L1,Lo.set q ⟨k',v',none,tl++[(k:Int)]⟩,rfl,by omega,by simp only [go_sem,↓reduceIte,f4,f6,f13,f14,f45,List.length_set],hS2.other fun j hj=>kp2 j (hS2.lt hj).2 fun hc=>hsep1 j hc hj,hL1',hgr,?_,?_,?_,fun j hj hc => ?_,fun j hj=>⟨(hsb2 j hj).1,fun hc => ?_⟩,?_⟩
   ·rw [hps,List.map_set,hLo,List.map_set,hrow,hgd,Vx]
    rfl
   ·intro t ht
    rcases List.mem_or_eq_of_mem_set ht with ht | rfl
    ·exact hcap t ht
    ·rfl
   ·rw [hps]
    exact hb2.other fun j hj=>kp2 j (hb2.keyLt j hj) (hsb2 j hj).2
   ·rcases hls j hj with h5 | h5
    ·exact hsep1 j h5 hc
    ·have:=(hS2.lt hc).2; omega
   ·rcases hls j hc with h5 | h5
    ·exact (hsb2 j hj).2 h5
    ·have:=hb2.keyLt j hj; omega
   ·simp only [Bd]; omega
 ·have hlt':¬(k:Int)<(w.length:Int):=by omega
  rw [List.take_of_length_le (by omega)] at hLo hb
  simp (disch:=first | assumption | omega) only [go_sem,↓reduceIte,f4,f5,f14,f15,hlt']
  exact hV _ _ (Ex (by rw [hO.frz,A0k hLo]) (Oc hb))
end Go.Ev.YtofpilpmiddpgaaGreatC
namespace Go.Ev.YtofpilpmiddpgaaGreatC
open Go Go.Proofs
theorem A0j {w:List Nat} (h:w≠[]):1<=(Dn w).length:=by
 cases w with
 | nil=>exact absurd rfl h
 | cons a r=>exact A0l (c:=[a]) (by simp) (List.pairwise_singleton _ _)
def Xt (w:List Nat):Nat:=(((Eh w).out.getD ((Dn w).length-1) []).getD 0 0)
def Jc (w:List Nat):List Nat:=Ly (Eh w).bef ((Dn w).length-1) (Xt w)
theorem A9w {w:List Nat} (h:w≠[]):∃p,(Eh w).out[(Dn w).length-1]? = some p/\p[0]? = some (Xt w)/\Xt w∈p:=by
 have hp:=Zc w
 have h1:=A0j h
 have hl:(Dn w).length-1<(Eh w).out.length:=by rw [hp.ol]; omega
 have hg:(Eh w).out[(Dn w).length-1]? = some (Eh w).out[(Dn w).length-1]:=List.getElem?_eq_getElem hl
 have hne:=hp.ne _ _ hg
 have ht:Xt w=((Eh w).out[(Dn w).length-1]).getD 0 0:=by rw [Xt,List.getD_eq_getElem?_getD (l:=(Eh w).out),hg]; rfl
 generalize (Eh w).out[(Dn w).length-1]=p at *
 cases p with
 | nil=>exact absurd rfl hne
 | cons a r =>
  refine ⟨_,hg,?_,?_⟩
  ·rw [ht]; rfl
  ·rw [ht]; simp
theorem A5l {w:List Nat} (h:w≠[]):(Jc w).length=(Dn w).length:=by
 have:=A0j h
 rw [Jc,A5n]; omega
theorem Anv {w:List Nat} (h:w≠[]):(Jc w).Pairwise (fun x y=>x<y/\w.getD x 0<=w.getD y 0)/\∀x∈Jc w,x<w.length:=by
 obtain ⟨p,h1,_,h2⟩:=A9w h
 obtain ⟨a,b,c⟩:=A9q (Zc w) _ _ p h1 h2
 exact ⟨a,fun x hx=>by have:=(b x hx).1; omega⟩
theorem Aoa {r:Nat} {X:List Int} {v:Int}:(List.replicate (r+1) (0:Int)++X).set r v=List.replicate r 0++v::X:=by
 rw [List.replicate_succ',List.append_assoc,List.set_append_right _ _ (by simp)]
 simp
attribute [local irreducible] Res.all evC Dd Dg Bo Bf Dl Bg Bi G GO GV GP GC R
set_option maxHeartbeats 1000000 in
theorem Yb (w:List Nat) (hw:SeqK w) (h0:w≠[]):Con T 9 16 [Dk (nI6 w)] (.tuple [Dk (nI6 (Jc w)),.int .i64 0]):=by
 refine Bs t16 fun n hn V hV => ?_
 have e0:((0:Int) != 0)=false:=rfl
 have h12:=hw.len
 have h1:=A0j h0
 have hPI:=Zc w
 obtain ⟨p,hp1,hp2,hp3⟩:=A9w h0
 have hpil:=A9g w
 have hrf:=Lf w
 obtain ⟨m',hm'⟩:∃m',(Dn w).length=m'+1:=⟨(Dn w).length-1,by omega⟩
 have hris:Jc w=Ly (Eh w).bef m' (Xt w):=by rw [Jc,hm',Nat.add_sub_cancel]
 rw [hm',Nat.add_sub_cancel] at hp1
 have hol:=hPI.ol
 have hbl:=hPI.bl
 rw [hm'] at hol
 have e1:((m':Int)+1==0)=false:=by rw [beq_eq_false_iff_ne]; omega
 have hs1:(m':Int)+1-1=(m':Int):=by omega
 have hfl:(List.replicate (m'+1) [AV.int .i64 0]).flatten=(List.replicate (m'+1) (0:Int)).map (.int .i64):=by simp
 have hrm:(m'+1)*8<=1099511627776:=by omega
 have hpm:((Eh w).out.map fun r=>Dk (nI6 r))[m']? = some (Dk (nI6 p)):=by rw [List.getElem?_map,hp1]; rfl
 have hp0:=A4w hp2
 simp (disch:=first | assumption | omega) only [c16,go_sem,↓reduceIte]
 refine Dq (Yd w hw) (by omega) (Di _ _ _ _ (Bx _)) rfl ?_
 simp (disch:=first | assumption | omega) only [go_sem,↓reduceIte,e0]
 refine Dq (Add w h12) (by omega) (Di _ _ _ _ (Bx _)) (by exact Bool.true_or _) ?_
 simp (disch:=first | assumption | omega) only [go_sem,↓reduceIte,hol,e1,hfl,hrm,hs1,hpm,hp0]
 refine ⟨Nat.le_refl _,?_⟩
 refine Da (fun M st=>∃(i a:Nat) (suf:List Nat),M=m'+1-i/\i<=m'+1/\At st.env [(6,Dk (Eh w).bef),(7,.oslice 54 0 none 0 (m'+1) (some (m'+1))),(8,.int .i64 (a:Nat)),(35,.int .i64 ((m':Int)+1)),(36,.int .i64 i)]/\Bb st.heap 54 = .cells 0 ((List.replicate (m'+1-i) (0:Int)++nI6 suf).map (.int .i64))/\suf.length=i/\
   (i<=m'->Jc w=Ly (Eh w).bef (m'-i) a++suf/\∃p,(Eh w).out[m'-i]? = some p/\a∈p)/\(i=m'+1->Jc w=suf)) (m'+1) (by omega)
  ⟨0,Xt w,[],by omega,by omega,by simp only [go_sem,↓reduceIte],by simp only [go_sem,↓reduceIte]; simp [nI6],rfl,fun _=>⟨by rw [hris]; simp,p,hp1,hp3⟩,fun he=>by omega⟩ ?_
 rintro M e h hM ⟨i,a,suf,rfl,hi,hE,hH,hsl,hrun,hend⟩ P hP
 simp only [Br,Bw] at hE hH
 obtain ⟨f6,f7,f8,f35,f36,-⟩:=hE
 by_cases hlt:i<=m'
 ·have hlt':(i:Int)<(m':Int)+1:=by omega
  obtain ⟨hr,q,hq,haq⟩:=hrun hlt
  have haw:=hPI.lt _ _ hq a haq
  have hsi:(m':Int)-(i:Int)=((m'-i:Nat):Int):=by omega
  have hmi:m'-i<m'+1:=by omega
  have hba:(Eh w).bef[a]? = some ((Eh w).bef[a]'(by omega)):=List.getElem?_eq_getElem (by omega)
  have hnx:∃b:Nat,(if (Eh w).bef[a]'(by omega)>0 then (Eh w).bef[a]'(by omega) else 0)=(b:Int)/\(i+1<=m'->Jc w=Ly (Eh w).bef (m'-(i+1)) b++a::suf/\∃p,(Eh w).out[m'-(i+1)]? = some p/\b∈p)/\(i+1=m'+1->Jc w=a::suf):=by
   by_cases hz:m'-i=0
   ·have hb:=hPI.b0 q (by rw [<-hz]; exact hq) a haq
    rw [hba] at hb
    have hb':=Option.some.inj hb
    refine ⟨0,by rw [hb']; rfl,fun hc=>by omega,fun _ => ?_⟩
    rw [hr,hz]; rfl
   ·obtain ⟨j,hj⟩:∃j,m'-i=j+1:=⟨m'-i-1,by omega⟩
    rw [hj] at hq hr
    obtain ⟨b,q2,c1,c2,c3,c4,c5⟩:=hPI.bs j q hq a haq
    have hb':(Eh w).bef[a]'(by omega)=(b:Int):=by rw [hba] at c1; exact Option.some.inj c1
    refine ⟨b,by rw [hb']; split <;> omega,fun _=>⟨?_,q2,?_,c3⟩,fun hc=>by omega⟩
    ·have hgd:((Eh w).bef.getD a 0).toNat=b:=by rw [List.getD_eq_getElem?_getD,c1]; rfl
     rw [hr,Ly,hgd,show m'-(i+1)=j by omega,List.append_assoc]; rfl
    ·rw [show m'-(i+1)=j by omega]; exact c2
  obtain ⟨b,hb1,hb2,hb3⟩:=hnx
  have hset:(List.replicate (m'+1-i) (0:Int)++nI6 suf).set (m'-i) (a:Int)=List.replicate (m'+1-(i+1)) 0++nI6 (a::suf):=by
   rw [show m'+1-i=(m'-i)+1 by omega,Aoa,show m'+1-(i+1)=m'-i by omega]; rfl
  have hln:(List.replicate (m'+1-i) (0:Int)++nI6 suf).length=m'+1:=by rw [List.length_append,List.length_replicate,Dw]; omega
  have hmi1:m'-i+1<=m'+1:=by omega
  have hmx:Mh .i64 0 [.int .i64 ((Eh w).bef[a]'(by omega))] = .ret (.int .i64 (b:Int)):=by rw [A8y,hb1]
  generalize hvb:(Eh w).bef[a]'(by omega)=vb at *
  generalize hcs:(List.replicate (m'+1-i) (0:Int)++nI6 suf)=cs at *
  simp (disch:=first | assumption | omega) only [go_sem,↓reduceIte,f6,f7,f8,f35,f36,hlt',hs1,hsi,hmi,hH,hln,hmi1,hset,hba,hmx]
  exact hP (m'+1-(i+1)) _ (by omega) ⟨i+1,b,a::suf,rfl,by omega,by simp only [go_sem,↓reduceIte,f6,f7,f35],by simp only [go_sem,↓reduceIte],by simp [hsl],hb2,hb3⟩
 ·obtain rfl:i=m'+1:=by omega
  have hlt':¬((m':Int)+1<(m':Int)+1):=by omega
  rw [Nat.sub_self,List.replicate_zero,List.nil_append] at hH
  simp (disch:=first | assumption | omega) only [go_sem,↓reduceIte,f7,f35,f36,hlt']
  refine hV _ _ (Ex (Hq hH (by rw [Dw,hsl])) (Bm _ _ _ _) |>.trans ?_)
  rw [hend rfl]
theorem Ade (w:List Nat) (hw:SeqK w):Con T 1 35 [Dk (nI6 w)] (.int .i64 0):=by
 refine Bs t35 fun n hn V hV => ?_
 have hl:=Dw w
 have h12:=hw.len
 have d1:decide ((w.length:Int)>12)=false:=decide_eq_false (by omega)
 simp (disch:=first | assumption | omega) only [c35,go_sem,↓reduceIte,hl,d1]
 refine Da (fun M s=>∃k:Nat,M=w.length-k/\k<=w.length/\At s.env [(0,Dk (nI6 w)),(3,.int .i64 k)]) w.length (by omega) ⟨0,by omega,by omega,by simp only [go_sem,↓reduceIte]⟩ ?_
 rintro M e h hM ⟨k,rfl,hk,hE⟩ P hP
 simp only [Br,Bw] at hE
 obtain ⟨f0,f3,-⟩:=hE
 by_cases hlt:k<w.length
 ·have hlt':(k:Int)<(w.length:Int):=by omega
  have hg:=Fo hlt
  have hr:=hw.rng _ (List.getElem_mem hlt)
  have g1:¬(((w[k]:Nat):Int)<1):=by omega
  have g2:decide (((w[k]:Nat):Int)>99)=false:=decide_eq_false (by omega)
  simp (disch:=first | assumption | omega) only [go_sem,↓reduceIte,f0,f3,hl,hlt',hg,g1,g2]
  exact hP (w.length-(k+1)) _ (by omega) ⟨k+1,rfl,by omega,by simp only [go_sem,↓reduceIte,f0]⟩
 ·have hlt':¬(k:Int)<(w.length:Int):=by omega
  simp (disch:=first | assumption | omega) only [go_sem,↓reduceIte,f0,f3,hl,hlt']
  exact hV _ _ (Bm _ _ _ _)
theorem A6q (r:List Nat) (N:Nat) (h1:r.Pairwise (·<·)) (h2:∀x∈r,x<N) (hN:N<=1000) (hrl:r.length<=1000):Con T 1 36 [Dk (nI6 r),.int .i64 (N:Nat)] (.bool true):=by
 refine Bs t36 fun n hn V hV => ?_
 have hl:=Dw r
 simp (disch:=first | assumption | omega) only [c36,go_sem,↓reduceIte]
 refine Da (fun M s=>∃k:Nat,M=r.length-k/\k<=r.length/\At s.env [(0,Dk (nI6 r)),(1,.int .i64 (N:Nat)),(5,.int .i64 k)]) r.length (by omega) ⟨0,by omega,by omega,by simp only [go_sem,↓reduceIte]⟩ ?_
 rintro M e h hM ⟨k,rfl,hk,hE⟩ P hP
 simp only [Br,Bw] at hE
 obtain ⟨f0,f1,f5,-⟩:=hE
 by_cases hlt:k<r.length
 ·have hlt':(k:Int)<(r.length:Int):=by omega
  have hg:=Fo hlt
  have hr:=h2 _ (List.getElem_mem hlt)
  have g1:¬(((r[k]:Nat):Int)<0):=by omega
  have g2:decide (((r[k]:Nat):Int)>=(N:Int))=false:=decide_eq_false (by omega)
  have g3:¬N<=r[k]:=by omega
  by_cases hk0:k=0
  ·subst hk0
   have g4:decide ((0:Int)>0)=false:=rfl
   have hlt0:(0:Int)<(r.length:Int):=by omega
   have f5':Bz e 5 = .int .i64 0:=f5
   simp (disch:=first | assumption | omega) only [go_sem,↓reduceIte,f0,f1,f5',hl,hlt0,hg,g1,g2,g3,g4]
   exact hP (r.length-1) _ (by omega) ⟨1,by omega,by omega,by simp only [go_sem,↓reduceIte,f0,f1]⟩
  ·obtain ⟨j,rfl⟩:∃j,k=j+1:=⟨k-1,by omega⟩
   have g4:decide ((j:Int)+1>0)=true:=decide_eq_true (by omega)
   have hgj:=Fo (p:=r) (i:=j) (by omega)
   have hs:(j:Int)+1-1=(j:Int):=by omega
   have hlt2:r[j]'(by omega)<r[j+1]:=List.pairwise_iff_getElem.1 h1 j (j+1) (by omega) hlt (by omega)
   have g5:decide (((r[j+1]:Nat):Int)<=((r[j]'(by omega):Nat):Int))=false:=decide_eq_false (by omega)
   have g6:¬r[j+1]<=r[j]'(by omega):=by omega
   have hlt'':(j:Int)+1<(r.length:Int):=by omega
   simp (disch:=first | assumption | omega) only [go_sem,↓reduceIte,f0,f1,f5,hl,hlt'',hg,g1,g2,g3,g4,hs,hgj,g5,g6]
   exact hP (r.length-(j+2)) _ (by omega) ⟨j+2,rfl,by omega,by simp only [go_sem,↓reduceIte,f0,f1]; trivial⟩
 ·have hlt':¬(k:Int)<(r.length:Int):=by omega
  simp (disch:=first | assumption | omega) only [go_sem,↓reduceIte,f0,f5,hl,hlt']
  exact hV _ _ (Dm _ _ _)
theorem A6r (w r:List Nat) (hw:SeqK w) (h1:r.Pairwise (fun x y=>x<y/\w.getD x 0<=w.getD y 0)) (h2:∀x∈r,x<w.length) (hrl:r.length<=1000):Con T 2 18 [Dk (nI6 w),Dk (nI6 r)] (.tuple [.int .i64 (r.length:Nat),.int .i64 0]):=by
 refine Bs t18 fun n hn V hV => ?_
 have e0:((0:Int) != 0)=false:=rfl
 have hl:=Dw w
 have hlr:=Dw r
 have h12:=hw.len
 simp (disch:=first | assumption | omega) only [c18,go_sem,↓reduceIte]
 refine Dq (Ade w hw) hn (Di _ _ _ _ (Bx _)) rfl ?_
 simp (disch:=first | assumption | omega) only [go_sem,↓reduceIte,e0,hl]
 refine Dq (A6q r w.length (h1.imp fun h=>h.1) h2 (by omega) hrl) hn (Di _ _ _ _ (Fi _ _ _ (Bx _))) rfl ?_
 simp (disch:=first | assumption | omega) only [go_sem,↓reduceIte]
 refine Da (fun M s=>∃k:Nat,M=r.length-k/\k<=r.length/\At s.env [(0,Dk (nI6 w)),(1,Dk (nI6 r)),(6,.int .i64 ((k:Int)+1))]) r.length (by omega) ⟨0,by omega,by omega,by simp only [go_sem,↓reduceIte]⟩ ?_
 rintro M e h hM ⟨k,rfl,hk,hE⟩ P hP
 simp only [Br,Bw] at hE
 obtain ⟨f0,f1,f6,-⟩:=hE
 by_cases hlt:k+1<r.length
 ·have hlt':(k:Int)+1<(r.length:Int):=by omega
  have hg1:=Fo (p:=r) (i:=k+1) hlt
  have hg0:=Fo (p:=r) (i:=k) (by omega)
  have r1:=h2 _ (List.getElem_mem hlt)
  have r0:=h2 _ (List.getElem_mem (show k<r.length by omega))
  have hw1:=Fo r1
  have hw0:=Fo r0
  have hle:=(List.pairwise_iff_getElem.1 h1 k (k+1) (by omega) hlt (by omega)).2
  rw [List.getD_eq_getElem?_getD,List.getD_eq_getElem?_getD,List.getElem?_eq_getElem r1,List.getElem?_eq_getElem r0] at hle
  simp only [Option.getD_some] at hle
  have hs:(k:Int)+1-1=(k:Int):=by omega
  have g2:¬(w[r[k+1]]<w[r[k]'(by omega)]):=by omega
  simp (disch:=first | assumption | omega) only [go_sem,↓reduceIte,f0,f1,f6,hlr,hlt',hg1,hg0,hw1,hw0,hs,g2]
  exact hP (r.length-(k+1)) _ (by omega) ⟨k+1,rfl,by omega,by simp only [go_sem,↓reduceIte,f0,f1]⟩
 ·have hlt':¬((k:Int)+1<(r.length:Int)):=by omega
  simp (disch:=first | assumption | omega) only [go_sem,↓reduceIte,f1,f6,hlr,hlt']
  exact hV _ _ (Ex (Bm _ _ _ _) (Bm _ _ _ _))
end Go.Ev.YtofpilpmiddpgaaGreatC
namespace Go.Ev.YtofpilpmiddpgaaGreatC
open Go Go.Proofs
theorem Bmj (p:List Nat):nI8 p=nI6 p:=rfl
theorem swp6 (k:Nat) (q:List Nat):swp k (nI6 q)=nI6 (swp k q):=(Wd _ k q).symm
theorem Aru (k:Nat) (q:List Nat):tpP (swp k q)=swp k (tpP q):=A8x k q
theorem A9u {α:Type}:∀{k:Nat} {l:List α} {x:α},x∈swp k l->x∈l
 | 0,[],_,h=>h
 | 0,[_],_,h=>h
 | 0,a::b::r,x,h=>by
  simp only [swp,List.mem_cons] at h ⊢
  rcases h with h | h | h
  ·exact .inr (.inl h)
  ·exact .inl h
  ·exact .inr (.inr h)
 | _+1,[],_,h=>h
 | k+1,a::r,x,h=>by
  simp only [swp,List.mem_cons] at h ⊢
  rcases h with h | h
  ·exact .inl h
  ·exact .inr (A9u h)
attribute [local irreducible] Res.all evC Dd Dg Bo Bf Dl Bg Bi G GO GV GP GC R
set_option maxHeartbeats 2000000 in
theorem A0p (kw n:Nat) (hw:Con T kw 6 [] (.bool true)) (hn:kw<=n) (hn2:1100<=n) (l:List Int) :
  (Dl (Bg T n) c4 [Dk l] []).all fun p=>p.1 = .bool true:=by
 obtain ⟨n,rfl⟩:∃n',n=n'+1:=⟨n-1,by omega⟩
 rw [A4o]
 have csW:∀{base:Nat} {Q:EX×St->Prop} {d:Option Nat} {L:List IOper} {ks:List Kont} {e:Env} {h:Bc},GP (Bg T (n+1)) base Q d L ks e (Bg T (n+1) false (.fn 6) [] h)=GO (Bg T (n+1)) base Q L ks ⟨Bj e d (.bool true),h⟩:=
  Fq hw hn (Bx _) rfl
 by_cases h20:10<l.length
 ·have d1:decide ((l.length:Int)>10)=true:=decide_eq_true (by omega)
  simp (disch:=first | assumption | omega) only [c4,go_sem,↓reduceIte,d1,csW]
 have d1:decide ((l.length:Int)>10)=false:=decide_eq_false (by omega)
 have csJ:∀{base:Nat} {Q:EX×St->Prop} {d:Option Nat} {L:List IOper} {ks:List Kont} {e:Env} {h:Bc},GP (Bg T (n+1)) base Q d L ks e (Bg T (n+1) false (.fn 5) [Dk l] h)=GO (Bg T (n+1)) base Q L ks ⟨Bj e d (.int .i64 (Kt l)),h⟩:=
  Fq (A6p l) (by omega) (Di _ _ _ _ (Bx _)) rfl
 by_cases hc:Kt l≠0
 ·have hc':(Kt l != 0)=true:=by simpa using hc
  simp (disch:=first | assumption | omega) only [c4,go_sem,↓reduceIte,d1,csJ,hc',csW]
 replace hc:Kt l=0:=Decidable.not_not.1 hc
 have hc':((0:Int) != 0)=false:=rfl
 obtain ⟨p,rfl,hp,h1,h10⟩:=Acs hc
 have hl:=Dw p
 have h45:=A5x (nI6 p) (by omega)
 have hsl:(Eq (nI6 p)).length=inv (nI6 p):=A2j _
 have htn:tpP p≠[]:=fun e=>by have:=Jx p; rw [e] at this; simp at this; omega
 have hsq:SeqK (tpP p):=Afn h10 hp.lt
 obtain ⟨hr1,hr2⟩:=Abr (p:=p) h1
 rw [Bmj] at hr1 hr2
 obtain ⟨Tr,hTr⟩:=A3h htn
 have hrl:=A5l htn
 have hx1:∀x∈p,x<=1000:=fun x hx=>by have:=hp.lt x hx; omega
 rw [hTr] at hr1
 simp only [List.length_cons] at hr1
 simp (disch:=first | assumption | omega) only [c4,go_sem,↓reduceIte,d1,csJ,hc,hc']
 refine Mk (Aad p hp h1 h10) (by omega) (Di _ _ _ _ (Bx _)) ?_
 simp (disch:=first | assumption | omega) only [go_sem,↓reduceIte]
 refine Mk (Li p h10 hx1) (by omega) (Di _ _ _ _ (Bx _)) ?_
 simp (disch:=first | assumption | omega) only [go_sem,↓reduceIte]
 refine Dq (Acv (tpP p) hsq) (by omega) (Di _ _ _ _ (Bx _)) (by exact Bool.true_or _) ?_
 simp (disch:=first | assumption | omega) only [go_sem,↓reduceIte]
 refine Mk (Li p h10 hx1) (by omega) (Di _ _ _ _ (Bx _)) ?_
 simp (disch:=first | assumption | omega) only [go_sem,↓reduceIte]
 refine Dq (Yb (tpP p) hsq htn) (by omega) (Di _ _ _ _ (Bx _)) (by exact Bool.true_or _) ?_
 have hS:=Dw (Eq (nI6 p))
 have hR:=Dw (Jc (tpP p))
 have hF:=Dw (Dn (tpP p))
 have g1:decide (((Eq (nI6 p)).length:Int)>45)=false:=decide_eq_false (by omega)
 have g2:¬((Tr.length:Int)+1<1):=by omega
 have g3:(((Dn (tpP p)).length:Int) != ((Jc (tpP p)).length:Int))=false:=by rw [hrl]; simp
 have g4:¬(((Eq (nI6 p)).length:Int)<(p.length:Int)-((Jc (tpP p)).length:Int)):=by omega
 have g5:¬(((Eq (nI6 p)).length:Int)<(Tr.length:Int)+1-1):=by omega
 have hrl2:(Jc (tpP p)).length<=10:=by
  have:=Lf (tpP p)
  have:=Jx p
  omega
 have hTl:Tr.length<=100:=by omega
 rw [hTr]
 simp (disch:=first | assumption | omega) only [go_sem,↓reduceIte,hc',hl,hS,hR,hF,g1,g2,g3,g4,g5]
 refine Agp (l:=nI6 p) (by omega) (by omega) (by simp only [Db,Ed,List.length_map]) fun key ver h' hH hk1 hk2 kp ln => ?_
 simp only [List.length_replicate] at hk1 kp ln
 clear kp g1 g2 g3 g4 g5
 simp (disch:=first | assumption | omega) only [go_sem,↓reduceIte,hR]
 refine Da (fun M st=>∃(i:Nat) (q dn:List Nat),M=(Eq (nI6 p)).length-i/\i<=(Eq (nI6 p)).length/\At st.env [(0,Dk (nI6 p)),(3,Dk (nI6 (Eq (nI6 p)))),(10,.oslice key ver none 0 (nI6 p).length none),(11,.int .i64 ((Dn (tpP q)).length:Nat)),(12,.int .i64 i)]/\Bb st.heap key = .cells ver ((nI6 q).map (.int .i64))/\q.length=p.length/\(∀x∈q,x<q.length)/\dn.length=i/\Eq (nI6 p)=dn++Eq (nI6 q)) (Eq (nI6 p)).length (by omega)
  ⟨0,p,[],by omega,by omega,by simp only [go_sem,↓reduceIte,hrl],hH,rfl,hp.lt,rfl,rfl⟩ ?_
 clear hH hk1 hk2 ln
 rintro M e h hM ⟨i,q,dn,rfl,hi,hE,hH,hql,hqx,hdn,hst⟩ P hP
 simp only [Br,Bw] at hE hH
 obtain ⟨f0,f3,f10,f11,f12,-⟩:=hE
 have hlq:=Dw q
 have hrq:=Lf (tpP q)
 rw [Jx] at hrq
 by_cases hlt:i<(Eq (nI6 p)).length
 ·have hlt':(i:Int)<((Eq (nI6 p)).length:Int):=by omega
  cases hd:Hg (nI6 q) 0 with
  | none =>
   rw [Zj hd,List.append_nil] at hst
   rw [hst] at hlt
   omega
  | some k =>
   have hk:=Zt hd
   rw [hlq] at hk
   have hst2:=hst
   rw [Mi hd,swp6] at hst2
   have hgi:(Eq (nI6 p))[i]? = some k:=by rw [hst2,List.getElem?_append_right (by omega),hdn,Nat.sub_self]; rfl
   have hg:=A4w hgi
   have hk0:=Fo (p:=q) (i:=k) (by omega)
   have hk1:=Fo (p:=q) (i:=k+1) hk
   have c1:¬((k:Int)<0):=by omega
   have c2:decide ((k:Int)+1>=(p.length:Int))=false:=decide_eq_false (by omega)
   have hkl:k<(nI6 p).length:=by omega
   have hkl1:k+1<(nI6 p).length:=by omega
   have hkb:k+1<=(nI6 q).length:=by omega
   have hkb1:k+1+1<=(nI6 q).length:=by omega
   have hsw:((nI6 q).set k ((q[k+1]:Nat):Int)).set (k+1) ((q[k]'(by omega):Nat):Int)=nI6 (swp k q):=by
    rw [<-swp6,<-A0o (by rw [hlq]; exact hk),List.getD_eq_getElem?_getD,List.getD_eq_getElem?_getD,hk0,hk1]; rfl
   have hls:(swp k q).length=q.length:=Wc k q
   have hsx:∀x∈swp k q,x<(swp k q).length:=fun x hx=>by rw [hls]; exact hqx x (A9u hx)
   have hsx1:∀x∈swp k q,x<=1000:=fun x hx=>by have:=hsx x hx; omega
   have hsq2:SeqK (tpP (swp k q)):=Afn (by omega) hsx
   have hstn:tpP (swp k q)≠[]:=fun e=>by have:=Jx (swp k q); rw [e] at this; simp at this; omega
   have hrow:=A9o (S:=tpP q) (k:=k) (by rw [Jx]; exact hk)
   rw [<-Aru] at hrow
   have hrl3:=A5l hstn
   obtain ⟨ok1,ok2⟩:=Anv hstn
   have hrw2:=Lf (tpP (swp k q))
   rw [Jx] at hrw2
   have c3:decide (((Dn (tpP (swp k q))).length:Int)>((Dn (tpP q)).length:Int)+1)=false:=decide_eq_false (by omega)
   have c4:¬(((Dn (tpP (swp k q))).length:Int)<((Dn (tpP q)).length:Int)-1):=by omega
   simp (disch:=first | assumption | omega) only [go_sem,↓reduceIte,f0,f3,f10,f11,f12,hS,hlt',hg,c1,hl,c2,hkl,hkl1,hH,hk0,hk1,hkb,hkb1]
   refine ⟨by omega,by omega,by omega,by omega,by rw [List.length_set]; omega,?_⟩
   rw [hsw]
   have hfl:p.length=(nI6 (swp k q)).length:=by rw [Dw,hls,hql]
   refine Mk (Li (swp k q) (by omega) hsx1) (by omega) (By (Hq (getH_setH_self ..) hfl) (Bx _)) ?_
   simp (disch:=first | assumption | omega) only [go_sem,↓reduceIte]
   refine Dq (Yb (tpP (swp k q)) hsq2 hstn) (by omega) (Di _ _ _ _ (Bx _)) (by exact Bool.true_or _) ?_
   simp (disch:=first | assumption | omega) only [go_sem,↓reduceIte,f10,hl]
   refine Mk (Li (swp k q) (by omega) hsx1) (by omega) (By (Hq (getH_setH_self ..) hfl) (Bx _)) ?_
   simp (disch:=first | assumption | omega) only [go_sem,↓reduceIte]
   refine Dq (A6r (tpP (swp k q)) (Jc (tpP (swp k q))) hsq2 ok1 ok2 (by omega)) (by omega) (Di _ _ _ _ (Di _ _ _ _ (Bx _))) (A5d rfl) ?_
   simp (disch:=first | assumption | omega) only [go_sem,↓reduceIte,f11,f12,hc',hrl3,c3,c4]
   exact hP ((Eq (nI6 p)).length-(i+1)) _ (by omega) ⟨i+1,swp k q,dn++[k],rfl,by omega,by simp only [go_sem,↓reduceIte,f0,f3,f10],getH_setH_self ..,by omega,hsx,by simp [hdn],by rw [hst2,List.append_assoc]; rfl⟩
 ·obtain rfl:i=(Eq (nI6 p)).length:=by omega
  have hlt':¬(((Eq (nI6 p)).length:Int)<((Eq (nI6 p)).length:Int)):=by omega
  have hnil:Eq (nI6 q)=[]:=by
   have h5:=congrArg List.length hst
   rw [List.length_append,hdn] at h5
   exact List.length_eq_zero_iff.1 (by omega)
  have hd:Hg (nI6 q) 0=none:=by
   cases hd:Hg (nI6 q) 0 with
   | none=>rfl
   | some k=>rw [Mi hd] at hnil; cases hnil
  have hend:(Dn (tpP q)).length=p.length:=by rw [<-hql]; exact A9m hd
  have g1:((p.length:Int)==(p.length:Int))=true:=by simp
  rw [hend] at f11
  simp (disch:=first | assumption | omega) only [go_sem,↓reduceIte,f0,f3,f11,f12,hS,hlt',hl,g1,csW]
end Go.Ev.YtofpilpmiddpgaaGreatC
