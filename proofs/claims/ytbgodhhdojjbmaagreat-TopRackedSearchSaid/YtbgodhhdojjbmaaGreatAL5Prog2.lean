/- The code of functions of layer 5 that are walked, compiled for the evaluator, as text. What the functions of the layer compute, and laws about it, in plain mathematics: no program in sight. Orders as the laws are handed them, opened. A part of the proof. What the program's functions answer: checks, ends, delays. What the program's functions answer: ends and delays. No condition but those that stand in each. -/
import Derived.Test.YtbgodhhdojjbmaaGreatATopW
import Derived.Test.YtbgodhhdojjbmaaGreatAEvFrame
import Derived.Test.YtbgodhhdojjbmaaGreatRows
import Derived.Test.YtbgodhhdojjbmaaGreatAEvMach
set_option linter.unusedSimpArgs false
set_option linter.unusedVariables false
set_option maxRecDepth 100000
namespace Go.Ev.YtbgodhhdojjbmaaGreatC.P5
open Go Go.Proofs
def c23:IFunc:=⟨12,[.tmp 2],sO [dO 2 (.mv (cI 0))] (sO [dO 3 (.mv (.const (.clo 391 [] [])))] (.seq (.block 0 (sO [mV 5 0,lN 6 5,bC 7 .gtr 6 10,mV 4 7] (.cond (tM 4) (sO [dO 2 (.mv (cI 6))] .ret) (sO [mV 9 0,mV 10 3,dO 11 (.callF false 392 [tM 9,tM 10]),mV 8 11] (.cond (tM 8) (sO [dO 2 (.mv (cI 3))] .ret) .skip))))) (sO [dO 2 (.mv (cI 0))] .ret)))⟩
theorem k23:(Bm Tryz.prog byr).fns 305=some c23:=by kernel_rfl
theorem t23:T.fns 305=some c23:=Bp k23 (by decide) (by decide)
def c57:IFunc:=⟨29,[.tmp 4],sO [dO 4 (.mv (cI 0))] (sO [mV 7 0,dO 8 (.callF false 305 [tM 7]),mV 5 8] (.seq (.block 0 (sO [mV 10 5,bC 11 .neq 10 0,mV 9 11] (.cond (tM 9) (sO [mV 12 5,mV 4 12] .ret) (sO [mV 14 1,lN 15 14,mV 16 0,lN 17 16,bB 18 .neq 15 17,mV 13 18] (.cond (tM 13) (sO [dO 4 (.mv (cI 15))] .ret) .skip))))) (.seq (sO [mV 19 0,lN 20 19,dO 21 (.mv (cI 0))] (.block 1 (.loop (sO [bB 22 .lss 21 20] (.seq (.cond (tM 22) .skip (.exit 1)) (.seq (.block 2 (sO [mV 23 21,mV 6 23] (sO [mV 24 1,mV 25 6,dO 26 (.callF false 54 [tM 24,tM 25]),dO 27 (.un .not (tM 26))] (.cond (tM 27) (sO [dO 4 (.mv (cI 2))] .ret) .skip)))) (.ops [bC 28 .add 21 1,mV 21 28]))))))) (sO [dO 4 (.mv (cI 0))] .ret))))⟩
theorem k57:(Bm Tryz.prog byr).fns 308=some c57:=by kernel_rfl
theorem t57:T.fns 308=some c57:=Bp k57 (by decide) (by decide)
def c67:IFunc:=⟨42,[.tmp 4],sO [dO 4 (.mv (.const .nilptr))] (sO [mV 8 0,dO 9 (.build [.slice (some 3) [] true] [(0,(1,tM 8))]),dO 10 (.build [.slice (some 3) [] true,.slice none [] true] [(0,(1,tM 9))]),dO 11 (.box (tM 10)),mV 5 11] (.seq (sO [mV 12 5,dO 13 (.nilCheck (tM 12)),dO 14 (.fieldAddr 0 (tM 13)),dO 15 (.fieldAddr 0 (tM 14)),lD 16 15,lN 17 16,dO 18 (.mv (cI 0))] (.block 0 (.loop (sO [bB 19 .lss 18 17] (.seq (.cond (tM 19) .skip (.exit 0)) (.seq (.block 1 (sO [dO 20 (.indexAddr 3 (tM 16) (tM 18)),dO 21 (.load (some 3) (tM 20)),dO 7 (.alloc [.int .i64 0,.int .i64 0,.int .i64 0]),eO (.store 3 (tM 7) (tM 21))] (.ops [mV 22 5,mV 23 5,dO 24 (.nilCheck (tM 23)),dO 25 (.fieldAddr 1 (tM 24)),lD 26 25,dO 27 (.fieldAddr 0 (tM 7)),dO 28 (.fieldAddr 0 (tM 27)),lD 29 28,dO 30 (.fieldAddr 0 (tM 7)),dO 31 (.fieldAddr 1 (tM 30)),lD 32 31,dO 33 (.build [.int .i64 0,.int .i64 0] [(0,(1,tM 29)),(1,(1,tM 32))]),mV 34 1,dO 35 (.index none 2 (tM 33) (tM 34)),dO 36 (.buildSlice none [.int .i64 0] [(0,(1,tM 35))]),dO 37 (.append none 8 (tM 26) (tM 36)),dO 38 (.nilCheck (tM 22)),dO 39 (.fieldAddr 1 (tM 38)),eO (.store 1 (tM 39) (tM 37))]))) (.ops [bC 40 .add 18 1,mV 18 40]))))))) (sO [mV 41 5,mV 4 41] .ret)))⟩
theorem k67:(Bm Tryz.prog byr).fns 306=some c67:=by kernel_rfl
theorem t67:T.fns 306=some c67:=Bp k67 (by decide) (by decide)
def c68:IFunc:=⟨20,[.tmp 2],sO [dO 1 (.box (tM 0)),dO 2 (.mv (.const (.slice none [] true)))] (sO [dO 3 (.mv (.const (.slice none [] true)))] (.seq (sO [dO 5 (.fieldAddr 0 (tM 1)),lD 6 5,lN 7 6,dO 8 (.mv (cI 0))] (.block 0 (.loop (sO [bB 9 .lss 8 7] (.seq (.cond (tM 9) .skip (.exit 0)) (.seq (.block 1 (sO [mV 10 8,mV 4 10] (.ops [mV 11 3,mV 12 4,dO 13 (.buildSlice none [.int .i64 0] [(0,(1,tM 12))]),dO 14 (.append none 8 (tM 11) (tM 13)),mV 3 14]))) (.ops [bC 15 .add 8 1,mV 8 15]))))))) (sO [mV 16 3,dO 17 (.mkFunc 394 [] [tM 1]),dO 18 (.callF true 393 [tM 16,tM 17])] (sO [mV 19 3,mV 2 19] .ret))))⟩
theorem k68:(Bm Tryz.prog byr).fns 307=some c68:=by kernel_rfl
theorem t68:T.fns 307=some c68:=Bp k68 (by decide) (by decide)
def c69:IFunc:=⟨21,[.tmp 4,.tmp 5],sO [dO 4 (.mv (.const .nilptr)),dO 5 (.mv (cI 0))] (sO [mV 7 0,dO 8 (.callF false 305 [tM 7]),mV 6 8] (.seq (.block 0 (sO [mV 10 6,bC 11 .neq 10 0,mV 9 11] (.cond (tM 9) (sO [mV 12 6,dO 4 (.mv (.const .nilptr)),mV 5 12] .ret) (sO [mV 14 1,dO 15 (.buildSlice none [.int .i64 0] [(0,(1,tM 14))]),dO 16 (.callF false 309 [cI 0,cI 1,tM 15]),dO 17 (.un .not (tM 16)),mV 13 17] (.cond (tM 13) (sO [dO 4 (.mv (.const .nilptr)),dO 5 (.mv (cI 2))] .ret) .skip))))) (sO [mV 18 0,mV 19 1,dO 20 (.callF false 306 [tM 18,tM 19]),mV 4 20,dO 5 (.mv (cI 0))] .ret)))⟩
theorem k69:(Bm Tryz.prog byr).fns 314=some c69:=by kernel_rfl
theorem t69:T.fns 314=some c69:=Bp k69 (by decide) (by decide)
def c73:IFunc:=⟨51,[.tmp 4,.tmp 5,.tmp 6],sO [dO 4 (.mv (cI 0)),dO 5 (.mv (cI 0)),dO 6 (.mv (cI 0))] (sO [mV 16 0,mV 17 1,dO 18 (.callF false 314 [tM 16,tM 17]),mV 15 18,xT 19 15 0,xT 20 15 1,dO 7 (.alloc [.nilptr]),eO (.store 1 (tM 7) (tM 19)),mV 8 20] (.seq (.block 0 (sO [mV 22 8,bC 23 .neq 22 0,mV 21 23] (.cond (tM 21) (sO [mV 24 8,dO 4 (.mv (cI 0)),dO 5 (.mv (cI 0)),mV 6 24] .ret) (sO [mV 26 0,lN 27 26,bC 28 .eql 27 0,mV 25 28] (.cond (tM 25) (sO [dO 4 (.mv (cI 0)),dO 5 (.mv (cI 0)),dO 6 (.mv (cI 5))] .ret) .skip))))) (sO [dO 9 (.alloc [.bool false]),eO (.store 1 (tM 9) (cB true))] (sO [dO 10 (.alloc [.int .i64 0]),dO 11 (.alloc [.int .i64 0]),eO (.store 1 (tM 10) (cI 0)),eO (.store 1 (tM 11) (cI 0))] (.seq (sO [lD 29 7,dO 30 (.nilCheck (tM 29)),dO 31 (.fieldAddr 0 (tM 30)),dO 32 (.load (some 1) (tM 31)),dO 33 (.callF false 397 [tM 32])] (.block 1 (.rangeF (tM 33) [34] (.ops [mV 12 34]) (.block 2 (sO [lD 36 7,mV 37 12,dO 38 (.callF false 315 [tM 36,tM 37]),mV 35 38,xT 39 35 0,xT 40 35 1,mV 13 39,mV 14 40] (sO [lD 41 9,mV 42 41,gV 43 13 42 false,gO 44 (.load none (tM 11)) 42 false,gO 45 (.bin .gtr (tM 43) (tM 44)) 42 false,dO 46 (.pick (tM 42) (cB true) (tM 45))] (.cond (tM 46) (.ops [mV 47 12,mV 48 13,eO (.store 1 (tM 10) (tM 47)),eO (.store 1 (tM 11) (tM 48)),eO (.store 1 (tM 9) (cB false))]) .skip))))))) (sO [lD 49 10,lD 50 11,mV 4 49,mV 5 50,dO 6 (.mv (cI 0))] .ret))))))⟩
theorem k73:(Bm Tryz.prog byr).fns 313=some c73:=by kernel_rfl
theorem t73:T.fns 313=some c73:=Bp k73 (by decide) (by decide)
def c75:IFunc:=⟨88,[.cell 2 (some 10)],sO [dO 1 (.box (tM 0)),dO 2 (.alloc [.int .i64 0,.int .i64 0,.int .i64 0,.int .i64 0,.int .i64 0,.int .i64 0,.int .i64 0,.int .i64 0,.int .i64 0,.int .i64 0])] (sO [⟨some 12,.mkMap,none⟩,dO 3 (.alloc [.fmap [] []]),eO (.store 1 (tM 3) (tM 12))] (sO [dO 4 (.mv (cI 0))] (.seq (sO [lD 13 1,dO 14 (.nilCheck (tM 13)),dO 15 (.fieldAddr 0 (tM 14)),dO 16 (.load (some 1) (tM 15)),dO 17 (.callF false 307 [tM 16]),lN 18 17,dO 19 (.mv (cI 0))] (.block 0 (.loop (sO [bB 20 .lss 19 18] (.seq (.cond (tM 20) .skip (.exit 0)) (.seq (.block 1 (sO [mV 21 19,iA 22 17 19,lD 23 22,mV 5 21,mV 6 23] (sO [lD 24 3,mV 25 6,dO 26 (.build [.int .i64 0] [(0,(1,tM 25))]),mV 27 5,eO (.mapUpdate (some 1) (tM 24) (tM 26) (tM 27))] (sO [mV 28 4,lD 29 1,dO 30 (.nilCheck (tM 29)),dO 31 (.fieldAddr 1 (tM 30)),lD 32 31,mV 33 6,iA 34 32 33,lD 35 34,bB 36 .add 28 35,mV 4 36] (.seq (sO [mV 37 4,lD 38 1,dO 39 (.nilCheck (tM 38)),dO 40 (.fieldAddr 0 (tM 39)),dO 41 (.fieldAddr 0 (tM 40)),lD 42 41,mV 43 6,dO 44 (.indexAddr 3 (tM 42) (tM 43)),dO 45 (.fieldAddr 2 (tM 44)),lD 46 45,bB 47 .leq 37 46] (.cond (tM 47) (.exit 1) .skip)) (sO [dO 7 (.mv (.const (.slice (some 1) [] true)))] (.seq (sO [lD 48 3,dO 49 (.range (tM 48))] (.block 2 (.loop (sO [dO 50 (.next (tM 49)),xT 51 50 0] (.seq (.cond (tM 51) .skip (.exit 2)) (.block 3 (sO [dO 52 (.entry (tM 49)),xT 53 52 0,dO 8 (.alloc [.int .i64 0]),eO (.store 1 (tM 8) (tM 53))] (.ops [mV 54 7,dO 55 (.load (some 1) (tM 8)),dO 56 (.buildSlice (some 1) [.int .i64 0] [(0,(1,tM 55))]),dO 57 (.append (some 1) 8 (tM 54) (tM 56)),mV 7 57])))))))) (sO [mV 58 7,dO 59 (.mkFunc 399 [] [tM 1,tM 3]),dO 60 (.callF false 398 [tM 58,tM 59]),dO 9 (.alloc [.int .i64 0]),eO (.store 1 (tM 9) (tM 60))] (sO [mV 61 4,lD 62 1,dO 63 (.nilCheck (tM 62)),dO 64 (.fieldAddr 1 (tM 63)),lD 65 64,dO 66 (.fieldAddr 0 (tM 9)),lD 67 66,iA 68 65 67,lD 69 68,bB 70 .sub 61 69,mV 4 70] (.ops [lD 71 3,dO 72 (.load (some 1) (tM 9)),eO (.delete (some 1) (tM 71) (tM 72))])))))))))) (.ops [bC 73 .add 19 1,mV 19 73]))))))) (sO [dO 10 (.alloc [.int .i64 0,.int .i64 0,.int .i64 0,.int .i64 0,.int .i64 0,.int .i64 0,.int .i64 0,.int .i64 0,.int .i64 0,.int .i64 0])] (.seq (sO [lD 74 3,dO 75 (.range (tM 74))] (.block 4 (.loop (sO [dO 76 (.next (tM 75)),xT 77 76 0] (.seq (.cond (tM 77) .skip (.exit 4)) (.block 5 (sO [dO 78 (.entry (tM 75)),xT 79 78 0,dO 11 (.alloc [.int .i64 0]),eO (.store 1 (tM 11) (tM 79))] (.ops [dO 80 (.fieldAddr 0 (tM 11)),lD 81 80,dO 82 (.indexAddrA 10 1 (tM 10) (tM 81)),eO (.store 1 (tM 82) (cI 1))])))))))) (.seq (sO [dO 83 (.load (some 10) (tM 10)),dO 84 (.build [.int .i64 0,.int .i64 0,.int .i64 0,.int .i64 0,.int .i64 0,.int .i64 0,.int .i64 0,.int .i64 0,.int .i64 0,.int .i64 0] []),dO 85 (.eqAgg 10 false (tM 83) (tM 84))] (.cond (tM 85) (sO [dO 86 (.build [.int .i64 0,.int .i64 0,.int .i64 0,.int .i64 0,.int .i64 0,.int .i64 0,.int .i64 0,.int .i64 0,.int .i64 0,.int .i64 0] []),eO (.store 10 (tM 2) (tM 86))] .ret) .skip)) (sO [dO 87 (.load (some 10) (tM 10)),eO (.store 10 (tM 2) (tM 87))] .ret)))))))⟩
theorem k75:(Bm Tryz.prog byr).fns 316=some c75:=by kernel_rfl
theorem t75:T.fns 316=some c75:=Bp k75 (by decide) (by decide)
def c79:IFunc:=⟨125,[.tmp 6],sO [dO 6 (.mv (cI 0))] (sO [dO 14 (.buildSlice none [.int .i64 0] [(0,(1,cI 0))]),mV 7 14] (.seq (sO [mV 15 0,dO 16 (.nilCheck (tM 15)),dO 17 (.fieldAddr 0 (tM 16)),dO 18 (.load (some 1) (tM 17)),dO 19 (.callF false 307 [tM 18]),lN 20 19,dO 21 (.mv (cI 0))] (.block 0 (.loop (sO [bB 22 .lss 21 20] (.seq (.cond (tM 22) .skip (.exit 0)) (.seq (.block 1 (sO [iA 23 19 21,lD 24 23,mV 9 24] (.seq (sO [mV 25 9,mV 26 2,bB 27 .eql 25 26] (.cond (tM 27) (.exit 1) .skip)) (sO [mV 28 7,lN 29 28,bC 30 .add 29 1,dO 31 (.mkSlice none [.int .i64 0] 8 (tM 30) (tM 30)),mV 10 31] (.seq .skip (.seq (sO [mV 32 10,lN 33 32,dO 34 (.mv (cI 0))] (.block 2 (.loop (sO [bB 35 .lss 34 33] (.seq (.cond (tM 35) .skip (.exit 2)) (.seq (.block 3 (sO [mV 36 34,mV 11 36] (sO [mV 37 10,mV 38 11,iA 39 37 38,eO (.store 1 (tM 39) (cI (-1)))] (.seq (sO [mV 40 11,mV 41 7,lN 42 41,bB 43 .lss 40 42,mV 44 43,gV 45 9 44 true,gV 46 1 44 true,gO 47 (.bin .neq (tM 45) (tM 46)) 44 true,dO 48 (.pick (tM 44) (tM 47) (cB false))] (.cond (tM 48) (.ops [mV 49 10,mV 50 11,mV 51 7,mV 52 11,iA 53 51 52,lD 54 53,iA 55 49 50,eO (.store 1 (tM 55) (tM 54))]) .skip)) (.seq (sO [mV 56 11,bC 57 .eql 56 0,mV 58 57,gV 59 7 58 false,gV 60 11 58 false,gO 61 (.bin .sub (tM 60) (cI 1)) 58 false,gO 62 (.indexAddr 1 (tM 59) (tM 61)) 58 false,gO 63 (.load none (tM 62)) 58 false,gO 64 (.bin .lss (tM 63) (cI 0)) 58 false,dO 65 (.pick (tM 58) (cB true) (tM 64))] (.cond (tM 65) (.exit 3) .skip)) (sO [mV 66 7,mV 67 11,bC 68 .sub 67 1,iA 69 66 68,lD 70 69,mV 71 0,dO 72 (.nilCheck (tM 71)),dO 73 (.fieldAddr 1 (tM 72)),lD 74 73,mV 75 9,iA 76 74 75,lD 77 76,bB 78 .add 70 77,mV 12 78] (sO [mV 79 12,mV 80 0,dO 81 (.nilCheck (tM 80)),dO 82 (.fieldAddr 0 (tM 81)),dO 83 (.fieldAddr 0 (tM 82)),lD 84 83,mV 85 9,dO 86 (.indexAddr 3 (tM 84) (tM 85)),dO 87 (.fieldAddr 2 (tM 86)),lD 88 87,bB 89 .leq 79 88,mV 90 89,gV 91 10 90 true,gV 92 11 90 true,gO 93 (.indexAddr 1 (tM 91) (tM 92)) 90 true,gO 94 (.load none (tM 93)) 90 true,gO 95 (.bin .lss (tM 94) (cI 0)) 90 true,gV 96 95 90 true,gV 97 12 96 false,gV 98 10 96 false,gV 99 11 96 false,gO 100 (.indexAddr 1 (tM 98) (tM 99)) 96 false,gO 101 (.load none (tM 100)) 96 false,gO 102 (.bin .lss (tM 97) (tM 101)) 96 false,gO 103 (.pick (tM 96) (cB true) (tM 102)) 90 true,dO 104 (.pick (tM 90) (tM 103) (cB false))] (.cond (tM 104) (.ops [mV 105 10,mV 106 11,mV 107 12,iA 108 105 106,eO (.store 1 (tM 108) (tM 107))]) .skip)))))))) (.ops [bC 109 .add 34 1,mV 34 109]))))))) (.ops [mV 110 10,mV 7 110]))))))) (.ops [bC 111 .add 21 1,mV 21 111]))))))) (.seq (sO [mV 112 7,lN 113 112,bC 114 .sub 113 1,mV 13 114] (.block 4 (.loop (.seq (sO [mV 115 13,bC 116 .geq 115 0] (.cond (tM 116) .skip (.exit 4))) (.seq (.block 5 (sO [mV 119 7,mV 120 13,iA 121 119 120,lD 122 121,bC 123 .geq 122 0] (.cond (tM 123) (sO [mV 124 13,mV 6 124] .ret) .skip))) (.ops [mV 117 13,bC 118 .sub 117 1,mV 13 118])))))) (sO [dO 6 (.mv (cI (-1)))] .ret))))⟩
theorem k79:(Bm Tryz.prog byr).fns 317=some c79:=by kernel_rfl
theorem t79:T.fns 317=some c79:=Bp k79 (by decide) (by decide)
def c83:IFunc:=⟨13,[.tmp 4],sO [dO 4 (.mv (cB false))] (sO [mV 5 0,lD 6 1,bB 7 .lss 5 6,mV 8 7,gV 9 0 8 false,gO 10 (.load none (tM 2)) 8 false,gO 11 (.bin .gtr (tM 9) (tM 10)) 8 false,dO 12 (.pick (tM 8) (cB true) (tM 11)),mV 4 12] .ret)⟩
theorem k83:(Bm Tryz.prog byr).fns 396=some c83:=by kernel_rfl
theorem t83:T.fns 396=some c83:=Bp k83 (by decide) (by decide)
def c84:IFunc:=⟨19,[.tmp 4],sO [dO 4 (.mv (cI 0))] (.seq (sO [mV 6 0,lN 7 6,dO 8 (.mv (cI 0))] (.block 0 (.loop (sO [bB 9 .lss 8 7] (.seq (.cond (tM 9) .skip (.exit 0)) (.seq (.block 1 (sO [mV 10 8,mV 5 10] (sO [mV 11 1,mV 12 0,mV 13 5,dO 14 (.indexAddr 3 (tM 12) (tM 13)),dO 15 (.load (some 3) (tM 14)),dO 16 (.call false (tM 11) [tM 15])] (.cond (tM 16) (sO [mV 17 5,mV 4 17] .ret) .skip)))) (.ops [bC 18 .add 8 1,mV 8 18]))))))) (sO [dO 4 (.mv (cI (-1)))] .ret))⟩
theorem k84:(Bm Tryz.prog byr).fns 461=some c84:=by kernel_rfl
theorem t84:T.fns 461=some c84:=Bp k84 (by decide) (by decide)
def c85:IFunc:=⟨9,[],.ops [mV 4 0,mV 5 0,lN 6 5,mV 7 1,dO 8 (.callF true 462 [tM 4,tM 6,tM 7])]⟩
theorem k85:(Bm Tryz.prog byr).fns 393=some c85:=by kernel_rfl
theorem t85:T.fns 393=some c85:=Bp k85 (by decide) (by decide)
def c86:IFunc:=⟨19,[.tmp 5],sO [dO 5 (.mv (cI 0))] (sO [dO 6 (.fieldAddr 0 (tM 2)),lD 7 6,mV 8 0,dO 9 (.indexAddr 3 (tM 7) (tM 8)),dO 10 (.fieldAddr 2 (tM 9)),lD 11 10,dO 12 (.fieldAddr 0 (tM 2)),lD 13 12,mV 14 1,dO 15 (.indexAddr 3 (tM 13) (tM 14)),dO 16 (.fieldAddr 2 (tM 15)),lD 17 16,dO 18 (.callF false 395 [tM 11,tM 17]),mV 5 18] .ret)⟩
theorem k86:(Bm Tryz.prog byr).fns 394=some c86:=by kernel_rfl
theorem t86:T.fns 394=some c86:=Bp k86 (by decide) (by decide)
def c87:IFunc:=⟨20,[.tmp 4],sO [dO 4 (.mv (cI 0))] (sO [mV 7 0,dO 8 (.callF false 463 [tM 7]),mV 5 8] (sO [mV 9 1,dO 10 (.callF false 463 [tM 9]),mV 6 10] (.seq (sO [mV 11 5] (.cond (tM 11) (.seq (sO [mV 12 6] (.cond (tM 12) (sO [dO 4 (.mv (cI 0))] .ret) .skip)) (sO [dO 4 (.mv (cI (-1)))] .ret)) .skip)) (.seq (sO [mV 13 6] (.cond (tM 13) (sO [dO 4 (.mv (cI 1))] .ret) .skip)) (.seq (sO [mV 14 0,mV 15 1,bB 16 .lss 14 15] (.cond (tM 16) (sO [dO 4 (.mv (cI (-1)))] .ret) .skip)) (.seq (sO [mV 17 0,mV 18 1,bB 19 .gtr 17 18] (.cond (tM 19) (sO [dO 4 (.mv (cI 1))] .ret) .skip)) (sO [dO 4 (.mv (cI 0))] .ret)))))))⟩
theorem k87:(Bm Tryz.prog byr).fns 395=some c87:=by kernel_rfl
theorem t87:T.fns 395=some c87:=Bp k87 (by decide) (by decide)
def c89:IFunc:=⟨25,[.cell 4 (some 1)],sO [dO 4 (.alloc [.int .i64 0])] (sO [mV 8 0,dO 9 (.indexAddr 1 (tM 8) (cI 0)),dO 10 (.load (some 1) (tM 9)),dO 5 (.alloc [.int .i64 0]),eO (.store 1 (tM 5) (tM 10))] (.seq (sO [mV 11 0,dO 12 (.slice (some 1) (tM 11) (some (cI 1)) none none),lN 13 12,dO 14 (.mv (cI 0))] (.block 0 (.loop (sO [bB 15 .lss 14 13] (.seq (.cond (tM 15) .skip (.exit 0)) (.seq (.block 1 (sO [iA 16 12 14,dO 17 (.load (some 1) (tM 16)),dO 7 (.alloc [.int .i64 0]),eO (.store 1 (tM 7) (tM 17))] (sO [mV 18 1,dO 19 (.load (some 1) (tM 7)),dO 20 (.load (some 1) (tM 5)),dO 21 (.call false (tM 18) [tM 19,tM 20])] (.cond (tM 21) (.ops [dO 22 (.load (some 1) (tM 7)),eO (.store 1 (tM 5) (tM 22))]) .skip)))) (.ops [bC 23 .add 14 1,mV 14 23]))))))) (sO [dO 24 (.load (some 1) (tM 5)),eO (.store 1 (tM 4) (tM 24))] .ret)))⟩
theorem k89:(Bm Tryz.prog byr).fns 398=some c89:=by kernel_rfl
theorem t89:T.fns 398=some c89:=Bp k89 (by decide) (by decide)
def c90:IFunc:=⟨34,[.tmp 6],sO [dO 4 (.box (tM 0)),dO 5 (.box (tM 1)),dO 6 (.mv (cB false))] (sO [lD 7 2,dO 8 (.nilCheck (tM 7)),dO 9 (.fieldAddr 1 (tM 8)),lD 10 9,dO 11 (.fieldAddr 0 (tM 4)),lD 12 11,iA 13 10 12,lD 14 13,lD 15 2,dO 16 (.nilCheck (tM 15)),dO 17 (.fieldAddr 1 (tM 16)),lD 18 17,dO 19 (.fieldAddr 0 (tM 5)),lD 20 19,iA 21 18 20,lD 22 21,dO 23 (.callF false 395 [tM 14,tM 22]),lD 24 3,dO 25 (.load (some 1) (tM 4)),dO 26 (.lookup (some 1) (.int .i64 0) false (tM 24) (tM 25)),lD 27 3,dO 28 (.load (some 1) (tM 5)),dO 29 (.lookup (some 1) (.int .i64 0) false (tM 27) (tM 28)),dO 30 (.callF false 91 [tM 26,tM 29]),dO 31 (.buildSlice none [.int .i64 0,.int .i64 0] [(0,(1,tM 23)),(1,(1,tM 30))]),dO 32 (.callF false 400 [tM 31]),bC 33 .gtr 32 0,mV 6 33] .ret)⟩
theorem k90:(Bm Tryz.prog byr).fns 399=some c90:=by kernel_rfl
theorem t90:T.fns 399=some c90:=Bp k90 (by decide) (by decide)
def c91:IFunc:=⟨18,[.tmp 2],sO [dO 2 (.mv (cI 0))] (sO [dO 3 (.mv (cI 0))] (.seq (sO [mV 6 0,lN 7 6,dO 8 (.mv (cI 0))] (.block 0 (.loop (sO [bB 9 .lss 8 7] (.seq (.cond (tM 9) .skip (.exit 0)) (.seq (.block 1 (sO [iA 10 6 8,lD 11 10,mV 5 11] (sO [mV 12 5,mV 13 3,bB 14 .neq 12 13] (.cond (tM 14) (sO [mV 15 5,mV 2 15] .ret) .skip)))) (.ops [bC 16 .add 8 1,mV 8 16]))))))) (sO [mV 17 3,mV 2 17] .ret)))⟩
theorem k91:(Bm Tryz.prog byr).fns 400=some c91:=by kernel_rfl
theorem t91:T.fns 400=some c91:=Bp k91 (by decide) (by decide)
def c92:IFunc:=⟨20,[.tmp 4],sO [dO 4 (.mv (cI 0))] (sO [mV 7 0,dO 8 (.callF false 130 [tM 7]),mV 5 8] (sO [mV 9 1,dO 10 (.callF false 130 [tM 9]),mV 6 10] (.seq (sO [mV 11 5] (.cond (tM 11) (.seq (sO [mV 12 6] (.cond (tM 12) (sO [dO 4 (.mv (cI 0))] .ret) .skip)) (sO [dO 4 (.mv (cI (-1)))] .ret)) .skip)) (.seq (sO [mV 13 6] (.cond (tM 13) (sO [dO 4 (.mv (cI 1))] .ret) .skip)) (.seq (sO [mV 14 0,mV 15 1,bB 16 .lss 14 15] (.cond (tM 16) (sO [dO 4 (.mv (cI (-1)))] .ret) .skip)) (.seq (sO [mV 17 0,mV 18 1,bB 19 .gtr 17 18] (.cond (tM 19) (sO [dO 4 (.mv (cI 1))] .ret) .skip)) (sO [dO 4 (.mv (cI 0))] .ret)))))))⟩
theorem k92:(Bm Tryz.prog byr).fns 91=some c92:=by kernel_rfl
theorem t92:T.fns 91=some c92:=Bp k92 (by decide) (by decide)
def c96:IFunc:=⟨63,[],sO [dO 6 (.mv (cI 20))] (sO [mV 10 6,dO 7 (.mv (cI 0)),mV 8 10] (.seq (.block 0 (.loop (.seq (sO [mV 11 8,mV 12 1,bB 13 .leq 11 12] (.cond (tM 13) .skip (.exit 0))) (.block 1 (sO [mV 14 0,mV 15 7,mV 16 8,mV 17 2,dO 18 (.callF true 501 [tM 14,tM 15,tM 16,tM 17])] (sO [mV 19 8,mV 7 19] (.ops [mV 20 8,mV 21 6,bB 22 .add 20 21,mV 8 22]))))))) (sO [mV 23 0,mV 24 7,mV 25 1,mV 26 2,dO 27 (.callF true 501 [tM 23,tM 24,tM 25,tM 26])] (.block 2 (.loop (.seq (sO [mV 28 6,mV 29 1,bB 30 .lss 28 29] (.cond (tM 30) .skip (.exit 2))) (.block 3 (sO [mV 31 6,dO 32 (.bin .mul (cI 2) (tM 31)),dO 7 (.mv (cI 0)),mV 8 32] (.seq (.block 4 (.loop (.seq (sO [mV 33 8,mV 34 1,bB 35 .leq 33 34] (.cond (tM 35) .skip (.exit 4))) (.block 5 (sO [mV 36 0,mV 37 7,mV 38 7,mV 39 6,bB 40 .add 38 39,mV 41 8,mV 42 2,dO 43 (.callF true 502 [tM 36,tM 37,tM 40,tM 41,tM 42])] (sO [mV 44 8,mV 7 44] (.ops [mV 45 8,mV 46 6,dO 47 (.bin .mul (cI 2) (tM 46)),bB 48 .add 45 47,mV 8 48]))))))) (.seq (sO [mV 49 7,mV 50 6,bB 51 .add 49 50,mV 9 51] (sO [mV 52 9,mV 53 1,bB 54 .lss 52 53] (.cond (tM 54) (.ops [mV 55 0,mV 56 7,mV 57 9,mV 58 1,mV 59 2,dO 60 (.callF true 502 [tM 55,tM 56,tM 57,tM 58,tM 59])]) .skip))) (.ops [mV 61 6,bC 62 .mul 61 2,mV 6 62])))))))))))⟩
theorem k96:(Bm Tryz.prog byr).fns 462=some c96:=by kernel_rfl
theorem t96:T.fns 462=some c96:=Bp k96 (by decide) (by decide)
def c97:IFunc:=⟨6,[.tmp 2],sO [dO 2 (.mv (cB false))] (sO [mV 3 0,mV 4 0,bB 5 .neq 3 4,mV 2 5] .ret)⟩
theorem k97:(Bm Tryz.prog byr).fns 463=some c97:=by kernel_rfl
theorem t97:T.fns 463=some c97:=Bp k97 (by decide) (by decide)
def c99:IFunc:=⟨6,[.tmp 2],sO [dO 2 (.mv (cB false))] (sO [mV 3 0,mV 4 0,bB 5 .neq 3 4,mV 2 5] .ret)⟩
theorem k99:(Bm Tryz.prog byr).fns 130=some c99:=by kernel_rfl
theorem t99:T.fns 130=some c99:=Bp k99 (by decide) (by decide)
def c100:IFunc:=⟨53,[],sO [mV 10 1,bC 11 .add 10 1,mV 8 11] (.block 0 (.loop (.seq (sO [mV 12 8,mV 13 2,bB 14 .lss 12 13] (.cond (tM 14) .skip (.exit 0))) (.seq (.block 1 (sO [mV 17 8,mV 9 17] (.block 2 (.loop (.seq (sO [mV 18 9,mV 19 1,bB 20 .gtr 18 19,mV 21 20,gV 22 3 21 true,gV 23 0 21 true,gV 24 9 21 true,gO 25 (.indexAddr 1 (tM 23) (tM 24)) 21 true,gO 26 (.load none (tM 25)) 21 true,gV 27 0 21 true,gV 28 9 21 true,gO 29 (.bin .sub (tM 28) (cI 1)) 21 true,gO 30 (.indexAddr 1 (tM 27) (tM 29)) 21 true,gO 31 (.load none (tM 30)) 21 true,gO 32 (.call false (tM 22) [tM 26,tM 31]) 21 true,gO 33 (.bin .lss (tM 32) (cI 0)) 21 true,dO 34 (.pick (tM 21) (tM 33) (cB false))] (.cond (tM 34) .skip (.exit 2))) (.seq (.block 3 (.ops [mV 37 0,mV 38 9,mV 39 0,mV 40 9,bC 41 .sub 40 1,mV 42 0,mV 43 9,bC 44 .sub 43 1,iA 45 42 44,lD 46 45,mV 47 0,mV 48 9,iA 49 47 48,lD 50 49,iA 51 37 38,eO (.store 1 (tM 51) (tM 46)),iA 52 39 41,eO (.store 1 (tM 52) (tM 50))])) (.ops [mV 35 9,bC 36 .sub 35 1,mV 9 36]))))))) (.ops [mV 15 8,bC 16 .add 15 1,mV 8 16])))))⟩
theorem k100:(Bm Tryz.prog byr).fns 501=some c100:=by kernel_rfl
theorem t100:T.fns 501=some c100:=Bp k100 (by decide) (by decide)
open Go
structure Order where
 lo:Int
 hi:Int
 due:Int
def okO (o:Order):Bool:=!(decide (o.lo<1)||decide (o.hi>100)||decide (o.lo>o.hi)||decide (o.due<0)||decide (o.due>2000))
def chk (l:List Order):Int:=if 10<l.length then 6 else if l.all okO then 0 else 3
structure Ok (o:Order):Prop where
 lo:1<=o.lo
 lh:o.lo<=o.hi
 hi:o.hi<=100
 d0:0<=o.due
 d1:o.due<=2000
theorem Acr (o:Order):okO o=true↔Ok o:=by
 simp only [okO,Bool.not_eq_true',Bool.or_eq_false_iff,decide_eq_false_iff_not]
 constructor
 ·rintro ⟨⟨⟨⟨a,b⟩,c⟩,d⟩,e⟩
  exact ⟨by omega,by omega,by omega,by omega,by omega⟩
 ·rintro ⟨a,b,c,d,e⟩
  omega
structure Valid (l:List Order):Prop where
 len:l.length<=10
 ok:∀o∈l,Ok o
theorem chk_zero (l:List Order):chk l=0↔Valid l:=by
 unfold chk
 constructor
 ·intro h
  split at h
  ·cases h
  ·split at h
   ·next h1 h2=>exact ⟨by omega,fun o ho=>(Acr o).1 (List.all_eq_true.1 h2 o ho)⟩
   ·cases h
 ·rintro ⟨h1,h2⟩
  rw [if_neg (by omega),if_pos (List.all_eq_true.2 fun o ho=>(Acr o).2 (h2 o ho))]
def A4s (n:Int):List Int->Int->Int
 | [],_ => -1
 | x::r,i=>if x=n then i else A4s n r (i+1)
def Lf (l:List Int) (n:Int):Int:=A4s n l 0
structure Seq (n:Nat) (s:List Int):Prop where
 len:s.length=n
 has:∀i:Nat,i<n->(i:Int)∈s
theorem Seq.lt:∀{n:Nat} {s:List Int},Seq n s->(∀x∈s,0<=x/\x<n)/\s.Nodup
 | 0,s,h=>by
  have:=h.len
  obtain rfl:s=[]:=by simpa using this
  simp
 | n+1,s,h=>by
  have hn:=h.has n (by omega)
  have h':Seq n (s.erase (n:Int)):=by
   refine ⟨by rw [List.length_erase_of_mem hn,h.len]; rfl,fun i hi => ?_⟩
   exact (List.mem_erase_of_ne (by omega)).2 (h.has i (by omega))
  obtain ⟨h1,h2⟩:=Seq.lt h'
  have hp:=List.perm_cons_erase hn
  constructor
  ·intro x hx
   rcases List.mem_cons.1 (hp.mem_iff.1 hx) with rfl | hx
   ·omega
   ·have:=h1 x hx
    omega
  ·rw [hp.nodup_iff,List.nodup_cons]
   exact ⟨fun hm=>by have:=h1 _ hm; omega,h2⟩
def bub (f:Int->Int):List Int->Int->List Int->List Int
 | [],x,post=>x::post
 | y::r,x,post=>if f x<f y then bub f r x (y::post) else r.reverse++y::x::post
def Fa (f:Int->Int):List Int->List Int->List Int
 | done,[]=>done
 | done,x::r=>Fa f (bub f done.reverse x []) r
def Eu (l:List Order) (i:Int):Int:=match l[i.toNat]? with | some o=>o.due | none=>0
def idx (n:Nat):List Int:=(List.range n).map fun i:Nat=>(i:Int)
def Eb (l:List Order):List Int:=Fa (Eu l) [] (idx l.length)
theorem A0d (f:Int->Int):∀(r:List Int) (x:Int) (post:List Int),(bub f r x post).length=r.length+1+post.length
 | [],x,post=>by simp [bub]; omega
 | y::r,x,post=>by
  unfold bub
  split
  ·rw [A0d f r]; simp; omega
  ·simp; omega
theorem A6d (f:Int->Int):∀(r:List Int) (x:Int) (post:List Int),(bub f r x post).Perm (r.reverse++x::post)
 | [],x,post=>by simp [bub]
 | y::r,x,post=>by
  unfold bub
  split
  ·refine (A6d f r x (y::post)).trans ?_
   simp only [List.reverse_cons,List.append_assoc,List.singleton_append]
   exact List.Perm.append_left _ (List.Perm.swap ..)
  ·simp
theorem Lc (f:Int->Int):∀(r done:List Int),(Fa f done r).Perm (done++r)
 | [],done=>by simp [Fa]
 | x::r,done=>by
  unfold Fa
  refine (Lc f r _).trans ?_
  have:=A6d f done.reverse x []
  rw [List.reverse_reverse] at this
  refine (this.append_right r).trans ?_
  simp
theorem Xy {n:Nat} {x:Int}:x∈idx n↔0<=x/\x<n:=by
 simp only [idx,List.mem_map,List.mem_range]
 constructor
 ·rintro ⟨i,hi,rfl⟩; omega
 ·intro h; exact ⟨x.toNat,by omega,by omega⟩
theorem Gr (n:Nat):(idx n).length=n:=by simp [idx]
theorem Sv (l:List Order):(Eb l).Perm (idx l.length):=by
 have:=Lc (Eu l) (idx l.length) []
 simpa [Eb] using this
theorem Xb (l:List Order):(Eb l).length=l.length:=by rw [(Sv l).length_eq,Gr]
theorem Ms {l:List Order} {x:Int}:x∈Eb l↔0<=x/\x<l.length:=by rw [(Sv l).mem_iff,Xy]
theorem Ahu (n:Nat):(idx n).Nodup:=List.Pairwise.map _ (fun a b h=>by omega) List.nodup_range
theorem Qu (l:List Order):(Eb l).Nodup:=(Sv l).nodup_iff.2 (Ahu _)
theorem Zf {l:List Int} (hn:l.Nodup) {k:Nat} {x:Int} (h:l[k]? = some x):l.idxOf x=k:=by
 obtain ⟨hk,rfl⟩:=List.getElem?_eq_some_iff.1 h
 exact hn.idxOf_getElem k hk
theorem Aut {l:List Int} (hn:l.Nodup) {k:Nat} {x:Int} (h:x∈l.take k):l.idxOf x<k:=by
 obtain ⟨i,hi,he⟩:=List.mem_iff_getElem.1 h
 rw [List.getElem_take] at he
 rw [List.length_take] at hi
 have:=Zf hn (List.getElem?_eq_some_iff.2 ⟨by omega,he⟩)
 omega
theorem Alx {l:List Int} (hn:l.Nodup) {k:Nat} {x:Int} (h:l[k]? = some x):x∉l.take k:=by
 obtain ⟨hk,rfl⟩:=List.getElem?_eq_some_iff.1 h
 intro hm
 have h2:l.take k++l.drop k=l:=List.take_append_drop k l
 rw [<-h2,List.nodup_append] at hn
 refine hn.2.2 _ hm _ ?_ rfl
 rw [List.drop_eq_getElem_cons hk]
 exact List.mem_cons_self
def Ha (l:List Order) (s:Int):List Int:=l.map fun o=>if s=1 then o.hi else o.lo
def wk (w:List Int) (i:Int):Int:=w.getD i.toNat 0
def Fl (w:List Int) (ks:List Int):Int:=(ks.map (wk w)).sum
def Jp (w:List Int):List Int->Int
 | []=>0
 | a::r=>r.foldl (fun m x=>if wk w x>=wk w m then x else m) a
def Mq (l:List Order) (w:List Int):List Int->List Int->Int->List Int
 | [],ks,_=>ks
 | i::r,ks,day =>
  if day+wk w i<=Eu l i then Mq l w r (ks++[i]) (day+wk w i)
  else Mq l w r ((ks++[i]).erase (Jp w (ks++[i]))) (day+wk w i-wk w (Jp w (ks++[i])))
def keptOf (l:List Order) (s:Int):List Int:=Mq l (Ha l s) (Eb l) [] 0
theorem A4r (w:List Int):∀ks:List Int,ks≠[]->Jp w ks∈ks
 | [],h=>(h rfl).elim
 | a::r,_=>by
  have:∀(r:List Int) (a:Int),r.foldl (fun m x=>if wk w x>=wk w m then x else m) a∈a::r:=by
   intro r
   induction r with
   | nil=>intro a; simp
   | cons b r ih =>
    intro a
    rw [List.foldl_cons]
    have:=ih (if wk w b>=wk w a then b else a)
    rcases List.mem_cons.1 this with h | h
    ·rw [h]; split <;> simp
    ·simp [h]
  exact this r a
theorem Aew (w:List Int) (rk:Int->Nat):∀ks:List Int,ks.Pairwise (fun a b=>rk a<rk b)->∀x∈ks,x=Jp w ks\/wk w x<wk w (Jp w ks)\/(wk w x=wk w (Jp w ks)/\rk x<rk (Jp w ks))
 | [],_,x,hx=>by cases hx
 | a::r,hp,x,hx=>by
  have main:∀(r:List Int) (a:Int),(a::r).Pairwise (fun a b=>rk a<rk b)->∀x∈a::r,x=r.foldl (fun m x=>if wk w x>=wk w m then x else m) a\/wk w x<wk w (r.foldl (fun m x=>if wk w x>=wk w m then x else m) a)\/(wk w x=wk w (r.foldl (fun m x=>if wk w x>=wk w m then x else m) a)/\rk x<rk (r.foldl (fun m x=>if wk w x>=wk w m then x else m) a)):=by
   intro r
   induction r with
   | nil=>intro a _ x hx; left; simpa using hx
   | cons b r ih =>
    intro a hp x hx
    rw [List.foldl_cons]
    obtain ⟨h1,h2⟩:=List.pairwise_cons.1 hp
    obtain ⟨h3,h4⟩:=List.pairwise_cons.1 h2
    by_cases hb:wk w b>=wk w a
    ·rw [if_pos hb]
     have hb':=ih b h2 b List.mem_cons_self
     rcases List.mem_cons.1 hx with rfl | hx
     ·have hab:=h1 b List.mem_cons_self
      right
      rcases hb' with h | h | ⟨h,h'⟩
      ·rw [<-h]
       omega
      ·left; omega
      ·omega
     ·exact ih b h2 x hx
    ·rw [if_neg hb]
     have hpa:(a::r).Pairwise (fun a b=>rk a<rk b):=List.pairwise_cons.2 ⟨fun y hy=>h1 y (List.mem_cons_of_mem _ hy),h4⟩
     have ha:=ih a hpa a List.mem_cons_self
     rcases List.mem_cons.1 hx with rfl | hx
     ·exact ih x hpa x List.mem_cons_self
     ·rcases List.mem_cons.1 hx with rfl | hx
      ·right; left
       rcases ha with h | h | ⟨h,h'⟩
       ·rw [<-h]; omega
       ·omega
       ·omega
      ·exact ih a hpa x (List.mem_cons_of_mem _ hx)
  exact main r a hp x hx
theorem Aap (l:List Order) (w:List Int) (i:Int) (r ks:List Int) (day:Int):Mq l w (i::r) ks day=if day+wk w i<=Eu l i then Mq l w r (ks++[i]) (day+wk w i) else Mq l w r ((ks++[i]).erase (Jp w (ks++[i]))) (day+wk w i-wk w (Jp w (ks++[i]))):=rfl
theorem Mm (w:List Int) (a b:List Int):Fl w (a++b)=Fl w a+Fl w b:=by simp [Fl]
theorem Sz (w:List Int):∀(ks:List Int) (x:Int),x∈ks->Fl w (ks.erase x)=Fl w ks-wk w x
 | [],x,h=>by cases h
 | a::r,x,h=>by
  by_cases hax:a=x
  ·subst hax
   simp only [List.erase_cons_head,Fl,List.map_cons,List.sum_cons]
   omega
  ·have hr:x∈r:=by
    rcases List.mem_cons.1 h with h | h
    ·exact (hax h.symm).elim
    ·exact h
   rw [List.erase_cons_tail (by simpa using hax)]
   have:=Sz w r x hr
   simp only [Fl,List.map_cons,List.sum_cons] at this ⊢
   omega
theorem Mo {w:List Int} (hw:∀x∈w,0<=x) (ks:List Int):0<=Fl w ks:=by
 induction ks with
 | nil=>simp [Fl]
 | cons a r ih =>
  have:0<=wk w a:=by
   unfold wk
   rw [List.getD_eq_getElem?_getD]
   cases h:w[a.toNat]? with
   | none=>simp
   | some y=>exact hw y (List.mem_of_getElem? h)
  simp only [Fl,List.map_cons,List.sum_cons] at ih ⊢
  omega
theorem A4e (w:List Int) (rk:Int->Nat) (bt:Int->Int->Bool) (hbt:∀a b,bt a b=(decide (wk w a>wk w b)||(decide (wk w a=wk w b)&&decide (rk a>rk b)))):∀(xs:List Int) (a:Int),
  xs.foldl (fun m x=>if bt x m then x else m) a∈a::xs/\∀x∈a::xs,bt x (xs.foldl (fun m x=>if bt x m then x else m) a)=false
 | [],a=>by
  refine ⟨by simp,fun x hx => ?_⟩
  obtain rfl:x=a:=by simpa using hx
  simp [hbt]
 | b::r,a=>by
  obtain ⟨h1,h2⟩:=A4e w rk bt hbt r (if bt b a then b else a)
  rw [List.foldl_cons]
  generalize List.foldl (fun m x=>if bt x m then x else m) (if bt b a then b else a) r=f at h1 h2 ⊢
  refine ⟨?_,?_⟩
  ·rcases List.mem_cons.1 h1 with h | h
   ·rw [h]; split <;> simp
   ·simp [h]
  ·have hh:=h2 (if bt b a then b else a) List.mem_cons_self
   intro x hx
   by_cases hba:bt b a=true
   ·rw [if_pos hba] at hh h2
    rcases List.mem_cons.1 hx with rfl | hx
    ·rw [hbt] at hh hba ⊢
     simp only [Bool.or_eq_true,Bool.and_eq_true,decide_eq_true_eq,Bool.or_eq_false_iff,Bool.and_eq_false_iff,decide_eq_false_iff_not] at hh hba ⊢
     omega
    ·exact h2 x hx
   ·have hba':bt b a=false:=by simpa using hba
    rw [if_neg hba] at hh h2
    rcases List.mem_cons.1 hx with rfl | hx
    ·exact hh
    ·rcases List.mem_cons.1 hx with rfl | hx
     ·rw [hbt] at hh hba' ⊢
      simp only [Bool.or_eq_false_iff,Bool.and_eq_false_iff,decide_eq_false_iff_not] at hh hba' ⊢
      omega
     ·exact h2 x (List.mem_cons_of_mem _ hx)
theorem Ago (w:List Int) (rk:Int->Nat) (bt:Int->Int->Bool) (hbt:∀a b,bt a b=(decide (wk w a>wk w b)||(decide (wk w a=wk w b)&&decide (rk a>rk b)))) (ks xs:List Int) (hp:ks.Pairwise (fun a b=>rk a<rk b)) (hm:∀x,x∈xs↔x∈ks) (h0:xs≠[]) :
  xs.tail.foldl (fun m x=>if bt x m then x else m) (xs.headD 0)=Jp w ks:=by
 cases xs with
 | nil=>exact (h0 rfl).elim
 | cons a r =>
  obtain ⟨h1,h2⟩:=A4e w rk bt hbt r a
  simp only [List.tail_cons,List.headD_cons]
  generalize List.foldl (fun m x=>if bt x m then x else m) a r=f at h1 h2 ⊢
  have hk:ks≠[]:=by
   intro h
   have:=(hm a).1 List.mem_cons_self
   rw [h] at this
   cases this
  have hpm:=A4r w ks hk
  have hb:=h2 _ ((hm _).2 hpm)
  rcases Aew w rk ks hp f ((hm f).1 h1) with h | h
  ·exact h
  ·rw [hbt] at hb
   simp only [Bool.or_eq_false_iff,Bool.and_eq_false_iff,decide_eq_false_iff_not] at hb
   omega
theorem Wa {α:Type} (p q:α->Bool) (hqp:∀t,q t=true->p t=true) (t0:α) (hp:p t0=true) (hq:q t0=false):∀l:List α,t0∈l->(l.filter q).length<(l.filter p).length
 | [],h=>by cases h
 | a::r,h=>by
  have hle:∀l:List α,(l.filter q).length<=(l.filter p).length:=by
   intro l
   induction l with
   | nil=>simp
   | cons a r ih =>
    simp only [List.filter_cons]
    by_cases ha:q a=true
    ·simp [ha,hqp a ha,ih]
    ·by_cases hb:p a=true
     ·simp [ha,hb]; omega
     ·simp [ha,hb,ih]
  simp only [List.filter_cons]
  rcases List.mem_cons.1 h with rfl | h
  ·simp [hp,hq]
   have:=hle r
   omega
  ·have ih:=Wa p q hqp t0 hp hq r h
   by_cases ha:q a=true
   ·simp [ha,hqp a ha,ih]
   ·by_cases hb:p a=true
    ·simp [ha,hb]; omega
    ·simp [ha,hb,ih]
theorem Adc {E:List (Int×Nat)} (hn:(E.map Prod.snd).Nodup) {u t:Int×Nat} (hu:u∈E) (ht:t∈E) (h:u.2=t.2):u=t:=by
 induction E with
 | nil=>cases hu
 | cons a r ih =>
  rw [List.map_cons,List.nodup_cons] at hn
  rcases List.mem_cons.1 hu with hu' | hu'
  ·rcases List.mem_cons.1 ht with ht' | ht'
   ·rw [hu',ht']
   ·exact (hn.1 (by rw [<-hu',h]; exact List.mem_map_of_mem ht')).elim
  ·rcases List.mem_cons.1 ht with ht' | ht'
   ·exact (hn.1 (by rw [<-ht',<-h]; exact List.mem_map_of_mem hu')).elim
   ·exact ih hn.2 hu' ht'
def marks (ks:List Int):List Int:=(List.range 10).map fun j:Nat=>if ks.contains (j:Int) then 1 else 0
theorem Ja (ks:List Int):(marks ks).length=10:=by simp [marks]
theorem A4q (ks:List Int) (j:Nat) (hj:j<10):(marks ks)[j]? = some (if ks.contains (j:Int) then 1 else 0):=by
 simp [marks,hj]
theorem Aaw {a b:List Int} (h:∀x,x∈a↔x∈b):marks a=marks b:=by
 unfold marks
 refine List.map_congr_left fun j _ => ?_
 have:a.contains (j:Int)=b.contains (j:Int):=by
  rw [Bool.eq_iff_iff]
  simp [h]
 rw [this]
theorem Aii (ks:List Int) (j:Nat) (hj:j<10):(marks ks).set j 1=marks (ks++[(j:Int)]):=by
 apply List.ext_getElem?
 intro i
 by_cases hi:i<10
 ·rw [List.getElem?_set,A4q _ _ hi,A4q _ _ hi,Ja]
  by_cases hij:j=i
  ·subst hij
   simp [hi]
  ·rw [if_neg hij]
   have:(ks++[(j:Int)]).contains (i:Int)=ks.contains (i:Int):=by
    rw [Bool.eq_iff_iff]
    simp
    omega
   rw [this]
 ·rw [List.getElem?_eq_none (by simp [Ja]; omega),List.getElem?_eq_none (by simp [Ja]; omega)]
theorem Qf (w:List Int) (a:Int) (r:List Int):Fl w (a::r)=wk w a+Fl w r:=rfl
def bd (l:List Order) (w:List Int) (d:Int):Int:=Fl w ((idx l.length).filter fun i=>decide (Eu l i<=d))-d
theorem A0e (f:Int->Int):∀(pr:List Int) (x:Int) (post:List Int),(pr.reverse++post).Pairwise (fun a b=>f a<=f b)->(∀y∈post,f x<=f y)->(bub f pr x post).Pairwise fun a b=>f a<=f b
 | [],x,post,hp,hx=>by
  rw [bub,List.pairwise_cons]
  exact ⟨hx,by simpa using hp⟩
 | y::r,x,post,hp,hx=>by
  unfold bub
  rw [List.reverse_cons,List.append_assoc,List.singleton_append] at hp
  split
  ·refine A0e f r x (y::post) hp fun z hz => ?_
   rcases List.mem_cons.1 hz with rfl | hz
   ·omega
   ·exact hx z hz
  ·next hxy =>
   rw [List.pairwise_append] at hp ⊢
   obtain ⟨h1,h2,h3⟩:=hp
   obtain ⟨h4,h5⟩:=List.pairwise_cons.1 h2
   refine ⟨h1,?_,?_⟩
   ·rw [List.pairwise_cons,List.pairwise_cons]
    refine ⟨fun z hz => ?_,hx,h5⟩
    rcases List.mem_cons.1 hz with rfl | hz
    ·omega
    ·exact h4 z hz
   ·intro a ha b hb
    rcases List.mem_cons.1 hb with rfl | hb
    ·exact h3 a ha _ List.mem_cons_self
    ·rcases List.mem_cons.1 hb with rfl | hb
     ·have:=h3 a ha y List.mem_cons_self
      omega
     ·exact h3 a ha b (List.mem_cons_of_mem _ hb)
theorem Ld (f:Int->Int):∀(r done:List Int),done.Pairwise (fun a b=>f a<=f b)->(Fa f done r).Pairwise fun a b=>f a<=f b
 | [],done,h=>h
 | x::r,done,h=>Ld f r _ (A0e f done.reverse x [] (by simpa using h) (by simp))
def Feas (l:List Order) (w:List Int) (ks:List Int):Prop:=∀d:Int,(∃i∈ks,Eu l i<=d)->Fl w (ks.filter fun i=>decide (Eu l i<=d))<=d
theorem A9j {w:List Int} (hw:∀x∈w,0<=x) {a b:List Int} (h:a.Sublist b):Fl w a<=Fl w b:=by
 induction h with
 | slnil=>exact Int.le_refl _
 | cons x _ ih =>
  have:=Mo hw [x]
  have h1:Fl w [x]=wk w x:=by simp [Fl]
  rw [Qf]; omega
 | cons_cons x _ ih=>rw [Qf,Qf]; omega
theorem Feas.sub {l:List Order} {w:List Int} (hw:∀x∈w,0<=x) {a b:List Int} (h:a.Sublist b) (hf:Feas l w b):Feas l w a:=fun d hd=>by
 obtain ⟨i,hi,h1⟩:=hd
 have:=hf d ⟨i,h.subset hi,h1⟩
 have h2:=A9j hw (h.filter fun i=>decide (Eu l i<=d))
 omega
theorem Feas.nil (l:List Order) (w:List Int):Feas l w []:=fun d hd=>by obtain ⟨i,hi,_⟩:=hd; cases hi
def Iw (l:List Order) (w:List Int):Int->List Int->Bool
 | _,[]=>true
 | day,i::r=>decide (day+wk w i<=Eu l i)&&Iw l w (day+wk w i) r
theorem Va (l:List Order) (w:List Int):∀(a b:List Int) (d:Int),Iw l w d (a++b)=(Iw l w d a&&Iw l w (d+Fl w a) b)
 | [],b,d=>by simp [Iw,Fl]
 | x::a,b,d=>by
  rw [List.cons_append,Iw,Iw,Va l w a b,Qf,Bool.and_assoc]
  congr 3
  omega
def Kw (wi i:Int) (least:List Int) (n:Nat):Int:=if n<least.length/\i≠wi then least.getD n 0 else -1
def Vw (l:List Order) (w:List Int) (wi i:Int) (least:List Int) (n:Nat):Int:=
 if n=0\/least.getD (n-1) 0<0 then Kw wi i least n
 else if least.getD (n-1) 0+wk w i<=Eu l i/\(Kw wi i least n<0\/least.getD (n-1) 0+wk w i<Kw wi i least n) then least.getD (n-1) 0+wk w i else Kw wi i least n
def Vx (l:List Order) (w:List Int) (wi i:Int) (least:List Int):List Int:=(List.range (least.length+1)).map (Vw l w wi i least)
def A1w (l:List Order) (w:List Int) (wi wo:Int) (P T:List Int):Prop:=T.Sublist P/\Iw l w 0 T=true/\(wi∈P->wi∈T)/\wo∉T
structure DpOk (l:List Order) (w:List Int) (wi wo:Int) (P least:List Int):Prop where
 ex:∀n,n<least.length->0<=least.getD n 0->∃T,A1w l w wi wo P T/\T.length=n/\Fl w T=least.getD n 0
 le:∀T,A1w l w wi wo P T->T.length<least.length/\0<=least.getD T.length 0/\least.getD T.length 0<=Fl w T
theorem Xg {T P:List Int} {i:Int} (h:T.Sublist (P++[i])):T.Sublist P\/∃T',T=T'++[i]/\T'.Sublist P:=by
 obtain ⟨a,b,rfl,h1,h2⟩:=List.sublist_append_iff.1 h
 cases b with
 | nil=>left; simpa using h1
 | cons x r =>
  have hl:=h2.length_le
  simp at hl
  subst hl
  have:x=i:=by simpa using h2.subset (List.mem_cons_self)
  subst this
  exact .inr ⟨a,rfl,h1⟩
theorem A4a {l:List Order} {w:List Int} {T:List Int} {i:Int}:Iw l w 0 (T++[i])=true↔Iw l w 0 T=true/\Fl w T+wk w i<=Eu l i:=by
 rw [Va,Bool.and_eq_true]
 simp [Iw]
theorem Rv (l:List Order) (w:List Int) (wi i:Int) (least:List Int) (n:Nat) (hn:n<least.length+1):(Vx l w wi i least).getD n 0=Vw l w wi i least n:=by
 rw [List.getD_eq_getElem?_getD,Vx,List.getElem?_map,List.getElem?_range hn]
 rfl
theorem Uz (l:List Order) (w:List Int) (wi i:Int) (least:List Int):(Vx l w wi i least).length=least.length+1:=by simp [Vx]
theorem DpOk.step {l:List Order} {w:List Int} {wi wo i:Int} {P least:List Int} (h:DpOk l w wi wo P least) (hw:∀x∈w,0<=x) (hi:i∉P) (ho:i≠wo):DpOk l w wi wo (P++[i]) (Vx l w wi i least):=by
 have hwi:0<=wk w i:=by
  have:=Mo hw [i]
  simpa [Fl] using this
 constructor
 ·intro n hn hge
  rw [Uz] at hn
  rw [Rv _ _ _ _ _ _ hn] at hge ⊢
  have old:0<=Kw wi i least n->∃T,A1w l w wi wo (P++[i]) T/\T.length=n/\Fl w T=Kw wi i least n:=by
   intro h0
   unfold Kw at h0 ⊢
   split at h0
   ·next hc =>
    obtain ⟨T,⟨t1,t2,t3,t4⟩,h2,h3⟩:=h.ex n hc.1 h0
    refine ⟨T,⟨t1.trans (List.sublist_append_left ..),t2,fun hm => ?_,t4⟩,h2,by rw [if_pos hc]; exact h3⟩
    rcases List.mem_append.1 hm with hm | hm
    ·exact t3 hm
    ·have hm':wi=i:=by simpa using hm
     exact (hc.2 hm'.symm).elim
   ·omega
  unfold Vw at hge ⊢
  generalize Kw wi i least n=a at *
  by_cases hz:n=0\/least.getD (n-1) 0<0
  ·rw [if_pos hz] at hge ⊢; exact old hge
  ·rw [if_neg hz] at hge ⊢
   by_cases hc:least.getD (n-1) 0+wk w i<=Eu l i/\(a<0\/least.getD (n-1) 0+wk w i<a)
   ·rw [if_pos hc]
    have hn1:n-1<least.length:=by omega
    obtain ⟨T,⟨t1,t2,t3,t4⟩,h2,h3⟩:=h.ex (n-1) hn1 (by omega)
    refine ⟨T++[i],⟨t1.append (List.Sublist.refl _),A4a.2 ⟨t2,by rw [h3]; exact hc.1⟩,fun hm => ?_,?_⟩,by simp; omega,by rw [Mm,h3]; simp [Fl]⟩
    ·rcases List.mem_append.1 hm with hm | hm
     ·exact List.mem_append_left _ (t3 hm)
     ·exact List.mem_append_right _ hm
    ·intro hm
     rcases List.mem_append.1 hm with hm | hm
     ·exact t4 hm
     ·have hm':wo=i:=by simpa using hm
      exact ho hm'.symm
   ·rw [if_neg hc] at hge ⊢; exact old hge
 ·rintro T ⟨t1,t2,t3,t4⟩
  rw [Uz]
  rcases Xg t1 with hT | ⟨T',rfl,hT'⟩
  ·have hiT:i∉T:=fun hm=>hi (hT.subset hm)
   have hne:i≠wi:=fun he=>hiT (he ▸ t3 (by rw [<-he]; simp))
   obtain ⟨h1,h2,h3⟩:=h.le T ⟨hT,t2,fun hm=>t3 (List.mem_append_left _ hm),t4⟩
   refine ⟨by omega,?_⟩
   rw [Rv _ _ _ _ _ _ (by omega)]
   have hold:Kw wi i least T.length=least.getD T.length 0:=by rw [Kw,if_pos ⟨h1,hne⟩]
   unfold Vw
   rw [hold]
   split
   ·exact ⟨h2,h3⟩
   ·split
    ·next hd =>
     refine ⟨by omega,?_⟩
     rcases hd.2 with h | h <;> omega
    ·exact ⟨h2,h3⟩
  ·obtain ⟨f1,f2⟩:=A4a.1 t2
   have hwoT:wo∉T':=fun hm=>t4 (List.mem_append_left _ hm)
   obtain ⟨h1,h2,h3⟩:=h.le T' ⟨hT',f1,fun hm=>by
    rcases List.mem_append.1 (t3 (List.mem_append_left _ hm)) with h | h
    ·exact h
    ·have:wi=i:=by simpa using h
     exact (hi (this ▸ hm)).elim,hwoT⟩
   have hl:(T'++[i]).length=T'.length+1:=by simp
   rw [hl,Mm]
   have hs1:Fl w [i]=wk w i:=by simp [Fl]
   rw [hs1]
   refine ⟨by omega,?_⟩
   rw [Rv _ _ _ _ _ _ (by omega)]
   unfold Vw
   simp only [Nat.add_sub_cancel]
   rw [if_neg (by omega)]
   generalize Kw wi i least (T'.length+1)=a
   split <;> omega
theorem DpOk.skip {l:List Order} {w:List Int} {wi i:Int} {P least:List Int} (h:DpOk l w wi i P least) (hne:wi≠i):DpOk l w wi i (P++[i]) least:=by
 constructor
 ·intro n hn hge
  obtain ⟨T,⟨t1,t2,t3,t4⟩,h2,h3⟩:=h.ex n hn hge
  refine ⟨T,⟨t1.trans (List.sublist_append_left ..),t2,fun hm => ?_,t4⟩,h2,h3⟩
  rcases List.mem_append.1 hm with hm | hm
  ·exact t3 hm
  ·exact (hne (by simpa using hm)).elim
 ·rintro T ⟨t1,t2,t3,t4⟩
  rcases Xg t1 with hT | ⟨T',rfl,hT'⟩
  ·exact h.le T ⟨hT,t2,fun hm=>t3 (List.mem_append_left _ hm),t4⟩
  ·exact (t4 (by simp)).elim
def C4y (b i:Nat):Bool:=decide (b/2 ^ i%2=1)
def listed (b n:Nat):List Int:=(idx n).filter fun i=>C4y b i.toNat
def tb (p:Nat->Bool):Nat->Nat
 | 0=>0
 | n+1=>tb p n+if p n then 2 ^ n else 0
set_option maxRecDepth 100000 in
abbrev Wo (l:List Int):AV:=.slice none (l.map (.int .i64)) false
def oAV (o:Order):AV:=.agg [.int .i64 o.lo,.int .i64 o.hi,.int .i64 o.due]
abbrev Zi (l:List Order):AV:=.slice (some 3) (l.map oAV) false
end Go.Ev.YtbgodhhdojjbmaaGreatC.P5
namespace Go.Ev.YtbgodhhdojjbmaaGreatC.P5
open Go
open Go Go.Proofs
attribute [local irreducible] Res.all evC Do Dr Bv Bd Dw Bg Bj G GO GV GP GC R
end Go.Ev.YtbgodhhdojjbmaaGreatC.P5
