/- The code of functions that are walked, compiled for the evaluator, as text. The code of functions that are walked, compiled for the evaluator, as text. A part of the proof. A part of the proof. A part of the proof. A part of the proof. A part of the proof. A part of the proof. The first steps of a path: they are accepted, and lead to the fractions of RsPath; a path leads to its interval. No condition but those that stand in each. -/
import Derived.Test.YtbgodhhdojjbmaaGreatPTopW
import Derived.Test.YtbgodhhdojjbmaaGreatPTopBar2
import Derived.Test.YtbgodhhdojjbmaaGreatPEvKer3
import Derived.Test.YtbgodhhdojjbmaaGreatPEvOpen
import Derived.Test.YtbgodhhdojjbmaaGreatPRsTrl
set_option linter.unusedSimpArgs false
set_option linter.unusedVariables false
set_option maxRecDepth 100000
namespace Go.Ev.YtbgodhhdojjbmaaGreatC
open Go.Proofs
def c7:IFunc:=⟨26,[.tmp 2,.tmp 3],sO [dO 1 (.box (tM 0)),dO 2 (.mv (.const (.slice none [] true))),dO 3 (.mv (cI 0))] (sO [dO 9 (.load (some 2) (tM 1)),dO 10 (.buildSlice (some 2) [.int .i64 0,.int .i64 0] [(0,(2,tM 9))]),dO 11 (.callF false 32 [tM 10]),mV 8 11,xT 12 8 0,xT 13 8 1,mV 4 12,mV 5 13] (.seq (sO [mV 14 5,bC 15 .neq 14 0] (.cond (tM 15) (sO [mV 16 5,dO 2 (.mv (.const (.slice none [] true))),mV 3 16] .ret) .skip)) (sO [mV 17 4,dO 18 (.callF false 33 [tM 17]),mV 6 18] (sO [mV 19 6,lN 20 19,dO 21 (.mkSlice none [.int .i64 0] 8 (tM 20) (tM 20)),mV 7 21] (sO [mV 22 7,mV 23 6,dO 24 (.copy none (tM 22) (tM 23))] (sO [mV 25 7,mV 2 25,dO 3 (.mv (cI 0))] .ret))))))⟩
theorem k7:(Bx Tryz.prog byr).fns 7=some c7:=by kernel_rfl
theorem t7:T.fns 7=some c7:=Da k7 (by decide) (by decide)
def c33:IFunc:=⟨54,[.tmp 2],sO [dO 2 (.mv (.const (.slice none [] true)))] (sO [dO 3 (.mv (.const (.slice none [] true)))] (sO [mV 6 0,dO 7 (.nilCheck (tM 6)),dO 8 (.fieldAddr 0 (tM 7)),dO 9 (.fieldAddr 0 (tM 8)),lD 10 9,mV 11 0,dO 12 (.nilCheck (tM 11)),dO 13 (.fieldAddr 0 (tM 12)),dO 14 (.fieldAddr 1 (tM 13)),lD 15 14,mV 4 10,mV 5 15] (.seq (.block 0 (.loop (.seq (sO [mV 16 5,bC 17 .neq 16 0] (.cond (tM 17) .skip (.exit 0))) (.block 1 (sO [mV 18 3,mV 19 3,lN 20 19,mV 21 3,lN 22 21,dO 23 (.slice none (tM 18) none (some (tM 20)) (some (tM 22))),mV 24 4,mV 25 5,bB 26 .quo 24 25,dO 27 (.buildSlice none [.int .i64 0] [(0,(1,tM 26))]),dO 28 (.append none 8 (tM 23) (tM 27)),mV 3 28] (.ops [mV 29 5,mV 30 4,mV 31 5,bB 32 .rem 30 31,mV 4 29,mV 5 32])))))) (sO [mV 33 3,mV 34 3,lN 35 34,bC 36 .sub 35 1,iA 37 33 36,lD 38 37,bC 39 .sub 38 1,iA 40 33 36,eO (.store 1 (tM 40) (tM 39))] (.seq (sO [mV 41 3,mV 42 3,lN 43 42,bC 44 .sub 43 1,iA 45 41 44,lD 46 45,bC 47 .eql 46 0] (.cond (tM 47) (.ops [mV 48 3,mV 49 3,lN 50 49,bC 51 .sub 50 1,dO 52 (.slice none (tM 48) none (some (tM 51)) none),mV 3 52]) .skip)) (sO [mV 53 3,mV 2 53] .ret))))))⟩
theorem k33:(Bx Tryz.prog byr).fns 33=some c33:=by kernel_rfl
theorem t33:T.fns 33=some c33:=Da k33 (by decide) (by decide)
def c32:IFunc:=⟨24,[.tmp 2,.tmp 3],sO [dO 2 (.mv (.const .nilptr)),dO 3 (.mv (cI 0))] (.seq (sO [mV 7 0,lN 8 7,dO 9 (.mv (cI 0))] (.block 0 (.loop (sO [bB 10 .lss 9 8] (.seq (.cond (tM 10) .skip (.exit 0)) (.seq (.block 1 (sO [dO 11 (.indexAddr 2 (tM 7) (tM 9)),dO 12 (.load (some 2) (tM 11)),dO 5 (.alloc [.int .i64 0,.int .i64 0]),eO (.store 2 (tM 5) (tM 12))] (sO [dO 13 (.load (some 2) (tM 5)),dO 14 (.callF false 78 [tM 13]),mV 6 14] (sO [mV 15 6,bC 16 .neq 15 0] (.cond (tM 16) (sO [mV 17 6,dO 2 (.mv (.const .nilptr)),mV 3 17] .ret) .skip))))) (.ops [bC 18 .add 9 1,mV 9 18]))))))) (sO [mV 19 0,dO 20 (.indexAddr 2 (tM 19) (cI 0)),dO 21 (.load (some 2) (tM 20)),dO 22 (.build [.int .i64 0,.int .i64 0] [(0,(2,tM 21))]),dO 23 (.box (tM 22)),mV 2 23,dO 3 (.mv (cI 0))] .ret))⟩
theorem k32:(Bx Tryz.prog byr).fns 32=some c32:=by kernel_rfl
theorem t32:T.fns 32=some c32:=Da k32 (by decide) (by decide)
def c78:IFunc:=⟨18,[.tmp 2],sO [dO 1 (.box (tM 0)),dO 2 (.mv (cI 0))] (.seq (.block 0 (sO [dO 4 (.fieldAddr 0 (tM 1)),lD 5 4,dO 6 (.fieldAddr 1 (tM 1)),lD 7 6,dO 8 (.buildSlice none [.int .i64 0,.int .i64 0] [(0,(1,tM 5)),(1,(1,tM 7))]),dO 9 (.callF false 34 [cI 1,cI 10000,tM 8]),dO 10 (.un .not (tM 9)),mV 3 10] (.cond (tM 3) (sO [dO 2 (.mv (cI 3))] .ret) (sO [dO 12 (.fieldAddr 0 (tM 1)),lD 13 12,dO 14 (.fieldAddr 1 (tM 1)),lD 15 14,dO 16 (.callF false 127 [tM 13,tM 15]),bC 17 .neq 16 1,mV 11 17] (.cond (tM 11) (sO [dO 2 (.mv (cI 16))] .ret) .skip))))) (sO [dO 2 (.mv (cI 0))] .ret))⟩
theorem k78:(Bx Tryz.prog byr).fns 78=some c78:=by kernel_rfl
theorem t78:T.fns 78=some c78:=Da k78 (by decide) (by decide)
def c127:IFunc:=⟨13,[.tmp 4],sO [dO 4 (.mv (cI 0))] (.seq (sO [mV 5 1,bC 6 .eql 5 0] (.cond (tM 6) (sO [mV 7 0,mV 4 7] .ret) .skip)) (sO [mV 8 1,mV 9 0,mV 10 1,bB 11 .rem 9 10,dO 12 (.callF false 127 [tM 8,tM 11]),mV 4 12] .ret))⟩
theorem k127:(Bx Tryz.prog byr).fns 127=some c127:=by kernel_rfl
theorem t127:T.fns 127=some c127:=Da k127 (by decide) (by decide)
def c10:IFunc:=⟨44,[.cell 2 (some 2),.tmp 3],sO [dO 2 (.alloc [.int .i64 0,.int .i64 0]),dO 3 (.mv (cI 0))] (.seq (.block 0 (sO [mV 7 0,lN 8 7,bC 9 .gtr 8 40,mV 6 9] (.cond (tM 6) (sO [dO 10 (.build [.int .i64 0,.int .i64 0] []),eO (.store 2 (tM 2) (tM 10)),dO 3 (.mv (cI 6))] .ret) (sO [mV 12 0,dO 13 (.callF false 34 [cI 0,cI 10000,tM 12]),dO 14 (.un .not (tM 13)),mV 15 14,gV 16 0 15 false,gV 17 0 15 false,gO 18 (.len (tM 17)) 15 false,gO 19 (.min [cI 1,tM 18]) 15 false,gO 20 (.slice none (tM 16) (some (tM 19)) none none) 15 false,gO 21 (.callF false 35 [tM 20,cI 0]) 15 false,dO 22 (.pick (tM 15) (cB true) (tM 21)),mV 23 22,gV 24 0 23 false,gO 25 (.len (tM 24)) 23 false,gO 26 (.bin .eql (tM 25) (cI 1)) 23 false,gV 27 26 23 false,gV 28 0 27 true,gO 29 (.indexAddr 1 (tM 28) (cI 0)) 27 true,gO 30 (.load none (tM 29)) 27 true,gO 31 (.bin .eql (tM 30) (cI 0)) 27 true,gO 32 (.pick (tM 27) (tM 31) (cB false)) 23 false,dO 33 (.pick (tM 23) (cB true) (tM 32)),mV 11 33] (.cond (tM 11) (sO [dO 34 (.build [.int .i64 0,.int .i64 0] []),eO (.store 2 (tM 2) (tM 34)),dO 3 (.mv (cI 3))] .ret) .skip))))) (sO [mV 36 0,dO 37 (.callF false 36 [tM 36]),mV 35 37,xT 38 35 0,xT 39 35 1,dO 4 (.alloc [.int .i64 0,.int .i64 0]),eO (.store 2 (tM 4) (tM 38)),mV 5 39] (.seq (sO [mV 40 5,dO 41 (.un .not (tM 40))] (.cond (tM 41) (sO [dO 42 (.build [.int .i64 0,.int .i64 0] []),eO (.store 2 (tM 2) (tM 42)),dO 3 (.mv (cI 4))] .ret) .skip)) (sO [dO 43 (.load (some 2) (tM 4)),eO (.store 2 (tM 2) (tM 43)),dO 3 (.mv (cI 0))] .ret))))⟩
theorem k10:(Bx Tryz.prog byr).fns 10=some c10:=by kernel_rfl
theorem t10:T.fns 10=some c10:=Da k10 (by decide) (by decide)
def c36:IFunc:=⟨74,[.cell 2 (some 2),.tmp 3],sO [dO 2 (.alloc [.int .i64 0,.int .i64 0]),dO 3 (.mv (cB false))] (sO [dO 8 (.callF false 82 []),dO 4 (.alloc [.int .i64 0,.int .i64 0,.int .i64 0,.int .i64 0]),eO (.store 4 (tM 4) (tM 8))] (.seq (sO [mV 9 0,lN 10 9,dO 11 (.mv (cI 0))] (.block 0 (.loop (sO [bB 12 .lss 11 10] (.seq (.cond (tM 12) .skip (.exit 0)) (.seq (.block 1 (sO [mV 13 11,iA 14 9 11,lD 15 14,mV 5 13,mV 6 15] (.seq (sO [mV 16 5,bC 17 .rem 16 2,bC 18 .eql 17 0] (.cond (tM 18) (.ops [dO 19 (.indexAddrA 4 1 (tM 4) (cI 0)),lD 20 19,mV 21 6,dO 22 (.indexAddrA 4 1 (tM 4) (cI 2)),lD 23 22,bB 24 .mul 21 23,bB 25 .add 20 24,dO 26 (.indexAddrA 4 1 (tM 4) (cI 1)),lD 27 26,mV 28 6,dO 29 (.indexAddrA 4 1 (tM 4) (cI 3)),lD 30 29,bB 31 .mul 28 30,bB 32 .add 27 31,dO 33 (.indexAddrA 4 1 (tM 4) (cI 0)),eO (.store 1 (tM 33) (tM 25)),dO 34 (.indexAddrA 4 1 (tM 4) (cI 1)),eO (.store 1 (tM 34) (tM 32))]) (.ops [dO 35 (.indexAddrA 4 1 (tM 4) (cI 2)),lD 36 35,mV 37 6,dO 38 (.indexAddrA 4 1 (tM 4) (cI 0)),lD 39 38,bB 40 .mul 37 39,bB 41 .add 36 40,dO 42 (.indexAddrA 4 1 (tM 4) (cI 3)),lD 43 42,mV 44 6,dO 45 (.indexAddrA 4 1 (tM 4) (cI 1)),lD 46 45,bB 47 .mul 44 46,bB 48 .add 43 47,dO 49 (.indexAddrA 4 1 (tM 4) (cI 2)),eO (.store 1 (tM 49) (tM 41)),dO 50 (.indexAddrA 4 1 (tM 4) (cI 3)),eO (.store 1 (tM 50) (tM 48))]))) (sO [dO 51 (.sliceA none 4 (tM 4) none none none),dO 52 (.callF false 83 [tM 51]),bC 53 .gtr 52 10000] (.cond (tM 53) (sO [dO 54 (.build [.int .i64 0,.int .i64 0] []),eO (.store 2 (tM 2) (tM 54)),dO 3 (.mv (cB false))] .ret) .skip))))) (.ops [bC 55 .add 11 1,mV 11 55]))))))) (sO [dO 56 (.indexAddrA 4 1 (tM 4) (cI 0)),lD 57 56,dO 58 (.indexAddrA 4 1 (tM 4) (cI 2)),lD 59 58,bB 60 .add 57 59,dO 61 (.indexAddrA 4 1 (tM 4) (cI 1)),lD 62 61,dO 63 (.indexAddrA 4 1 (tM 4) (cI 3)),lD 64 63,bB 65 .add 62 64,dO 66 (.build [.int .i64 0,.int .i64 0] [(0,(1,tM 60)),(1,(1,tM 65))]),dO 7 (.alloc [.int .i64 0,.int .i64 0]),eO (.store 2 (tM 7) (tM 66))] (sO [dO 67 (.load (some 2) (tM 7)),dO 68 (.fieldAddr 0 (tM 7)),lD 69 68,dO 70 (.fieldAddr 1 (tM 7)),lD 71 70,dO 72 (.buildSlice none [.int .i64 0,.int .i64 0] [(0,(1,tM 69)),(1,(1,tM 71))]),dO 73 (.callF false 34 [cI 1,cI 10000,tM 72]),eO (.store 2 (tM 2) (tM 67)),mV 3 73] .ret))))⟩
theorem k36:(Bx Tryz.prog byr).fns 36=some c36:=by kernel_rfl
theorem t36:T.fns 36=some c36:=Da k36 (by decide) (by decide)
def c83:IFunc:=⟨25,[.tmp 2],sO [dO 2 (.mv (cI 0))] (.seq (sO [mV 5 0,lN 6 5,bC 7 .lss 6 1] (.cond (tM 7) (.ops [⟨some 8,.bad,none⟩,⟨none,.bad,none⟩]) .skip)) (sO [mV 9 0,dO 10 (.indexAddr 1 (tM 9) (cI 0)),lD 11 10,mV 3 11] (.seq (sO [dO 4 (.mv (cI 1))] (.block 0 (.loop (.seq (sO [mV 12 4,mV 13 0,lN 14 13,bB 15 .lss 12 14] (.cond (tM 15) .skip (.exit 0))) (.seq (.block 1 (.ops [mV 18 3,mV 19 0,mV 20 4,iA 21 19 20,lD 22 21,dO 23 (.max [tM 18,tM 22]),mV 3 23])) (.ops [mV 16 4,bC 17 .add 16 1,mV 4 17])))))) (sO [mV 24 3,mV 2 24] .ret))))⟩
theorem k83:(Bx Tryz.prog byr).fns 83=some c83:=by kernel_rfl
theorem t83:T.fns 83=some c83:=Da k83 (by decide) (by decide)
def c35:IFunc:=⟨9,[.tmp 4],sO [dO 4 (.mv (cB false))] (sO [mV 5 0,mV 6 1,dO 7 (.callF false 81 [tM 5,tM 6]),bC 8 .geq 7 0,mV 4 8] .ret)⟩
theorem k35:(Bx Tryz.prog byr).fns 35=some c35:=by kernel_rfl
theorem t35:T.fns 35=some c35:=Da k35 (by decide) (by decide)
def c81:IFunc:=⟨19,[.tmp 4],sO [dO 4 (.mv (cI 0))] (.seq (sO [mV 6 0,lN 7 6,dO 8 (.mv (cI 0))] (.block 0 (.loop (sO [bB 9 .lss 8 7] (.seq (.cond (tM 9) .skip (.exit 0)) (.seq (.block 1 (sO [mV 10 8,mV 5 10] (sO [mV 11 1,mV 12 0,mV 13 5,iA 14 12 13,lD 15 14,bB 16 .eql 11 15] (.cond (tM 16) (sO [mV 17 5,mV 4 17] .ret) .skip)))) (.ops [bC 18 .add 8 1,mV 8 18]))))))) (sO [dO 4 (.mv (cI (-1)))] .ret))⟩
theorem k81:(Bx Tryz.prog byr).fns 81=some c81:=by kernel_rfl
theorem t81:T.fns 81=some c81:=Da k81 (by decide) (by decide)
def c8:IFunc:=⟨26,[.tmp 4],sO [dO 4 (.mv (cB false))] (.seq (sO [mV 6 0,lN 7 6,mV 8 1,lN 9 8,bB 10 .neq 7 9] (.cond (tM 10) (sO [dO 4 (.mv (cB false))] .ret) .skip)) (.seq (sO [dO 5 (.mv (cI 0))] (.block 0 (.loop (.seq (sO [mV 11 5,mV 12 0,lN 13 12,bB 14 .lss 11 13] (.cond (tM 14) .skip (.exit 0))) (.seq (.block 1 (sO [mV 17 0,mV 18 5,iA 19 17 18,lD 20 19,mV 21 1,mV 22 5,iA 23 21 22,lD 24 23,bB 25 .neq 20 24] (.cond (tM 25) (sO [dO 4 (.mv (cB false))] .ret) .skip))) (.ops [mV 15 5,bC 16 .add 15 1,mV 5 16])))))) (sO [dO 4 (.mv (cB true))] .ret)))⟩
theorem k8:(Bx Tryz.prog byr).fns 8=some c8:=by kernel_rfl
theorem t8:T.fns 8=some c8:=Da k8 (by decide) (by decide)
def c82:IFunc:=⟨2,[.cell 0 (some 4)],sO [dO 0 (.alloc [.int .i64 0,.int .i64 0,.int .i64 0,.int .i64 0])] (sO [dO 1 (.build [.int .i64 0,.int .i64 0,.int .i64 0,.int .i64 0] [(0,(1,cI 0)),(1,(1,cI 1)),(2,(1,cI 1)),(3,(1,cI 0))]),eO (.store 4 (tM 0) (tM 1))] .ret)⟩
theorem k82:(Bx Tryz.prog byr).fns 82=some c82:=by kernel_rfl
theorem t82:T.fns 82=some c82:=Da k82 (by decide) (by decide)
def c5:IFunc:=⟨27,[.tmp 2],sO [dO 1 (.box (tM 0)),dO 2 (.mv (cI 0))] (.seq (sO [dO 3 (.fieldAddr 0 (tM 1)),lD 4 3,bC 5 .lss 4 1,mV 6 5,gO 7 (.fieldAddr 0 (tM 1)) 6 false,gO 8 (.load none (tM 7)) 6 false,gO 9 (.bin .gtr (tM 8) (cI 10000)) 6 false,dO 10 (.pick (tM 6) (cB true) (tM 9)),mV 11 10,gO 12 (.fieldAddr 1 (tM 1)) 11 false,gO 13 (.load none (tM 12)) 11 false,gO 14 (.bin .lss (tM 13) (cI 1)) 11 false,dO 15 (.pick (tM 11) (cB true) (tM 14)),mV 16 15,gO 17 (.fieldAddr 1 (tM 1)) 16 false,gO 18 (.load none (tM 17)) 16 false,gO 19 (.bin .gtr (tM 18) (cI 10000)) 16 false,dO 20 (.pick (tM 16) (cB true) (tM 19))] (.cond (tM 20) (sO [dO 2 (.mv (cI 3))] .ret) .skip)) (.seq (sO [dO 21 (.fieldAddr 0 (tM 1)),lD 22 21,dO 23 (.fieldAddr 1 (tM 1)),lD 24 23,dO 25 (.callF false 29 [tM 22,tM 24]),bC 26 .neq 25 1] (.cond (tM 26) (sO [dO 2 (.mv (cI 16))] .ret) .skip)) (sO [dO 2 (.mv (cI 0))] .ret)))⟩
theorem k5:(Bx Tryz.prog byr).fns 5=some c5:=by kernel_rfl
theorem t5:T.fns 5=some c5:=Da k5 (by decide) (by decide)
def c29:IFunc:=⟨12,[.tmp 4],sO [dO 4 (.mv (cI 0))] (.seq (.block 0 (.loop (.seq (sO [mV 5 1,bC 6 .neq 5 0] (.cond (tM 6) .skip (.exit 0))) (.block 1 (.ops [mV 7 1,mV 8 0,mV 9 1,bB 10 .rem 8 9,mV 0 7,mV 1 10]))))) (sO [mV 11 0,mV 4 11] .ret))⟩
theorem k29:(Bx Tryz.prog byr).fns 29=some c29:=by kernel_rfl
theorem t29:T.fns 29=some c29:=Da k29 (by decide) (by decide)
def c12:IFunc:=⟨16,[.tmp 4],sO [dO 2 (.box (tM 0)),dO 3 (.box (tM 1)),dO 4 (.mv (cI 0))] (sO [dO 5 (.fieldAddr 0 (tM 3)),lD 6 5,dO 7 (.fieldAddr 1 (tM 2)),lD 8 7,bB 9 .mul 6 8,dO 10 (.fieldAddr 0 (tM 2)),lD 11 10,dO 12 (.fieldAddr 1 (tM 3)),lD 13 12,bB 14 .mul 11 13,bB 15 .sub 9 14,mV 4 15] .ret)⟩
theorem k12:(Bx Tryz.prog byr).fns 12=some c12:=by kernel_rfl
theorem t12:T.fns 12=some c12:=Da k12 (by decide) (by decide)
def c9:IFunc:=⟨58,[.tmp 2],sO [dO 1 (.box (tM 0)),dO 2 (.mv (.const (.slice none [] true)))] (sO [dO 8 (.build [.int .i64 0,.int .i64 0] [(0,(1,cI 0)),(1,(1,cI 1))]),dO 9 (.build [.int .i64 0,.int .i64 0] [(0,(1,cI 1)),(1,(1,cI 0))]),dO 10 (.build [.int .i64 0,.int .i64 0] [(0,(1,cI 1)),(1,(1,cI 1))]),dO 3 (.alloc [.int .i64 0,.int .i64 0]),dO 4 (.alloc [.int .i64 0,.int .i64 0]),dO 5 (.alloc [.int .i64 0,.int .i64 0]),eO (.store 2 (tM 3) (tM 8)),eO (.store 2 (tM 4) (tM 9)),eO (.store 2 (tM 5) (tM 10))] (sO [dO 6 (.mv (.const (.slice none [] true)))] (.seq (.block 0 (.loop (.seq (sO [dO 11 (.load (some 2) (tM 5)),dO 12 (.load (some 2) (tM 1)),dO 13 (.callF false 12 [tM 11,tM 12]),bC 14 .neq 13 0] (.cond (tM 14) .skip (.exit 0))) (.block 1 (sO [dO 7 (.mv (cI 0))] (.seq (sO [dO 15 (.load (some 2) (tM 5)),dO 16 (.load (some 2) (tM 1)),dO 17 (.callF false 12 [tM 15,tM 16]),bC 18 .lss 17 0] (.cond (tM 18) (.ops [dO 7 (.mv (cI 1))]) .skip)) (.seq (sO [mV 19 6,lN 20 19,bC 21 .eql 20 0] (.cond (tM 21) (.ops [mV 22 6,dO 23 (.buildSlice none [.int .i64 0] [(0,(1,cI 0))]),dO 24 (.append none 8 (tM 22) (tM 23)),mV 6 24]) .skip)) (.seq (sO [mV 25 6,lN 26 25,bC 27 .sub 26 1,bC 28 .rem 27 2,mV 29 7,bB 30 .neq 28 29] (.cond (tM 30) (.ops [mV 31 6,dO 32 (.buildSlice none [.int .i64 0] [(0,(1,cI 0))]),dO 33 (.append none 8 (tM 31) (tM 32)),mV 6 33]) .skip)) (sO [mV 34 6,mV 35 6,lN 36 35,bC 37 .sub 36 1,iA 38 34 37,lD 39 38,bC 40 .add 39 1,iA 41 34 37,eO (.store 1 (tM 41) (tM 40))] (.seq (sO [mV 42 7,bC 43 .eql 42 1] (.cond (tM 43) (.ops [dO 44 (.load (some 2) (tM 5)),eO (.store 2 (tM 4) (tM 44))]) (.ops [dO 45 (.load (some 2) (tM 5)),eO (.store 2 (tM 3) (tM 45))]))) (.ops [dO 46 (.fieldAddr 0 (tM 3)),lD 47 46,dO 48 (.fieldAddr 0 (tM 4)),lD 49 48,bB 50 .add 47 49,dO 51 (.fieldAddr 1 (tM 3)),lD 52 51,dO 53 (.fieldAddr 1 (tM 4)),lD 54 53,bB 55 .add 52 54,dO 56 (.build [.int .i64 0,.int .i64 0] [(0,(1,tM 50)),(1,(1,tM 55))]),eO (.store 2 (tM 5) (tM 56))]))))))))))) (sO [mV 57 6,mV 2 57] .ret))))⟩
theorem k9:(Bx Tryz.prog byr).fns 9=some c9:=by kernel_rfl
theorem t9:T.fns 9=some c9:=Da k9 (by decide) (by decide)
def c3:IFunc:=⟨243,[.tmp 4],sO [dO 2 (.box (tM 0)),dO 4 (.mv (cB false))] (.seq (sO [dO 25 (.load (some 2) (tM 2)),dO 26 (.callF false 5 [tM 25]),bC 27 .neq 26 0] (.cond (tM 27) (sO [dO 28 (.callF false 6 []),mV 4 28] .ret) .skip)) (sO [dO 30 (.load (some 2) (tM 2)),dO 31 (.callF false 7 [tM 30]),mV 29 31,xT 32 29 0,xT 33 29 1,mV 5 32,mV 6 33] (.seq (sO [mV 34 6,bC 35 .neq 34 0,mV 36 35,gV 37 5 36 false,gO 38 (.load (some 2) (tM 2)) 36 false,gO 39 (.callF false 9 [tM 38]) 36 false,gO 40 (.callF false 8 [tM 37,tM 39]) 36 false,gO 41 (.un .not (tM 40)) 36 false,dO 42 (.pick (tM 36) (cB true) (tM 41))] (.cond (tM 42) (sO [dO 4 (.mv (cB false))] .ret) .skip)) (sO [dO 7 (.mv (cI 0))] (.seq (sO [dO 8 (.mv (cI 0))] (.block 0 (.loop (.seq (sO [mV 43 8,mV 44 5,lN 45 44,bB 46 .lss 43 45] (.cond (tM 46) .skip (.exit 0))) (.seq (.block 1 (.ops [mV 49 7,mV 50 5,mV 51 8,iA 52 50 51,lD 53 52,bB 54 .add 49 53,mV 7 54])) (.ops [mV 47 8,bC 48 .add 47 1,mV 8 48])))))) (.seq (sO [mV 55 7,bC 56 .geq 55 12] (.cond (tM 56) (sO [dO 57 (.callF false 6 []),mV 4 57] .ret) .skip)) (sO [dO 9 (.mv (.const (.slice (some 2) [] true)))] (sO [dO 10 (.mv (.const (.slice none [] true))),dO 11 (.mv (.const (.slice none [] true)))] (.seq (sO [dO 12 (.mv (cI 0))] (.block 2 (.loop (.seq (sO [mV 58 12,mV 59 7,bB 60 .leq 58 59] (.cond (tM 60) .skip (.exit 2))) (.seq (.block 3 (sO [mV 64 5,mV 65 12,dO 66 (.callF false 11 [tM 64,tM 65]),dO 67 (.callF false 10 [tM 66]),mV 63 67,xT 68 63 0,xT 69 63 1,dO 13 (.alloc [.int .i64 0,.int .i64 0]),eO (.store 2 (tM 13) (tM 68)),mV 14 69] (.seq (sO [mV 70 14,bC 71 .neq 70 0,mV 72 71,gO 73 (.load (some 2) (tM 13)) 72 false,gO 74 (.callF false 5 [tM 73]) 72 false,gO 75 (.bin .neq (tM 74) (cI 0)) 72 false,dO 76 (.pick (tM 72) (cB true) (tM 75))] (.cond (tM 76) (sO [dO 4 (.mv (cB false))] .ret) .skip)) (sO [mV 77 9,dO 78 (.load (some 2) (tM 13)),dO 79 (.buildSlice (some 2) [.int .i64 0,.int .i64 0] [(0,(2,tM 78))]),dO 80 (.append (some 2) 16 (tM 77) (tM 79)),mV 81 11,mV 82 12,dO 83 (.buildSlice none [.int .i64 0] [(0,(1,tM 82))]),dO 84 (.append none 8 (tM 81) (tM 83)),mV 85 10,mV 86 12,dO 87 (.buildSlice none [.int .i64 0] [(0,(1,tM 86))]),dO 88 (.append none 8 (tM 85) (tM 87)),mV 9 80,mV 11 84,mV 10 88] (sO [mV 89 12,mV 15 89] (.block 4 (.loop (.seq (sO [mV 90 15,bC 91 .gtr 90 0,mV 92 91,gV 93 9 92 true,gV 94 11 92 true,gV 95 15 92 true,gO 96 (.indexAddr 1 (tM 94) (tM 95)) 92 true,gO 97 (.load none (tM 96)) 92 true,gO 98 (.indexAddr 2 (tM 93) (tM 97)) 92 true,gO 99 (.load (some 2) (tM 98)) 92 true,gV 100 9 92 true,gV 101 11 92 true,gV 102 15 92 true,gO 103 (.bin .sub (tM 102) (cI 1)) 92 true,gO 104 (.indexAddr 1 (tM 101) (tM 103)) 92 true,gO 105 (.load none (tM 104)) 92 true,gO 106 (.indexAddr 2 (tM 100) (tM 105)) 92 true,gO 107 (.load (some 2) (tM 106)) 92 true,gO 108 (.callF false 12 [tM 99,tM 107]) 92 true,gO 109 (.bin .gtr (tM 108) (cI 0)) 92 true,dO 110 (.pick (tM 92) (tM 109) (cB false))] (.cond (tM 110) .skip (.exit 4))) (.seq (.block 5 (sO [mV 113 11,mV 114 15,mV 115 11,mV 116 15,bC 117 .sub 116 1,mV 118 11,mV 119 15,bC 120 .sub 119 1,iA 121 118 120,lD 122 121,mV 123 11,mV 124 15,iA 125 123 124,lD 126 125,iA 127 113 114,eO (.store 1 (tM 127) (tM 122)),iA 128 115 117,eO (.store 1 (tM 128) (tM 126))] (.ops [mV 129 10,mV 130 15,mV 131 10,mV 132 15,bC 133 .sub 132 1,mV 134 10,mV 135 15,bC 136 .sub 135 1,iA 137 134 136,lD 138 137,mV 139 10,mV 140 15,iA 141 139 140,lD 142 141,iA 143 129 130,eO (.store 1 (tM 143) (tM 138)),iA 144 131 133,eO (.store 1 (tM 144) (tM 142))]))) (.ops [mV 111 15,bC 112 .sub 111 1,mV 15 112])))))))))) (.ops [mV 61 12,bC 62 .add 61 1,mV 12 62])))))) (.seq (sO [mV 145 9,mV 146 7,dO 147 (.indexAddr 2 (tM 145) (tM 146)),dO 148 (.load (some 2) (tM 147)),dO 149 (.load (some 2) (tM 2)),dO 150 (.eqAgg 2 true (tM 148) (tM 149)),mV 151 150,gV 152 10 151 false,gO 153 (.callF false 13 [tM 152]) 151 false,gO 154 (.bin .neq (tM 153) (cI 0)) 151 false,dO 155 (.pick (tM 151) (cB true) (tM 154))] (.cond (tM 155) (sO [dO 4 (.mv (cB false))] .ret) .skip)) (sO [mV 156 1,dO 157 (.conv .i64 (tM 156)),mV 158 9,lN 159 158,bB 160 .rem 157 159,mV 16 160] (sO [mV 161 9,lN 162 161,dO 163 (.mkSlice none [.int .i64 0] 8 (tM 162) (tM 162)),mV 17 163] (sO [dO 18 (.mv (cI 0))] (.seq (sO [dO 19 (.mv (cI 0))] (.block 6 (.loop (.seq (sO [mV 164 19,mV 165 11,lN 166 165,bB 167 .lss 164 166] (.cond (tM 167) .skip (.exit 6))) (.seq (.block 7 (sO [mV 170 11,mV 171 19,iA 172 170 171,lD 173 172,mV 174 16,bB 175 .eql 173 174] (.cond (tM 175) (.ops [mV 176 19,mV 18 176]) .skip))) (.ops [mV 168 19,bC 169 .add 168 1,mV 19 169])))))) (sO [mV 177 17,mV 178 18,iA 179 177 178,eO (.store 1 (tM 179) (cI 1))] (sO [mV 181 10,mV 182 18,dO 183 (.callF false 14 [tM 181,tM 182]),mV 180 183,xT 184 180 0,xT 185 180 1,mV 20 184,mV 21 185] (sO [mV 187 17,mV 188 10,dO 189 (.callF false 15 [tM 187,tM 188]),mV 186 189,xT 190 186 0,xT 191 186 1,mV 22 190,mV 23 191] (.seq (sO [mV 192 21,bC 193 .neq 192 0,mV 194 193,gV 195 23 194 false,gO 196 (.bin .neq (tM 195) (cI 0)) 194 false,dO 197 (.pick (tM 194) (cB true) (tM 196)),mV 198 197,gV 199 22 198 false,gV 200 16 198 false,gO 201 (.bin .add (tM 200) (cI 1)) 198 false,gO 202 (.bin .neq (tM 199) (tM 201)) 198 false,dO 203 (.pick (tM 198) (cB true) (tM 202)),mV 204 203,gV 205 20 204 false,gO 206 (.len (tM 205)) 204 false,gV 207 16 204 false,gO 208 (.bin .add (tM 207) (cI 1)) 204 false,gO 209 (.bin .neq (tM 206) (tM 208)) 204 false,dO 210 (.pick (tM 204) (cB true) (tM 209))] (.cond (tM 210) (sO [dO 4 (.mv (cB false))] .ret) .skip)) (.seq (sO [dO 24 (.mv (cI 0))] (.block 8 (.loop (.seq (sO [mV 211 24,mV 212 20,lN 213 212,bB 214 .lss 211 213] (.cond (tM 214) .skip (.exit 8))) (.seq (.block 9 (sO [mV 217 20,mV 218 24,iA 219 217 218,lD 220 219,bC 221 .lss 220 0,mV 222 221,gV 223 20 222 false,gV 224 24 222 false,gO 225 (.indexAddr 1 (tM 223) (tM 224)) 222 false,gO 226 (.load none (tM 225)) 222 false,gV 227 11 222 false,gO 228 (.len (tM 227)) 222 false,gO 229 (.bin .geq (tM 226) (tM 228)) 222 false,dO 230 (.pick (tM 222) (cB true) (tM 229)),mV 231 230,gV 232 11 231 false,gV 233 20 231 false,gV 234 24 231 false,gO 235 (.indexAddr 1 (tM 233) (tM 234)) 231 false,gO 236 (.load none (tM 235)) 231 false,gO 237 (.indexAddr 1 (tM 232) (tM 236)) 231 false,gO 238 (.load none (tM 237)) 231 false,gV 239 24 231 false,gO 240 (.bin .neq (tM 238) (tM 239)) 231 false,dO 241 (.pick (tM 231) (cB true) (tM 240))] (.cond (tM 241) (sO [dO 4 (.mv (cB false))] .ret) .skip))) (.ops [mV 215 24,bC 216 .add 215 1,mV 24 216])))))) (sO [dO 242 (.callF false 6 []),mV 4 242] .ret))))))))))))))))))))⟩
theorem k3:(Bx Tryz.prog byr).fns 3=some c3:=by kernel_rfl
theorem t3:T.fns 3=some c3:=Da k3 (by decide) (by decide)
def c11:IFunc:=⟨37,[.tmp 4],sO [dO 4 (.mv (.const (.slice none [] true)))] (sO [dO 5 (.mv (.const (.slice none [] true)))] (sO [mV 8 1,mV 6 8] (.seq (sO [dO 7 (.mv (cI 0))] (.block 0 (.loop (.seq (sO [mV 9 7,mV 10 0,lN 11 10,bB 12 .lss 9 11,mV 13 12,gV 14 6 13 true,gO 15 (.bin .gtr (tM 14) (cI 0)) 13 true,dO 16 (.pick (tM 13) (tM 15) (cB false))] (.cond (tM 16) .skip (.exit 0))) (.seq (.block 1 (sO [mV 19 5,mV 20 0,mV 21 7,iA 22 20 21,lD 23 22,mV 24 6,dO 25 (.min [tM 23,tM 24]),dO 26 (.buildSlice none [.int .i64 0] [(0,(1,tM 25))]),dO 27 (.append none 8 (tM 19) (tM 26)),mV 5 27] (.ops [mV 28 6,mV 29 0,mV 30 7,iA 31 29 30,lD 32 31,mV 33 6,dO 34 (.min [tM 32,tM 33]),bB 35 .sub 28 34,mV 6 35]))) (.ops [mV 17 7,bC 18 .add 17 1,mV 7 18])))))) (sO [mV 36 5,mV 4 36] .ret))))⟩
theorem k11:(Bx Tryz.prog byr).fns 11=some c11:=by kernel_rfl
theorem t11:T.fns 11=some c11:=Da k11 (by decide) (by decide)
def c6:IFunc:=⟨5,[.tmp 0],sO [dO 0 (.mv (cB false))] (sO [dO 1 (.callF false 30 []),mV 2 1,gO 3 (.callF false 31 []) 2 true,dO 4 (.pick (tM 2) (tM 3) (cB false)),mV 0 4] .ret)⟩
def c13:IFunc:=⟨13,[.tmp 2],sO [dO 2 (.mv (cI 0))] (.seq (.block 0 (sO [mV 4 0,lN 5 4,dO 6 (.buildSlice none [.int .i64 0] [(0,(1,tM 5))]),dO 7 (.callF false 37 [cI 1,cI 12,tM 6]),dO 8 (.un .not (tM 7)),mV 3 8] (.cond (tM 3) (sO [dO 2 (.mv (cI 6))] .ret) (sO [mV 10 0,dO 11 (.callF false 38 [tM 10]),dO 12 (.un .not (tM 11)),mV 9 12] (.cond (tM 9) (sO [dO 2 (.mv (cI 24))] .ret) .skip))))) (sO [dO 2 (.mv (cI 0))] .ret))⟩
theorem k13:(Bx Tryz.prog byr).fns 13=some c13:=by kernel_rfl
theorem t13:T.fns 13=some c13:=Da k13 (by decide) (by decide)
def c14:IFunc:=⟨24,[.tmp 4,.tmp 5],sO [dO 4 (.mv (.const (.slice none [] true))),dO 5 (.mv (cI 0))] (sO [mV 7 0,dO 8 (.callF false 13 [tM 7]),mV 6 8] (.seq (.block 0 (sO [mV 10 6,bC 11 .neq 10 0,mV 9 11] (.cond (tM 9) (sO [mV 12 6,dO 4 (.mv (.const (.slice none [] true))),mV 5 12] .ret) (sO [mV 14 0,lN 15 14,bC 16 .sub 15 1,mV 17 1,dO 18 (.buildSlice none [.int .i64 0] [(0,(1,tM 17))]),dO 19 (.callF false 37 [cI 0,tM 16,tM 18]),dO 20 (.un .not (tM 19)),mV 13 20] (.cond (tM 13) (sO [dO 4 (.mv (.const (.slice none [] true))),dO 5 (.mv (cI 2))] .ret) .skip))))) (sO [mV 21 0,mV 22 1,dO 23 (.callF true 39 [tM 21,tM 22]),mV 4 23,dO 5 (.mv (cI 0))] .ret)))⟩
theorem k14:(Bx Tryz.prog byr).fns 14=some c14:=by kernel_rfl
theorem t14:T.fns 14=some c14:=Da k14 (by decide) (by decide)
def c15:IFunc:=⟨44,[.tmp 4,.tmp 5],sO [dO 4 (.mv (cI 0)),dO 5 (.mv (cI 0))] (.seq (sO [mV 11 0,dO 12 (.callF false 40 [tM 11]),mV 6 12] (sO [mV 13 6,bC 14 .neq 13 0] (.cond (tM 14) (sO [mV 15 6,dO 4 (.mv (cI 0)),mV 5 15] .ret) .skip))) (.seq (sO [mV 16 1,dO 17 (.callF false 13 [tM 16]),mV 7 17] (sO [mV 18 7,bC 19 .neq 18 0] (.cond (tM 19) (sO [mV 20 7,dO 4 (.mv (cI 0)),mV 5 20] .ret) .skip))) (.seq (sO [mV 21 1,lN 22 21,mV 23 0,lN 24 23,bB 25 .neq 22 24] (.cond (tM 25) (sO [dO 4 (.mv (cI 0)),dO 5 (.mv (cI 15))] .ret) .skip)) (sO [dO 8 (.mv (cI 0))] (.seq (sO [mV 26 1,lN 27 26,dO 28 (.mv (cI 0))] (.block 0 (.loop (sO [bB 29 .lss 28 27] (.seq (.cond (tM 29) .skip (.exit 0)) (.seq (.block 1 (sO [mV 30 28,iA 31 26 28,lD 32 31,mV 9 30,mV 10 32] (.ops [mV 33 8,mV 34 10,bC 35 .add 34 1,mV 36 0,mV 37 9,iA 38 36 37,lD 39 38,bB 40 .mul 35 39,bB 41 .add 33 40,mV 8 41]))) (.ops [bC 42 .add 28 1,mV 28 42]))))))) (sO [mV 43 8,mV 4 43,dO 5 (.mv (cI 0))] .ret))))))⟩
theorem k15:(Bx Tryz.prog byr).fns 15=some c15:=by kernel_rfl
theorem t15:T.fns 15=some c15:=Da k15 (by decide) (by decide)
def c37:IFunc:=⟨11,[.tmp 6],sO [dO 3 (.box (tM 0)),dO 4 (.box (tM 1)),dO 6 (.mv (cB false))] (sO [mV 7 2,dO 8 (.mkFunc 84 [] [tM 3,tM 4]),dO 9 (.callF false 79 [tM 7,tM 8]),dO 10 (.un .not (tM 9)),mV 6 10] .ret)⟩
theorem k37:(Bx Tryz.prog byr).fns 37=some c37:=by kernel_rfl
theorem t37:T.fns 37=some c37:=Da k37 (by decide) (by decide)
def c84:IFunc:=⟨13,[.tmp 4],sO [dO 4 (.mv (cB false))] (sO [mV 5 0,lD 6 1,bB 7 .lss 5 6,mV 8 7,gV 9 0 8 false,gO 10 (.load none (tM 2)) 8 false,gO 11 (.bin .gtr (tM 9) (tM 10)) 8 false,dO 12 (.pick (tM 8) (cB true) (tM 11)),mV 4 12] .ret)⟩
theorem k84:(Bx Tryz.prog byr).fns 84=some c84:=by kernel_rfl
theorem t84:T.fns 84=some c84:=Da k84 (by decide) (by decide)
def c38:IFunc:=⟨59,[.tmp 2],sO [dO 2 (.mv (cB false))] (.seq (sO [mV 8 0,lN 9 8,bC 10 .eql 9 0] (.cond (tM 10) (sO [dO 2 (.mv (cB true))] .ret) .skip)) (sO [mV 11 0,dO 12 (.callF false 85 [tM 11,cI 0]),mV 3 12] (.seq (sO [mV 13 3,bC 14 .lss 13 0,mV 15 14,gV 16 0 15 false,gV 17 3 15 false,gO 18 (.bin .add (tM 17) (cI 1)) 15 false,gO 19 (.slice none (tM 16) (some (tM 18)) none none) 15 false,gO 20 (.callF false 54 [tM 19,cI 0]) 15 false,dO 21 (.pick (tM 15) (cB true) (tM 20)),mV 22 21,gV 23 0 22 false,gO 24 (.callF false 86 [tM 23]) 22 false,gO 25 (.bin .lss (tM 24) (cI 0)) 22 false,dO 26 (.pick (tM 22) (cB true) (tM 25))] (.cond (tM 26) (sO [dO 2 (.mv (cB false))] .ret) .skip)) (sO [dO 4 (.mv (.const (.slice none [] true))),dO 5 (.mv (.const (.slice none [] true)))] (.seq (sO [mV 27 0,lN 28 27,dO 29 (.mv (cI 0))] (.block 0 (.loop (sO [bB 30 .lss 29 28] (.seq (.cond (tM 30) .skip (.exit 0)) (.seq (.block 1 (sO [mV 31 29,iA 32 27 29,lD 33 32,mV 6 31,mV 7 33] (.block 2 (sO [mV 35 6,mV 36 3,bB 37 .lss 35 36,mV 34 37] (.cond (tM 34) (.ops [mV 38 4,mV 39 7,bC 40 .sub 39 1,dO 41 (.buildSlice none [.int .i64 0] [(0,(1,tM 40))]),dO 42 (.append none 8 (tM 38) (tM 41)),mV 4 42]) (sO [mV 44 6,mV 45 3,bB 46 .gtr 44 45,mV 43 46] (.cond (tM 43) (.ops [mV 47 5,mV 48 7,bC 49 .sub 48 1,dO 50 (.buildSlice none [.int .i64 0] [(0,(1,tM 49))]),dO 51 (.append none 8 (tM 47) (tM 50)),mV 5 51]) .skip))))))) (.ops [bC 52 .add 29 1,mV 29 52]))))))) (sO [mV 53 4,dO 54 (.callF false 38 [tM 53]),mV 55 54,gV 56 5 55 true,gO 57 (.callF false 38 [tM 56]) 55 true,dO 58 (.pick (tM 55) (tM 57) (cB false)),mV 2 58] .ret))))))⟩
theorem k38:(Bx Tryz.prog byr).fns 38=some c38:=by kernel_rfl
theorem t38:T.fns 38=some c38:=Da k38 (by decide) (by decide)
def c39:IFunc:=⟨59,[.tmp 4],sO [dO 4 (.mv (.const (.slice none [] true)))] (sO [dO 5 (.alloc [.int .i64 0,.int .i64 0,.int .i64 0,.int .i64 0,.int .i64 0,.int .i64 0,.int .i64 0,.int .i64 0,.int .i64 0,.int .i64 0,.int .i64 0,.int .i64 0])] (sO [dO 11 (.sliceA none 12 (tM 5) none none none),mV 12 0,dO 13 (.copy none (tM 11) (tM 12))] (.seq (sO [dO 14 (.load (some 12) (tM 5)),dO 15 (.build [.int .i64 0,.int .i64 0,.int .i64 0,.int .i64 0,.int .i64 0,.int .i64 0,.int .i64 0,.int .i64 0,.int .i64 0,.int .i64 0,.int .i64 0,.int .i64 0] []),dO 16 (.eqAgg 12 false (tM 14) (tM 15)),mV 17 16,gV 18 0 17 true,gO 19 (.len (tM 18)) 17 true,gO 20 (.bin .gtr (tM 19) (cI 1)) 17 true,dO 21 (.pick (tM 17) (tM 20) (cB false))] (.cond (tM 21) (sO [dO 4 (.mv (.const (.slice none [] true)))] .ret) .skip)) (sO [dO 6 (.mv (.const (.slice none [] true)))] (sO [mV 22 0,lN 23 22,dO 7 (.mv (cI 0)),mV 8 23] (.seq .skip (sO [dO 9 (.mv (cI 0))] (.block 0 (.loop (.seq (.block 1 (.seq (sO [mV 26 7,mV 10 26] (.block 2 (.loop (.seq (sO [mV 27 10,mV 28 8,bB 29 .lss 27 28] (.cond (tM 29) .skip (.exit 2))) (.seq (.block 3 (.seq (sO [mV 32 10,dO 33 (.indexAddrA 12 1 (tM 5) (tM 32)),lD 34 33,mV 35 9,bB 36 .neq 34 35] (.cond (tM 36) (.exit 3) .skip)) (sO [mV 37 6,mV 38 6,lN 39 38,mV 40 6,lN 41 40,dO 42 (.slice none (tM 37) none (some (tM 39)) (some (tM 41))),mV 43 10,dO 44 (.buildSlice none [.int .i64 0] [(0,(1,tM 43))]),dO 45 (.append none 8 (tM 42) (tM 44)),mV 6 45] (.seq (.block 4 (sO [mV 48 10,mV 49 1,bB 50 .lss 48 49,mV 47 50] (.cond (tM 47) (.ops [mV 51 10,bC 52 .add 51 1,mV 7 52]) (sO [mV 54 10,mV 55 1,bB 56 .gtr 54 55,mV 53 56] (.cond (tM 53) (.ops [mV 57 10,mV 8 57]) (sO [mV 46 6,mV 4 46] .ret)))))) (.exit 1))))) (.ops [mV 30 10,bC 31 .add 30 1,mV 10 31])))))) (sO [mV 58 6,mV 4 58] .ret))) (.ops [mV 24 9,bC 25 .add 24 1,mV 9 25])))))))))))⟩
theorem k39:(Bx Tryz.prog byr).fns 39=some c39:=by kernel_rfl
theorem t39:T.fns 39=some c39:=Da k39 (by decide) (by decide)
def c40:IFunc:=⟨13,[.tmp 2],sO [dO 2 (.mv (cI 0))] (.seq (.block 0 (sO [mV 4 0,lN 5 4,dO 6 (.buildSlice none [.int .i64 0] [(0,(1,tM 5))]),dO 7 (.callF false 37 [cI 1,cI 12,tM 6]),dO 8 (.un .not (tM 7)),mV 3 8] (.cond (tM 3) (sO [dO 2 (.mv (cI 6))] .ret) (sO [mV 10 0,dO 11 (.callF false 37 [cI 0,cI 1000,tM 10]),dO 12 (.un .not (tM 11)),mV 9 12] (.cond (tM 9) (sO [dO 2 (.mv (cI 3))] .ret) .skip))))) (sO [dO 2 (.mv (cI 0))] .ret))⟩
theorem k40:(Bx Tryz.prog byr).fns 40=some c40:=by kernel_rfl
theorem t40:T.fns 40=some c40:=Da k40 (by decide) (by decide)
def c117:IFunc:=⟨12,[.tmp 2,.tmp 3],sO [dO 2 (.mv (.const .nilptr)),dO 3 (.mv (cI 0))] (.seq (sO [mV 5 0,dO 6 (.callF false 40 [tM 5]),mV 4 6] (sO [mV 7 4,bC 8 .neq 7 0] (.cond (tM 8) (sO [mV 9 4,dO 2 (.mv (.const .nilptr)),mV 3 9] .ret) .skip))) (sO [mV 10 0,dO 11 (.callF true 170 [tM 10]),mV 2 11,dO 3 (.mv (cI 0))] .ret))⟩
theorem k117:(Bx Tryz.prog byr).fns 117=some c117:=by kernel_rfl
theorem t117:T.fns 117=some c117:=Da k117 (by decide) (by decide)
def c170:IFunc:=⟨92,[.tmp 2],sO [dO 2 (.mv (.const .nilptr))] (sO [mV 10 0,dO 11 (.build [.slice none [] true] [(0,(1,tM 10))]),⟨some 12,.mkMap,none⟩,dO 13 (.build [.slice none [] true,.fmap [] []] [(0,(1,tM 11)),(1,(1,tM 12))]),dO 14 (.box (tM 13)),mV 3 14] (.seq (sO [mV 15 0,lN 16 15,bC 17 .add 16 1,dO 18 (.mv (cI 0))] (.block 0 (.loop (sO [bB 19 .lss 18 17] (.seq (.cond (tM 19) .skip (.exit 0)) (.seq (.block 1 (sO [mV 20 18,mV 4 20] (sO [mV 21 0,lN 22 21,mV 23 4,bB 24 .sub 22 23,bC 25 .add 24 1,dO 26 (.mv (cI 0))] (.block 2 (.loop (sO [bB 27 .lss 26 25] (.seq (.cond (tM 27) .skip (.exit 2)) (.seq (.block 3 (sO [mV 28 26,mV 5 28] (sO [mV 29 5,mV 30 5,mV 31 4,bB 32 .add 30 31,dO 33 (.build [.int .i64 0,.int .i64 0] [(0,(1,tM 29)),(1,(1,tM 32))]),dO 6 (.alloc [.int .i64 0,.int .i64 0]),eO (.store 2 (tM 6) (tM 33))] (.seq (sO [mV 34 4,bC 35 .eql 34 0] (.cond (tM 35) (sO [mV 36 3,dO 37 (.nilCheck (tM 36)),dO 38 (.fieldAddr 1 (tM 37)),lD 39 38,dO 40 (.load (some 2) (tM 6)),eO (.mapUpdate (some 2) (tM 39) (tM 40) (cI 0))] (.exit 3)) .skip)) (sO [dO 7 (.mv (.const (.slice none [] true)))] (.seq (sO [dO 41 (.fieldAddr 0 (tM 6)),lD 42 41,mV 8 42] (.block 4 (.loop (.seq (sO [mV 43 8,dO 44 (.fieldAddr 1 (tM 6)),lD 45 44,bB 46 .lss 43 45] (.cond (tM 46) .skip (.exit 4))) (.seq (.block 5 (.ops [mV 49 7,mV 50 3,dO 51 (.nilCheck (tM 50)),dO 52 (.fieldAddr 0 (tM 51)),dO 53 (.load (some 1) (tM 52)),dO 54 (.load (some 2) (tM 6)),dO 55 (.callF false 125 [tM 53,tM 54]),mV 56 3,dO 57 (.load (some 2) (tM 6)),mV 58 8,dO 59 (.callF false 175 [tM 56,tM 57,tM 58]),bB 60 .add 55 59,dO 61 (.buildSlice none [.int .i64 0] [(0,(1,tM 60))]),dO 62 (.append none 8 (tM 49) (tM 61)),mV 7 62])) (.ops [mV 47 8,bC 48 .add 47 1,mV 8 48])))))) (.ops [mV 63 3,dO 64 (.nilCheck (tM 63)),dO 65 (.fieldAddr 1 (tM 64)),lD 66 65,dO 67 (.load (some 2) (tM 6)),mV 68 7,dO 69 (.callF false 230 [tM 68,.const (.clo 231 [] [])]),eO (.mapUpdate (some 2) (tM 66) (tM 67) (tM 69))]))))))) (.ops [bC 70 .add 26 1,mV 26 70]))))))))) (.ops [bC 71 .add 18 1,mV 18 71]))))))) (.seq (sO [mV 72 3,dO 73 (.nilCheck (tM 72)),dO 74 (.fieldAddr 1 (tM 73)),lD 75 74,dO 76 (.range (tM 75))] (.block 6 (.loop (sO [dO 77 (.next (tM 76)),xT 78 77 0] (.seq (.cond (tM 78) .skip (.exit 6)) (.block 7 (sO [dO 79 (.entry (tM 76)),xT 80 79 0,dO 9 (.alloc [.int .i64 0,.int .i64 0]),eO (.store 2 (tM 9) (tM 80))] (sO [dO 81 (.fieldAddr 0 (tM 9)),lD 82 81,dO 83 (.fieldAddr 1 (tM 9)),lD 84 83,bB 85 .eql 82 84] (.cond (tM 85) (.ops [mV 86 3,dO 87 (.nilCheck (tM 86)),dO 88 (.fieldAddr 1 (tM 87)),lD 89 88,dO 90 (.load (some 2) (tM 9)),eO (.delete (some 2) (tM 89) (tM 90))]) .skip))))))))) (sO [mV 91 3,mV 2 91] .ret))))⟩
theorem k170:(Bx Tryz.prog byr).fns 170=some c170:=by kernel_rfl
theorem t170:T.fns 170=some c170:=Da k170 (by decide) (by decide)
def c73:IFunc:=⟨105,[.tmp 4,.tmp 5],sO [dO 3 (.box (tM 1)),dO 4 (.mv (cI 0)),dO 5 (.mv (cI 0))] (sO [mV 16 0,dO 17 (.callF true 117 [tM 16]),mV 15 17,xT 18 15 0,xT 19 15 1,mV 6 18,mV 7 19] (.seq (.block 0 (sO [mV 21 7,bC 22 .neq 21 0,mV 20 22] (.cond (tM 20) (sO [mV 23 7,dO 4 (.mv (cI 0)),mV 5 23] .ret) (sO [lD 25 3,lN 26 25,mV 27 0,lN 28 27,bB 29 .neq 26 28,mV 24 29] (.cond (tM 24) (sO [dO 4 (.mv (cI 0)),dO 5 (.mv (cI 15))] .ret) .skip))))) (.seq (sO [lD 30 3,lN 31 30,dO 32 (.mv (cI 0))] (.block 1 (.loop (sO [bB 33 .lss 32 31] (.seq (.cond (tM 33) .skip (.exit 1)) (.seq (.block 2 (sO [mV 34 32,iA 35 30 32,lD 36 35,mV 8 34,mV 9 36] (sO [mV 37 9,lN 38 37,mV 39 0,lN 40 39,mV 41 8,bB 42 .sub 40 41,bB 43 .neq 38 42] (.cond (tM 43) (sO [dO 4 (.mv (cI 0)),dO 5 (.mv (cI 15))] .ret) .skip)))) (.ops [bC 44 .add 32 1,mV 32 44]))))))) (.seq (sO [lD 45 3,lN 46 45,dO 47 (.mv (cI 0))] (.block 3 (.loop (sO [bB 48 .lss 47 46] (.seq (.cond (tM 48) .skip (.exit 3)) (.seq (.block 4 (sO [iA 49 45 47,lD 50 49,mV 11 50] (sO [mV 51 11,dO 52 (.callF false 37 [cI 0,cI 1099511627776,tM 51]),dO 53 (.un .not (tM 52))] (.cond (tM 53) (sO [dO 4 (.mv (cI 0)),dO 5 (.mv (cI 3))] .ret) .skip)))) (.ops [bC 54 .add 47 1,mV 47 54]))))))) (sO [dO 55 (.mkFunc 124 [] [tM 3]),mV 12 55] (.seq (sO [mV 56 6,dO 57 (.nilCheck (tM 56)),dO 58 (.fieldAddr 1 (tM 57)),lD 59 58,dO 60 (.range (tM 59))] (.block 5 (.loop (sO [dO 61 (.next (tM 60)),xT 62 61 0] (.seq (.cond (tM 62) .skip (.exit 5)) (.block 6 (sO [dO 63 (.entry (tM 60)),xT 64 63 0,dO 13 (.alloc [.int .i64 0,.int .i64 0]),eO (.store 2 (tM 13) (tM 64))] (sO [dO 65 (.fieldAddr 0 (tM 13)),lD 66 65,mV 14 66] (.block 7 (.loop (.seq (sO [mV 67 14,dO 68 (.fieldAddr 1 (tM 13)),lD 69 68,bB 70 .lss 67 69] (.cond (tM 70) .skip (.exit 7))) (.seq (.block 8 (sO [mV 73 12,dO 74 (.load (some 2) (tM 13)),dO 75 (.call false (tM 73) [tM 74]),mV 76 6,dO 77 (.nilCheck (tM 76)),dO 78 (.fieldAddr 0 (tM 77)),dO 79 (.load (some 1) (tM 78)),dO 80 (.load (some 2) (tM 13)),dO 81 (.callF false 125 [tM 79,tM 80]),mV 82 12,dO 83 (.fieldAddr 0 (tM 13)),lD 84 83,mV 85 14,dO 86 (.build [.int .i64 0,.int .i64 0] [(0,(1,tM 84)),(1,(1,tM 85))]),dO 87 (.call false (tM 82) [tM 86]),bB 88 .add 81 87,mV 89 12,mV 90 14,bC 91 .add 90 1,dO 92 (.fieldAddr 1 (tM 13)),lD 93 92,dO 94 (.build [.int .i64 0,.int .i64 0] [(0,(1,tM 91)),(1,(1,tM 93))]),dO 95 (.call false (tM 89) [tM 94]),bB 96 .add 88 95,bB 97 .gtr 75 96] (.cond (tM 97) (sO [dO 4 (.mv (cI 0)),dO 5 (.mv (cI 14))] .ret) .skip))) (.ops [mV 71 14,bC 72 .add 71 1,mV 14 72]))))))))))))) (sO [mV 98 12,mV 99 6,dO 100 (.nilCheck (tM 99)),dO 101 (.fieldAddr 0 (tM 100)),dO 102 (.load (some 1) (tM 101)),dO 103 (.callF false 119 [tM 102]),dO 104 (.call false (tM 98) [tM 103]),mV 4 104,dO 5 (.mv (cI 0))] .ret)))))))⟩
theorem k73:(Bx Tryz.prog byr).fns 73=some c73:=by kernel_rfl
theorem t73:T.fns 73=some c73:=Da k73 (by decide) (by decide)
def c4:IFunc:=⟨188,[.tmp 4],sO [dO 4 (.mv (cB false))] (.seq (sO [mV 21 1,lN 22 21,bC 23 .gtr 22 60] (.cond (tM 23) (sO [dO 24 (.callF false 6 []),mV 4 24] .ret) .skip)) (sO [mV 25 0,dO 26 (.bin .rem (tM 25) (.const (.int .u8 6))),dO 27 (.conv .i64 (tM 26)),dO 28 (.bin .add (cI 1) (tM 27)),mV 5 28] (sO [mV 30 5,mV 31 5,dO 32 (.buildSlice none [.int .i64 0,.int .i64 0] [(0,(1,tM 30)),(1,(1,tM 31))]),dO 33 (.callF false 16 [tM 32]),mV 29 33,xT 34 29 0,xT 35 29 1,mV 6 34,mV 7 35] (sO [mV 37 5,dO 38 (.callF false 17 [tM 37]),mV 36 38,xT 39 36 0,xT 40 36 1,mV 8 39,mV 9 40] (.seq (sO [mV 41 7,bC 42 .neq 41 0,mV 43 42,gV 44 9 43 false,gO 45 (.bin .neq (tM 44) (cI 0)) 43 false,dO 46 (.pick (tM 43) (cB true) (tM 45)),mV 47 46,gV 48 6 47 false,gV 49 8 47 false,gO 50 (.bin .neq (tM 48) (tM 49)) 47 false,dO 51 (.pick (tM 47) (cB true) (tM 50))] (.cond (tM 51) (sO [dO 4 (.mv (cB false))] .ret) .skip)) (sO [mV 52 5,mV 53 1,dO 54 (.callF false 18 [tM 52,tM 53]),mV 10 54] (sO [mV 56 10,dO 57 (.callF false 19 [tM 56]),mV 55 57,xT 58 55 0,xT 59 55 1,mV 11 58,mV 12 59] (.seq (sO [mV 60 12,bC 61 .neq 60 0,mV 62 61,gV 63 11 62 false,gO 64 (.bin .lss (tM 63) (cI 0)) 62 false,dO 65 (.pick (tM 62) (cB true) (tM 64)),mV 66 65,gV 67 11 66 false,gV 68 8 66 false,gO 69 (.bin .geq (tM 67) (tM 68)) 66 false,dO 70 (.pick (tM 66) (cB true) (tM 69))] (.cond (tM 70) (sO [dO 4 (.mv (cB false))] .ret) .skip)) (sO [mV 72 5,mV 73 11,dO 74 (.callF false 20 [tM 72,tM 73]),mV 71 74,xT 75 71 0,xT 76 71 1,mV 13 75,mV 12 76] (.seq (sO [mV 77 12,bC 78 .neq 77 0,mV 79 78,gV 80 13 79 false,gO 81 (.callF false 21 [tM 80]) 79 false,gO 82 (.bin .neq (tM 81) (cI 0)) 79 false,dO 83 (.pick (tM 79) (cB true) (tM 82)),mV 84 83,gV 85 13 84 false,gO 86 (.len (tM 85)) 84 false,gV 87 5 84 false,gO 88 (.bin .neq (tM 86) (tM 87)) 84 false,dO 89 (.pick (tM 84) (cB true) (tM 88))] (.cond (tM 89) (sO [dO 4 (.mv (cB false))] .ret) .skip)) (sO [mV 90 13,dO 91 (.callF false 22 [tM 90,cI 0]),mV 14 91] (sO [dO 92 (.buildSliceO none [.slice none [] true,.slice none [] true] [(0,(1,.const (.slice none [] true))),(1,(1,.const (.slice none [] true)))]),mV 15 92] (sO [dO 93 (.buildSliceO none [.slice none [] true,.slice none [] true] [(0,(1,.const (.slice none [] true))),(1,(1,.const (.slice none [] true)))]),mV 16 93] (.seq (sO [dO 17 (.mv (cI 0))] (.block 0 (.loop (.seq (sO [mV 94 17,mV 95 14,lN 96 95,bB 97 .lss 94 96] (.cond (tM 97) .skip (.exit 0))) (.seq (.block 1 (.ops [mV 100 15,mV 101 14,mV 102 17,iA 103 101 102,dO 104 (.loadL none (tM 103) 104 188 []),mV 105 16,mV 106 14,mV 107 17,iA 108 106 107,dO 109 (.loadL none (tM 108) 109 188 []),mV 110 15,mV 111 14,mV 112 17,iA 113 111 112,lD 114 113,iA 115 110 114,lD 116 115,mV 117 17,bC 118 .add 117 1,dO 119 (.buildSlice none [.int .i64 0] [(0,(1,tM 118))]),dO 120 (.appendL 120 188 none 8 (tM 116) (tM 119)),mV 121 16,mV 122 14,mV 123 17,iA 124 122 123,dO 125 (.loadL none (tM 124) 125 188 []),iA 126 121 125,dO 127 (.loadL none (tM 126) 127 188 []),mV 128 14,mV 129 17,iA 130 128 129,dO 131 (.loadL none (tM 130) 131 188 []),bC 132 .add 131 1,dO 133 (.buildSlice none [.int .i64 0] [(0,(1,tM 132))]),dO 134 (.appendL 134 188 none 8 (tM 127) (tM 133)),iA 135 100 104,eO (.store 1 (tM 135) (tM 120)),iA 136 105 109,eO (.store 1 (tM 136) (tM 134))])) (.ops [mV 98 17,bC 99 .add 98 1,mV 17 99])))))) (sO [mV 138 16,mV 139 15,dO 140 (.callF false 23 [tM 138,tM 139]),mV 137 140,xT 141 137 0,xT 142 137 1,mV 18 141,mV 12 142] (.seq (sO [mV 143 15,dO 144 (.callF false 24 [tM 143]),bC 145 .neq 144 0,mV 146 145,gV 147 16 146 false,gO 148 (.callF false 25 [tM 147]) 146 false,gO 149 (.bin .neq (tM 148) (cI 0)) 146 false,dO 150 (.pick (tM 146) (cB true) (tM 149)),mV 151 150,gV 152 12 151 false,gO 153 (.bin .neq (tM 152) (cI 0)) 151 false,dO 154 (.pick (tM 151) (cB true) (tM 153)),mV 155 154,gV 156 18 155 false,gO 157 (.callF false 26 [tM 156]) 155 false,gO 158 (.bin .neq (tM 157) (cI 0)) 155 false,dO 159 (.pick (tM 155) (cB true) (tM 158)),mV 160 159,gV 161 18 160 false,gO 162 (.len (tM 161)) 160 false,gV 163 5 160 false,gO 164 (.bin .mul (cI 2) (tM 163)) 160 false,gO 165 (.bin .neq (tM 162) (tM 164)) 160 false,dO 166 (.pick (tM 160) (cB true) (tM 165))] (.cond (tM 166) (sO [dO 4 (.mv (cB false))] .ret) .skip)) (sO [mV 168 18,dO 169 (.callF false 27 [tM 168]),mV 167 169,xT 170 167 0,xT 171 167 1,xT 172 167 2,mV 19 170,mV 20 171,mV 12 172] (sO [mV 173 12,bC 174 .eql 173 0,mV 175 174,gV 176 19 175 true,gV 177 16 175 true,gO 178 (.callF false 28 [tM 176,tM 177]) 175 true,dO 179 (.pick (tM 175) (tM 178) (cB false)),mV 180 179,gV 181 20 180 true,gV 182 15 180 true,gO 183 (.callF false 28 [tM 181,tM 182]) 180 true,dO 184 (.pick (tM 180) (tM 183) (cB false)),mV 185 184,gO 186 (.callF false 6 []) 185 true,dO 187 (.pick (tM 185) (tM 186) (cB false)),mV 4 187] .ret))))))))))))))))))⟩
theorem k4:(Bx Tryz.prog byr).fns 4=some c4:=by kernel_rfl
theorem t4:T.fns 4=some c4:=Da k4 (by decide) (by decide)
def c44:IFunc:=⟨40,[.tmp 4],sO [dO 4 (.mv (.const (.slice none [] true)))] (sO [dO 5 (.mv (.const (.slice none [] true)))] (.seq (sO [dO 6 (.mv (cI 0))] (.block 0 (.loop (.seq (sO [mV 8 6,mV 9 0,lN 10 9,bB 11 .lss 8 10] (.cond (tM 11) .skip (.exit 0))) (.seq (.block 1 (.ops [mV 14 5,mV 15 0,mV 16 6,iA 17 15 16,lD 18 17,bC 19 .add 18 1,dO 20 (.buildSlice none [.int .i64 0] [(0,(1,tM 19))]),dO 21 (.append none 8 (tM 14) (tM 20)),mV 5 21])) (.ops [mV 12 6,bC 13 .add 12 1,mV 6 13])))))) (sO [mV 22 5,dO 23 (.buildSlice none [.int .i64 0] [(0,(1,cI 0))]),dO 24 (.append none 8 (tM 22) (tM 23)),mV 5 24] (.seq (sO [dO 7 (.mv (cI 0))] (.block 2 (.loop (.seq (sO [mV 25 7,mV 26 1,lN 27 26,bB 28 .lss 25 27] (.cond (tM 28) .skip (.exit 2))) (.seq (.block 3 (.ops [mV 31 5,mV 32 1,mV 33 7,iA 34 32 33,lD 35 34,bC 36 .add 35 1,dO 37 (.buildSlice none [.int .i64 0] [(0,(1,tM 36))]),dO 38 (.append none 8 (tM 31) (tM 37)),mV 5 38])) (.ops [mV 29 7,bC 30 .add 29 1,mV 7 30])))))) (sO [mV 39 5,mV 4 39] .ret)))))⟩
theorem k44:(Bx Tryz.prog byr).fns 44=some c44:=by kernel_rfl
theorem t44:T.fns 44=some c44:=Da k44 (by decide) (by decide)
def c89:IFunc:=⟨27,[.tmp 4],sO [dO 4 (.mv (.const (.slice none [] true)))] (sO [mV 7 0,dO 8 (.callF true 92 [tM 7]),dO 9 (.buildSlice none [.int .i64 0] [(0,(1,cI (-1)))]),dO 10 (.append none 8 (tM 8) (tM 9)),mV 5 10] (sO [mV 11 5,mV 12 1,dO 13 (.append none 8 (tM 11) (tM 12)),mV 5 13] (.seq (sO [mV 14 5,lN 15 14,dO 16 (.mv (cI 0))] (.block 0 (.loop (sO [bB 17 .lss 16 15] (.seq (.cond (tM 17) .skip (.exit 0)) (.seq (.block 1 (sO [mV 18 16,mV 6 18] (.ops [mV 19 5,mV 20 6,iA 21 19 20,lD 22 21,bC 23 .add 22 1,iA 24 19 20,eO (.store 1 (tM 24) (tM 23))]))) (.ops [bC 25 .add 16 1,mV 16 25]))))))) (sO [mV 26 5,mV 4 26] .ret))))⟩
theorem k89:(Bx Tryz.prog byr).fns 89=some c89:=by kernel_rfl
theorem t89:T.fns 89=some c89:=Da k89 (by decide) (by decide)
def c34:IFunc:=⟨11,[.tmp 6],sO [dO 3 (.box (tM 0)),dO 4 (.box (tM 1)),dO 6 (.mv (cB false))] (sO [mV 7 2,dO 8 (.mkFunc 80 [] [tM 3,tM 4]),dO 9 (.callF false 79 [tM 7,tM 8]),dO 10 (.un .not (tM 9)),mV 6 10] .ret)⟩
theorem k34:(Bx Tryz.prog byr).fns 34=some c34:=by kernel_rfl
theorem t34:T.fns 34=some c34:=Da k34 (by decide) (by decide)
def c80:IFunc:=⟨13,[.tmp 4],sO [dO 4 (.mv (cB false))] (sO [mV 5 0,lD 6 1,bB 7 .lss 5 6,mV 8 7,gV 9 0 8 false,gO 10 (.load none (tM 2)) 8 false,gO 11 (.bin .gtr (tM 9) (tM 10)) 8 false,dO 12 (.pick (tM 8) (cB true) (tM 11)),mV 4 12] .ret)⟩
theorem k80:(Bx Tryz.prog byr).fns 80=some c80:=by kernel_rfl
theorem t80:T.fns 80=some c80:=Da k80 (by decide) (by decide)
end Go.Ev.YtbgodhhdojjbmaaGreatC
namespace Go.Ev.YtbgodhhdojjbmaaGreatC.P1
open Go.Ev
open Go Go.Proofs
def rcells (x:Frac):List (IntKind×Int):=[(.i64,x.num),(.i64,x.den)]
def RWf (x:Frac):Prop:=(Lit.int .i64 x.num).wf=true/\(Lit.int .i64 x.den).wf=true
abbrev Ey (l:List Int):AV:=.slice none (l.map (.int .i64)) false
abbrev rAV (x:Frac):AV:=.agg [.int .i64 x.num,.int .i64 x.den]
abbrev Xm (x:Frac):AV:=.ptr [.int .i64 x.num,.int .i64 x.den] 0
def Bn (a:Int):Prop:=-1073741824<=a/\a<=1073741824
def BF (x:Frac):Prop:=Bn x.num/\Bn x.den
theorem Agr {a b:Int} (ha:Bn a) (hb:Bn b) : -1152921504606846976<=a*b/\a*b<=1152921504606846976:=by
 unfold Bn at ha hb
 have h1:a.natAbs<=1073741824:=by omega
 have h2:b.natAbs<=1073741824:=by omega
 have h3:(a*b).natAbs<=1073741824*1073741824:=by rw [Int.natAbs_mul]; exact Nat.mul_le_mul h1 h2
 omega
def He (x:Frac):Int:=if x.num<1\/10000<x.num\/x.den<1\/10000<x.den then 3 else if Nat.gcd x.num.toNat x.den.toNat=1 then 0 else 16
structure OkI (x:Frac):Prop where
 n1:1<=x.num
 n2:x.num<=10000
 d1:1<=x.den
 d2:x.den<=10000
 pr:Oa x
theorem Qd (x:Frac):He x=0↔OkI x:=by
 unfold He
 constructor
 ·intro h
  split at h
  ·cases h
  ·split at h
   ·next h1 h2=>exact ⟨by omega,by omega,by omega,by omega,h2⟩
   ·cases h
 ·rintro ⟨a,b,c,d,e⟩
  rw [if_neg (by omega),if_pos (show Nat.gcd x.num.toNat x.den.toNat=1 from e)]
attribute [local irreducible] Res.all evC Dg Di Bq Bg Do Bf Bj G GO GV GP GC R
theorem Acc (a b:Nat) (ha:a<1152921504606846976) (hb:b<1152921504606846976):Con T 1 29 [.int .i64 a,.int .i64 b] (.int .i64 (Nat.gcd a b:Nat)):=by
 refine Bs t29 fun n hn V hV => ?_
 simp (disch:=first | assumption | omega) only [c29,go_sem,↓reduceIte]
 refine Dd (fun M st=>∃x y:Nat,M=y/\x<1152921504606846976/\y<=b/\At st.env [(0,.int .i64 x),(1,.int .i64 y)]/\Nat.gcd x y=Nat.gcd a b) b hb ⟨a,b,rfl,ha,by omega,by simp only [go_sem,↓reduceIte],rfl⟩ ?_
 rintro y e h hM ⟨x,_,rfl,hx,hy,hE,hg⟩ P hP
 simp only [Bt,By] at hE
 obtain ⟨h0,h1,-⟩:=hE
 by_cases hz:y=0
 ·subst hz
  have hz':(((0:Nat):Int) != 0)=false:=rfl
  simp (disch:=first | assumption | omega) only [h0,h1,go_sem,↓reduceIte,hz']
  simp (disch:=first | assumption | omega) only [go_sem,↓reduceIte,h0,h1,bne_self_eq_false]
  exact hV _ _ (by rw [Bk,<-hg,Nat.gcd_zero_right])
 ·have hz':((y:Int) != 0)=true:=by simp; omega
  simp (disch:=first | assumption | omega) only [go_sem,↓reduceIte,h0,h1,hz',A5e]
  refine hP (x%y) _ (Nat.mod_lt _ (by omega)) ⟨y,x%y,rfl,by omega,by have:=Nat.mod_lt x (show 0<y by omega); omega,by simp only [go_sem,↓reduceIte],?_⟩
  rw [<-hg,Nat.gcd_comm x y,Nat.gcd_rec y x,Nat.gcd_comm]
theorem No:∀(b a:Nat),Con T (b+1) 127 [.int .i64 a,.int .i64 b] (.int .i64 (Nat.gcd a b:Nat)):=by
 intro b
 induction b using Nat.strongRecOn with
 | _ b ih =>
  intro a
  refine Bs t127 fun n hn V hV => ?_
  by_cases hz:b=0
  ·subst hz
   have hz':(((0:Nat):Int)==0)=true:=rfl
   simp (disch:=first | assumption | omega) only [c127,go_sem,↓reduceIte,hz',beq_self_eq_true]
   exact hV _ _ (by rw [Bk,Nat.gcd_zero_right])
  ·have hz':((b:Int)==0)=false:=by simp; omega
   have hm:=Nat.mod_lt a (show 0<b by omega)
   simp (disch:=first | assumption | omega) only [c127,go_sem,↓reduceIte,hz',A5e]
   refine Dl (ih (a%b) hm b) (by omega) (Dz _ _ _ (Dz _ _ _ (Bz _))) (Es _ _ _) ?_
   simp (disch:=first | assumption | omega) only [go_sem,↓reduceIte]
   exact hV _ _ (by rw [Bk,Nat.gcd_comm a b,Nat.gcd_rec b a,Nat.gcd_comm])
theorem A3h (x y:Frac) (hx:BF x) (hy:BF y):Con T 1 12 [rAV x,rAV y] (.int .i64 (Lc x y)):=by
 refine Bs t12 fun n hn V hV => ?_
 have m1:=Agr hy.1 hx.2
 have m2:=Agr hx.1 hy.2
 simp (disch:=first | assumption | omega) only [c12,go_sem,↓reduceIte]
 exact hV _ _ (by rw [Bk]; rfl)
theorem A3k {n base:Nat} {Q:EX×St->Prop} {d:Option Nat} {L:List IOper} {ks:List Kont} {e:Env} {h:Bc} {a b:Nat} (hn:1<=n) (ha:a<1152921504606846976) (hb:b<1152921504606846976):GP (Bf T n) base Q d L ks e (Bf T n false (.fn 29) [.int .i64 (a:Int),.int .i64 (b:Int)] h)=GO (Bf T n) base Q L ks ⟨Bl e d (.int .i64 (Nat.gcd a b:Nat)),h⟩:=
 Eu (Acc a b ha hb) hn (Dz _ _ _ (Dz _ _ _ (Bz _))) (Es _ _ _)
theorem A5y (x:Frac):Con T 2 5 [rAV x] (.int .i64 (He x)):=by
 refine Bs t5 fun n hn V hV => ?_
 unfold He at hV
 by_cases g1:x.num<1
 ·simp (disch:=first | assumption | omega) only [c5,go_sem,↓reduceIte,g1]
  exact hV _ _ (by rw [Bk,if_pos (.inl g1)])
 by_cases g2:x.num>10000
 ·simp (disch:=first | assumption | omega) only [c5,go_sem,↓reduceIte,g1,g2]
  exact hV _ _ (by rw [Bk,if_pos (by omega)])
 by_cases g3:x.den<1
 ·simp (disch:=first | assumption | omega) only [c5,go_sem,↓reduceIte,g1,g2,g3]
  exact hV _ _ (by rw [Bk,if_pos (by omega)])
 by_cases g4:x.den>10000
 ·simp (disch:=first | assumption | omega) only [c5,go_sem,↓reduceIte,g1,g2,g3,g4]
  exact hV _ _ (by rw [Bk,if_pos (by omega)])
 rw [if_neg (by omega)] at hV
 obtain ⟨a,ha⟩:=Int.eq_ofNat_of_zero_le (show 0<=x.num by omega)
 obtain ⟨b,hb⟩:=Int.eq_ofNat_of_zero_le (show 0<=x.den by omega)
 have ha':a<1152921504606846976:=by omega
 have hb':b<1152921504606846976:=by omega
 have e1:x.num.toNat=a:=by omega
 have e2:x.den.toNat=b:=by omega
 rw [e1,e2] at hV
 rw [ha] at g1 g2
 rw [hb] at g3 g4
 by_cases hg:Nat.gcd a b=1
 ·have hg':(((Nat.gcd a b:Nat):Int) != 1)=false:=by simp [hg]
  simp (disch:=first | assumption | omega) only [c5,go_sem,↓reduceIte,g1,g2,g3,g4,ha,hb,A3k,hg']
  exact hV _ _ (by rw [Bk,if_pos hg])
 ·have hg':(((Nat.gcd a b:Nat):Int) != 1)=true:=by simp; omega
  simp (disch:=first | assumption | omega) only [c5,go_sem,↓reduceIte,g1,g2,g3,g4,ha,hb,A3k,hg']
  exact hV _ _ (by rw [Bk,if_neg hg])
end Go.Ev.YtbgodhhdojjbmaaGreatC.P1
namespace Go.Ev.YtbgodhhdojjbmaaGreatC.P1
open Go.Ev
open Go Go.Proofs
def Gd (lo hi:Int) (xs:List Int):Bool:=!xs.any fun x=>decide (x<lo)||decide (x>hi)
attribute [local irreducible] Res.all evC Dg Di Bq Bg Do Bf Bj G GO GV GP GC R
theorem A4t {k f:Nat} {first cap:List AV} {p:Int->Bool} (xs:List Int) (hl:xs.length<=1000) (hc:∀x∈xs,Con T k f (first++[.int .i64 x]++cap) (.bool (p x))) (hz:∀h x,fz h (first++[.int .i64 x]++cap) = .ret (first++[.int .i64 x]++cap)) :
  Con T (k+1) 128 [Ey xs,.clo f first cap] (.int .i64 (Gi p xs 0)):=by
 refine Bs t128 fun n hn V hV => ?_
 simp (disch:=first | assumption | omega) only [c128,go_sem,↓reduceIte]
 refine Dd (fun M s=>∃k:Nat,M=xs.length-k/\k<=xs.length/\At s.env [(0,Ey xs),(1,.clo f first cap),(7,.int .i64 xs.length),(8,.int .i64 k)]/\Gi p xs 0=Gi p (xs.drop k) k) xs.length (by omega) ⟨0,by simp,by omega,by simp [go_sem,↓reduceIte],rfl⟩ ?_
 rintro M e h hM ⟨k,rfl,hk,hE,hA⟩ P hP
 simp only [Bt,By] at hE
 obtain ⟨h0,h1,h7,h8,-⟩:=hE
 by_cases hlt:k<xs.length
 ·obtain ⟨y,hy⟩:=Fl hlt
  rw [Fv hy,Gi] at hA
  simp (disch:=first | assumption | omega) only [go_sem,↓reduceIte,h0,h1,h7,h8,hlt,hy]
  refine Dl (hc y (List.mem_of_getElem? hy)) hn (hz _ _) (Gk _ _) ?_
  by_cases hp:p y=true
  ·simp (disch:=first | assumption | omega) only [go_sem,↓reduceIte,h0,h1,h7,h8,hp]
   exact hV _ _ (by rw [Bk,hA,if_pos hp])
  ·simp (disch:=first | assumption | omega) only [go_sem,↓reduceIte,h0,h1,h7,h8,hp]
   exact hP (xs.length-(k+1)) _ (by omega) ⟨k+1,rfl,by omega,by simp only [go_sem,↓reduceIte,h0,h1,h7],by rw [hA,if_neg hp]; rfl⟩
 ·simp (disch:=first | assumption | omega) only [go_sem,↓reduceIte,h0,h1,h7,h8,hlt]
  exact hV _ _ (by rw [Bk,hA,List.drop_eq_nil_of_le (by omega)]; rfl)
theorem Od {k f:Nat} {first cap:List AV} {p:Int->Bool} (xs:List Int) (hl:xs.length<=1000) (hc:∀x∈xs,Con T k f (first++[.int .i64 x]++cap) (.bool (p x))) (hz:∀h x,fz h (first++[.int .i64 x]++cap) = .ret (first++[.int .i64 x]++cap))
  (hf:∀h,Bj h 8 (.clo f first cap) = .ret (.clo f first cap)):Con T (k+2) 79 [Ey xs,.clo f first cap] (.bool (xs.any p)):=by
 refine Bs t79 fun n hn V hV => ?_
 simp (disch:=first | assumption | omega) only [c79,go_sem,↓reduceIte]
 refine Dl (A4t xs hl hc hz) hn (Dr _ _ _ _ (Dc (hf _) (Bz _))) (Es _ _ _) ?_
 simp (disch:=first | assumption | omega) only [go_sem,↓reduceIte,Ly]
 exact hV _ _ (Dk _ _ _)
theorem A9a (x lo hi:Int):Con T 1 80 ([]++[.int .i64 x]++[.ptr [.int .i64 lo] 0,.ptr [.int .i64 hi] 0]) (.bool (decide (x<lo)||decide (x>hi))):=by
 refine Bs t80 fun n hn V hV => ?_
 by_cases g1:x<lo
 ·simp (disch:=first | assumption | omega) only [c80,go_sem,↓reduceIte,g1,List.cons_append]
  refine hV _ _ ?_
  simp [g1,Dk]
 ·simp (disch:=first | assumption | omega) only [c80,go_sem,↓reduceIte,g1,List.cons_append]
  refine hV _ _ ?_
  simp [g1,Dk]
theorem Acf (lo hi:Int) (xs:List Int) (hl:xs.length<=1000):Con T 4 34 [.int .i64 lo,.int .i64 hi,Ey xs] (.bool (Gd lo hi xs)):=by
 refine Bs t34 fun n hn V hV => ?_
 simp (disch:=first | assumption | omega) only [c34,go_sem,↓reduceIte]
 refine Dl (Od (p:=fun x=>decide (x<lo)||decide (x>hi)) xs hl (fun x _=>A9a x lo hi) (fun h x => ?_) (fun h => ?_)) hn (Dr _ _ _ _ (Dc (Iv (De _ _) (Br (Fh (cs:=[.int .i64 lo]) (by simp [go_sem,↓reduceIte]) (Br (Bk _ _ _ _) (De _ _))) (Br (Fh (cs:=[.int .i64 hi]) (by simp [go_sem,↓reduceIte]) (Br (Bk _ _ _ _) (De _ _))) (De _ _)))) (Bz _))) (Gk _ _) ?_
 ·exact Dz _ _ _ (Dc (Du _ _ _ _) (Dc (Du _ _ _ _) (Bz _)))
 ·exact Iv (De _ _) (Br (Du _ _ _ _) (Br (Du _ _ _ _) (De _ _)))
 simp (disch:=first | assumption | omega) only [go_sem,↓reduceIte]
 exact hV _ _ (Dk _ _ _)
section
variable {n base:Nat} {Q:EX×St->Prop} {d:Option Nat} {L:List IOper} {ks:List Kont} {e:Env} {h:Bc}
theorem Ic {lo hi:Int} {xs:List Int} {x:Bool} (hn:4<=n) (hl:xs.length<=1000) :
  GP (Bf T n) base Q d L ks e (Bf T n false (.fn 34) [.int .i64 lo,.int .i64 hi,.slice none (xs.map (.int .i64)) x] h)=GO (Bf T n) base Q L ks ⟨Bl e d (.bool (Gd lo hi xs)),h⟩:=
 Eu (Acf lo hi xs hl) hn (by repeat (first | exact Bz _ | refine Dr _ _ _ _ ?_ | refine Dz _ _ _ ?_)) rfl
theorem Np {lo hi a b:Int} {x:Bool} (hn:4<=n) :
  GP (Bf T n) base Q d L ks e (Bf T n false (.fn 34) [.int .i64 lo,.int .i64 hi,.slice none [.int .i64 a,.int .i64 b] x] h)=GO (Bf T n) base Q L ks ⟨Bl e d (.bool (decide (lo<=a)&&decide (a<=hi)&&(decide (lo<=b)&&decide (b<=hi)))),h⟩:=by
 have:=Ic (Q:=Q) (d:=d) (L:=L) (ks:=ks) (e:=e) (h:=h) (base:=base) (lo:=lo) (hi:=hi) (xs:=[a,b]) (x:=x) hn (by simp)
 rw [show Gd lo hi [a,b]=(decide (lo<=a)&&decide (a<=hi)&&(decide (lo<=b)&&decide (b<=hi))) by rw [Bool.eq_iff_iff]; simp [Gd]] at this
 exact this
theorem A3l {a b:Nat} (hn:b+1<=n):GP (Bf T n) base Q d L ks e (Bf T n false (.fn 127) [.int .i64 (a:Int),.int .i64 (b:Int)] h)=GO (Bf T n) base Q L ks ⟨Bl e d (.int .i64 (Nat.gcd a b:Nat)),h⟩:=
 Eu (No b a) hn (Dz _ _ _ (Dz _ _ _ (Bz _))) (Es _ _ _)
end
theorem Yd (x:Frac):Con T 10002 78 [rAV x] (.int .i64 (He x)):=by
 refine Bs t78 fun n hn V hV => ?_
 unfold He at hV
 by_cases g:1<=x.num/\x.num<=10000/\1<=x.den/\x.den<=10000
 ·obtain ⟨g1,g2,g3,g4⟩:=g
  rw [if_neg (by omega)] at hV
  obtain ⟨a,ha⟩:=Int.eq_ofNat_of_zero_le (show 0<=x.num by omega)
  obtain ⟨b,hb⟩:=Int.eq_ofNat_of_zero_le (show 0<=x.den by omega)
  have e1:x.num.toNat=a:=by omega
  have e2:x.den.toNat=b:=by omega
  rw [e1,e2] at hV
  rw [ha] at g1 g2
  rw [hb] at g3 g4
  have hb1:b+1<=n:=by omega
  by_cases hg:Nat.gcd a b=1
  ·have hg':(((Nat.gcd a b:Nat):Int) != 1)=false:=by simp [hg]
   simp (disch:=first | assumption | omega) only [c78,go_sem,↓reduceIte,ha,hb,Np,g1,g2,g3,g4,A3l,hg']
   exact hV _ _ (by rw [Bk,if_pos hg])
  ·have hg':(((Nat.gcd a b:Nat):Int) != 1)=true:=by simp; omega
   simp (disch:=first | assumption | omega) only [c78,go_sem,↓reduceIte,ha,hb,Np,g1,g2,g3,g4,A3l,hg']
   exact hV _ _ (by rw [Bk,if_neg hg])
 ·rw [if_pos (by omega)] at hV
  have hw:(decide (1<=x.num)&&decide (x.num<=10000)&&(decide (1<=x.den)&&decide (x.den<=10000)))=false:=by
   rw [Bool.eq_false_iff]; simp; omega
  simp (disch:=first | assumption | omega) only [c78,go_sem,↓reduceIte,Np,hw]
  exact hV _ _ (Bk _ _ _ _)
end Go.Ev.YtbgodhhdojjbmaaGreatC.P1
namespace Go.Ev.YtbgodhhdojjbmaaGreatC.P1
open Go.Ev
open Go Go.Proofs
def Ju:List Frac->Int
 | []=>0
 | x::r=>if He x≠0 then He x else Ju r
abbrev rsV (xs:List Frac):AV:=.slice (some 2) (xs.map rAV) false
theorem OkI.bf {x:Frac} (h:OkI x):BF x:=by
 have:=h.n1
 have:=h.n2
 have:=h.d1
 have:=h.d2
 unfold BF Bn
 omega
attribute [local irreducible] Res.all evC Dg Di Bq Bg Do Bf Bj G GO GV GP GC R
section
variable {n base:Nat} {Q:EX×St->Prop} {d:Option Nat} {L:List IOper} {ks:List Kont} {e:Env} {h:Bc}
theorem Ol (h:Bc) (x:Frac) {us vs:List AV} (hs:fz h us = .ret vs):fz h (rAV x::us) = .ret (rAV x::vs):=Dc (Ec (Br (Bk _ _ _ _) (Br (Bk _ _ _ _) (De _ _)))) hs
theorem Of {x:Frac} (hn:10002<=n):GP (Bf T n) base Q d L ks e (Bf T n false (.fn 78) [.agg [.int .i64 x.num,.int .i64 x.den]] h)=GO (Bf T n) base Q L ks ⟨Bl e d (.int .i64 (He x)),h⟩:=
 Eu (Yd x) hn (Ol _ _ (Bz _)) rfl
theorem Qw {x:Frac} (hn:2<=n):GP (Bf T n) base Q d L ks e (Bf T n false (.fn 5) [.agg [.int .i64 x.num,.int .i64 x.den]] h)=GO (Bf T n) base Q L ks ⟨Bl e d (.int .i64 (He x)),h⟩:=
 Eu (A5y x) hn (Ol _ _ (Bz _)) rfl
end
theorem Gy (x0:Frac) (r:List Frac) (hl:(x0::r).length<=10):Con T 10003 32 [rsV (x0::r)] (.tuple [if Ju (x0::r)=0 then Xm x0 else .nilptr,.int .i64 (Ju (x0::r))]):=by
 refine Bs t32 fun n hn V hV => ?_
 have hx0:(x0::r)[0]? = some x0:=rfl
 generalize hxs:x0::r=xs at *
 simp (disch:=first | assumption | omega) only [c32,go_sem,↓reduceIte]
 refine Dd (fun M st=>∃k:Nat,M=xs.length-k/\k<=xs.length/\At st.env [(0,rsV xs),(7,rsV xs),(8,.int .i64 xs.length),(9,.int .i64 k)]/\Ju xs=Ju (xs.drop k)) xs.length (by omega) ⟨0,by simp,by omega,by simp only [go_sem,↓reduceIte],rfl⟩ ?_
 rintro M e h hM ⟨k,rfl,hk,hE,hA⟩ P hP
 simp only [Bt,By] at hE
 obtain ⟨h0,h7,h8,h9,-⟩:=hE
 by_cases hlt:k<xs.length
 ·obtain ⟨y,hy⟩:=Fl hlt
  rw [Fv hy,Ju] at hA
  by_cases hc:He y=0
  ·have hc':(He y != 0)=false:=by simp [hc]
   rw [if_neg (by omega)] at hA
   simp (disch:=first | assumption | omega) only [go_sem,↓reduceIte,h0,h7,h8,h9,hlt,hy]
   simp (disch:=first | assumption | omega) only [Of]
   simp (disch:=first | assumption | omega) only [go_sem,↓reduceIte,h0,h7,h8,h9,hc']
   exact hP (xs.length-(k+1)) _ (by omega) ⟨k+1,rfl,by omega,by simp only [go_sem,↓reduceIte,h0,h7,h8],hA⟩
  ·have hc':(He y != 0)=true:=by simp [hc]
   rw [if_pos hc] at hA
   simp (disch:=first | assumption | omega) only [go_sem,↓reduceIte,h0,h7,h8,h9,hlt,hy]
   simp (disch:=first | assumption | omega) only [Of]
   simp (disch:=first | assumption | omega) only [go_sem,↓reduceIte,h0,h7,h8,h9,hc']
   refine hV _ _ ?_
   rw [if_neg (by omega),hA]
   exact Ed (Eh _ _) (Bk _ _ _ _)
 ·rw [List.drop_eq_nil_of_le (by omega),Ju] at hA
  simp (disch:=first | assumption | omega) only [go_sem,↓reduceIte,h0,h7,h8,h9,hlt,hx0]
  refine hV _ _ ?_
  rw [if_pos hA,hA]
  exact Ed (Fh (by simp only [go_sem,↓reduceIte]) (Br (Bk _ _ _ _) (Br (Bk _ _ _ _) (De _ _)))) (Bk _ _ _ _)
theorem Akx (x:Frac):Ju [x]=He x:=by
 simp only [Ju]
 split <;> omega
section
variable {n base:Nat} {Q:EX×St->Prop} {d:Option Nat} {L:List IOper} {ks:List Kont} {e:Env} {h:Bc}
theorem A5z {x:Frac} {b:Bool} (hn:10003<=n):GP (Bf T n) base Q d L ks e (Bf T n false (.fn 32) [.slice (some 2) [.agg [.int .i64 x.num,.int .i64 x.den]] b] h)=GO (Bf T n) base Q L ks ⟨Bl e d (.tuple [if He x=0 then Xm x else .nilptr,.int .i64 (He x)]),h⟩:=by
 have:=Eu (Q:=Q) (d:=d) (l:=L) (ks:=ks) (e:=e) (h:=h) (base:=base) (as0:=[.slice (some 2) [.agg [.int .i64 x.num,.int .i64 x.den]] b]) (Gy x [] (by simp)) hn (Dr _ _ _ _ (Bz _)) rfl
 rw [Akx] at this
 exact this
theorem Aio {x y:Frac} (hn:1<=n) (hx:BF x) (hy:BF y):GP (Bf T n) base Q d L ks e (Bf T n false (.fn 12) [.agg [.int .i64 x.num,.int .i64 x.den],.agg [.int .i64 y.num,.int .i64 y.den]] h)=GO (Bf T n) base Q L ks ⟨Bl e d (.int .i64 (Lc x y)),h⟩:=
 Eu (A3h x y hx hy) hn (Ol _ _ (Ol _ _ (Bz _))) (Es _ _ _)
end
end Go.Ev.YtbgodhhdojjbmaaGreatC.P1
namespace Go.Ev.YtbgodhhdojjbmaaGreatC.P1
open Go.Ev
open Go Go.Proofs
theorem Atd {a b:Nat} (ha:a<4611686018427387904) (hb:0<b):Ek .quo (.int .i64 (a:Int)) (.int .i64 (b:Int)) = .ret (.int .i64 ((a/b:Nat):Int)):=by
 rw [Axi (by omega) (by omega) (by omega)]
 congr 2
theorem A6m {h:Bc} {key ver n m:Nat} {cap:Option Nat} {k:IntKind} {l:List Int} (hH:Bb h key = .cells ver (l.map (.int k))) (hn:n<=l.length):Bj h (m+2) (.oslice key ver none 0 n cap) = .ret (.slice none ((l.take n).map (.int k)) false):=by
 have e:((l.map (AV.int k)).drop 0).take (n*Bh none)=(l.take n).map (.int k):=by rw [List.drop_zero,List.map_take]; simp [Bh]
 rw [Bj]
 simp only [hH]
 rw [if_pos ⟨trivial,by simp [Bh]; exact hn⟩,e,Ke]
 rfl
theorem Acs {call:Bo} {base:Nat} {Q:EX×St->Prop} {d:Option Nat} {L:List IOper} {ks:List Kont} {e:Env} {h:Bc} {key ver n:Nat} {c:Option Nat} {cs:List AV} {k:IntKind} {l:List Int} (hH:Bb h key = .cells ver cs) (hc:cs.length=n) (hn:l.length=n)
  (H:∀v h',Bb h' key = .cells ver (l.map (.int k))->(∀j,j≠key->Bb h' j=Bb h j)->h.length<=h'.length->GO call base Q L ks ⟨Bl e d v,h'⟩):GP call base Q d L ks e (cpA none h (.oslice key ver none 0 n c) (some (none,n,l.map (.int k)))):=by
 by_cases h0:0<n
 ·rw [Aos hH hc (by simpa using hn) h0,Hw]
  exact H _ _ (by simp) (fun j hj=>Ba _ _ _ _ (fun he=>hj he.symm)) (by rw [Be]; omega)
 ·obtain rfl:n=0:=by omega
  rw [Aot hH,Hw]
  obtain rfl:l=[]:=List.length_eq_zero_iff.1 hn
  obtain rfl:cs=[]:=List.length_eq_zero_iff.1 hc
  exact H _ _ hH (fun _ _=>rfl) (Nat.le_refl _)
attribute [local irreducible] Res.all evC Dg Di Bq Bg Do Bf Bj G GO GV GP GC R
theorem Afb (a b:List Int) (ha:a.length<1152921504606846976) (hb:b.length<1152921504606846976):Con T 1 8 [Ey a,Ey b] (.bool (decide (a=b))):=by
 refine Bs t8 fun n hn V hV => ?_
 replace hV:∀w h,w=decide (a=b)->V (.bool w,h):=fun w h e1=>hV _ _ (by rw [e1]; exact (by repeat (first | exact De _ _ | exact Bk _ _ _ _ | exact Dk _ _ _ | exact Dn _ _ _ _ _ | exact Du _ _ _ _ | exact Eh _ _ | refine Br ?_ ?_ | refine Ec ?_ | refine Ed ?_ ?_ | refine Eq ?_ ?_ ?_)))
 by_cases hl:a.length=b.length
 case neg =>
  have hl':((a.length:Int) != b.length)=true:=by simp; omega
  simp (disch:=first | assumption | omega) only [c8,go_sem,↓reduceIte,hl']
  exact hV _ _ (decide_eq_false (fun h=>hl (by rw [h]))).symm
 have hl':((a.length:Int) != b.length)=false:=by simp; omega
 simp (disch:=first | assumption | omega) only [c8,go_sem,↓reduceIte,hl']
 refine Dd (fun M st=>∃k:Nat,M=a.length-k/\k<=a.length/\At st.env [(0,Ey a),(1,Ey b),(5,.int .i64 k)]/\a.take k=b.take k) a.length (by omega) ⟨0,by omega,by omega,by simp only [go_sem,↓reduceIte],rfl⟩ ?_
 rintro M e h hM ⟨k,rfl,hk,hE,hA⟩ P hP
 simp only [Bt,By] at hE
 obtain ⟨f0,f1,f5,-⟩:=hE
 by_cases hlt:k<a.length
 ·obtain ⟨y,hy⟩:=Fl hlt
  obtain ⟨z,hz⟩:=Fl (l:=b) (i:=k) (by omega)
  by_cases hyz:y=z
  ·subst hyz
   simp (disch:=first | assumption | omega) only [go_sem,↓reduceIte,f0,f1,f5,hlt,hy,hz,bne_self_eq_false]
   exact hP (a.length-(k+1)) _ (by omega) ⟨k+1,rfl,by omega,by simp only [go_sem,↓reduceIte,f0,f1],by rw [List.take_add_one,List.take_add_one,hA,hy,hz]⟩
  ·have hyz':(y != z)=true:=by simp [hyz]
   simp (disch:=first | assumption | omega) only [go_sem,↓reduceIte,f0,f1,f5,hlt,hy,hz,hyz']
   refine hV _ _ (decide_eq_false (fun h=>hyz ?_)).symm
   rw [h,hz] at hy
   simpa using hy.symm
 ·simp (disch:=first | assumption | omega) only [go_sem,↓reduceIte,f0,f1,f5,hlt]
  refine hV _ _ (decide_eq_true ?_).symm
  rwa [List.take_of_length_le (by omega),List.take_of_length_le (by omega)] at hA
theorem Aip {n base:Nat} {Q:EX×St->Prop} {d:Option Nat} {L:List IOper} {ks:List Kont} {e:Env} {h:Bc} {a b:List Int} {x y:Bool} (hn:1<=n) (ha:a.length<1152921504606846976) (hb:b.length<1152921504606846976):GP (Bf T n) base Q d L ks e (Bf T n false (.fn 8) [.slice none (a.map (.int .i64)) x,.slice none (b.map (.int .i64)) y] h)=GO (Bf T n) base Q L ks ⟨Bl e d (.bool (decide (a=b))),h⟩:=
 Eu (Afb a b ha hb) hn (by repeat (first | exact Bz _ | refine Dr _ _ _ _ ?_ | refine Dz _ _ _ ?_)) (Gk _ _)
theorem Ath {u v:Nat} (hv:v<=10000):(cf u v).length<=28:=Uz 14 u v (by omega)
theorem Aca:∀(b a:Nat),0<a->0<b->∀R r,cf a b=R++[r]->1<=r:=by
 intro b
 induction b using Nat.strongRecOn with
 | _ b ih =>
  intro a ha hb R r h
  have hm:=Nat.mod_lt a hb
  rw [Fs hb] at h
  by_cases hz:a%b=0
  ·rw [hz,Gw] at h
   cases R with
   | nil =>
    simp only [List.nil_append,List.cons.injEq,and_true] at h
    subst h
    exact (Nat.one_le_div_iff hb).2 (Nat.le_of_dvd ha (Nat.dvd_of_mod_eq_zero hz))
   | cons x R=>simp at h
  ·cases R with
   | nil =>
    simp only [List.nil_append,List.cons.injEq] at h
    exact (Nn (a:=b) (b:=a%b) (by omega) h.2).elim
   | cons x R =>
    simp only [List.cons_append,List.cons.injEq] at h
    exact ih (a%b) hm b hb (by omega) R r h.2
theorem Afp (P:List Nat) (n:Nat):Fy (P++[n])=if n-1=0 then P else P++[n-1]:=by
 rw [Yt P [n] (by simp)]
 unfold Fy
 split <;> simp
set_option maxHeartbeats 1000000 in
theorem Aik (u v:Nat) (hu1:1<=u) (hu:u<=10000) (hv1:1<=v) (hv:v<=10000):Con T 1 33 [Xm ⟨u,v⟩] (Ey (Bp (En u v))):=by
 refine Bs t33 fun n hn V hV => ?_
 have hlen:=Ath (u:=u) hv
 simp (disch:=first | assumption | omega) only [c33,go_sem,↓reduceIte]
 refine Dd (fun M st=>∃(a b:Nat) (P:List Nat) (w:AV),M=b/\P++cf a b=cf u v/\b<=10000/\a<=10000/\At st.env [(0,Xm ⟨u,v⟩),(3,w),(4,.int .i64 a),(5,.int .i64 b)]/\Own 54 st.heap w .i64 (Bp P)/\54<=st.heap.length) v (by omega)
  ⟨u,v,[],_,rfl,rfl,hv,hu,by simp only [go_sem,↓reduceIte],Gx _ _ _,by simp⟩ ?_
 rintro b e h hM ⟨a,_,P,w,rfl,hP0,hb,ha,hE,hO,hl⟩ P' hP'
 simp only [Bt,By] at hE hO hl
 obtain ⟨f0,f3,f4,f5,-⟩:=hE
 have hPl:P.length<=28:=by
  have:=congrArg List.length hP0
  rw [List.length_append] at this
  omega
 have hLl:(Bp P).length=P.length:=by simp [Bp]
 by_cases hz:b=0
 ·subst hz
  rw [Gw,List.append_nil] at hP0
  have hz':((0:Int) != 0)=false:=rfl
  have hne:P≠[]:=by rw [hP0]; exact Nn hv1
  obtain ⟨R,r,rfl⟩:∃R r,P=R++[r]:=⟨P.dropLast,P.getLast hne,(List.dropLast_concat_getLast hne).symm⟩
  have hpath:En u v=if r-1=0 then R else R++[r-1]:=by unfold En; rw [<-hP0,Afp]
  have hr1:r<=10000:=Amg 10000 u v hu hv r (by rw [<-hP0]; simp)
  have hr0:1<=r:=Aca v u (by omega) (by omega) R r hP0.symm
  have hlt1:(R.length<R.length+1)=True:=eq_true (by omega)
  have eL:Bp (R++[r])=Bp R++[(r:Int)]:=by simp [Bp]
  have eRl:(Bp R).length=R.length:=by simp [Bp]
  rw [eL] at hO
  rcases hO with ⟨h0,_⟩ | ⟨key,ver,hk,rfl,hH⟩
  ·simp at h0
  have hRl:R.length<=28:=by rw [List.length_append] at hPl; omega
  have hget:(Bp R++[(r:Int)])[R.length]? = some (r:Int):=by rw [List.getElem?_append_right (by omega)]; simp [eRl]
  have hset:(Bp R++[(r:Int)]).set R.length ((r:Int)-1)=Bp R++[(r:Int)-1]:=by rw [List.set_append_right _ _ (by omega)]; simp [eRl]
  have hget2:(Bp R++[(r:Int)-1])[R.length]? = some ((r:Int)-1):=by rw [List.getElem?_append_right (by omega)]; simp [eRl]
  have hsub:((R.length:Int)+1-1)=R.length:=by omega
  by_cases h1:r=1
  ·have h1':((r:Int)-1==0)=true:=by subst h1; rfl
   rw [if_pos (by omega)] at hpath
   simp (disch:=first | assumption | omega) only [go_sem,↓reduceIte,f0,f3,f4,f5,hz',hH,eRl,hget,hset,hget2,hsub,Gf,h1',hlt1]
   rw [Adx (n:=R.length) (k:=.i64) (by simp only [go_sem,↓reduceIte]) (by omega)]
   simp (disch:=first | assumption | omega) only [go_sem,↓reduceIte]
   refine hV _ _ ?_
   rw [A6m (k:=.i64) (l:=Bp R++[(r:Int)-1]) (by simp only [go_sem,↓reduceIte]) (by simp [eRl]),hpath,<-eRl,List.take_left']
   rfl
  ·have h1':((r:Int)-1==0)=false:=by simp; omega
   rw [if_neg (by omega)] at hpath
   simp (disch:=first | assumption | omega) only [go_sem,↓reduceIte,f0,f3,f4,f5,hz',hH,eRl,hget,hset,hget2,hsub,Gf,h1',hlt1]
   refine hV _ _ ?_
   rw [A6m (k:=.i64) (l:=Bp R++[(r:Int)-1]) (by simp only [go_sem,↓reduceIte]) (by simp [eRl]),hpath,List.take_of_length_le (by simp [eRl])]
   have:Bp (R++[r-1])=Bp R++[(r:Int)-1]:=by simp [Bp]; omega
   rw [this]
 ·have hz':((b:Int) != 0)=true:=by simp; omega
  have hm:=Nat.mod_lt a (show 0<b by omega)
  rw [Fs (by omega)] at hP0
  simp (disch:=first | assumption | omega) only [go_sem,↓reduceIte,f0,f3,f4,f5,hz',hO.lenA]
  rw [A8a hO (k1:=.i64) (k2:=.i64) (by simp only [go_sem,↓reduceIte]) (by simp only [go_sem,↓reduceIte])]
  simp (disch:=first | assumption | omega) only [go_sem,↓reduceIte,f0,f3,f4,f5,Atd]
  refine On (m:=1) (l2:=[((a/b:Nat):Int)]) (by first | with_reducible rfl | (simp only [Be,List.length_append,List.length_replicate]; done) | (simp only [Be,List.length_append,List.length_replicate]; omega)) hO hl rfl rfl Nat.one_pos (by omega) fun x' h' hO' hF hL _ => ?_
  simp (disch:=first | assumption | omega) only [go_sem,↓reduceIte,f0,f4,f5,A5e]
  exact hP' (a%b) _ hm ⟨b,a%b,P++[a/b],x',rfl,by rw [List.append_assoc]; exact hP0,by omega,by omega,by simp only [go_sem,↓reduceIte,f0],by simpa [Bp] using hO',Nat.le_trans hl hL⟩
theorem Acv {L:List Nat} (h:L≠[]):∃R r,L=R++[r]/\Jp L=R++[r+1]:=by
 refine ⟨L.dropLast,L.getLast h,(List.dropLast_concat_getLast h).symm,?_⟩
 conv=>lhs; rw [<-List.dropLast_concat_getLast h]
 exact Hx _ _
theorem Ov (left:Nat):Jz [] left=if left≠0 then [0,0] else [0]:=by
 unfold Jz
 by_cases h:left=0
 ·subst h; rfl
 ·simp only [List.length_nil,if_true,List.length_singleton,Nat.sub_self,Nat.zero_mod]
  rw [if_pos (fun e=>h e.symm),if_pos h]
  rfl
theorem Mz (a:Nat) (r:List Nat) (left:Nat):Jz (a::r) left=if r.length%2≠left then a::r++[0] else a::r:=by
 have h0:¬(a::r).length=0:=by simp
 simp only [Jz,if_neg h0]
 rw [List.length_cons,Nat.add_sub_cancel]
theorem Ald (L:List Nat) (left:Nat):(Jz L left).length<=L.length+2:=by
 cases L with
 | nil=>rw [Ov]; split <;> simp
 | cons a r=>rw [Mz]; split <;> simp
theorem Ars (L:List Nat) (left:Nat):Jz L left≠[]:=by
 cases L with
 | nil=>rw [Ov]; split <;> simp
 | cons a r=>rw [Mz]; split <;> simp
theorem Ale {L:List Nat} {left n:Nat} (h:n∈Jz L left):n=0\/n∈L:=by
 cases L with
 | nil =>
  rw [Ov] at h
  split at h <;> simp at h <;> exact .inl h
 | cons a r =>
  rw [Mz] at h
  split at h
  ·rcases List.mem_append.1 h with h | h
   ·exact .inr h
   ·simp at h; exact .inl h
  ·exact .inr h
structure TreeAt (x:Frac) (a b c d:Int) (u v:Nat):Prop where
 a0:0<=a
 b0:0<=b
 c0:0<=c
 d0:0<=d
 det:c*b-a*d=1
 u1:1<=u
 v1:1<=v
 num:x.num=v*a+u*c
 den:x.den=v*b+u*d
theorem TreeAt.gap {x:Frac} {a b c d:Int} {u v:Nat} (h:TreeAt x a b c d u v):Lc ⟨a+c,b+d⟩ x=(u:Int)-v:=by
 have h1:=h.det
 have h2:=h.num
 have h3:=h.den
 unfold Lc
 simp only
 rw [h2,h3]
 grind
theorem TreeAt.le {x:Frac} {a b c d:Int} {u v:Nat} (h:TreeAt x a b c d u v):a+c<=x.num/\b+d<=x.den:=by
 have h1:=Rr h.a0 (show (1:Int)<=v by have:=h.v1; omega)
 have h2:=Rr h.c0 (show (1:Int)<=u by have:=h.u1; omega)
 have h3:=Rr h.b0 (show (1:Int)<=v by have:=h.v1; omega)
 have h4:=Rr h.d0 (show (1:Int)<=u by have:=h.u1; omega)
 have h5:=h.num
 have h6:=h.den
 have e1:(v:Int)*a=a*v:=Int.mul_comm _ _
 have e2:(u:Int)*c=c*u:=Int.mul_comm _ _
 have e3:(v:Int)*b=b*v:=Int.mul_comm _ _
 have e4:(u:Int)*d=d*u:=Int.mul_comm _ _
 omega
theorem TreeAt.left {x:Frac} {a b c d:Int} {u v:Nat} (h:TreeAt x a b c d u v) (hlt:u<v):TreeAt x a b (a+c) (b+d) u (v-u):=by
 have h1:=h.det
 have h2:=h.num
 have h3:=h.den
 have e:((v-u:Nat):Int)=(v:Int)-u:=by omega
 exact ⟨h.a0,h.b0,by have:=h.a0; have:=h.c0; omega,by have:=h.b0; have:=h.d0; omega,by grind,h.u1,by omega,by rw [h2,e]; grind,by rw [h3,e]; grind⟩
theorem TreeAt.right {x:Frac} {a b c d:Int} {u v:Nat} (h:TreeAt x a b c d u v) (hlt:v<u):TreeAt x (a+c) (b+d) c d (u-v) v:=by
 have h1:=h.det
 have h2:=h.num
 have h3:=h.den
 have e:((u-v:Nat):Int)=(u:Int)-v:=by omega
 exact ⟨by have:=h.a0; have:=h.c0; omega,by have:=h.b0; have:=h.d0; omega,h.c0,h.d0,by grind,by omega,h.v1,by rw [h2,e]; grind,by rw [h3,e]; grind⟩
set_option maxHeartbeats 4000000 in
theorem Acd (U W:Nat) (hU1:1<=U) (hU:U<=10000) (hW1:1<=W) (hW:W<=10000) (hg:Nat.gcd U W=1):Con T 2 9 [rAV ⟨U,W⟩] (Ey (Bp (En U W))):=by
 refine Bs t9 fun n hn V hV => ?_
 have nf:(¬False)=True:=not_false_eq_true
 simp (disch:=first | assumption | omega) only [c9,go_sem,↓reduceIte]
 refine Dd (fun M st=>∃(u v k:Nat) (a b c d:Int) (out:List Nat) (w:AV) (v1 v3 v4 v5:Nat),M=u+v/\u+v<=U+W/\u+v<k/\In k u v out=En U W/\TreeAt ⟨U,W⟩ a b c d u v/\out.length+2*(u+v)<=2*(U+W)/\(∀n∈out,n+u+v<=U+W)/\
  At st.env [(1,.optr 1 v1 0),(3,.optr 3 v3 0),(4,.optr 4 v4 0),(5,.optr 5 v5 0),(6,w)]/\Bb st.heap 1 = .cells v1 [.int .i64 U,.int .i64 W]/\Bb st.heap 3 = .cells v3 [.int .i64 a,.int .i64 b]/\Bb st.heap 4 = .cells v4 [.int .i64 c,.int .i64 d]/\Bb st.heap 5 = .cells v5 [.int .i64 (a+c),.int .i64 (b+d)]/\
  Own 58 st.heap w .i64 (Bp out)/\58<=st.heap.length) (U+W) (by omega)
  ⟨U,W,U+W+1,0,1,1,0,[],_,0,0,0,0,rfl,Nat.le_refl _,by omega,Alu (by omega) (by omega) hg (by omega),⟨by omega,by omega,by omega,by omega,by omega,hU1,hW1,by simp,by simp⟩,by simp,by simp,by simp only [go_sem,↓reduceIte],by simp only [go_sem,↓reduceIte],by simp only [go_sem,↓reduceIte],by simp only [go_sem,↓reduceIte],by simp only [go_sem,↓reduceIte]; rfl,Gx _ _ _,by simp [Be]⟩ ?_
 rintro M e h hM ⟨u,v,k,a,b,c,d,out,w,v1,v3,v4,v5,rfl,huv,hk,hsub,hT,hlen,hmem,hE,hh1,hh3,hh4,hh5,hO,hl⟩ P hP
 simp only [Bt,By] at hE hh1 hh3 hh4 hh5 hO hl
 obtain ⟨f1,f3,f4,f5,f6,-⟩:=hE
 obtain ⟨k,rfl⟩:∃j,k=j+1:=⟨k-1,by omega⟩
 have hgap:=hT.gap
 obtain ⟨le1,le2⟩:=hT.le
 simp only at le1 le2
 have a0:=hT.a0
 have b0:=hT.b0
 have c0:=hT.c0
 have d0:=hT.d0
 have u1:=hT.u1
 have w1:=hT.v1
 have bA:BF ⟨a+c,b+d⟩:=by unfold BF Bn; simp only; omega
 have bX:BF ⟨(U:Int),(W:Int)⟩:=by unfold BF Bn; simp only; omega
 have cg:=A3h ⟨a+c,b+d⟩ ⟨(U:Int),(W:Int)⟩ bA bX
 rw [hgap] at cg
 have cs_g:∀{n base:Nat} {Q:EX×St->Prop} {d':Option Nat} {L:List IOper} {ks:List Kont} {e:Env} {h:Bc},1<=n->GP (Bf T n) base Q d' L ks e (Bf T n false (.fn 12) [.agg [.int .i64 (a+c),.int .i64 (b+d)],.agg [.int .i64 (U:Int),.int .i64 (W:Int)]] h)=GO (Bf T n) base Q L ks ⟨Bl e d' (.int .i64 ((u:Int)-v)),h⟩:=fun hn =>
  Eu cg hn (Ol _ ⟨a+c,b+d⟩ (Ol _ ⟨(U:Int),(W:Int)⟩ (Bz _))) (Es _ _ _)
 rw [In] at hsub
 by_cases he:u=v
 ·rw [if_pos he] at hsub
  have hb:((u:Int)-v != 0)=false:=by simp; omega
  simp (disch:=first | assumption | omega) only [go_sem,↓reduceIte,f1,f3,f4,f5,f6,hh1,hh3,hh4,hh5,cs_g,hb]
  exact hV _ _ (by rw [<-hsub]; exact Hv hO)
 rw [if_neg he] at hsub
 have hb:((u:Int)-v != 0)=true:=by simp; omega
 have hol:(Bp out).length=out.length:=by simp [Bp]
 -- behind the pads: one more at the end
 have fin:∀(left:Nat) (o:List Nat),o=Jz out left->o≠[]/\∃R r,o=R++[r]/\Jp o=R++[r+1]/\R.length+1<=out.length+2/\r<=U+W/\(∀n∈R++[r+1],n+(u+v-1)<=U+W):=fun left o ho=>by
  have hne:o≠[]:=by rw [ho]; exact Ars _ _
  obtain ⟨R,r,h1,h2⟩:=Acv hne
  have h3:=Ald out left
  have hmo:∀n∈R++[r],n+u+v<=U+W:=fun n hn=>by
   rw [<-h1,ho] at hn
   rcases Ale hn with rfl | h
   ·omega
   ·exact hmem n h
  refine ⟨hne,R,r,h1,h2,?_,?_,fun n hn => ?_⟩
  ·rw [<-ho,h1] at h3; simpa using h3
  ·have:=hmo r (by simp); omega
  ·rcases List.mem_append.1 hn with hn | hn
   ·have:=hmo n (by simp [hn]); omega
   ·simp at hn
    subst hn
    have:=hmo r (by simp)
    omega
 have z00:((0:Int)==0)=true:=rfl
 have z01:((0:Int)==1)=false:=rfl
 have z10:((0:Int) != 1)=true:=rfl
 have zr0:Ek .rem (.int .i64 0) (.int .i64 2) = .ret (.int .i64 0):=rfl
 have zm0:((0:Int) != 0)=false:=rfl
 have zm1:((1:Int)-1)=0:=rfl
 have shape:∀(R:List Nat) (r:Nat),Bp (R++[r])=Bp R++[(r:Int)]/\(Bp R).length=R.length/\(Bp R++[(r:Int)])[R.length]? = some (r:Int)/\(Bp R++[(r:Int)]).set R.length ((r:Int)+1)=Bp R++[(r:Int)+1]/\((R.length:Int)+1-1)=R.length/\(R.length<R.length+1)=True/\Bp (R++[r+1])=Bp R++[(r:Int)+1]:=fun R r=>by
  have eRl:(Bp R).length=R.length:=by simp [Bp]
  exact ⟨by simp [Bp],eRl,by rw [List.getElem?_append_right (by omega)]; simp [eRl],by rw [List.set_append_right _ _ (by omega)]; simp [eRl],by omega,eq_true (by omega),by simp [Bp]⟩
 by_cases hlt:u<v
 ·rw [if_pos hlt] at hsub
  have hg0:((u:Int)-v<0)=True:=eq_true (by omega)
  have hT':=hT.left hlt
  obtain ⟨hne,R,r,ho1,ho2,ho3,ho4,ho5⟩:=fin 1 _ rfl
  rw [ho2] at hsub
  obtain ⟨eL0,eRl,hget,hset,hsub2,hlt1,eL⟩:=shape R r
  have hsub':=hsub
  clear hsub
  have hsub:=hsub2
  cases out with
  | nil =>
   rw [Ov,if_pos (by omega)] at ho1
   simp (disch:=first | assumption | omega) only [go_sem,↓reduceIte,f1,f3,f4,f5,f6,hh1,hh3,hh4,hh5,cs_g,hb,hg0,z00,z01,z10,zr0,zm0,zm1,hO.lenA,Bp]
   refine Fm (a:=0) (by first | with_reducible rfl | (simp only [Be,List.length_append,List.length_replicate]; done) | (simp only [Be,List.length_append,List.length_replicate]; omega)) hO hl (by simp [Bp]) fun x' h' hO' hF hL _ _ => ?_
   simp (disch:=first | assumption | omega) only [go_sem,↓reduceIte,f1,f3,f4,f5,f6,hh1,hh3,hh4,hh5,cs_g,hb,hg0,z00,z01,z10,zr0,zm0,zm1,hO'.lenA,Bp]
   refine Fm (a:=0) (by first | with_reducible rfl | (simp only [Be,List.length_append,List.length_replicate]; done) | (simp only [Be,List.length_append,List.length_replicate]; omega)) hO' (Nat.le_trans hl hL) (by simp [Bp]) fun x2 h2 hO2 hF2 hL2 _ _ => ?_
   have g1:=(hF2 1 (by omega)).trans ((hF 1 (by omega)).trans hh1)
   have g3:=(hF2 3 (by omega)).trans ((hF 3 (by omega)).trans hh3)
   have g4:=(hF2 4 (by omega)).trans ((hF 4 (by omega)).trans hh4)
   have g5:=(hF2 5 (by omega)).trans ((hF 5 (by omega)).trans hh5)
   have hO3:Own 58 h2 x2 .i64 (Bp R++[(r:Int)]):=by rw [<-eL0,<-ho1]; exact hO2
   rcases hO3 with ⟨h0,_⟩ | ⟨key,ver,hkey,rfl,hH⟩
   ·simp at h0
   have k1:(key=1)=False:=eq_false (by omega)
   have k3:(key=3)=False:=eq_false (by omega)
   have k4:(key=4)=False:=eq_false (by omega)
   have k5:(key=5)=False:=eq_false (by omega)
   have k1':(1=key)=False:=eq_false (by omega)
   have k3':(3=key)=False:=eq_false (by omega)
   have k4':(4=key)=False:=eq_false (by omega)
   have k5':(5=key)=False:=eq_false (by omega)
   simp (disch:=first | assumption | omega) only [go_sem,↓reduceIte,f1,f3,f4,f5,f6,g1,g3,g4,g5,hH,eRl,hget,hset,hsub,hlt1,Gf,z01,z10,k1,k3,k4,k5,k1',k3',k4',k5',beq_self_eq_true]
   refine hP (u+(v-u)) _ (by omega) ⟨u,v-u,k,a,b,a+c,b+d,R++[r+1],.oslice key ver none 0 (R.length+1) none,v1,v3,v4,v5,rfl,by omega,by omega,hsub',hT',by simp only [List.length_append,List.length_singleton]; omega,fun n hn=>by have:=ho5 n hn; omega,by simp only [go_sem,↓reduceIte,f1,f3,f4,f5,f6,eRl],by simp only [go_sem,↓reduceIte,g1,k1,k1'],by simp only [go_sem,↓reduceIte,g3,k3,k3'],by simp only [go_sem,↓reduceIte,g4,k4,k4'],by simp only [go_sem,↓reduceIte],.inr ⟨key,ver,hkey,by simp [Bp],by simp only [go_sem,↓reduceIte,k4',k5',k3',eL]⟩,by simp only [Be]; omega⟩
  | cons y out =>
   have hsub3:((out.length:Int)+1-1)=out.length:=by omega
   have hlen0:((out.length:Int)+1==0)=false:=by simp; omega
   have hlL:(Bp (y::out)).length=out.length+1:=by simp [Bp]
   rw [Mz] at ho1
   by_cases hpar:out.length%2=1
   ·have hp':(((out.length%2:Nat):Int) != 1)=false:=by rw [hpar]; rfl
    rw [if_neg (by omega)] at ho1
    simp (disch:=first | assumption | omega) only [go_sem,↓reduceIte,f1,f3,f4,f5,f6,hh1,hh3,hh4,hh5,cs_g,hb,hg0,z00,z01,z10,zr0,zm0,zm1,hO.lenA,hlL,hsub3,hlen0,Rh,hp']
    have g1:=hh1
    have g3:=hh3
    have g4:=hh4
    have g5:=hh5
    have hRo:R.length=out.length:=by have:=congrArg List.length ho1; simp at this; omega
    have hO3:Own 58 h w .i64 (Bp R++[(r:Int)]):=by rw [<-eL0,<-ho1]; exact hO
    have hget0:=hget
    have hset0:=hset
    have hlt0:=hlt1
    rw [hRo] at hget0 hset0 hlt0
    rcases hO3 with ⟨h0,_⟩ | ⟨key,ver,hkey,rfl,hH⟩
    ·simp at h0
    have k1:(key=1)=False:=eq_false (by omega)
    have k3:(key=3)=False:=eq_false (by omega)
    have k4:(key=4)=False:=eq_false (by omega)
    have k5:(key=5)=False:=eq_false (by omega)
    have k1':(1=key)=False:=eq_false (by omega)
    have k3':(3=key)=False:=eq_false (by omega)
    have k4':(4=key)=False:=eq_false (by omega)
    have k5':(5=key)=False:=eq_false (by omega)
    simp (disch:=first | assumption | omega) only [go_sem,↓reduceIte,f1,f3,f4,f5,f6,g1,g3,g4,g5,hH,eRl,hget,hset,hsub,hlt1,hget0,hset0,hlt0,hsub3,hRo,Gf,z01,z10,k1,k3,k4,k5,k1',k3',k4',k5',beq_self_eq_true]
    refine hP (u+(v-u)) _ (by omega) ⟨u,v-u,k,a,b,a+c,b+d,R++[r+1],.oslice key ver none 0 (R.length+1) none,v1,v3,v4,v5,rfl,by omega,by omega,hsub',hT',by simp only [List.length_append,List.length_singleton]; omega,fun n hn=>by have:=ho5 n hn; omega,by simp only [go_sem,↓reduceIte,f1,f3,f4,f5,f6,eRl],by simp only [go_sem,↓reduceIte,g1,k1,k1'],by simp only [go_sem,↓reduceIte,g3,k3,k3'],by simp only [go_sem,↓reduceIte,g4,k4,k4'],by simp only [go_sem,↓reduceIte],.inr ⟨key,ver,hkey,by simp [Bp],by simp only [go_sem,↓reduceIte,k4',k5',k3',eL]⟩,by simp only [Be]; omega⟩
   ·have hp':(((out.length%2:Nat):Int) != 1)=true:=by simp; omega
    rw [if_pos (by omega)] at ho1
    simp (disch:=first | assumption | omega) only [go_sem,↓reduceIte,f1,f3,f4,f5,f6,hh1,hh3,hh4,hh5,cs_g,hb,hg0,z00,z01,z10,zr0,zm0,zm1,hO.lenA,hlL,hsub3,hlen0,Rh,hp']
    refine Fm (a:=0) (by first | with_reducible rfl | (simp only [Be,List.length_append,List.length_replicate]; done) | (simp only [Be,List.length_append,List.length_replicate]; omega)) hO hl (by rw [hlL]; simp only [List.length_cons] at hlen; omega) fun x' h' hO' hF hL _ _ => ?_
    have g1:=(hF 1 (by omega)).trans hh1
    have g3:=(hF 3 (by omega)).trans hh3
    have g4:=(hF 4 (by omega)).trans hh4
    have g5:=(hF 5 (by omega)).trans hh5
    have hO3:Own 58 h' x' .i64 (Bp R++[(r:Int)]):=by
     rw [<-eL0,<-ho1]
     simpa [Bp] using hO'
    rcases hO3 with ⟨h0,_⟩ | ⟨key,ver,hkey,rfl,hH⟩
    ·simp at h0
    have k1:(key=1)=False:=eq_false (by omega)
    have k3:(key=3)=False:=eq_false (by omega)
    have k4:(key=4)=False:=eq_false (by omega)
    have k5:(key=5)=False:=eq_false (by omega)
    have k1':(1=key)=False:=eq_false (by omega)
    have k3':(3=key)=False:=eq_false (by omega)
    have k4':(4=key)=False:=eq_false (by omega)
    have k5':(5=key)=False:=eq_false (by omega)
    simp (disch:=first | assumption | omega) only [go_sem,↓reduceIte,f1,f3,f4,f5,f6,g1,g3,g4,g5,hH,eRl,hget,hset,hsub,hlt1,Gf,z01,z10,k1,k3,k4,k5,k1',k3',k4',k5',beq_self_eq_true]
    refine hP (u+(v-u)) _ (by omega) ⟨u,v-u,k,a,b,a+c,b+d,R++[r+1],.oslice key ver none 0 (R.length+1) none,v1,v3,v4,v5,rfl,by omega,by omega,hsub',hT',by simp only [List.length_append,List.length_singleton]; omega,fun n hn=>by have:=ho5 n hn; omega,by simp only [go_sem,↓reduceIte,f1,f3,f4,f5,f6,eRl],by simp only [go_sem,↓reduceIte,g1,k1,k1'],by simp only [go_sem,↓reduceIte,g3,k3,k3'],by simp only [go_sem,↓reduceIte,g4,k4,k4'],by simp only [go_sem,↓reduceIte],.inr ⟨key,ver,hkey,by simp [Bp],by simp only [go_sem,↓reduceIte,k4',k5',k3',eL]⟩,by simp only [Be]; omega⟩
 ·rw [if_neg hlt] at hsub
  have hg0:((u:Int)-v<0)=False:=eq_false (by omega)
  have hT':=hT.right (by omega)
  obtain ⟨hne,R,r,ho1,ho2,ho3,ho4,ho5⟩:=fin 0 _ rfl
  rw [ho2] at hsub
  obtain ⟨eL0,eRl,hget,hset,hsub2,hlt1,eL⟩:=shape R r
  have hsub':=hsub
  clear hsub
  have hsub:=hsub2
  cases out with
  | nil =>
   rw [Ov,if_neg (by omega)] at ho1
   simp (disch:=first | assumption | omega) only [go_sem,↓reduceIte,f1,f3,f4,f5,f6,hh1,hh3,hh4,hh5,cs_g,hb,hg0,z00,z01,z10,zr0,zm0,zm1,hO.lenA,Bp]
   refine Fm (a:=0) (by first | with_reducible rfl | (simp only [Be,List.length_append,List.length_replicate]; done) | (simp only [Be,List.length_append,List.length_replicate]; omega)) hO hl (by simp [Bp]) fun x' h' hO' hF hL _ _ => ?_
   simp (disch:=first | assumption | omega) only [go_sem,↓reduceIte,f1,f3,f4,f5,f6,hh1,hh3,hh4,hh5,cs_g,hb,hg0,z00,z01,z10,zr0,zm0,zm1,hO'.lenA,Bp]
   have g1:=(hF 1 (by omega)).trans hh1
   have g3:=(hF 3 (by omega)).trans hh3
   have g4:=(hF 4 (by omega)).trans hh4
   have g5:=(hF 5 (by omega)).trans hh5
   have hO3:Own 58 h' x' .i64 (Bp R++[(r:Int)]):=by rw [<-eL0,<-ho1]; exact hO'
   have hR:R.length=0:=by have:=congrArg List.length ho1; simp only [List.length_append,List.length_singleton] at this; omega
   have hget0:=hget
   have hset0:=hset
   have hlt0:=hlt1
   rw [hR] at hget0 hset0 hlt0
   have hlt00:(0<R.length+1)=True:=eq_true (by omega)
   rcases hO3 with ⟨h0,_⟩ | ⟨key,ver,hkey,rfl,hH⟩
   ·simp at h0
   have k1:(key=1)=False:=eq_false (by omega)
   have k3:(key=3)=False:=eq_false (by omega)
   have k4:(key=4)=False:=eq_false (by omega)
   have k5:(key=5)=False:=eq_false (by omega)
   have k1':(1=key)=False:=eq_false (by omega)
   have k3':(3=key)=False:=eq_false (by omega)
   have k4':(4=key)=False:=eq_false (by omega)
   have k5':(5=key)=False:=eq_false (by omega)
   simp (disch:=first | assumption | omega) only [go_sem,↓reduceIte,f1,f3,f4,f5,f6,g1,g3,g4,g5,hH,eRl,hget,hset,hsub,hlt1,hget0,hset0,hlt00,Gf,z01,z10,k1,k3,k4,k5,k1',k3',k4',k5',beq_self_eq_true]
   refine hP ((u-v)+v) _ (by omega) ⟨u-v,v,k,a+c,b+d,c,d,R++[r+1],.oslice key ver none 0 (R.length+1) none,v1,v3,v4,v5,rfl,by omega,by omega,hsub',hT',by simp only [List.length_append,List.length_singleton]; omega,fun n hn=>by have:=ho5 n hn; omega,by simp only [go_sem,↓reduceIte,f1,f3,f4,f5,f6,eRl],by simp only [go_sem,↓reduceIte,g1,k1,k1'],by simp only [go_sem,↓reduceIte,g3,k3,k3'],by simp only [go_sem,↓reduceIte,g4,k4,k4'],by simp only [go_sem,↓reduceIte],.inr ⟨key,ver,hkey,by simp [Bp],by simp only [go_sem,↓reduceIte,k4',k5',k3',eL]⟩,by simp only [Be]; omega⟩
  | cons y out =>
   have hsub3:((out.length:Int)+1-1)=out.length:=by omega
   have hlen0:((out.length:Int)+1==0)=false:=by simp; omega
   have hlL:(Bp (y::out)).length=out.length+1:=by simp [Bp]
   rw [Mz] at ho1
   by_cases hpar:out.length%2=0
   ·have hp':(((out.length%2:Nat):Int) != 0)=false:=by rw [hpar]; rfl
    rw [if_neg (by omega)] at ho1
    simp (disch:=first | assumption | omega) only [go_sem,↓reduceIte,f1,f3,f4,f5,f6,hh1,hh3,hh4,hh5,cs_g,hb,hg0,z00,z01,z10,zr0,zm0,zm1,hO.lenA,hlL,hsub3,hlen0,Rh,hp']
    have g1:=hh1
    have g3:=hh3
    have g4:=hh4
    have g5:=hh5
    have hRo:R.length=out.length:=by have:=congrArg List.length ho1; simp at this; omega
    have hO3:Own 58 h w .i64 (Bp R++[(r:Int)]):=by rw [<-eL0,<-ho1]; exact hO
    have hget0:=hget
    have hset0:=hset
    have hlt0:=hlt1
    rw [hRo] at hget0 hset0 hlt0
    rcases hO3 with ⟨h0,_⟩ | ⟨key,ver,hkey,rfl,hH⟩
    ·simp at h0
    have k1:(key=1)=False:=eq_false (by omega)
    have k3:(key=3)=False:=eq_false (by omega)
    have k4:(key=4)=False:=eq_false (by omega)
    have k5:(key=5)=False:=eq_false (by omega)
    have k1':(1=key)=False:=eq_false (by omega)
    have k3':(3=key)=False:=eq_false (by omega)
    have k4':(4=key)=False:=eq_false (by omega)
    have k5':(5=key)=False:=eq_false (by omega)
    simp (disch:=first | assumption | omega) only [go_sem,↓reduceIte,f1,f3,f4,f5,f6,g1,g3,g4,g5,hH,eRl,hget,hset,hsub,hlt1,hget0,hset0,hlt0,hsub3,hRo,Gf,z01,z10,k1,k3,k4,k5,k1',k3',k4',k5',beq_self_eq_true]
    refine hP ((u-v)+v) _ (by omega) ⟨u-v,v,k,a+c,b+d,c,d,R++[r+1],.oslice key ver none 0 (R.length+1) none,v1,v3,v4,v5,rfl,by omega,by omega,hsub',hT',by simp only [List.length_append,List.length_singleton]; omega,fun n hn=>by have:=ho5 n hn; omega,by simp only [go_sem,↓reduceIte,f1,f3,f4,f5,f6,eRl],by simp only [go_sem,↓reduceIte,g1,k1,k1'],by simp only [go_sem,↓reduceIte,g3,k3,k3'],by simp only [go_sem,↓reduceIte,g4,k4,k4'],by simp only [go_sem,↓reduceIte],.inr ⟨key,ver,hkey,by simp [Bp],by simp only [go_sem,↓reduceIte,k4',k5',k3',eL]⟩,by simp only [Be]; omega⟩
   ·have hp':(((out.length%2:Nat):Int) != 0)=true:=by simp; omega
    rw [if_pos (by omega)] at ho1
    simp (disch:=first | assumption | omega) only [go_sem,↓reduceIte,f1,f3,f4,f5,f6,hh1,hh3,hh4,hh5,cs_g,hb,hg0,z00,z01,z10,zr0,zm0,zm1,hO.lenA,hlL,hsub3,hlen0,Rh,hp']
    refine Fm (a:=0) (by first | with_reducible rfl | (simp only [Be,List.length_append,List.length_replicate]; done) | (simp only [Be,List.length_append,List.length_replicate]; omega)) hO hl (by rw [hlL]; simp only [List.length_cons] at hlen; omega) fun x' h' hO' hF hL _ _ => ?_
    have g1:=(hF 1 (by omega)).trans hh1
    have g3:=(hF 3 (by omega)).trans hh3
    have g4:=(hF 4 (by omega)).trans hh4
    have g5:=(hF 5 (by omega)).trans hh5
    have hO3:Own 58 h' x' .i64 (Bp R++[(r:Int)]):=by
     rw [<-eL0,<-ho1]
     simpa [Bp] using hO'
    rcases hO3 with ⟨h0,_⟩ | ⟨key,ver,hkey,rfl,hH⟩
    ·simp at h0
    have k1:(key=1)=False:=eq_false (by omega)
    have k3:(key=3)=False:=eq_false (by omega)
    have k4:(key=4)=False:=eq_false (by omega)
    have k5:(key=5)=False:=eq_false (by omega)
    have k1':(1=key)=False:=eq_false (by omega)
    have k3':(3=key)=False:=eq_false (by omega)
    have k4':(4=key)=False:=eq_false (by omega)
    have k5':(5=key)=False:=eq_false (by omega)
    simp (disch:=first | assumption | omega) only [go_sem,↓reduceIte,f1,f3,f4,f5,f6,g1,g3,g4,g5,hH,eRl,hget,hset,hsub,hlt1,Gf,z01,z10,k1,k3,k4,k5,k1',k3',k4',k5',beq_self_eq_true]
    refine hP ((u-v)+v) _ (by omega) ⟨u-v,v,k,a+c,b+d,c,d,R++[r+1],.oslice key ver none 0 (R.length+1) none,v1,v3,v4,v5,rfl,by omega,by omega,hsub',hT',by simp only [List.length_append,List.length_singleton]; omega,fun n hn=>by have:=ho5 n hn; omega,by simp only [go_sem,↓reduceIte,f1,f3,f4,f5,f6,eRl],by simp only [go_sem,↓reduceIte,g1,k1,k1'],by simp only [go_sem,↓reduceIte,g3,k3,k3'],by simp only [go_sem,↓reduceIte,g4,k4,k4'],by simp only [go_sem,↓reduceIte],.inr ⟨key,ver,hkey,by simp [Bp],by simp only [go_sem,↓reduceIte,k4',k5',k3',eL]⟩,by simp only [Be]; omega⟩
end Go.Ev.YtbgodhhdojjbmaaGreatC.P1
namespace Go.Ev.YtbgodhhdojjbmaaGreatC.P1
open Go.Ev
open Go Go.Proofs
def pth (x:Frac):List Int×Int:=if He x≠0 then ([],He x) else (Bp (En x.num.toNat x.den.toNat),0)
theorem Nh (L:List Nat):(Bp L).length=L.length:=by simp [Bp]
attribute [local irreducible] Res.all evC Dg Di Bq Bg Do Bf Bj G GO GV GP GC R
theorem Afh:Con T 1 82 [] (.agg [.int .i64 0,.int .i64 1,.int .i64 1,.int .i64 0]):=by
 refine Bs t82 fun n hn V hV => ?_
 simp (disch:=first | assumption | omega) only [c82,go_sem,↓reduceIte]
 exact hV _ _ (by repeat (first | exact De _ _ | exact Bk _ _ _ _ | exact Dk _ _ _ | exact Dn _ _ _ _ _ | exact Du _ _ _ _ | exact Eh _ _ | refine Br ?_ ?_ | refine Ec ?_ | refine Ed ?_ ?_ | refine Eq ?_ ?_ ?_))
theorem Aiq {n base:Nat} {Q:EX×St->Prop} {d:Option Nat} {L:List IOper} {ks:List Kont} {e:Env} {h:Bc} (hn:1<=n):GP (Bf T n) base Q d L ks e (Bf T n false (.fn 82) [] h)=GO (Bf T n) base Q L ks ⟨Bl e d (.agg [.int .i64 0,.int .i64 1,.int .i64 1,.int .i64 0]),h⟩:=
 Eu Afh hn (Bz _) rfl
theorem A1x (k:IntKind):Dv (.int k 3)=some 3:=rfl
theorem Mx (k:IntKind) (a b:Int):Lf k a [.int k b] = .ret (.int k (mn a b)):=by simp [Lf,mn]
def Jd:Frac:=⟨0,0⟩
theorem Aif (x:Frac):Con T 10004 7 [rAV x] (.tuple [Ey (pth x).1,.int .i64 (pth x).2]):=by
 refine Bs t7 fun n hn V hV => ?_
 have nf:(¬False)=True:=not_false_eq_true
 unfold pth at hV
 by_cases hc:He x=0
 ·have hx:=(Qd x).1 hc
  have g1:=hx.n1
  have g2:=hx.n2
  have g3:=hx.d1
  have g4:=hx.d2
  obtain ⟨u,hu⟩:=Int.eq_ofNat_of_zero_le (show 0<=x.num by omega)
  obtain ⟨v,hv⟩:=Int.eq_ofNat_of_zero_le (show 0<=x.den by omega)
  have e1:x.num.toNat=u:=by omega
  have e2:x.den.toNat=v:=by omega
  rw [if_neg (by omega),e1,e2] at hV
  have hcon:=Aik u v (by omega) (by omega) (by omega) (by omega)
  have hlen:=Rc (u:=u) (v:=v) (by omega)
  have hL:=Nh (En u v)
  have hroom:Fp (En u v).length 8=true:=Mh (by omega)
  have hfork:Xm x=Xm ⟨(u:Int),(v:Int)⟩:=by
   show AV.ptr [.int .i64 x.num,.int .i64 x.den] 0=AV.ptr [.int .i64 (u:Int),.int .i64 (v:Int)] 0
   rw [hu,hv]
  simp (disch:=first | assumption | omega) only [c7,go_sem,↓reduceIte,List.range_succ,List.range_zero,Nat.zero_mul,Nat.one_mul,A5z,hc,bne_self_eq_false]
  rw [hfork]
  refine Dl hcon (by omega) (Dc (Du _ _ _ _) (Bz _)) rfl ?_
  simp (disch:=first | assumption | omega) only [go_sem,↓reduceIte,hL,hroom]
  rw [Aow,hL]
  refine Acs (cs:=(List.replicate (En u v).length [AV.int .i64 0]).flatten) (by simp only [go_sem,↓reduceIte]) (by simp) hL fun w h' g1 g2 g3 => ?_
  simp (disch:=first | assumption | omega) only [go_sem,↓reduceIte]
  refine hV _ _ ?_
  exact Ed (Nv g1 hL.symm) (Bk _ _ _ _)
 ·have hc':(He x != 0)=true:=by simp [hc]
  rw [if_pos hc] at hV
  simp (disch:=first | assumption | omega) only [c7,go_sem,↓reduceIte,List.range_succ,List.range_zero,Nat.zero_mul,Nat.one_mul,A5z,hc']
  exact hV _ _ (by repeat (first | exact De _ _ | exact Bk _ _ _ _ | exact Dk _ _ _ | exact Dn _ _ _ _ _ | exact Du _ _ _ _ | exact Eh _ _ | refine Br ?_ ?_ | refine Ec ?_ | refine Ed ?_ ?_ | refine Eq ?_ ?_ ?_))
section
variable {n base:Nat} {Q:EX×St->Prop} {d:Option Nat} {L:List IOper} {ks:List Kont} {e:Env} {h:Bc}
theorem Si {call:Bo} {x:IX} {m k ver:Nat} {cs:List AV} (hx:x.ev e = .optr k ver 0) (hH:Bb h k = .cells ver cs) (hl:cs.length=m)
  (H:GO call base Q L ks ⟨Bl e d (.oslice k ver none 0 m (some m)),h⟩):GO call base Q (⟨d,.sliceA none m x none none none,none⟩::L) ks ⟨e,h⟩:=by
 rw [Dp]
 simp only [Bg,hx,hH,Bh,Nat.mul_one,Nat.zero_add,hl]
 rw [if_pos ⟨trivial,Nat.le_refl _⟩]
 simp only [sliceB,Res.bind,Fd]
 exact H
end
def Ni:Int->List Int->Int
 | a,[]=>a
 | a,b::r=>Ni (if b>a then b else a) r
theorem Aal (x:Int) (xs:List Int) (hl:xs.length<=1000):Con T 1 83 [Ey (x::xs)] (.int .i64 (Ni x xs)):=by
 refine Bs t83 fun n hn V hV => ?_
 have hx0:(x::xs)[0]? = some x:=rfl
 have hlen:(x::xs).length=xs.length+1:=rfl
 have hlt1:(((x::xs).length:Int)<1)=False:=eq_false (by rw [hlen]; omega)
 have hdrop:∀k:Nat,(x::xs).drop (k+1)=xs.drop k:=fun k=>rfl
 obtain ⟨ys,hys⟩:∃ys,ys=x::xs:=⟨_,rfl⟩
 rw [<-hys] at hx0 hlen hlt1 hdrop ⊢
 simp (disch:=first | assumption | omega) only [c83,go_sem,↓reduceIte,hlt1,hx0]
 refine Dd (fun M st=>∃(k:Nat) (a:Int),M=xs.length-k/\k<=xs.length/\At st.env [(0,Ey ys),(3,.int .i64 a),(4,.int .i64 ((k:Int)+1))]/\Ni a (xs.drop k)=Ni x xs) xs.length (by omega) ⟨0,x,by omega,by omega,by simp only [go_sem,↓reduceIte],rfl⟩ ?_
 rintro M e h hM ⟨k,a,rfl,hk,hE,hA⟩ P hP
 simp only [Bt,By] at hE
 obtain ⟨f0,f3,f4,-⟩:=hE
 by_cases hlt:k<xs.length
 ·obtain ⟨y,hy⟩:=Fl hlt
  rw [Fv hy,Ni] at hA
  have hy':ys[k+1]? = some y:=by rw [hys]; exact hy
  have hlt':decide ((k:Int)+1<(ys.length:Int))=true:=decide_eq_true (by rw [hlen]; omega)
  simp (disch:=first | assumption | omega) only [go_sem,↓reduceIte,f0,f3,f4,hlt',hy']
  exact hP (xs.length-(k+1)) _ (by omega) ⟨k+1,_,rfl,by omega,by simp only [go_sem,↓reduceIte,f0],hA⟩
 ·have hlt':decide ((k:Int)+1<(ys.length:Int))=false:=decide_eq_false (by rw [hlen]; omega)
  rw [List.drop_eq_nil_of_le (by omega),Ni] at hA
  simp (disch:=first | assumption | omega) only [go_sem,↓reduceIte,f0,f3,f4,hlt']
  exact hV _ _ (by rw [hA]; exact (by repeat (first | exact De _ _ | exact Bk _ _ _ _ | exact Dk _ _ _ | exact Dn _ _ _ _ _ | exact Du _ _ _ _ | exact Eh _ _ | refine Br ?_ ?_ | refine Ec ?_ | refine Ed ?_ ?_ | refine Eq ?_ ?_ ?_)))
theorem Amk (a b c d:Int):Ni a [b,c,d]>10000↔a>10000\/b>10000\/c>10000\/d>10000:=by
 simp only [Ni]
 repeat' split
 all_goals omega
def Gq (L:List Int):Prop:=(Dt 0 L wholeB).sum.num<=10000/\(Dt 0 L wholeB).sum.den<=10000
instance (L:List Int):Decidable (Gq L):=by unfold Gq; infer_instance
theorem Aej (L:List Int) {k:Nat} {y:Int} (hy:L[k]? = some y):Dt 0 (L.take (k+1)) wholeB=(Dt 0 (L.take k) wholeB).mv (k%2==1) y:=by
 have hk:k<L.length:=(List.getElem?_eq_some_iff.1 hy).1
 rw [List.take_add_one,hy,Option.toList_some,Qb]
 simp only [Dt,Nat.zero_add,List.length_take,Nat.min_eq_left (Nat.le_of_lt hk)]
theorem A1q (L:List Int) (k:Nat) (h:∀n∈L,0<=n):(Dt 0 (L.take k) wholeB).LE (Dt 0 L wholeB)/\(Dt 0 (L.take k) wholeB).NN/\(Dt 0 L wholeB).NN:=by
 have h1:=Uh (L.take k) 0 wholeB Qq fun n hn=>h n (List.mem_of_mem_take hn)
 have h2:=Uh (L.drop k) (0+(L.take k).length) (Dt 0 (L.take k) wholeB) h1.2 fun n hn=>h n (List.mem_of_mem_drop hn)
 rw [<-Qb,List.take_append_drop] at h2
 exact ⟨h2.1,h1.2,h2.2⟩
def Lm (s:Bd):Prop:=s.a<=10000/\s.b<=10000/\s.c<=10000/\s.d<=10000
open Classical in
noncomputable def Nt (L:List Int):Frac:=if ∀k,k<=L.length->Lm (Dt 0 (L.take k) wholeB) then (Dt 0 L wholeB).sum else Jd
theorem A0r {L:List Int} (h:∀n∈L,0<=n) (hf:Gq L) (k:Nat):Lm (Dt 0 (L.take k) wholeB):=by
 obtain ⟨h1,h2,h3⟩:=A1q L k h
 obtain ⟨a,b,c,d⟩:=h1
 obtain ⟨a0,b0,c0,d0⟩:=h3
 obtain ⟨f1,f2⟩:=hf
 simp only [Bd.sum] at f1 f2
 exact ⟨by omega,by omega,by omega,by omega⟩
theorem A1r {L:List Int} (h:∀n∈L,0<=n) (hf:Gq L):Nt L=(Dt 0 L wholeB).sum:=by
 unfold Nt
 rw [if_pos fun k _=>A0r h hf k]
theorem Aae (L:List Int) (j:Nat) (hj:j<=0):Lm (Dt 0 (L.take j) wholeB):=by
 obtain rfl:j=0:=by omega
 simp [Dt,wholeB,Lm]
abbrev bAV (s:Bd):List AV:=[.int .i64 s.a,.int .i64 s.b,.int .i64 s.c,.int .i64 s.d]
set_option maxHeartbeats 1000000 in
theorem Aim (L:List Int) (hl:L.length<=40) (hL:∀n∈L,0<=n/\n<=10000):Con T 5 36 [Ey L] (.tuple [rAV (Nt L),.bool (decide (Gq L))]):=by
 refine Bs t36 fun n hn V hV => ?_
 have nf:(¬False)=True:=not_false_eq_true
 have hL0:∀n∈L,0<=n:=fun n hn=>(hL n hn).1
 replace hV:∀(F:Frac) (b:Bool) h,F=Nt L->b=decide (Gq L)->V (.tuple [.agg [.int .i64 F.num,.int .i64 F.den],.bool b],h):=fun F b h e1 e2=>hV _ _ (by rw [e1,e2]; exact (by repeat (first | exact De _ _ | exact Bk _ _ _ _ | exact Dk _ _ _ | exact Dn _ _ _ _ _ | exact Du _ _ _ _ | exact Eh _ _ | refine Br ?_ ?_ | refine Ec ?_ | refine Ed ?_ ?_ | refine Eq ?_ ?_ ?_)))
 simp (disch:=first | assumption | omega) only [c36,go_sem,↓reduceIte,Aiq]
 refine Dd (fun M st=>∃(k v2 v4:Nat) (s:Bd),M=L.length-k/\k<=L.length/\s=Dt 0 (L.take k) wholeB/\(∀j,j<=k->Lm (Dt 0 (L.take j) wholeB))/\At st.env [(2,.optr 2 v2 0),(3,.bool false),(4,.optr 4 v4 0),(9,Ey L),(10,.int .i64 L.length),(11,.int .i64 k)]/\Bb st.heap 2 = .cells v2 [.int .i64 0,.int .i64 0]/\Bb st.heap 4 = .cells v4 (bAV s)) L.length (by omega)
  ⟨0,0,0,wholeB,by omega,by omega,rfl,Aae L,by simp only [go_sem,↓reduceIte],by simp only [go_sem,↓reduceIte],by simp only [go_sem,↓reduceIte,wholeB]⟩ ?_
 rintro M e h hM ⟨k,v2,v4,s,rfl,hk,hs,hsm,hE,hh2,hh4⟩ P hP
 simp only [Bt,By] at hE hh2 hh4
 obtain ⟨f2,f3,f4,f9,f10,f11,-⟩:=hE
 obtain ⟨hle,hnn,hnn2⟩:=A1q L k hL0
 rw [<-hs] at hle hnn
 have hsk:=hsm k (Nat.le_refl _)
 rw [<-hs] at hsk
 obtain ⟨a0,b0,c0,d0⟩:=hnn
 obtain ⟨a1,b1,c1,d1⟩:=hsk
 by_cases hlt:k<L.length
 ·obtain ⟨y,hy⟩:=Fl hlt
  obtain ⟨y0,y1⟩:=hL y (List.mem_of_getElem? hy)
  have hnx:=Aej L hy
  rw [<-hs] at hnx
  have p1:=Xz (u:=y) (U:=10000) (v:=s.a) (V:=10000) y0 y1 a0 a1
  have p2:=Xz (u:=y) (U:=10000) (v:=s.b) (V:=10000) y0 y1 b0 b1
  have p3:=Xz (u:=y) (U:=10000) (v:=s.c) (V:=10000) y0 y1 c0 c1
  have p4:=Xz (u:=y) (U:=10000) (v:=s.d) (V:=10000) y0 y1 d0 d1
  have main:∀s':Bd,s'=Dt 0 (L.take (k+1)) wholeB->((Ni s'.a [s'.b,s'.c,s'.d]>10000/\Nt L=Jd/\¬Gq L)\/(¬Ni s'.a [s'.b,s'.c,s'.d]>10000/\∀j,j<=k+1->Lm (Dt 0 (L.take j) wholeB))):=fun s' hs'=>by
   by_cases hm:Ni s'.a [s'.b,s'.c,s'.d]>10000
   ·have hns:¬Lm (Dt 0 (L.take (k+1)) wholeB):=by
     rw [<-hs']
     have:=(Amk _ _ _ _).1 hm
     unfold Lm
     omega
    refine .inl ⟨hm,?_,fun hf=>hns (A0r hL0 hf _)⟩
    unfold Nt
    rw [if_neg fun h=>hns (h (k+1) hlt)]
   ·refine .inr ⟨hm,fun j hj => ?_⟩
    by_cases hj':j<=k
    ·exact hsm j hj'
    ·obtain rfl:j=k+1:=by omega
     rw [<-hs']
     have:=mt (Amk _ _ _ _).2 hm
     unfold Lm
     omega
  by_cases hpar:k%2=0
  ·have hp:(((k%2:Nat):Int)==0)=true:=by rw [hpar]; rfl
   have hmv:(⟨s.a+y*s.c,s.b+y*s.d,s.c,s.d⟩:Bd)=Dt 0 (L.take (k+1)) wholeB:=by rw [hnx,hpar]; simp [Bd.mv]
   have hmn:=main _ hmv
   simp only at hmn
   simp (disch:=first | assumption | omega) only [go_sem,↓reduceIte,f2,f3,f4,f9,f10,f11,hlt,hy,Rh,hp,hh2,hh4,A1x]
   refine Si (k:=4) (ver:=v4) (cs:=[.int .i64 (s.a+y*s.c),.int .i64 (s.b+y*s.d),.int .i64 s.c,.int .i64 s.d]) (by simp only [go_sem,↓reduceIte,f4]) (by simp only [go_sem,↓reduceIte]) rfl ?_
   simp (disch:=first | assumption | omega) only [go_sem,↓reduceIte]
   refine Dl (Aal (s.a+y*s.c) [s.b+y*s.d,s.c,s.d] (by simp)) (by omega) (Dc (Nv (l:=[s.a+y*s.c,s.b+y*s.d,s.c,s.d]) (by simp only [go_sem,↓reduceIte]) rfl) (Bz _)) (Es _ _ _) ?_
   rcases hmn with ⟨m1,m2,m3⟩ | ⟨m1,m2⟩
   ·simp (disch:=first | assumption | omega) only [go_sem,↓reduceIte,f2,f3,f4,f9,f10,f11,hh2,m1,Hy,Gz,nf]
    exact hV Jd _ _ m2.symm (decide_eq_false m3).symm
   ·simp (disch:=first | assumption | omega) only [go_sem,↓reduceIte,f2,f3,f4,f9,f10,f11,hh2,m1]
    exact hP (L.length-(k+1)) _ (by omega) ⟨k+1,v2,v4,_,rfl,by omega,hmv,m2,by simp only [go_sem,↓reduceIte,f2,f3,f4,f9,f10],by simp only [go_sem,↓reduceIte,hh2],by simp only [go_sem,↓reduceIte]⟩
  ·have hpar1:k%2=1:=by omega
   have hp:(((k%2:Nat):Int)==0)=false:=by rw [hpar1]; rfl
   have hmv:(⟨s.a,s.b,s.c+y*s.a,s.d+y*s.b⟩:Bd)=Dt 0 (L.take (k+1)) wholeB:=by rw [hnx,hpar1]; simp [Bd.mv]
   have hmn:=main _ hmv
   simp only at hmn
   simp (disch:=first | assumption | omega) only [go_sem,↓reduceIte,f2,f3,f4,f9,f10,f11,hlt,hy,Rh,hp,hh2,hh4,A1x]
   refine Si (k:=4) (ver:=v4) (cs:=[.int .i64 s.a,.int .i64 s.b,.int .i64 (s.c+y*s.a),.int .i64 (s.d+y*s.b)]) (by simp only [go_sem,↓reduceIte,f4]) (by simp only [go_sem,↓reduceIte]) rfl ?_
   simp (disch:=first | assumption | omega) only [go_sem,↓reduceIte]
   refine Dl (Aal s.a [s.b,s.c+y*s.a,s.d+y*s.b] (by simp)) (by omega) (Dc (Nv (l:=[s.a,s.b,s.c+y*s.a,s.d+y*s.b]) (by simp only [go_sem,↓reduceIte]) rfl) (Bz _)) (Es _ _ _) ?_
   rcases hmn with ⟨m1,m2,m3⟩ | ⟨m1,m2⟩
   ·simp (disch:=first | assumption | omega) only [go_sem,↓reduceIte,f2,f3,f4,f9,f10,f11,hh2,m1,Hy,Gz,nf]
    exact hV Jd _ _ m2.symm (decide_eq_false m3).symm
   ·simp (disch:=first | assumption | omega) only [go_sem,↓reduceIte,f2,f3,f4,f9,f10,f11,hh2,m1]
    exact hP (L.length-(k+1)) _ (by omega) ⟨k+1,v2,v4,_,rfl,by omega,hmv,m2,by simp only [go_sem,↓reduceIte,f2,f3,f4,f9,f10],by simp only [go_sem,↓reduceIte,hh2],by simp only [go_sem,↓reduceIte]⟩
 ·have ht:L.take k=L:=List.take_of_length_le (by omega)
  rw [ht] at hs
  have hF:Nt L=s.sum:=by
   unfold Nt
   rw [if_pos fun j hj => ?_,<-hs]
   by_cases hj':j<=k
   ·exact hsm j hj'
   ·omega
  have hdet:s.det=1:=by rw [hs,Xf]; simp [Bd.det,wholeB]
  unfold Bd.det at hdet
  have hc1:1<=s.c:=by
   refine Classical.byContradiction fun hlt => ?_
   have e1:s.c=0:=by omega
   have:=Int.mul_nonneg a0 d0
   rw [e1,Int.zero_mul] at hdet
   omega
  have hb1:1<=s.b:=by
   refine Classical.byContradiction fun hlt => ?_
   have e1:s.b=0:=by omega
   have:=Int.mul_nonneg a0 d0
   rw [e1,Int.mul_zero] at hdet
   omega
  have hfit:(decide (1<=s.a+s.c)&&decide (s.a+s.c<=10000)&&(decide (1<=s.b+s.d)&&decide (s.b+s.d<=10000)))=decide (Gq L):=by
   have hiff:Gq L↔(s.a+s.c<=10000/\s.b+s.d<=10000):=by
    unfold Gq
    rw [<-hs]
    exact Iff.rfl
   rw [Bool.eq_iff_iff,decide_eq_true_iff,hiff]
   simp only [Bool.and_eq_true,decide_eq_true_eq]
   omega
  simp (disch:=first | assumption | omega) only [go_sem,↓reduceIte,f2,f3,f4,f9,f10,f11,hlt,hh2,hh4,A1x,Np,hfit,Hy,Gz,nf]
  exact hV s.sum _ _ hF.symm rfl
end Go.Ev.YtbgodhhdojjbmaaGreatC.P1
namespace Go.Ev.YtbgodhhdojjbmaaGreatC.P1
open Go.Ev
open Go Go.Proofs
def Lr (L:List Int):Prop:=(∃n∈L,n<0\/10000<n)\/0∈L.drop 1\/L=[0]
open Classical in
noncomputable def Rg (L:List Int):Int:=if 40<L.length then 6 else if Lr L then 3 else if Gq L then 0 else 4
open Classical in
noncomputable def wlk (L:List Int):Frac×Int:=(if Rg L=0 then (Dt 0 L wholeB).sum else Jd,Rg L)
theorem Ahw {L:List Int} (h:40<L.length):wlk L=(Jd,6):=by
 have e:Rg L=6:=by unfold Rg; rw [if_pos h]
 unfold wlk
 rw [e]
 rfl
theorem Zz {L:List Int} (h:L.length<=40) (hb:Lr L):wlk L=(Jd,3):=by
 have e:Rg L=3:=by unfold Rg; rw [if_neg (by omega),if_pos hb]
 unfold wlk
 rw [e]
 rfl
theorem A4r {L:List Int} (h:L.length<=40) (hb:¬Lr L) (hf:¬Gq L):wlk L=(Jd,4):=by
 have e:Rg L=4:=by unfold Rg; rw [if_neg (by omega),if_neg hb,if_neg hf]
 unfold wlk
 rw [e]
 rfl
theorem A2z {L:List Int} (h:L.length<=40) (hb:¬Lr L) (hf:Gq L):wlk L=((Dt 0 L wholeB).sum,0):=by
 have e:Rg L=0:=by unfold Rg; rw [if_neg (by omega),if_neg hb,if_pos hf]
 unfold wlk
 rw [e,if_pos rfl]
theorem Vu {L:List Int} (h:¬Lr L):∀n∈L,0<=n/\n<=10000:=fun n hn =>
 Classical.byContradiction fun hc=>h (.inl ⟨n,hn,by omega⟩)
attribute [local irreducible] Res.all evC Dg Di Bq Bg Do Bf Bj G GO GV GP GC R
theorem Afa (xs:List Int) (a:Int) (hl:xs.length<=1000):Con T 1 81 [Ey xs,.int .i64 a] (.int .i64 (Gi (fun x=>a==x) xs 0)):=by
 refine Bs t81 fun n hn V hV => ?_
 simp (disch:=first | assumption | omega) only [c81,go_sem,↓reduceIte]
 refine Dd (fun M st=>∃k:Nat,M=xs.length-k/\k<=xs.length/\At st.env [(0,Ey xs),(1,.int .i64 a),(7,.int .i64 xs.length),(8,.int .i64 k)]/\Gi (fun x=>a==x) xs 0=Gi (fun x=>a==x) (xs.drop k) k) xs.length (by omega) ⟨0,by simp,by omega,by simp only [go_sem,↓reduceIte],rfl⟩ ?_
 rintro M e h hM ⟨k,rfl,hk,hE,hA⟩ P hP
 simp only [Bt,By] at hE
 obtain ⟨f0,f1,f7,f8,-⟩:=hE
 by_cases hlt:k<xs.length
 ·obtain ⟨y,hy⟩:=Fl hlt
  rw [Fv hy,Gi] at hA
  by_cases hp:(a==y)=true
  ·simp (disch:=first | assumption | omega) only [go_sem,↓reduceIte,f0,f1,f7,f8,hlt,hy,hp]
   exact hV _ _ (by rw [Bk,hA,if_pos hp])
  ·have hp':(a==y)=false:=by simpa using hp
   simp (disch:=first | assumption | omega) only [go_sem,↓reduceIte,f0,f1,f7,f8,hlt,hy,hp']
   exact hP (xs.length-(k+1)) _ (by omega) ⟨k+1,rfl,by omega,by simp only [go_sem,↓reduceIte,f0,f1,f7],by rw [hA,if_neg hp]; rfl⟩
 ·simp (disch:=first | assumption | omega) only [go_sem,↓reduceIte,f0,f1,f7,f8,hlt]
  exact hV _ _ (by rw [Bk,hA,List.drop_eq_nil_of_le (by omega)]; rfl)
theorem A5x (xs:List Int) (a:Int) (hl:xs.length<=1000):Con T 2 35 [Ey xs,.int .i64 a] (.bool (decide (a∈xs))):=by
 refine Bs t35 fun n hn V hV => ?_
 simp (disch:=first | assumption | omega) only [c35,go_sem,↓reduceIte]
 refine Dl (Afa xs a hl) hn (by repeat (first | exact Bz _ | refine Dr _ _ _ _ ?_ | refine Dz _ _ _ ?_)) (Es _ _ _) ?_
 simp (disch:=first | assumption | omega) only [go_sem,↓reduceIte,Ly]
 refine hV _ _ ?_
 have e:xs.any (fun x=>a==x)=decide (a∈xs):=by
  rw [Bool.eq_iff_iff]
  simp
 rw [e]
 exact (by repeat (first | exact De _ _ | exact Bk _ _ _ _ | exact Dk _ _ _ | exact Dn _ _ _ _ _ | exact Du _ _ _ _ | exact Eh _ _ | refine Br ?_ ?_ | refine Ec ?_ | refine Ed ?_ ?_ | refine Eq ?_ ?_ ?_))
theorem Is {n base:Nat} {Q:EX×St->Prop} {d:Option Nat} {L:List IOper} {ks:List Kont} {e:Env} {h:Bc} {xs:List Int} {a:Int} {b:Bool} (hn:2<=n) (hl:xs.length<=1000):GP (Bf T n) base Q d L ks e (Bf T n false (.fn 35) [.slice none (xs.map (.int .i64)) b,.int .i64 a] h)=GO (Bf T n) base Q L ks ⟨Bl e d (.bool (decide (a∈xs))),h⟩:=
 Eu (A5x xs a hl) hn (by repeat (first | exact Bz _ | refine Dr _ _ _ _ ?_ | refine Dz _ _ _ ?_)) (Gk _ _)
theorem Xj {n base:Nat} {Q:EX×St->Prop} {d:Option Nat} {L:List IOper} {ks:List Kont} {e:Env} {h:Bc} {xs:List Int} {b:Bool} (hn:5<=n) (hl:xs.length<=40) (hx:∀n∈xs,0<=n/\n<=10000):GP (Bf T n) base Q d L ks e (Bf T n false (.fn 36) [.slice none (xs.map (.int .i64)) b] h)=GO (Bf T n) base Q L ks ⟨Bl e d (.tuple [rAV (Nt xs),.bool (decide (Gq xs))]),h⟩:=
 Eu (Aim xs hl hx) hn (by repeat (first | exact Bz _ | refine Dr _ _ _ _ ?_ | refine Dz _ _ _ ?_)) (by simp [Er,depth])
theorem Uu (xs:List Int):Gd 0 10000 xs=true↔∀n∈xs,0<=n/\n<=10000:=by
 unfold Gd
 simp only [Bool.not_eq_true',List.any_eq_false,Bool.or_eq_true,decide_eq_true_eq]
 constructor
 ·intro h n hn
  have:=h n hn
  omega
 ·intro h n hn
  have:=h n hn
  omega
set_option maxHeartbeats 1000000 in
theorem Aih (L:List Int):Con T 6 10 [Ey L] (.tuple [rAV (wlk L).1,.int .i64 (wlk L).2]):=by
 refine Bs t10 fun n hn V hV => ?_
 replace hV:∀a c h,(a,c)=wlk L->V (.tuple [rAV a,.int .i64 c],h):=fun a c h e1=>hV _ _ (by rw [<-e1]; exact (by repeat (first | exact De _ _ | exact Bk _ _ _ _ | exact Dk _ _ _ | exact Dn _ _ _ _ _ | exact Du _ _ _ _ | exact Eh _ _ | refine Br ?_ ?_ | refine Ec ?_ | refine Ed ?_ ?_ | refine Eq ?_ ?_ ?_)))
 have nf:(¬False)=True:=not_false_eq_true
 by_cases g:(L.length:Int)>40
 ·simp (disch:=first | assumption | omega) only [c10,go_sem,↓reduceIte,g,Hy,Gz,nf]
  exact hV Jd _ _ (Ahw (by omega)).symm
 have hl:L.length<=40:=by omega
 by_cases hw:Gd 0 10000 L=true
 case neg =>
  have hw':Gd 0 10000 L=false:=by simpa using hw
  have hb:Lr L:=Classical.byContradiction fun h=>hw ((Uu L).2 (Vu h))
  simp (disch:=first | assumption | omega) only [c10,go_sem,↓reduceIte,g,Ic,hw',Hy,Gz,nf]
  exact hV Jd _ _ (Zz hl hb).symm
 have hr:=(Uu L).1 hw
 obtain ⟨m,hm⟩:∃m:Nat,m=min 1 L.length:=⟨_,rfl⟩
 have hm1:mn 1 (L.length:Int)=(m:Int):=by unfold mn; split <;> omega
 have hm2:(m:Int)<=L.length:=by omega
 have hm3:(0:Int)<=m:=by omega
 have hdl:(L.drop m).length<=1000:=by simp; omega
 have hd1:L.drop m=L.drop 1:=by
  cases L with
  | nil=>simp
  | cons a r =>
   have:m=1:=by rw [hm]; simp
   rw [this]
 have emap:(L.map (AV.int .i64)).drop m=(L.drop m).map (.int .i64):=by rw [List.map_drop]
 by_cases hz:(0:Int)∈L.drop m
 ·have hz':decide ((0:Int)∈L.drop m)=true:=decide_eq_true hz
  have hb:Lr L:=.inr (.inl (hd1 ▸ hz))
  simp (disch:=first | assumption | omega) only [c10,go_sem,↓reduceIte,g,Ic,hw,Mx,hm1,hm2,hm3,Int.toNat_natCast,emap,Is,hz',Hy,Gz,nf]
  exact hV Jd _ _ (Zz hl hb).symm
 have hz':decide ((0:Int)∈L.drop m)=false:=decide_eq_false hz
 have hnz:¬L=[0]->¬Lr L:=fun h0 hb=>by
  rcases hb with ⟨n,hn,hc⟩ | hb | hb
  ·have:=hr n hn; omega
  ·exact hz (hd1.symm ▸ hb)
  ·exact h0 hb
 by_cases h1:L.length=1
 ·have h1':((L.length:Int)==1)=true:=by rw [h1]; rfl
  obtain ⟨y,hy⟩:=Fl (l:=L) (i:=0) (by omega)
  have hLy:L=[y]:=by
   match L,h1,hy with
   | [z],_,hy=>simp at hy; rw [hy]
  by_cases hy0:y=0
  ·have hy':(y==0)=true:=by rw [hy0]; rfl
   have hb:Lr L:=.inr (.inr (by rw [hLy,hy0]))
   simp (disch:=first | assumption | omega) only [c10,go_sem,↓reduceIte,g,Ic,hw,Mx,hm1,hm2,hm3,Int.toNat_natCast,emap,Is,hz',Hy,Gz,nf,h1',hy,hy']
   exact hV Jd _ _ (Zz hl hb).symm
  ·have hy':(y==0)=false:=by simp [hy0]
   have hb:¬Lr L:=hnz (by rw [hLy]; simp [hy0])
   by_cases hf:Gq L
   ·simp (disch:=first | assumption | omega) only [c10,go_sem,↓reduceIte,g,Ic,hw,Mx,hm1,hm2,hm3,Int.toNat_natCast,emap,Is,hz',Hy,Gz,nf,h1',hy,hy',Xj,hf]
    exact hV _ _ _ (by rw [A2z hl hb hf,A1r (fun n hn=>(hr n hn).1) hf])
   ·simp (disch:=first | assumption | omega) only [c10,go_sem,↓reduceIte,g,Ic,hw,Mx,hm1,hm2,hm3,Int.toNat_natCast,emap,Is,hz',Hy,Gz,nf,h1',hy,hy',Xj,hf]
    exact hV Jd _ _ (A4r hl hb hf).symm
 ·have h1':((L.length:Int)==1)=false:=by simp; omega
  have hb:¬Lr L:=hnz (fun h=>h1 (by rw [h]; rfl))
  by_cases hf:Gq L
  ·simp (disch:=first | assumption | omega) only [c10,go_sem,↓reduceIte,g,Ic,hw,Mx,hm1,hm2,hm3,Int.toNat_natCast,emap,Is,hz',Hy,Gz,nf,h1',Xj,hf]
   exact hV _ _ _ (by rw [A2z hl hb hf,A1r (fun n hn=>(hr n hn).1) hf])
  ·simp (disch:=first | assumption | omega) only [c10,go_sem,↓reduceIte,g,Ic,hw,Mx,hm1,hm2,hm3,Int.toNat_natCast,emap,Is,hz',Hy,Gz,nf,h1',Xj,hf]
   exact hV Jd _ _ (A4r hl hb hf).symm
section
variable {n base:Nat} {Q:EX×St->Prop} {d:Option Nat} {L:List IOper} {ks:List Kont} {e:Env} {h:Bc}
theorem Aou {x:Frac} (hn:10004<=n):GP (Bf T n) base Q d L ks e (Bf T n false (.fn 7) [.agg [.int .i64 x.num,.int .i64 x.den]] h)=GO (Bf T n) base Q L ks ⟨Bl e d (.tuple [Ey (pth x).1,.int .i64 (pth x).2]),h⟩:=
 Eu (Aif x) hn (Ol _ _ (Bz _)) rfl
theorem Aov {xs:List Int} {b:Bool} (hn:6<=n):GP (Bf T n) base Q d L ks e (Bf T n false (.fn 10) [.slice none (xs.map (.int .i64)) b] h)=GO (Bf T n) base Q L ks ⟨Bl e d (.tuple [rAV (wlk xs).1,.int .i64 (wlk xs).2]),h⟩:=
 Eu (Aih xs) hn (by repeat (first | exact Bz _ | refine Dr _ _ _ _ ?_ | refine Dz _ _ _ ?_)) (by simp [Er,depth])
end
end Go.Ev.YtbgodhhdojjbmaaGreatC.P1
namespace Go.Ev.YtbgodhhdojjbmaaGreatC.P1
open Go.Ev
open Go Go.Proofs
theorem Avm {x:Frac} (hx:OkI x):pth x=(Bp (En x.num.toNat x.den.toNat),0):=by
 unfold pth
 rw [if_neg (by rw [(Qd x).2 hx]; simp)]
theorem Akc {L:List Int} (h:∀n∈L,0<=n):∃N:List Nat,L=Bp N:=by
 refine ⟨L.map Int.toNat,?_⟩
 unfold Bp
 rw [List.map_map]
 conv=>lhs; rw [<-List.map_id L]
 refine List.map_congr_left fun n hn => ?_
 have:=h n hn
 simp; omega
theorem Ahj:∀N:List Nat,(∀m∈N.drop 1,0<m)->N≠[0]->Lh N
 | [],_,_=>trivial
 | [n],_,h=>Nat.pos_of_ne_zero fun h0=>h (by rw [h0])
 | _::_::_,h,_=>h
theorem Amf {L:List Int} (hl:L.length<=40) (hb:¬Lr L) (hf:Gq L):OkI (Dt 0 L wholeB).sum/\Bp (En (Dt 0 L wholeB).sum.num.toNat (Dt 0 L wholeB).sum.den.toNat)=L:=by
 have hr:=Vu hb
 obtain ⟨N,rfl⟩:=Akc (fun n hn=>(hr n hn).1)
 have po:Lh N:=Ahj N (fun m hm=>Nat.pos_of_ne_zero fun h0=>hb (.inr (.inl (by
   unfold Bp
   rw [<-List.map_drop]
   exact List.mem_map.2 ⟨m,hm,by rw [h0]; rfl⟩)))) (fun h0=>hb (.inr (.inr (by rw [h0]; rfl))))
 obtain ⟨u,v,hu,hv,hs,hpn⟩:=Ahz po
 have hpr:=Alv (s:=Dt 0 (Bp N) wholeB) (Uh _ _ _ Qq (fun n hn=>(hr n hn).1)).2 (by rw [Xf]; simp [Bd.det,wholeB])
 obtain ⟨f1,f2⟩:=hf
 have e1:(Dt 0 (Bp N) wholeB).sum.num=(u:Int):=by rw [hs]
 have e2:(Dt 0 (Bp N) wholeB).sum.den=(v:Int):=by rw [hs]
 refine ⟨⟨by omega,f1,by omega,f2,hpr⟩,?_⟩
 rw [e1,e2,Int.toNat_natCast,Int.toNat_natCast,hpn]
theorem Agt (D:List Bool):∀(s:Bd),s.NN->s.LE (mvs s D)/\(mvs s D).NN:=by
 induction D with
 | nil=>intro s h; exact ⟨⟨Int.le_refl _,Int.le_refl _,Int.le_refl _,Int.le_refl _⟩,h⟩
 | cons l D ih =>
  intro s h
  obtain ⟨a,b⟩:=ih (s.mv l 1) (h.mv (by omega) l)
  have c:=h.le (n:=1) (by omega) l
  exact ⟨⟨Int.le_trans c.1 a.1,Int.le_trans c.2 a.2,Int.le_trans c.3 a.3,Int.le_trans c.4 a.4⟩,b⟩
theorem Afy:∀(L:List Nat) (n N:Nat),(∀m∈L,m<=N)->∀m∈Fi L n,m<=N
 | [],_,_,_,m,hm=>by simp [Fi] at hm
 | x::r,n,N,h,m,hm=>by
  rw [Fi] at hm
  split at hm
  ·simp at hm
  ·rcases List.mem_cons.1 hm with rfl | hm
   ·have:=h x (by simp)
    omega
   ·exact Afy r _ N (fun y hy=>h y (by simp [hy])) m hm
theorem Aav:∀(L:List Nat) (n:Nat),(Fi L n).length<=L.length
 | [],_=>by simp [Fi]
 | x::r,n=>by
  rw [Fi]
  split
  ·simp
  ·have:=Aav r (n-min x n)
   simp only [List.length_cons]; omega
theorem Aaw:∀(L:List Nat) (n:Nat),(∀m∈L,0<m)->∀m∈Fi L n,0<m
 | [],_,_,m,hm=>by simp [Fi] at hm
 | x::r,n,h,m,hm=>by
  rw [Fi] at hm
  split at hm
  ·simp at hm
  ·rcases List.mem_cons.1 hm with rfl | hm
   ·have:=h x (by simp)
    omega
   ·exact Aaw r _ (fun y hy=>h y (by simp [hy])) m hm
theorem Aji {L:List Nat} (n:Nat) (h:∀m∈L.drop 1,0<m):∀m∈(Fi L n).drop 1,0<m:=by
 match L,h with
 | [],_=>simp [Fi]
 | x::r,h =>
  rw [Fi]
  split
  ·simp
  ·exact Aaw r _ h
theorem App (L:List Nat) (n:Nat):(Fi L n).sum=min n L.sum:=by
 have h1:=Mu (Fi L n) 0
 rw [Ze L 0 n,List.length_take,Mu] at h1
 exact h1.symm
theorem A9x:∀{L:List Nat},Lh L->∀m∈L.drop 1,0<m
 | [],_,m,hm=>by simp at hm
 | [a],_,m,hm=>by simp at hm
 | _::_::_,h,m,hm=>h m (by simpa using hm)
theorem Asy {x:Frac} (hx:OkI x) {n:Nat} (hn:n<=(En x.num.toNat x.den.toNat).sum) :
  wlk (Bp (Fi (En x.num.toNat x.den.toNat) n))=(frP (Ge 0 (En x.num.toNat x.den.toNat)) n,0)/\OkI (frP (Ge 0 (En x.num.toNat x.den.toNat)) n):=by
 have g1:=hx.n1
 have g2:=hx.n2
 have g3:=hx.d1
 have g4:=hx.d2
 have hg:=hx.pr
 unfold Oa at hg
 obtain ⟨po,pe⟩:=Art (u:=x.num.toNat) (v:=x.den.toNat) (by omega) (by omega) hg
 have pl:=Rc (u:=x.num.toNat) (v:=x.den.toNat) (by omega)
 have ple:=Abm (u:=x.num.toNat) (v:=x.den.toNat) (N:=10000) (by omega) (by omega)
 have pw:=A4j (u:=x.num.toNat) (v:=x.den.toNat) (by omega) (by omega) hg
 have ex:(⟨((x.num.toNat:Nat):Int),((x.den.toNat:Nat):Int)⟩:Frac)=x:=Frac.ext' (by simp only; omega) (by simp only; omega)
 rw [ex] at pw
 generalize En x.num.toNat x.den.toNat=N at *
 have hfl:=Aav N n
 have hb:¬Lr (Bp (Fi N n)):=by
  rintro (⟨m,hm,hc⟩ | h | h)
  ·obtain ⟨y,hy,rfl⟩:=List.mem_map.1 hm
   have:=Afy N n 10000 ple y hy
   omega
  ·unfold Bp at h
   rw [<-List.map_drop] at h
   obtain ⟨m,hm,hm0⟩:=List.mem_map.1 h
   have:=Aji n (A9x po) m hm
   omega
  ·have h2:Fi N n=[0]:=by
    match hf:Fi N n,h with
    | [a],h=>simp [Bp] at h; rw [h]
    | [],h=>simp [Bp] at h
    | a::b::r,h=>simp [Bp] at h
   have h3:=App N n
   rw [h2] at h3
   have h4:n=0:=by simp at h3; omega
   rw [h4] at h2
   cases N <;> simp [Fi] at h2
 have e:Dt 0 (Bp (Fi N n)) wholeB=mvs wholeB ((Ge 0 N).take n):=by rw [Qp,Ze]
 have e2:Dt 0 (Bp N) wholeB=mvs (mvs wholeB ((Ge 0 N).take n)) ((Ge 0 N).drop n):=by rw [Qp,<-A2m,List.take_append_drop]
 have hnn:=(Agt ((Ge 0 N).take n) wholeB Qq).2
 have hle:=(Agt ((Ge 0 N).drop n) _ hnn).1
 rw [<-e2] at hle
 have hf:Gq (Bp (Fi N n)):=by
  unfold Gq
  rw [e]
  have q1:(Dt 0 (Bp N) wholeB).sum.num<=10000:=by rw [pw]; exact g2
  have q2:(Dt 0 (Bp N) wholeB).sum.den<=10000:=by rw [pw]; exact g4
  have:=hle.1
  have:=hle.2
  have:=hle.3
  have:=hle.4
  simp only [Bd.sum] at q1 q2 ⊢
  constructor <;> omega
 have hok:=Amf (by rw [Nh]; omega) hb hf
 rw [A2z (by rw [Nh]; omega) hb hf]
 have e3:(Dt 0 (Bp (Fi N n)) wholeB).sum=frP (Ge 0 N) n:=by rw [e]; rfl
 rw [e3] at hok ⊢
 exact ⟨rfl,hok.1⟩
theorem Apl {x:Frac} (hx:OkI x):frP (Ge 0 (En x.num.toNat x.den.toNat)) (En x.num.toNat x.den.toNat).sum=x:=by
 have g1:=hx.n1
 have g3:=hx.d1
 have hg:=hx.pr
 unfold Oa at hg
 have pw:=A4j (u:=x.num.toNat) (v:=x.den.toNat) (by omega) (by omega) hg
 have ex:(⟨((x.num.toNat:Nat):Int),((x.den.toNat:Nat):Int)⟩:Frac)=x:=Frac.ext' (by simp only; omega) (by simp only; omega)
 rw [ex,Qp] at pw
 unfold frP
 rw [List.take_of_length_le (by rw [Mu]; exact Nat.le_refl _),pw]
end Go.Ev.YtbgodhhdojjbmaaGreatC.P1
