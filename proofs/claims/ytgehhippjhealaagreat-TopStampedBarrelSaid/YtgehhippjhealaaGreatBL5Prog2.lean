/- The code of functions of layer 5 that are walked, compiled for the evaluator, as text. What the functions of the layer compute, and laws about it, in plain mathematics: no program in sight. Orders as the laws are handed them, opened. What the reference's functions answer: checks, ends, delays. What the program's functions answer: checks, ends, delays. What the program's functions answer: ends and delays. No condition but those that stand in each. -/
import Derived.Test.YtgehhippjhealaaGreatBTopW
import Derived.Test.YtgehhippjhealaaGreatBEvFrame
import Derived.Test.YtgehhippjhealaaGreatRows
import Derived.Test.YtgehhippjhealaaGreatBEvMach
set_option linter.unusedSimpArgs false
set_option linter.unusedVariables false
set_option maxRecDepth 100000
namespace Go.Ev.YtgehhippjhealaaGreatC.P5
open Go Go.Proofs
def c23:IFunc:=⟨12,[.tmp 2],.seq (.ops [dO 2 (.mv (cI 0))]) (.seq (.ops [dO 3 (.mv (.const (.clo 113 [] [])))]) (.seq (.block 0 (.seq (.ops [dO 5 (.mv (tM 0)),dO 6 (.len (tM 5)),dO 7 (.bin .gtr (tM 6) (cI 10)),dO 4 (.mv (tM 7))]) (.cond (tM 4) (.seq (.ops [dO 2 (.mv (cI 6))]) .ret) (.seq (.ops [dO 9 (.mv (tM 0)),dO 10 (.mv (tM 3)),dO 11 (.callF false 115 [tM 9,tM 10]),dO 8 (.mv (tM 11))]) (.cond (tM 8) (.seq (.ops [dO 2 (.mv (cI 3))]) .ret) .skip))))) (.seq (.ops [dO 2 (.mv (cI 0))]) .ret)))⟩
theorem k23:(Bt Tryz.prog byr).fns 51=some c23:=by kernel_rfl
theorem t23:T.fns 51=some c23:=Bx k23 (by decide) (by decide)
def c33:IFunc:=⟨18,[.tmp 4,.tmp 5],.seq (.ops [dO 4 (.mv (cI 0)),dO 5 (.mv (cI 0))]) (.seq (.ops [dO 10 (.mv (tM 0)),dO 11 (.mv (tM 1)),dO 12 (.callF false 63 [tM 10,tM 11]),dO 9 (.mv (tM 12)),dO 13 (.extract (tM 9) 0),dO 14 (.extract (tM 9) 1),dO 15 (.extract (tM 9) 2),dO 6 (.mv (tM 13)),dO 7 (.mv (tM 14)),dO 8 (.mv (tM 15))]) (.seq (.ops [dO 16 (.mv (tM 7)),dO 17 (.mv (tM 8)),dO 4 (.mv (tM 16)),dO 5 (.mv (tM 17))]) .ret))⟩
theorem k33:(Bt Tryz.prog byr).fns 23=some c33:=by kernel_rfl
theorem t33:T.fns 23=some c33:=Bx k33 (by decide) (by decide)
def c59:IFunc:=⟨30,[.tmp 4],.seq (.ops [dO 4 (.mv (.const (.slice none [] true)))]) (.seq (.ops [dO 9 (.mv (tM 0)),dO 10 (.len (tM 9)),dO 11 (.mkSlice none [.int .i64 0] 8 (tM 10) (tM 10)),dO 5 (.mv (tM 11))]) (.seq (.ops [dO 6 (.mv (cI 0))]) (.seq (.seq (.ops [dO 12 (.mv (tM 0)),dO 13 (.len (tM 12)),dO 14 (.mv (cI 0))]) (.block 0 (.loop (.seq (.ops [dO 15 (.bin .lss (tM 14) (tM 13))]) (.seq (.cond (tM 15) .skip (.exit 0)) (.seq (.block 1 (.seq (.ops [dO 16 (.indexAddr 1 (tM 12) (tM 14)),dO 17 (.load none (tM 16)),dO 8 (.mv (tM 17))]) (.seq (.ops [dO 18 (.mv (tM 6)),dO 19 (.mv (tM 1)),dO 20 (.mv (tM 8)),dO 21 (.indexAddr 1 (tM 19) (tM 20)),dO 22 (.load none (tM 21)),dO 23 (.bin .add (tM 18) (tM 22)),dO 6 (.mv (tM 23))]) (.ops [dO 24 (.mv (tM 5)),dO 25 (.mv (tM 8)),dO 26 (.mv (tM 6)),dO 27 (.indexAddr 1 (tM 24) (tM 25)),eO (.store 1 (tM 27) (tM 26))])))) (.ops [dO 28 (.bin .add (tM 14) (cI 1)),dO 14 (.mv (tM 28))]))))))) (.seq (.ops [dO 29 (.mv (tM 5)),dO 4 (.mv (tM 29))]) .ret))))⟩
theorem k59:(Bt Tryz.prog byr).fns 121=some c59:=by kernel_rfl
theorem t59:T.fns 121=some c59:=Bx k59 (by decide) (by decide)
def c66:IFunc:=⟨9,[.tmp 4],.seq (.ops [dO 4 (.mv (cB false))]) (.seq (.ops [dO 5 (.mv (tM 0)),dO 6 (.mv (tM 1)),dO 7 (.callF false 179 [tM 5,tM 6]),dO 8 (.bin .geq (tM 7) (cI 0)),dO 4 (.mv (tM 8))]) .ret)⟩
theorem k66:(Bt Tryz.prog byr).fns 115=some c66:=by kernel_rfl
theorem t66:T.fns 115=some c66:=Bx k66 (by decide) (by decide)
def c67:IFunc:=⟨42,[.tmp 4],.seq (.ops [dO 4 (.mv (.const .nilptr))]) (.seq (.ops [dO 8 (.mv (tM 0)),dO 9 (.build [.slice (some 3) [] true] [(0,(1,tM 8))]),dO 10 (.build [.slice (some 3) [] true,.slice none [] true] [(0,(1,tM 9))]),dO 11 (.box (tM 10)),dO 5 (.mv (tM 11))]) (.seq (.seq (.ops [dO 12 (.mv (tM 5)),dO 13 (.nilCheck (tM 12)),dO 14 (.fieldAddr 0 (tM 13)),dO 15 (.fieldAddr 0 (tM 14)),dO 16 (.load none (tM 15)),dO 17 (.len (tM 16)),dO 18 (.mv (cI 0))]) (.block 0 (.loop (.seq (.ops [dO 19 (.bin .lss (tM 18) (tM 17))]) (.seq (.cond (tM 19) .skip (.exit 0)) (.seq (.block 1 (.seq (.ops [dO 20 (.indexAddr 3 (tM 16) (tM 18)),dO 21 (.load (some 3) (tM 20)),dO 7 (.alloc [.int .i64 0,.int .i64 0,.int .i64 0]),eO (.store 3 (tM 7) (tM 21))]) (.ops [dO 22 (.mv (tM 5)),dO 23 (.mv (tM 5)),dO 24 (.nilCheck (tM 23)),dO 25 (.fieldAddr 1 (tM 24)),dO 26 (.load none (tM 25)),dO 27 (.fieldAddr 0 (tM 7)),dO 28 (.fieldAddr 0 (tM 27)),dO 29 (.load none (tM 28)),dO 30 (.fieldAddr 0 (tM 7)),dO 31 (.fieldAddr 1 (tM 30)),dO 32 (.load none (tM 31)),dO 33 (.build [.int .i64 0,.int .i64 0] [(0,(1,tM 29)),(1,(1,tM 32))]),dO 34 (.mv (tM 1)),dO 35 (.index none 2 (tM 33) (tM 34)),dO 36 (.buildSlice none [.int .i64 0] [(0,(1,tM 35))]),dO 37 (.append none 8 (tM 26) (tM 36)),dO 38 (.nilCheck (tM 22)),dO 39 (.fieldAddr 1 (tM 38)),eO (.store 1 (tM 39) (tM 37))]))) (.ops [dO 40 (.bin .add (tM 18) (cI 1)),dO 18 (.mv (tM 40))]))))))) (.seq (.ops [dO 41 (.mv (tM 5)),dO 4 (.mv (tM 41))]) .ret)))⟩
theorem k67:(Bt Tryz.prog byr).fns 52=some c67:=by kernel_rfl
theorem t67:T.fns 52=some c67:=Bx k67 (by decide) (by decide)
def c68:IFunc:=⟨20,[.tmp 2],.seq (.ops [dO 1 (.box (tM 0)),dO 2 (.mv (.const (.slice none [] true)))]) (.seq (.ops [dO 3 (.mv (.const (.slice none [] true)))]) (.seq (.seq (.ops [dO 5 (.fieldAddr 0 (tM 1)),dO 6 (.load none (tM 5)),dO 7 (.len (tM 6)),dO 8 (.mv (cI 0))]) (.block 0 (.loop (.seq (.ops [dO 9 (.bin .lss (tM 8) (tM 7))]) (.seq (.cond (tM 9) .skip (.exit 0)) (.seq (.block 1 (.seq (.ops [dO 10 (.mv (tM 8)),dO 4 (.mv (tM 10))]) (.ops [dO 11 (.mv (tM 3)),dO 12 (.mv (tM 4)),dO 13 (.buildSlice none [.int .i64 0] [(0,(1,tM 12))]),dO 14 (.append none 8 (tM 11) (tM 13)),dO 3 (.mv (tM 14))]))) (.ops [dO 15 (.bin .add (tM 8) (cI 1)),dO 8 (.mv (tM 15))]))))))) (.seq (.ops [dO 16 (.mv (tM 3)),dO 17 (.mkFunc 117 [] [tM 1]),dO 18 (.callF true 116 [tM 16,tM 17])]) (.seq (.ops [dO 19 (.mv (tM 3)),dO 2 (.mv (tM 19))]) .ret))))⟩
theorem k68:(Bt Tryz.prog byr).fns 53=some c68:=by kernel_rfl
theorem t68:T.fns 53=some c68:=Bx k68 (by decide) (by decide)
def c69:IFunc:=⟨21,[.tmp 4,.tmp 5],.seq (.ops [dO 4 (.mv (.const .nilptr)),dO 5 (.mv (cI 0))]) (.seq (.ops [dO 7 (.mv (tM 0)),dO 8 (.callF false 51 [tM 7]),dO 6 (.mv (tM 8))]) (.seq (.block 0 (.seq (.ops [dO 10 (.mv (tM 6)),dO 11 (.bin .neq (tM 10) (cI 0)),dO 9 (.mv (tM 11))]) (.cond (tM 9) (.seq (.ops [dO 12 (.mv (tM 6)),dO 4 (.mv (.const .nilptr)),dO 5 (.mv (tM 12))]) .ret) (.seq (.ops [dO 14 (.mv (tM 1)),dO 15 (.buildSlice none [.int .i64 0] [(0,(1,tM 14))]),dO 16 (.callF false 114 [cI 0,cI 1,tM 15]),dO 17 (.un .not (tM 16)),dO 13 (.mv (tM 17))]) (.cond (tM 13) (.seq (.ops [dO 4 (.mv (.const .nilptr)),dO 5 (.mv (cI 2))]) .ret) .skip))))) (.seq (.ops [dO 18 (.mv (tM 0)),dO 19 (.mv (tM 1)),dO 20 (.callF false 52 [tM 18,tM 19]),dO 4 (.mv (tM 20)),dO 5 (.mv (cI 0))]) .ret)))⟩
theorem k69:(Bt Tryz.prog byr).fns 122=some c69:=by kernel_rfl
theorem t69:T.fns 122=some c69:=Bx k69 (by decide) (by decide)
def c70:IFunc:=⟨39,[.tmp 4,.tmp 5],.seq (.ops [dO 4 (.mv (cI 0)),dO 5 (.mv (cB false))]) (.seq (.ops [dO 10 (.mv (tM 1)),dO 11 (.un .neg (tM 10)),dO 6 (.mv (tM 11)),dO 7 (.mv (cB false))]) (.seq (.seq (.ops [dO 12 (.mv (tM 0)),dO 13 (.nilCheck (tM 12)),dO 14 (.fieldAddr 0 (tM 13)),dO 15 (.fieldAddr 0 (tM 14)),dO 16 (.load none (tM 15)),dO 17 (.len (tM 16)),dO 18 (.mv (cI 0))]) (.block 0 (.loop (.seq (.ops [dO 19 (.bin .lss (tM 18) (tM 17))]) (.seq (.cond (tM 19) .skip (.exit 0)) (.seq (.block 1 (.seq (.ops [dO 20 (.mv (tM 18)),dO 21 (.indexAddr 3 (tM 16) (tM 18)),dO 22 (.load (some 3) (tM 21)),dO 9 (.alloc [.int .i64 0,.int .i64 0,.int .i64 0]),dO 8 (.mv (tM 20)),eO (.store 3 (tM 9) (tM 22))]) (.seq (.ops [dO 23 (.fieldAddr 2 (tM 9)),dO 24 (.load none (tM 23)),dO 25 (.mv (tM 1)),dO 26 (.bin .leq (tM 24) (tM 25))]) (.cond (tM 26) (.ops [dO 27 (.mv (tM 6)),dO 28 (.mv (tM 0)),dO 29 (.nilCheck (tM 28)),dO 30 (.fieldAddr 1 (tM 29)),dO 31 (.load none (tM 30)),dO 32 (.mv (tM 8)),dO 33 (.indexAddr 1 (tM 31) (tM 32)),dO 34 (.load none (tM 33)),dO 35 (.bin .add (tM 27) (tM 34)),dO 6 (.mv (tM 35)),dO 7 (.mv (cB true))]) .skip)))) (.ops [dO 36 (.bin .add (tM 18) (cI 1)),dO 18 (.mv (tM 36))]))))))) (.seq (.ops [dO 37 (.mv (tM 6)),dO 38 (.mv (tM 7)),dO 4 (.mv (tM 37)),dO 5 (.mv (tM 38))]) .ret)))⟩
theorem k70:(Bt Tryz.prog byr).fns 124=some c70:=by kernel_rfl
theorem t70:T.fns 124=some c70:=Bx k70 (by decide) (by decide)
def c75:IFunc:=⟨88,[.cell 2 (some 10)],.seq (.ops [dO 1 (.box (tM 0)),dO 2 (.alloc [.int .i64 0,.int .i64 0,.int .i64 0,.int .i64 0,.int .i64 0,.int .i64 0,.int .i64 0,.int .i64 0,.int .i64 0,.int .i64 0])]) (.seq (.ops [⟨some 12,.mkMap,none⟩,dO 3 (.alloc [.fmap [] []]),eO (.store 1 (tM 3) (tM 12))]) (.seq (.ops [dO 4 (.mv (cI 0))]) (.seq (.seq (.ops [dO 13 (.load none (tM 1)),dO 14 (.nilCheck (tM 13)),dO 15 (.fieldAddr 0 (tM 14)),dO 16 (.load (some 1) (tM 15)),dO 17 (.callF false 53 [tM 16]),dO 18 (.len (tM 17)),dO 19 (.mv (cI 0))]) (.block 0 (.loop (.seq (.ops [dO 20 (.bin .lss (tM 19) (tM 18))]) (.seq (.cond (tM 20) .skip (.exit 0)) (.seq (.block 1 (.seq (.ops [dO 21 (.mv (tM 19)),dO 22 (.indexAddr 1 (tM 17) (tM 19)),dO 23 (.load none (tM 22)),dO 5 (.mv (tM 21)),dO 6 (.mv (tM 23))]) (.seq (.ops [dO 24 (.load none (tM 3)),dO 25 (.mv (tM 6)),dO 26 (.build [.int .i64 0] [(0,(1,tM 25))]),dO 27 (.mv (tM 5)),eO (.mapUpdate (some 1) (tM 24) (tM 26) (tM 27))]) (.seq (.ops [dO 28 (.mv (tM 4)),dO 29 (.load none (tM 1)),dO 30 (.nilCheck (tM 29)),dO 31 (.fieldAddr 1 (tM 30)),dO 32 (.load none (tM 31)),dO 33 (.mv (tM 6)),dO 34 (.indexAddr 1 (tM 32) (tM 33)),dO 35 (.load none (tM 34)),dO 36 (.bin .add (tM 28) (tM 35)),dO 4 (.mv (tM 36))]) (.seq (.seq (.ops [dO 37 (.mv (tM 4)),dO 38 (.load none (tM 1)),dO 39 (.nilCheck (tM 38)),dO 40 (.fieldAddr 0 (tM 39)),dO 41 (.fieldAddr 0 (tM 40)),dO 42 (.load none (tM 41)),dO 43 (.mv (tM 6)),dO 44 (.indexAddr 3 (tM 42) (tM 43)),dO 45 (.fieldAddr 2 (tM 44)),dO 46 (.load none (tM 45)),dO 47 (.bin .leq (tM 37) (tM 46))]) (.cond (tM 47) (.exit 1) .skip)) (.seq (.ops [dO 7 (.mv (.const (.slice (some 1) [] true)))]) (.seq (.seq (.ops [dO 48 (.load none (tM 3)),dO 49 (.range (tM 48))]) (.block 2 (.loop (.seq (.ops [dO 50 (.next (tM 49)),dO 51 (.extract (tM 50) 0)]) (.seq (.cond (tM 51) .skip (.exit 2)) (.block 3 (.seq (.ops [dO 52 (.entry (tM 49)),dO 53 (.extract (tM 52) 0),dO 8 (.alloc [.int .i64 0]),eO (.store 1 (tM 8) (tM 53))]) (.ops [dO 54 (.mv (tM 7)),dO 55 (.load (some 1) (tM 8)),dO 56 (.buildSlice (some 1) [.int .i64 0] [(0,(1,tM 55))]),dO 57 (.append (some 1) 8 (tM 54) (tM 56)),dO 7 (.mv (tM 57))])))))))) (.seq (.ops [dO 58 (.mv (tM 7)),dO 59 (.mkFunc 288 [] [tM 1,tM 3]),dO 60 (.callF false 287 [tM 58,tM 59]),dO 9 (.alloc [.int .i64 0]),eO (.store 1 (tM 9) (tM 60))]) (.seq (.ops [dO 61 (.mv (tM 4)),dO 62 (.load none (tM 1)),dO 63 (.nilCheck (tM 62)),dO 64 (.fieldAddr 1 (tM 63)),dO 65 (.load none (tM 64)),dO 66 (.fieldAddr 0 (tM 9)),dO 67 (.load none (tM 66)),dO 68 (.indexAddr 1 (tM 65) (tM 67)),dO 69 (.load none (tM 68)),dO 70 (.bin .sub (tM 61) (tM 69)),dO 4 (.mv (tM 70))]) (.ops [dO 71 (.load none (tM 3)),dO 72 (.load (some 1) (tM 9)),eO (.delete (some 1) (tM 71) (tM 72))])))))))))) (.ops [dO 73 (.bin .add (tM 19) (cI 1)),dO 19 (.mv (tM 73))]))))))) (.seq (.ops [dO 10 (.alloc [.int .i64 0,.int .i64 0,.int .i64 0,.int .i64 0,.int .i64 0,.int .i64 0,.int .i64 0,.int .i64 0,.int .i64 0,.int .i64 0])]) (.seq (.seq (.ops [dO 74 (.load none (tM 3)),dO 75 (.range (tM 74))]) (.block 4 (.loop (.seq (.ops [dO 76 (.next (tM 75)),dO 77 (.extract (tM 76) 0)]) (.seq (.cond (tM 77) .skip (.exit 4)) (.block 5 (.seq (.ops [dO 78 (.entry (tM 75)),dO 79 (.extract (tM 78) 0),dO 11 (.alloc [.int .i64 0]),eO (.store 1 (tM 11) (tM 79))]) (.ops [dO 80 (.fieldAddr 0 (tM 11)),dO 81 (.load none (tM 80)),dO 82 (.indexAddrA 10 1 (tM 10) (tM 81)),eO (.store 1 (tM 82) (cI 1))])))))))) (.seq (.seq (.ops [dO 83 (.load (some 10) (tM 10)),dO 84 (.build [.int .i64 0,.int .i64 0,.int .i64 0,.int .i64 0,.int .i64 0,.int .i64 0,.int .i64 0,.int .i64 0,.int .i64 0,.int .i64 0] []),dO 85 (.eqAgg 10 false (tM 83) (tM 84))]) (.cond (tM 85) (.seq (.ops [dO 86 (.build [.int .i64 0,.int .i64 0,.int .i64 0,.int .i64 0,.int .i64 0,.int .i64 0,.int .i64 0,.int .i64 0,.int .i64 0,.int .i64 0] []),eO (.store 10 (tM 2) (tM 86))]) .ret) .skip)) (.seq (.ops [dO 87 (.load (some 10) (tM 10)),eO (.store 10 (tM 2) (tM 87))]) .ret)))))))⟩
theorem k75:(Bt Tryz.prog byr).fns 213=some c75:=by kernel_rfl
theorem t75:T.fns 213=some c75:=Bx k75 (by decide) (by decide)
def c79:IFunc:=⟨125,[.tmp 6],.seq (.ops [dO 6 (.mv (cI 0))]) (.seq (.ops [dO 14 (.buildSlice none [.int .i64 0] [(0,(1,cI 0))]),dO 7 (.mv (tM 14))]) (.seq (.seq (.ops [dO 15 (.mv (tM 0)),dO 16 (.nilCheck (tM 15)),dO 17 (.fieldAddr 0 (tM 16)),dO 18 (.load (some 1) (tM 17)),dO 19 (.callF false 53 [tM 18]),dO 20 (.len (tM 19)),dO 21 (.mv (cI 0))]) (.block 0 (.loop (.seq (.ops [dO 22 (.bin .lss (tM 21) (tM 20))]) (.seq (.cond (tM 22) .skip (.exit 0)) (.seq (.block 1 (.seq (.ops [dO 23 (.indexAddr 1 (tM 19) (tM 21)),dO 24 (.load none (tM 23)),dO 9 (.mv (tM 24))]) (.seq (.seq (.ops [dO 25 (.mv (tM 9)),dO 26 (.mv (tM 2)),dO 27 (.bin .eql (tM 25) (tM 26))]) (.cond (tM 27) (.exit 1) .skip)) (.seq (.ops [dO 28 (.mv (tM 7)),dO 29 (.len (tM 28)),dO 30 (.bin .add (tM 29) (cI 1)),dO 31 (.mkSlice none [.int .i64 0] 8 (tM 30) (tM 30)),dO 10 (.mv (tM 31))]) (.seq .skip (.seq (.seq (.ops [dO 32 (.mv (tM 10)),dO 33 (.len (tM 32)),dO 34 (.mv (cI 0))]) (.block 2 (.loop (.seq (.ops [dO 35 (.bin .lss (tM 34) (tM 33))]) (.seq (.cond (tM 35) .skip (.exit 2)) (.seq (.block 3 (.seq (.ops [dO 36 (.mv (tM 34)),dO 11 (.mv (tM 36))]) (.seq (.ops [dO 37 (.mv (tM 10)),dO 38 (.mv (tM 11)),dO 39 (.indexAddr 1 (tM 37) (tM 38)),eO (.store 1 (tM 39) (cI (-1)))]) (.seq (.seq (.ops [dO 40 (.mv (tM 11)),dO 41 (.mv (tM 7)),dO 42 (.len (tM 41)),dO 43 (.bin .lss (tM 40) (tM 42)),dO 44 (.mv (tM 43)),gO 45 (.mv (tM 9)) 44 true,gO 46 (.mv (tM 1)) 44 true,gO 47 (.bin .neq (tM 45) (tM 46)) 44 true,dO 48 (.pick (tM 44) (tM 47) (cB false))]) (.cond (tM 48) (.ops [dO 49 (.mv (tM 10)),dO 50 (.mv (tM 11)),dO 51 (.mv (tM 7)),dO 52 (.mv (tM 11)),dO 53 (.indexAddr 1 (tM 51) (tM 52)),dO 54 (.load none (tM 53)),dO 55 (.indexAddr 1 (tM 49) (tM 50)),eO (.store 1 (tM 55) (tM 54))]) .skip)) (.seq (.seq (.ops [dO 56 (.mv (tM 11)),dO 57 (.bin .eql (tM 56) (cI 0)),dO 58 (.mv (tM 57)),gO 59 (.mv (tM 7)) 58 false,gO 60 (.mv (tM 11)) 58 false,gO 61 (.bin .sub (tM 60) (cI 1)) 58 false,gO 62 (.indexAddr 1 (tM 59) (tM 61)) 58 false,gO 63 (.load none (tM 62)) 58 false,gO 64 (.bin .lss (tM 63) (cI 0)) 58 false,dO 65 (.pick (tM 58) (cB true) (tM 64))]) (.cond (tM 65) (.exit 3) .skip)) (.seq (.ops [dO 66 (.mv (tM 7)),dO 67 (.mv (tM 11)),dO 68 (.bin .sub (tM 67) (cI 1)),dO 69 (.indexAddr 1 (tM 66) (tM 68)),dO 70 (.load none (tM 69)),dO 71 (.mv (tM 0)),dO 72 (.nilCheck (tM 71)),dO 73 (.fieldAddr 1 (tM 72)),dO 74 (.load none (tM 73)),dO 75 (.mv (tM 9)),dO 76 (.indexAddr 1 (tM 74) (tM 75)),dO 77 (.load none (tM 76)),dO 78 (.bin .add (tM 70) (tM 77)),dO 12 (.mv (tM 78))]) (.seq (.ops [dO 79 (.mv (tM 12)),dO 80 (.mv (tM 0)),dO 81 (.nilCheck (tM 80)),dO 82 (.fieldAddr 0 (tM 81)),dO 83 (.fieldAddr 0 (tM 82)),dO 84 (.load none (tM 83)),dO 85 (.mv (tM 9)),dO 86 (.indexAddr 3 (tM 84) (tM 85)),dO 87 (.fieldAddr 2 (tM 86)),dO 88 (.load none (tM 87)),dO 89 (.bin .leq (tM 79) (tM 88)),dO 90 (.mv (tM 89)),gO 91 (.mv (tM 10)) 90 true,gO 92 (.mv (tM 11)) 90 true,gO 93 (.indexAddr 1 (tM 91) (tM 92)) 90 true,gO 94 (.load none (tM 93)) 90 true,gO 95 (.bin .lss (tM 94) (cI 0)) 90 true,gO 96 (.mv (tM 95)) 90 true,gO 97 (.mv (tM 12)) 96 false,gO 98 (.mv (tM 10)) 96 false,gO 99 (.mv (tM 11)) 96 false,gO 100 (.indexAddr 1 (tM 98) (tM 99)) 96 false,gO 101 (.load none (tM 100)) 96 false,gO 102 (.bin .lss (tM 97) (tM 101)) 96 false,gO 103 (.pick (tM 96) (cB true) (tM 102)) 90 true,dO 104 (.pick (tM 90) (tM 103) (cB false))]) (.cond (tM 104) (.ops [dO 105 (.mv (tM 10)),dO 106 (.mv (tM 11)),dO 107 (.mv (tM 12)),dO 108 (.indexAddr 1 (tM 105) (tM 106)),eO (.store 1 (tM 108) (tM 107))]) .skip)))))))) (.ops [dO 109 (.bin .add (tM 34) (cI 1)),dO 34 (.mv (tM 109))]))))))) (.ops [dO 110 (.mv (tM 10)),dO 7 (.mv (tM 110))]))))))) (.ops [dO 111 (.bin .add (tM 21) (cI 1)),dO 21 (.mv (tM 111))]))))))) (.seq (.seq (.ops [dO 112 (.mv (tM 7)),dO 113 (.len (tM 112)),dO 114 (.bin .sub (tM 113) (cI 1)),dO 13 (.mv (tM 114))]) (.block 4 (.loop (.seq (.seq (.ops [dO 115 (.mv (tM 13)),dO 116 (.bin .geq (tM 115) (cI 0))]) (.cond (tM 116) .skip (.exit 4))) (.seq (.block 5 (.seq (.ops [dO 119 (.mv (tM 7)),dO 120 (.mv (tM 13)),dO 121 (.indexAddr 1 (tM 119) (tM 120)),dO 122 (.load none (tM 121)),dO 123 (.bin .geq (tM 122) (cI 0))]) (.cond (tM 123) (.seq (.ops [dO 124 (.mv (tM 13)),dO 6 (.mv (tM 124))]) .ret) .skip))) (.ops [dO 117 (.mv (tM 13)),dO 118 (.bin .sub (tM 117) (cI 1)),dO 13 (.mv (tM 118))])))))) (.seq (.ops [dO 6 (.mv (cI (-1)))]) .ret))))⟩
theorem k79:(Bt Tryz.prog byr).fns 214=some c79:=by kernel_rfl
theorem t79:T.fns 214=some c79:=Bx k79 (by decide) (by decide)
def c83:IFunc:=⟨13,[.tmp 4],.seq (.ops [dO 4 (.mv (cB false))]) (.seq (.ops [dO 5 (.mv (tM 0)),dO 6 (.load none (tM 1)),dO 7 (.bin .lss (tM 5) (tM 6)),dO 8 (.mv (tM 7)),gO 9 (.mv (tM 0)) 8 false,gO 10 (.load none (tM 2)) 8 false,gO 11 (.bin .gtr (tM 9) (tM 10)) 8 false,dO 12 (.pick (tM 8) (cB true) (tM 11)),dO 4 (.mv (tM 12))]) .ret)⟩
theorem k83:(Bt Tryz.prog byr).fns 178=some c83:=by kernel_rfl
theorem t83:T.fns 178=some c83:=Bx k83 (by decide) (by decide)
def c84:IFunc:=⟨19,[.tmp 4],.seq (.ops [dO 4 (.mv (cI 0))]) (.seq (.seq (.ops [dO 6 (.mv (tM 0)),dO 7 (.len (tM 6)),dO 8 (.mv (cI 0))]) (.block 0 (.loop (.seq (.ops [dO 9 (.bin .lss (tM 8) (tM 7))]) (.seq (.cond (tM 9) .skip (.exit 0)) (.seq (.block 1 (.seq (.ops [dO 10 (.mv (tM 8)),dO 5 (.mv (tM 10))]) (.seq (.ops [dO 11 (.mv (tM 1)),dO 12 (.mv (tM 0)),dO 13 (.mv (tM 5)),dO 14 (.indexAddr 3 (tM 12) (tM 13)),dO 15 (.load (some 3) (tM 14)),dO 16 (.call false (tM 11) [tM 15])]) (.cond (tM 16) (.seq (.ops [dO 17 (.mv (tM 5)),dO 4 (.mv (tM 17))]) .ret) .skip)))) (.ops [dO 18 (.bin .add (tM 8) (cI 1)),dO 8 (.mv (tM 18))]))))))) (.seq (.ops [dO 4 (.mv (cI (-1)))]) .ret))⟩
theorem k84:(Bt Tryz.prog byr).fns 179=some c84:=by kernel_rfl
theorem t84:T.fns 179=some c84:=Bx k84 (by decide) (by decide)
def c85:IFunc:=⟨9,[],.ops [dO 4 (.mv (tM 0)),dO 5 (.mv (tM 0)),dO 6 (.len (tM 5)),dO 7 (.mv (tM 1)),dO 8 (.callF true 180 [tM 4,tM 6,tM 7])]⟩
theorem k85:(Bt Tryz.prog byr).fns 116=some c85:=by kernel_rfl
theorem t85:T.fns 116=some c85:=Bx k85 (by decide) (by decide)
def c86:IFunc:=⟨19,[.tmp 5],.seq (.ops [dO 5 (.mv (cI 0))]) (.seq (.ops [dO 6 (.fieldAddr 0 (tM 2)),dO 7 (.load none (tM 6)),dO 8 (.mv (tM 0)),dO 9 (.indexAddr 3 (tM 7) (tM 8)),dO 10 (.fieldAddr 2 (tM 9)),dO 11 (.load none (tM 10)),dO 12 (.fieldAddr 0 (tM 2)),dO 13 (.load none (tM 12)),dO 14 (.mv (tM 1)),dO 15 (.indexAddr 3 (tM 13) (tM 14)),dO 16 (.fieldAddr 2 (tM 15)),dO 17 (.load none (tM 16)),dO 18 (.callF false 118 [tM 11,tM 17]),dO 5 (.mv (tM 18))]) .ret)⟩
theorem k86:(Bt Tryz.prog byr).fns 117=some c86:=by kernel_rfl
theorem t86:T.fns 117=some c86:=Bx k86 (by decide) (by decide)
def c87:IFunc:=⟨20,[.tmp 4],.seq (.ops [dO 4 (.mv (cI 0))]) (.seq (.ops [dO 7 (.mv (tM 0)),dO 8 (.callF false 181 [tM 7]),dO 5 (.mv (tM 8))]) (.seq (.ops [dO 9 (.mv (tM 1)),dO 10 (.callF false 181 [tM 9]),dO 6 (.mv (tM 10))]) (.seq (.seq (.ops [dO 11 (.mv (tM 5))]) (.cond (tM 11) (.seq (.seq (.ops [dO 12 (.mv (tM 6))]) (.cond (tM 12) (.seq (.ops [dO 4 (.mv (cI 0))]) .ret) .skip)) (.seq (.ops [dO 4 (.mv (cI (-1)))]) .ret)) .skip)) (.seq (.seq (.ops [dO 13 (.mv (tM 6))]) (.cond (tM 13) (.seq (.ops [dO 4 (.mv (cI 1))]) .ret) .skip)) (.seq (.seq (.ops [dO 14 (.mv (tM 0)),dO 15 (.mv (tM 1)),dO 16 (.bin .lss (tM 14) (tM 15))]) (.cond (tM 16) (.seq (.ops [dO 4 (.mv (cI (-1)))]) .ret) .skip)) (.seq (.seq (.ops [dO 17 (.mv (tM 0)),dO 18 (.mv (tM 1)),dO 19 (.bin .gtr (tM 17) (tM 18))]) (.cond (tM 19) (.seq (.ops [dO 4 (.mv (cI 1))]) .ret) .skip)) (.seq (.ops [dO 4 (.mv (cI 0))]) .ret)))))))⟩
theorem k87:(Bt Tryz.prog byr).fns 118=some c87:=by kernel_rfl
theorem t87:T.fns 118=some c87:=Bx k87 (by decide) (by decide)
def c89:IFunc:=⟨25,[.cell 4 (some 1)],.seq (.ops [dO 4 (.alloc [.int .i64 0])]) (.seq (.ops [dO 8 (.mv (tM 0)),dO 9 (.indexAddr 1 (tM 8) (cI 0)),dO 10 (.load (some 1) (tM 9)),dO 5 (.alloc [.int .i64 0]),eO (.store 1 (tM 5) (tM 10))]) (.seq (.seq (.ops [dO 11 (.mv (tM 0)),dO 12 (.slice (some 1) (tM 11) (some (cI 1)) none none),dO 13 (.len (tM 12)),dO 14 (.mv (cI 0))]) (.block 0 (.loop (.seq (.ops [dO 15 (.bin .lss (tM 14) (tM 13))]) (.seq (.cond (tM 15) .skip (.exit 0)) (.seq (.block 1 (.seq (.ops [dO 16 (.indexAddr 1 (tM 12) (tM 14)),dO 17 (.load (some 1) (tM 16)),dO 7 (.alloc [.int .i64 0]),eO (.store 1 (tM 7) (tM 17))]) (.seq (.ops [dO 18 (.mv (tM 1)),dO 19 (.load (some 1) (tM 7)),dO 20 (.load (some 1) (tM 5)),dO 21 (.call false (tM 18) [tM 19,tM 20])]) (.cond (tM 21) (.ops [dO 22 (.load (some 1) (tM 7)),eO (.store 1 (tM 5) (tM 22))]) .skip)))) (.ops [dO 23 (.bin .add (tM 14) (cI 1)),dO 14 (.mv (tM 23))]))))))) (.seq (.ops [dO 24 (.load (some 1) (tM 5)),eO (.store 1 (tM 4) (tM 24))]) .ret)))⟩
theorem k89:(Bt Tryz.prog byr).fns 287=some c89:=by kernel_rfl
theorem t89:T.fns 287=some c89:=Bx k89 (by decide) (by decide)
def c90:IFunc:=⟨34,[.tmp 6],.seq (.ops [dO 4 (.box (tM 0)),dO 5 (.box (tM 1)),dO 6 (.mv (cB false))]) (.seq (.ops [dO 7 (.load none (tM 2)),dO 8 (.nilCheck (tM 7)),dO 9 (.fieldAddr 1 (tM 8)),dO 10 (.load none (tM 9)),dO 11 (.fieldAddr 0 (tM 4)),dO 12 (.load none (tM 11)),dO 13 (.indexAddr 1 (tM 10) (tM 12)),dO 14 (.load none (tM 13)),dO 15 (.load none (tM 2)),dO 16 (.nilCheck (tM 15)),dO 17 (.fieldAddr 1 (tM 16)),dO 18 (.load none (tM 17)),dO 19 (.fieldAddr 0 (tM 5)),dO 20 (.load none (tM 19)),dO 21 (.indexAddr 1 (tM 18) (tM 20)),dO 22 (.load none (tM 21)),dO 23 (.callF false 118 [tM 14,tM 22]),dO 24 (.load none (tM 3)),dO 25 (.load (some 1) (tM 4)),dO 26 (.lookup (some 1) (.int .i64 0) false (tM 24) (tM 25)),dO 27 (.load none (tM 3)),dO 28 (.load (some 1) (tM 5)),dO 29 (.lookup (some 1) (.int .i64 0) false (tM 27) (tM 28)),dO 30 (.callF false 290 [tM 26,tM 29]),dO 31 (.buildSlice none [.int .i64 0,.int .i64 0] [(0,(1,tM 23)),(1,(1,tM 30))]),dO 32 (.callF false 289 [tM 31]),dO 33 (.bin .gtr (tM 32) (cI 0)),dO 6 (.mv (tM 33))]) .ret)⟩
theorem k90:(Bt Tryz.prog byr).fns 288=some c90:=by kernel_rfl
theorem t90:T.fns 288=some c90:=Bx k90 (by decide) (by decide)
def c91:IFunc:=⟨18,[.tmp 2],.seq (.ops [dO 2 (.mv (cI 0))]) (.seq (.ops [dO 3 (.mv (cI 0))]) (.seq (.seq (.ops [dO 6 (.mv (tM 0)),dO 7 (.len (tM 6)),dO 8 (.mv (cI 0))]) (.block 0 (.loop (.seq (.ops [dO 9 (.bin .lss (tM 8) (tM 7))]) (.seq (.cond (tM 9) .skip (.exit 0)) (.seq (.block 1 (.seq (.ops [dO 10 (.indexAddr 1 (tM 6) (tM 8)),dO 11 (.load none (tM 10)),dO 5 (.mv (tM 11))]) (.seq (.ops [dO 12 (.mv (tM 5)),dO 13 (.mv (tM 3)),dO 14 (.bin .neq (tM 12) (tM 13))]) (.cond (tM 14) (.seq (.ops [dO 15 (.mv (tM 5)),dO 2 (.mv (tM 15))]) .ret) .skip)))) (.ops [dO 16 (.bin .add (tM 8) (cI 1)),dO 8 (.mv (tM 16))]))))))) (.seq (.ops [dO 17 (.mv (tM 3)),dO 2 (.mv (tM 17))]) .ret)))⟩
theorem k91:(Bt Tryz.prog byr).fns 289=some c91:=by kernel_rfl
theorem t91:T.fns 289=some c91:=Bx k91 (by decide) (by decide)
def c92:IFunc:=⟨20,[.tmp 4],.seq (.ops [dO 4 (.mv (cI 0))]) (.seq (.ops [dO 7 (.mv (tM 0)),dO 8 (.callF false 358 [tM 7]),dO 5 (.mv (tM 8))]) (.seq (.ops [dO 9 (.mv (tM 1)),dO 10 (.callF false 358 [tM 9]),dO 6 (.mv (tM 10))]) (.seq (.seq (.ops [dO 11 (.mv (tM 5))]) (.cond (tM 11) (.seq (.seq (.ops [dO 12 (.mv (tM 6))]) (.cond (tM 12) (.seq (.ops [dO 4 (.mv (cI 0))]) .ret) .skip)) (.seq (.ops [dO 4 (.mv (cI (-1)))]) .ret)) .skip)) (.seq (.seq (.ops [dO 13 (.mv (tM 6))]) (.cond (tM 13) (.seq (.ops [dO 4 (.mv (cI 1))]) .ret) .skip)) (.seq (.seq (.ops [dO 14 (.mv (tM 0)),dO 15 (.mv (tM 1)),dO 16 (.bin .lss (tM 14) (tM 15))]) (.cond (tM 16) (.seq (.ops [dO 4 (.mv (cI (-1)))]) .ret) .skip)) (.seq (.seq (.ops [dO 17 (.mv (tM 0)),dO 18 (.mv (tM 1)),dO 19 (.bin .gtr (tM 17) (tM 18))]) (.cond (tM 19) (.seq (.ops [dO 4 (.mv (cI 1))]) .ret) .skip)) (.seq (.ops [dO 4 (.mv (cI 0))]) .ret)))))))⟩
theorem k92:(Bt Tryz.prog byr).fns 290=some c92:=by kernel_rfl
theorem t92:T.fns 290=some c92:=Bx k92 (by decide) (by decide)
def c93:IFunc:=⟨19,[.tmp 4],.seq (.ops [dO 4 (.mv (cI 0))]) (.seq (.seq (.ops [dO 6 (.mv (tM 0)),dO 7 (.len (tM 6)),dO 8 (.mv (cI 0))]) (.block 0 (.loop (.seq (.ops [dO 9 (.bin .lss (tM 8) (tM 7))]) (.seq (.cond (tM 9) .skip (.exit 0)) (.seq (.block 1 (.seq (.ops [dO 10 (.mv (tM 8)),dO 5 (.mv (tM 10))]) (.seq (.ops [dO 11 (.mv (tM 1)),dO 12 (.mv (tM 0)),dO 13 (.mv (tM 5)),dO 14 (.indexAddr 1 (tM 12) (tM 13)),dO 15 (.load none (tM 14)),dO 16 (.bin .eql (tM 11) (tM 15))]) (.cond (tM 16) (.seq (.ops [dO 17 (.mv (tM 5)),dO 4 (.mv (tM 17))]) .ret) .skip)))) (.ops [dO 18 (.bin .add (tM 8) (cI 1)),dO 8 (.mv (tM 18))]))))))) (.seq (.ops [dO 4 (.mv (cI (-1)))]) .ret))⟩
theorem k93:(Bt Tryz.prog byr).fns 43=some c93:=by kernel_rfl
theorem t93:T.fns 43=some c93:=Bx k93 (by decide) (by decide)
def c95:IFunc:=⟨19,[.tmp 4],.seq (.ops [dO 4 (.mv (cI 0))]) (.seq (.seq (.ops [dO 6 (.mv (tM 0)),dO 7 (.len (tM 6)),dO 8 (.mv (cI 0))]) (.block 0 (.loop (.seq (.ops [dO 9 (.bin .lss (tM 8) (tM 7))]) (.seq (.cond (tM 9) .skip (.exit 0)) (.seq (.block 1 (.seq (.ops [dO 10 (.mv (tM 8)),dO 5 (.mv (tM 10))]) (.seq (.ops [dO 11 (.mv (tM 1)),dO 12 (.mv (tM 0)),dO 13 (.mv (tM 5)),dO 14 (.indexAddr 1 (tM 12) (tM 13)),dO 15 (.load none (tM 14)),dO 16 (.call false (tM 11) [tM 15])]) (.cond (tM 16) (.seq (.ops [dO 17 (.mv (tM 5)),dO 4 (.mv (tM 17))]) .ret) .skip)))) (.ops [dO 18 (.bin .add (tM 8) (cI 1)),dO 8 (.mv (tM 18))]))))))) (.seq (.ops [dO 4 (.mv (cI (-1)))]) .ret))⟩
theorem k95:(Bt Tryz.prog byr).fns 220=some c95:=by kernel_rfl
theorem t95:T.fns 220=some c95:=Bx k95 (by decide) (by decide)
def c96:IFunc:=⟨63,[],.seq (.ops [dO 6 (.mv (cI 20))]) (.seq (.ops [dO 10 (.mv (tM 6)),dO 7 (.mv (cI 0)),dO 8 (.mv (tM 10))]) (.seq (.block 0 (.loop (.seq (.seq (.ops [dO 11 (.mv (tM 8)),dO 12 (.mv (tM 1)),dO 13 (.bin .leq (tM 11) (tM 12))]) (.cond (tM 13) .skip (.exit 0))) (.block 1 (.seq (.ops [dO 14 (.mv (tM 0)),dO 15 (.mv (tM 7)),dO 16 (.mv (tM 8)),dO 17 (.mv (tM 2)),dO 18 (.callF true 221 [tM 14,tM 15,tM 16,tM 17])]) (.seq (.ops [dO 19 (.mv (tM 8)),dO 7 (.mv (tM 19))]) (.ops [dO 20 (.mv (tM 8)),dO 21 (.mv (tM 6)),dO 22 (.bin .add (tM 20) (tM 21)),dO 8 (.mv (tM 22))]))))))) (.seq (.ops [dO 23 (.mv (tM 0)),dO 24 (.mv (tM 7)),dO 25 (.mv (tM 1)),dO 26 (.mv (tM 2)),dO 27 (.callF true 221 [tM 23,tM 24,tM 25,tM 26])]) (.block 2 (.loop (.seq (.seq (.ops [dO 28 (.mv (tM 6)),dO 29 (.mv (tM 1)),dO 30 (.bin .lss (tM 28) (tM 29))]) (.cond (tM 30) .skip (.exit 2))) (.block 3 (.seq (.ops [dO 31 (.mv (tM 6)),dO 32 (.bin .mul (cI 2) (tM 31)),dO 7 (.mv (cI 0)),dO 8 (.mv (tM 32))]) (.seq (.block 4 (.loop (.seq (.seq (.ops [dO 33 (.mv (tM 8)),dO 34 (.mv (tM 1)),dO 35 (.bin .leq (tM 33) (tM 34))]) (.cond (tM 35) .skip (.exit 4))) (.block 5 (.seq (.ops [dO 36 (.mv (tM 0)),dO 37 (.mv (tM 7)),dO 38 (.mv (tM 7)),dO 39 (.mv (tM 6)),dO 40 (.bin .add (tM 38) (tM 39)),dO 41 (.mv (tM 8)),dO 42 (.mv (tM 2)),dO 43 (.callF true 222 [tM 36,tM 37,tM 40,tM 41,tM 42])]) (.seq (.ops [dO 44 (.mv (tM 8)),dO 7 (.mv (tM 44))]) (.ops [dO 45 (.mv (tM 8)),dO 46 (.mv (tM 6)),dO 47 (.bin .mul (cI 2) (tM 46)),dO 48 (.bin .add (tM 45) (tM 47)),dO 8 (.mv (tM 48))]))))))) (.seq (.seq (.ops [dO 49 (.mv (tM 7)),dO 50 (.mv (tM 6)),dO 51 (.bin .add (tM 49) (tM 50)),dO 9 (.mv (tM 51))]) (.seq (.ops [dO 52 (.mv (tM 9)),dO 53 (.mv (tM 1)),dO 54 (.bin .lss (tM 52) (tM 53))]) (.cond (tM 54) (.ops [dO 55 (.mv (tM 0)),dO 56 (.mv (tM 7)),dO 57 (.mv (tM 9)),dO 58 (.mv (tM 1)),dO 59 (.mv (tM 2)),dO 60 (.callF true 222 [tM 55,tM 56,tM 57,tM 58,tM 59])]) .skip))) (.ops [dO 61 (.mv (tM 6)),dO 62 (.bin .mul (tM 61) (cI 2)),dO 6 (.mv (tM 62))])))))))))))⟩
theorem k96:(Bt Tryz.prog byr).fns 180=some c96:=by kernel_rfl
theorem t96:T.fns 180=some c96:=Bx k96 (by decide) (by decide)
def c97:IFunc:=⟨6,[.tmp 2],.seq (.ops [dO 2 (.mv (cB false))]) (.seq (.ops [dO 3 (.mv (tM 0)),dO 4 (.mv (tM 0)),dO 5 (.bin .neq (tM 3) (tM 4)),dO 2 (.mv (tM 5))]) .ret)⟩
theorem k97:(Bt Tryz.prog byr).fns 181=some c97:=by kernel_rfl
theorem t97:T.fns 181=some c97:=Bx k97 (by decide) (by decide)
def c99:IFunc:=⟨6,[.tmp 2],.seq (.ops [dO 2 (.mv (cB false))]) (.seq (.ops [dO 3 (.mv (tM 0)),dO 4 (.mv (tM 0)),dO 5 (.bin .neq (tM 3) (tM 4)),dO 2 (.mv (tM 5))]) .ret)⟩
theorem k99:(Bt Tryz.prog byr).fns 358=some c99:=by kernel_rfl
theorem t99:T.fns 358=some c99:=Bx k99 (by decide) (by decide)
def c100:IFunc:=⟨53,[],.seq (.ops [dO 10 (.mv (tM 1)),dO 11 (.bin .add (tM 10) (cI 1)),dO 8 (.mv (tM 11))]) (.block 0 (.loop (.seq (.seq (.ops [dO 12 (.mv (tM 8)),dO 13 (.mv (tM 2)),dO 14 (.bin .lss (tM 12) (tM 13))]) (.cond (tM 14) .skip (.exit 0))) (.seq (.block 1 (.seq (.ops [dO 17 (.mv (tM 8)),dO 9 (.mv (tM 17))]) (.block 2 (.loop (.seq (.seq (.ops [dO 18 (.mv (tM 9)),dO 19 (.mv (tM 1)),dO 20 (.bin .gtr (tM 18) (tM 19)),dO 21 (.mv (tM 20)),gO 22 (.mv (tM 3)) 21 true,gO 23 (.mv (tM 0)) 21 true,gO 24 (.mv (tM 9)) 21 true,gO 25 (.indexAddr 1 (tM 23) (tM 24)) 21 true,gO 26 (.load none (tM 25)) 21 true,gO 27 (.mv (tM 0)) 21 true,gO 28 (.mv (tM 9)) 21 true,gO 29 (.bin .sub (tM 28) (cI 1)) 21 true,gO 30 (.indexAddr 1 (tM 27) (tM 29)) 21 true,gO 31 (.load none (tM 30)) 21 true,gO 32 (.call false (tM 22) [tM 26,tM 31]) 21 true,gO 33 (.bin .lss (tM 32) (cI 0)) 21 true,dO 34 (.pick (tM 21) (tM 33) (cB false))]) (.cond (tM 34) .skip (.exit 2))) (.seq (.block 3 (.ops [dO 37 (.mv (tM 0)),dO 38 (.mv (tM 9)),dO 39 (.mv (tM 0)),dO 40 (.mv (tM 9)),dO 41 (.bin .sub (tM 40) (cI 1)),dO 42 (.mv (tM 0)),dO 43 (.mv (tM 9)),dO 44 (.bin .sub (tM 43) (cI 1)),dO 45 (.indexAddr 1 (tM 42) (tM 44)),dO 46 (.load none (tM 45)),dO 47 (.mv (tM 0)),dO 48 (.mv (tM 9)),dO 49 (.indexAddr 1 (tM 47) (tM 48)),dO 50 (.load none (tM 49)),dO 51 (.indexAddr 1 (tM 37) (tM 38)),eO (.store 1 (tM 51) (tM 46)),dO 52 (.indexAddr 1 (tM 39) (tM 41)),eO (.store 1 (tM 52) (tM 50))])) (.ops [dO 35 (.mv (tM 9)),dO 36 (.bin .sub (tM 35) (cI 1)),dO 9 (.mv (tM 36))]))))))) (.ops [dO 15 (.mv (tM 8)),dO 16 (.bin .add (tM 15) (cI 1)),dO 8 (.mv (tM 16))])))))⟩
theorem k100:(Bt Tryz.prog byr).fns 221=some c100:=by kernel_rfl
theorem t100:T.fns 221=some c100:=Bx k100 (by decide) (by decide)
def c102:IFunc:=⟨58,[],.seq (.ops [dO 12 (.mv (tM 2)),dO 13 (.mv (tM 1)),dO 14 (.bin .sub (tM 12) (tM 13)),dO 10 (.mv (tM 14))]) (.seq (.ops [dO 15 (.mv (tM 3)),dO 16 (.mv (tM 2)),dO 17 (.bin .sub (tM 15) (tM 16)),dO 11 (.mv (tM 17))]) (.seq (.block 0 (.loop (.seq (.seq (.ops [dO 18 (.mv (tM 10)),dO 19 (.mv (tM 11)),dO 20 (.bin .neq (tM 18) (tM 19))]) (.cond (tM 20) .skip (.exit 0))) (.block 1 (.seq (.ops [dO 21 (.mv (tM 10)),dO 22 (.mv (tM 11)),dO 23 (.bin .gtr (tM 21) (tM 22))]) (.cond (tM 23) (.seq (.ops [dO 24 (.mv (tM 0)),dO 25 (.mv (tM 2)),dO 26 (.mv (tM 10)),dO 27 (.bin .sub (tM 25) (tM 26)),dO 28 (.mv (tM 2)),dO 29 (.mv (tM 11)),dO 30 (.mv (tM 4)),dO 31 (.callF true 364 [tM 24,tM 27,tM 28,tM 29,tM 30])]) (.ops [dO 32 (.mv (tM 10)),dO 33 (.mv (tM 11)),dO 34 (.bin .sub (tM 32) (tM 33)),dO 10 (.mv (tM 34))])) (.seq (.ops [dO 35 (.mv (tM 0)),dO 36 (.mv (tM 2)),dO 37 (.mv (tM 10)),dO 38 (.bin .sub (tM 36) (tM 37)),dO 39 (.mv (tM 2)),dO 40 (.mv (tM 11)),dO 41 (.bin .add (tM 39) (tM 40)),dO 42 (.mv (tM 10)),dO 43 (.bin .sub (tM 41) (tM 42)),dO 44 (.mv (tM 10)),dO 45 (.mv (tM 4)),dO 46 (.callF true 364 [tM 35,tM 38,tM 43,tM 44,tM 45])]) (.ops [dO 47 (.mv (tM 11)),dO 48 (.mv (tM 10)),dO 49 (.bin .sub (tM 47) (tM 48)),dO 11 (.mv (tM 49))])))))))) (.ops [dO 50 (.mv (tM 0)),dO 51 (.mv (tM 2)),dO 52 (.mv (tM 10)),dO 53 (.bin .sub (tM 51) (tM 52)),dO 54 (.mv (tM 2)),dO 55 (.mv (tM 10)),dO 56 (.mv (tM 4)),dO 57 (.callF true 364 [tM 50,tM 53,tM 54,tM 55,tM 56])])))⟩
theorem k102:(Bt Tryz.prog byr).fns 301=some c102:=by kernel_rfl
theorem t102:T.fns 301=some c102:=Bx k102 (by decide) (by decide)
end Go.Ev.YtgehhippjhealaaGreatC.P5
set_option linter.unusedSimpArgs false
set_option linter.unusedVariables false
namespace Go.Ev.YtgehhippjhealaaGreatC.P5
open Go
structure Order where
 lo:Int
 hi:Int
 due:Int
def okO (o:Order):Bool:=!(decide (o.lo<1)||decide (o.hi>100)||decide (o.lo>o.hi)||decide (o.due<0)||decide (o.due>2000))
def chk (l:List Order):Int:=if 10<l.length then 6 else if l.all okO then 0 else 3
structure Ok (o:Order):Prop where
 lo:1<=o.lo
 lh:o.lo<=o.hi
 hi:o.hi<=100
 d0:0<=o.due
 d1:o.due<=2000
theorem A7x (o:Order):okO o=true↔Ok o:=by
 simp only [okO,Bool.not_eq_true',Bool.or_eq_false_iff,decide_eq_false_iff_not]
 constructor
 ·rintro ⟨⟨⟨⟨a,b⟩,c⟩,d⟩,e⟩
  exact ⟨by omega,by omega,by omega,by omega,by omega⟩
 ·rintro ⟨a,b,c,d,e⟩
  omega
structure Valid (l:List Order):Prop where
 len:l.length<=10
 ok:∀o∈l,Ok o
theorem chk_zero (l:List Order):chk l=0↔Valid l:=by
 unfold chk
 constructor
 ·intro h
  split at h
  ·cases h
  ·split at h
   ·next h1 h2=>exact ⟨by omega,fun o ho=>(A7x o).1 (List.all_eq_true.1 h2 o ho)⟩
   ·cases h
 ·rintro ⟨h1,h2⟩
  rw [if_neg (by omega),if_pos (List.all_eq_true.2 fun o ho=>(A7x o).2 (h2 o ho))]
def A0i (n:Int):List Int->Int->Int
 | [],_ => -1
 | x::r,i=>if x=n then i else A0i n r (i+1)
def Jt (l:List Int) (n:Int):Int:=A0i n l 0
structure Seq (n:Nat) (s:List Int):Prop where
 len:s.length=n
 has:∀i:Nat,i<n->(i:Int)∈s
theorem Seq.lt:∀{n:Nat} {s:List Int},Seq n s->(∀x∈s,0<=x/\x<n)/\s.Nodup
 | 0,s,h=>by
  have:=h.len
  obtain rfl:s=[]:=by simpa using this
  simp
 | n+1,s,h=>by
  have hn:=h.has n (by omega)
  have h':Seq n (s.erase (n:Int)):=by
   refine ⟨by rw [List.length_erase_of_mem hn,h.len]; rfl,fun i hi => ?_⟩
   exact (List.mem_erase_of_ne (by omega)).2 (h.has i (by omega))
  obtain ⟨h1,h2⟩:=Seq.lt h'
  have hp:=List.perm_cons_erase hn
  constructor
  ·intro x hx
   rcases List.mem_cons.1 (hp.mem_iff.1 hx) with rfl | hx
   ·omega
   ·have:=h1 x hx
    omega
  ·rw [hp.nodup_iff,List.nodup_cons]
   exact ⟨fun hm=>by have:=h1 _ hm; omega,h2⟩
def bub (f:Int->Int):List Int->Int->List Int->List Int
 | [],x,post=>x::post
 | y::r,x,post=>if f x<f y then bub f r x (y::post) else r.reverse++y::x::post
def Ej (f:Int->Int):List Int->List Int->List Int
 | done,[]=>done
 | done,x::r=>Ej f (bub f done.reverse x []) r
def Db (l:List Order) (i:Int):Int:=match l[i.toNat]? with | some o=>o.due | none=>0
def idx (n:Nat):List Int:=(List.range n).map fun i:Nat=>(i:Int)
def Ds (l:List Order):List Int:=Ej (Db l) [] (idx l.length)
theorem Xs (f:Int->Int):∀(r:List Int) (x:Int) (post:List Int),(bub f r x post).length=r.length+1+post.length
 | [],x,post=>by simp [bub]; omega
 | y::r,x,post=>by
  unfold bub
  split
  ·rw [Xs f r]; simp; omega
  ·simp; omega
theorem A2f (f:Int->Int):∀(r:List Int) (x:Int) (post:List Int),(bub f r x post).Perm (r.reverse++x::post)
 | [],x,post=>by simp [bub]
 | y::r,x,post=>by
  unfold bub
  split
  ·refine (A2f f r x (y::post)).trans ?_
   simp only [List.reverse_cons,List.append_assoc,List.singleton_append]
   exact List.Perm.append_left _ (List.Perm.swap ..)
  ·simp
theorem Iq (f:Int->Int):∀(r done:List Int),(Ej f done r).Perm (done++r)
 | [],done=>by simp [Ej]
 | x::r,done=>by
  unfold Ej
  refine (Iq f r _).trans ?_
  have:=A2f f done.reverse x []
  rw [List.reverse_reverse] at this
  refine (this.append_right r).trans ?_
  simp
theorem Nx {n:Nat} {x:Int}:x∈idx n↔0<=x/\x<n:=by
 simp only [idx,List.mem_map,List.mem_range]
 constructor
 ·rintro ⟨i,hi,rfl⟩; omega
 ·intro h; exact ⟨x.toNat,by omega,by omega⟩
theorem Ga (n:Nat):(idx n).length=n:=by simp [idx]
theorem Rd (l:List Order):(Ds l).Perm (idx l.length):=by
 have:=Iq (Db l) (idx l.length) []
 simpa [Ds] using this
theorem Ua (l:List Order):(Ds l).length=l.length:=by rw [(Rd l).length_eq,Ga]
theorem Lj {l:List Order} {x:Int}:x∈Ds l↔0<=x/\x<l.length:=by rw [(Rd l).mem_iff,Nx]
theorem A0m (n:Nat):(idx n).Nodup:=List.Pairwise.map _ (fun a b h=>by omega) List.nodup_range
theorem Nq (l:List Order):(Ds l).Nodup:=(Rd l).nodup_iff.2 (A0m _)
theorem Wt {l:List Int} (hn:l.Nodup) {k:Nat} {x:Int} (h:l[k]? = some x):l.idxOf x=k:=by
 obtain ⟨hk,rfl⟩:=List.getElem?_eq_some_iff.1 h
 exact hn.idxOf_getElem k hk
theorem Avd {l:List Int} (hn:l.Nodup) {k:Nat} {x:Int} (h:x∈l.take k):l.idxOf x<k:=by
 obtain ⟨i,hi,he⟩:=List.mem_iff_getElem.1 h
 rw [List.getElem_take] at he
 rw [List.length_take] at hi
 have:=Wt hn (List.getElem?_eq_some_iff.2 ⟨by omega,he⟩)
 omega
theorem Afd {l:List Int} (hn:l.Nodup) {k:Nat} {x:Int} (h:l[k]? = some x):x∉l.take k:=by
 obtain ⟨hk,rfl⟩:=List.getElem?_eq_some_iff.1 h
 intro hm
 have h2:l.take k++l.drop k=l:=List.take_append_drop k l
 rw [<-h2,List.nodup_append] at hn
 refine hn.2.2 _ hm _ ?_ rfl
 rw [List.drop_eq_getElem_cons hk]
 exact List.mem_cons_self
def Gg (l:List Order) (s:Int):List Int:=l.map fun o=>if s=1 then o.hi else o.lo
def wk (w:List Int) (i:Int):Int:=w.getD i.toNat 0
def Dy (w:List Int) (ks:List Int):Int:=(ks.map (wk w)).sum
def It (w:List Int):List Int->Int
 | []=>0
 | a::r=>r.foldl (fun m x=>if wk w x>=wk w m then x else m) a
def Li (l:List Order) (w:List Int):List Int->List Int->Int->List Int
 | [],ks,_=>ks
 | i::r,ks,day =>
  if day+wk w i<=Db l i then Li l w r (ks++[i]) (day+wk w i)
  else Li l w r ((ks++[i]).erase (It w (ks++[i]))) (day+wk w i-wk w (It w (ks++[i])))
def keptOf (l:List Order) (s:Int):List Int:=Li l (Gg l s) (Ds l) [] 0
theorem A0c (w:List Int):∀ks:List Int,ks≠[]->It w ks∈ks
 | [],h=>(h rfl).elim
 | a::r,_=>by
  have:∀(r:List Int) (a:Int),r.foldl (fun m x=>if wk w x>=wk w m then x else m) a∈a::r:=by
   intro r
   induction r with
   | nil=>intro a; simp
   | cons b r ih =>
    intro a
    rw [List.foldl_cons]
    have:=ih (if wk w b>=wk w a then b else a)
    rcases List.mem_cons.1 this with h | h
    ·rw [h]; split <;> simp
    ·simp [h]
  exact this r a
theorem A9w (w:List Int) (rk:Int->Nat):∀ks:List Int,ks.Pairwise (fun a b=>rk a<rk b)->∀x∈ks,x=It w ks\/wk w x<wk w (It w ks)\/(wk w x=wk w (It w ks)/\rk x<rk (It w ks))
 | [],_,x,hx=>by cases hx
 | a::r,hp,x,hx=>by
  have main:∀(r:List Int) (a:Int),(a::r).Pairwise (fun a b=>rk a<rk b)->∀x∈a::r,x=r.foldl (fun m x=>if wk w x>=wk w m then x else m) a\/wk w x<wk w (r.foldl (fun m x=>if wk w x>=wk w m then x else m) a)\/(wk w x=wk w (r.foldl (fun m x=>if wk w x>=wk w m then x else m) a)/\rk x<rk (r.foldl (fun m x=>if wk w x>=wk w m then x else m) a)):=by
   intro r
   induction r with
   | nil=>intro a _ x hx; left; simpa using hx
   | cons b r ih =>
    intro a hp x hx
    rw [List.foldl_cons]
    obtain ⟨h1,h2⟩:=List.pairwise_cons.1 hp
    obtain ⟨h3,h4⟩:=List.pairwise_cons.1 h2
    by_cases hb:wk w b>=wk w a
    ·rw [if_pos hb]
     have hb':=ih b h2 b List.mem_cons_self
     rcases List.mem_cons.1 hx with rfl | hx
     ·have hab:=h1 b List.mem_cons_self
      right
      rcases hb' with h | h | ⟨h,h'⟩
      ·rw [<-h]
       omega
      ·left; omega
      ·omega
     ·exact ih b h2 x hx
    ·rw [if_neg hb]
     have hpa:(a::r).Pairwise (fun a b=>rk a<rk b):=List.pairwise_cons.2 ⟨fun y hy=>h1 y (List.mem_cons_of_mem _ hy),h4⟩
     have ha:=ih a hpa a List.mem_cons_self
     rcases List.mem_cons.1 hx with rfl | hx
     ·exact ih x hpa x List.mem_cons_self
     ·rcases List.mem_cons.1 hx with rfl | hx
      ·right; left
       rcases ha with h | h | ⟨h,h'⟩
       ·rw [<-h]; omega
       ·omega
       ·omega
      ·exact ih a hpa x (List.mem_cons_of_mem _ hx)
  exact main r a hp x hx
theorem A5n (l:List Order) (w:List Int) (i:Int) (r ks:List Int) (day:Int):Li l w (i::r) ks day=if day+wk w i<=Db l i then Li l w r (ks++[i]) (day+wk w i) else Li l w r ((ks++[i]).erase (It w (ks++[i]))) (day+wk w i-wk w (It w (ks++[i]))):=rfl
theorem Ix (w:List Int) (a b:List Int):Dy w (a++b)=Dy w a+Dy w b:=by simp [Dy]
theorem Rl (w:List Int):∀(ks:List Int) (x:Int),x∈ks->Dy w (ks.erase x)=Dy w ks-wk w x
 | [],x,h=>by cases h
 | a::r,x,h=>by
  by_cases hax:a=x
  ·subst hax
   simp only [List.erase_cons_head,Dy,List.map_cons,List.sum_cons]
   omega
  ·have hr:x∈r:=by
    rcases List.mem_cons.1 h with h | h
    ·exact (hax h.symm).elim
    ·exact h
   rw [List.erase_cons_tail (by simpa using hax)]
   have:=Rl w r x hr
   simp only [Dy,List.map_cons,List.sum_cons] at this ⊢
   omega
theorem Hn {w:List Int} (hw:∀x∈w,0<=x) (ks:List Int):0<=Dy w ks:=by
 induction ks with
 | nil=>simp [Dy]
 | cons a r ih =>
  have:0<=wk w a:=by
   unfold wk
   rw [List.getD_eq_getElem?_getD]
   cases h:w[a.toNat]? with
   | none=>simp
   | some y=>exact hw y (List.mem_of_getElem? h)
  simp only [Dy,List.map_cons,List.sum_cons] at ih ⊢
  omega
theorem Zw (w:List Int) (rk:Int->Nat) (bt:Int->Int->Bool) (hbt:∀a b,bt a b=(decide (wk w a>wk w b)||(decide (wk w a=wk w b)&&decide (rk a>rk b)))):∀(xs:List Int) (a:Int),
  xs.foldl (fun m x=>if bt x m then x else m) a∈a::xs/\∀x∈a::xs,bt x (xs.foldl (fun m x=>if bt x m then x else m) a)=false
 | [],a=>by
  refine ⟨by simp,fun x hx => ?_⟩
  obtain rfl:x=a:=by simpa using hx
  simp [hbt]
 | b::r,a=>by
  obtain ⟨h1,h2⟩:=Zw w rk bt hbt r (if bt b a then b else a)
  rw [List.foldl_cons]
  generalize List.foldl (fun m x=>if bt x m then x else m) (if bt b a then b else a) r=f at h1 h2 ⊢
  refine ⟨?_,?_⟩
  ·rcases List.mem_cons.1 h1 with h | h
   ·rw [h]; split <;> simp
   ·simp [h]
  ·have hh:=h2 (if bt b a then b else a) List.mem_cons_self
   intro x hx
   by_cases hba:bt b a=true
   ·rw [if_pos hba] at hh h2
    rcases List.mem_cons.1 hx with rfl | hx
    ·rw [hbt] at hh hba ⊢
     simp only [Bool.or_eq_true,Bool.and_eq_true,decide_eq_true_eq,Bool.or_eq_false_iff,Bool.and_eq_false_iff,decide_eq_false_iff_not] at hh hba ⊢
     omega
    ·exact h2 x hx
   ·have hba':bt b a=false:=by simpa using hba
    rw [if_neg hba] at hh h2
    rcases List.mem_cons.1 hx with rfl | hx
    ·exact hh
    ·rcases List.mem_cons.1 hx with rfl | hx
     ·rw [hbt] at hh hba' ⊢
      simp only [Bool.or_eq_false_iff,Bool.and_eq_false_iff,decide_eq_false_iff_not] at hh hba' ⊢
      omega
     ·exact h2 x (List.mem_cons_of_mem _ hx)
theorem Acg (w:List Int) (rk:Int->Nat) (bt:Int->Int->Bool) (hbt:∀a b,bt a b=(decide (wk w a>wk w b)||(decide (wk w a=wk w b)&&decide (rk a>rk b)))) (ks xs:List Int) (hp:ks.Pairwise (fun a b=>rk a<rk b)) (hm:∀x,x∈xs↔x∈ks) (h0:xs≠[]) :
  xs.tail.foldl (fun m x=>if bt x m then x else m) (xs.headD 0)=It w ks:=by
 cases xs with
 | nil=>exact (h0 rfl).elim
 | cons a r =>
  obtain ⟨h1,h2⟩:=Zw w rk bt hbt r a
  simp only [List.tail_cons,List.headD_cons]
  generalize List.foldl (fun m x=>if bt x m then x else m) a r=f at h1 h2 ⊢
  have hk:ks≠[]:=by
   intro h
   have:=(hm a).1 List.mem_cons_self
   rw [h] at this
   cases this
  have hpm:=A0c w ks hk
  have hb:=h2 _ ((hm _).2 hpm)
  rcases A9w w rk ks hp f ((hm f).1 h1) with h | h
  ·exact h
  ·rw [hbt] at hb
   simp only [Bool.or_eq_false_iff,Bool.and_eq_false_iff,decide_eq_false_iff_not] at hb
   omega
theorem Uz {α:Type} (p q:α->Bool) (hqp:∀t,q t=true->p t=true) (t0:α) (hp:p t0=true) (hq:q t0=false):∀l:List α,t0∈l->(l.filter q).length<(l.filter p).length
 | [],h=>by cases h
 | a::r,h=>by
  have hle:∀l:List α,(l.filter q).length<=(l.filter p).length:=by
   intro l
   induction l with
   | nil=>simp
   | cons a r ih =>
    simp only [List.filter_cons]
    by_cases ha:q a=true
    ·simp [ha,hqp a ha,ih]
    ·by_cases hb:p a=true
     ·simp [ha,hb]; omega
     ·simp [ha,hb,ih]
  simp only [List.filter_cons]
  rcases List.mem_cons.1 h with rfl | h
  ·simp [hp,hq]
   have:=hle r
   omega
  ·have ih:=Uz p q hqp t0 hp hq r h
   by_cases ha:q a=true
   ·simp [ha,hqp a ha,ih]
   ·by_cases hb:p a=true
    ·simp [ha,hb]; omega
    ·simp [ha,hb,ih]
theorem A7e {E:List (Int×Nat)} (hn:(E.map Prod.snd).Nodup) {u t:Int×Nat} (hu:u∈E) (ht:t∈E) (h:u.2=t.2):u=t:=by
 induction E with
 | nil=>cases hu
 | cons a r ih =>
  rw [List.map_cons,List.nodup_cons] at hn
  rcases List.mem_cons.1 hu with hu' | hu'
  ·rcases List.mem_cons.1 ht with ht' | ht'
   ·rw [hu',ht']
   ·exact (hn.1 (by rw [<-hu',h]; exact List.mem_map_of_mem ht')).elim
  ·rcases List.mem_cons.1 ht with ht' | ht'
   ·exact (hn.1 (by rw [<-ht',<-h]; exact List.mem_map_of_mem hu')).elim
   ·exact ih hn.2 hu' ht'
def marks (ks:List Int):List Int:=(List.range 10).map fun j:Nat=>if ks.contains (j:Int) then 1 else 0
theorem Hz (ks:List Int):(marks ks).length=10:=by simp [marks]
theorem A1b (ks:List Int) (j:Nat) (hj:j<10):(marks ks)[j]? = some (if ks.contains (j:Int) then 1 else 0):=by
 simp [marks,hj]
theorem A5r {a b:List Int} (h:∀x,x∈a↔x∈b):marks a=marks b:=by
 unfold marks
 refine List.map_congr_left fun j _ => ?_
 have:a.contains (j:Int)=b.contains (j:Int):=by
  rw [Bool.eq_iff_iff]
  simp [h]
 rw [this]
theorem Acc (ks:List Int) (j:Nat) (hj:j<10):(marks ks).set j 1=marks (ks++[(j:Int)]):=by
 apply List.ext_getElem?
 intro i
 by_cases hi:i<10
 ·rw [List.getElem?_set,A1b _ _ hi,A1b _ _ hi,Hz]
  by_cases hij:j=i
  ·subst hij
   simp [hi]
  ·rw [if_neg hij]
   have:(ks++[(j:Int)]).contains (i:Int)=ks.contains (i:Int):=by
    rw [Bool.eq_iff_iff]
    simp
    omega
   rw [this]
 ·rw [List.getElem?_eq_none (by simp [Hz]; omega),List.getElem?_eq_none (by simp [Hz]; omega)]
end Go.Ev.YtgehhippjhealaaGreatC.P5
namespace Go.Ev.YtgehhippjhealaaGreatC.P5
open Go
theorem Aec (w:List Int) {a b:List Int} (h:a.Perm b):Dy w a=Dy w b:=by
 induction h with
 | nil=>rfl
 | cons x _ ih=>simp only [Dy,List.map_cons,List.sum_cons] at ih ⊢; omega
 | swap x y l=>simp only [Dy,List.map_cons,List.sum_cons]; omega
 | trans _ _ ih1 ih2=>omega
theorem Gl (w:List Int) (a:Int) (r:List Int):Dy w (a::r)=wk w a+Dy w r:=rfl
theorem Kq {w:List Int} (hw:∀x∈w,0<=x) (p:Int->Bool):∀l:List Int,Dy w (l.filter p)<=Dy w l
 | []=>Int.le_refl _
 | a::r=>by
  have ih:=Kq hw p r
  have ha:0<=wk w a:=by
   have:=Hn hw [a]
   simpa [Dy] using this
  rw [List.filter_cons]
  split
  ·rw [Gl,Gl]; omega
  ·rw [Gl]; omega
def bd (l:List Order) (w:List Int) (d:Int):Int:=Dy w ((idx l.length).filter fun i=>decide (Db l i<=d))-d
theorem Seq.perm {n:Nat} {s:List Int} (hs:Seq n s):s.Perm (idx n):=by
 rw [List.perm_ext_iff_of_nodup hs.lt.2 (A0m n)]
 intro a
 rw [Nx]
 constructor
 ·exact hs.lt.1 a
 ·intro h
  obtain ⟨j,rfl⟩:=Int.eq_ofNat_of_zero_le h.1
  exact hs.has j (by omega)
theorem Zr (p:Int->Bool):∀s:List Int,(∃x∈s,p x=true)->∃(k:Nat) (x:Int),s[k]? = some x/\p x=true/\(s.drop (k+1)).filter p=[]
 | [],h=>by obtain ⟨x,hx,_⟩:=h; cases hx
 | a::r,h=>by
  by_cases hr:∃x∈r,p x=true
  ·obtain ⟨k,x,h1,h2,h3⟩:=Zr p r hr
   exact ⟨k+1,x,h1,h2,h3⟩
  ·refine ⟨0,a,rfl,?_,?_⟩
   ·obtain ⟨x,hx,hp⟩:=h
    rcases List.mem_cons.1 hx with rfl | hx
    ·exact hp
    ·exact (hr ⟨x,hx,hp⟩).elim
   ·rw [List.drop_succ_cons,List.drop_zero,List.filter_eq_nil_iff]
    exact fun x hx hp=>hr ⟨x,hx,hp⟩
theorem Yl (f:Int->Int):∀(pr:List Int) (x:Int) (post:List Int),(pr.reverse++post).Pairwise (fun a b=>f a<=f b)->(∀y∈post,f x<=f y)->(bub f pr x post).Pairwise fun a b=>f a<=f b
 | [],x,post,hp,hx=>by
  rw [bub,List.pairwise_cons]
  exact ⟨hx,by simpa using hp⟩
 | y::r,x,post,hp,hx=>by
  unfold bub
  rw [List.reverse_cons,List.append_assoc,List.singleton_append] at hp
  split
  ·refine Yl f r x (y::post) hp fun z hz => ?_
   rcases List.mem_cons.1 hz with rfl | hz
   ·omega
   ·exact hx z hz
  ·next hxy =>
   rw [List.pairwise_append] at hp ⊢
   obtain ⟨h1,h2,h3⟩:=hp
   obtain ⟨h4,h5⟩:=List.pairwise_cons.1 h2
   refine ⟨h1,?_,?_⟩
   ·rw [List.pairwise_cons,List.pairwise_cons]
    refine ⟨fun z hz => ?_,hx,h5⟩
    rcases List.mem_cons.1 hz with rfl | hz
    ·omega
    ·exact h4 z hz
   ·intro a ha b hb
    rcases List.mem_cons.1 hb with rfl | hb
    ·exact h3 a ha _ List.mem_cons_self
    ·rcases List.mem_cons.1 hb with rfl | hb
     ·have:=h3 a ha y List.mem_cons_self
      omega
     ·exact h3 a ha b (List.mem_cons_of_mem _ hb)
theorem Hx (f:Int->Int):∀(r done:List Int),done.Pairwise (fun a b=>f a<=f b)->(Ej f done r).Pairwise fun a b=>f a<=f b
 | [],done,h=>h
 | x::r,done,h=>Hx f r _ (Yl f done.reverse x [] (by simpa using h) (by simp))
end Go.Ev.YtgehhippjhealaaGreatC.P5
namespace Go.Ev.YtgehhippjhealaaGreatC.P5
open Go
end Go.Ev.YtgehhippjhealaaGreatC.P5
namespace Go.Ev.YtgehhippjhealaaGreatC.P5
open Go
def Feas (l:List Order) (w:List Int) (ks:List Int):Prop:=∀d:Int,(∃i∈ks,Db l i<=d)->Dy w (ks.filter fun i=>decide (Db l i<=d))<=d
theorem Feas.perm {l:List Order} {w:List Int} {a b:List Int} (h:a.Perm b) (hf:Feas l w a):Feas l w b:=fun d hd=>by
 rw [<-Aec w (h.filter _)]
 refine hf d ?_
 obtain ⟨i,hi,h1⟩:=hd
 exact ⟨i,h.mem_iff.2 hi,h1⟩
theorem A3z {w:List Int} (hw:∀x∈w,0<=x) {a b:List Int} (h:a.Sublist b):Dy w a<=Dy w b:=by
 induction h with
 | slnil=>exact Int.le_refl _
 | cons x _ ih =>
  have:=Hn hw [x]
  have h1:Dy w [x]=wk w x:=by simp [Dy]
  rw [Gl]; omega
 | cons_cons x _ ih=>rw [Gl,Gl]; omega
theorem Feas.sub {l:List Order} {w:List Int} (hw:∀x∈w,0<=x) {a b:List Int} (h:a.Sublist b) (hf:Feas l w b):Feas l w a:=fun d hd=>by
 obtain ⟨i,hi,h1⟩:=hd
 have:=hf d ⟨i,h.subset hi,h1⟩
 have h2:=A3z hw (h.filter fun i=>decide (Db l i<=d))
 omega
theorem Feas.nil (l:List Order) (w:List Int):Feas l w []:=fun d hd=>by obtain ⟨i,hi,_⟩:=hd; cases hi
def Fm (l:List Order) (w:List Int):Int->List Int->Bool
 | _,[]=>true
 | day,i::r=>decide (day+wk w i<=Db l i)&&Fm l w (day+wk w i) r
theorem Ks (l:List Order) (w:List Int):∀(T:List Int) (day:Int),Fm l w day T=true↔∀(k:Nat) (i:Int),T[k]? = some i->day+Dy w (T.take (k+1))<=Db l i
 | [],day=>by simp [Fm]
 | a::r,day=>by
  rw [Fm,Bool.and_eq_true,decide_eq_true_eq,Ks l w r]
  constructor
  ·rintro ⟨h1,h2⟩ k i hk
   cases k with
   | zero =>
    simp at hk
    subst hk
    simpa [Dy] using h1
   | succ k =>
    simp only [List.getElem?_cons_succ] at hk
    have:=h2 k i hk
    rw [List.take_succ_cons,Gl]
    omega
  ·intro h
   refine ⟨?_,fun k i hk => ?_⟩
   ·have:=h 0 a rfl
    simpa [Dy] using this
   ·have:=h (k+1) i (by simpa using hk)
    rw [List.take_succ_cons,Gl] at this
    omega
theorem A9p {l:List Order} {w:List Int} (hw:∀x∈w,0<=x) {T:List Int} (hs:T.Pairwise fun a b=>Db l a<=Db l b):Fm l w 0 T=true↔Feas l w T:=by
 rw [Ks]
 constructor
 ·intro h d hd
  obtain ⟨x,hx,hxd⟩:=hd
  obtain ⟨k,i,hk,hp,hdrop⟩:=Zr (fun i=>decide (Db l i<=d)) T ⟨x,hx,by simpa using hxd⟩
  have h3:T.filter (fun i=>decide (Db l i<=d))=(T.take (k+1)).filter fun i=>decide (Db l i<=d):=by
   conv=>lhs; rw [<-List.take_append_drop (k+1) T]
   rw [List.filter_append,hdrop,List.append_nil]
  have h4:=Kq hw (fun i=>decide (Db l i<=d)) (T.take (k+1))
  have h5:=h k i hk
  have h6:Db l i<=d:=by simpa using hp
  rw [h3]
  omega
 ·intro h k i hk
  have h1:=h (Db l i) ⟨i,List.mem_of_getElem? hk,Int.le_refl _⟩
  have h3:(T.take (k+1)).filter (fun j=>decide (Db l j<=Db l i))=T.take (k+1):=by
   rw [List.filter_eq_self]
   intro a ha
   rw [List.take_add_one,hk] at ha
   rcases List.mem_append.1 ha with ha | ha
   ·have h4:T=T.take k++i::T.drop (k+1):=by
     obtain ⟨hk',rfl⟩:=List.getElem?_eq_some_iff.1 hk
     rw [<-List.drop_eq_getElem_cons hk',List.take_append_drop]
    rw [h4,List.pairwise_append] at hs
    simpa using hs.2.2 a ha i List.mem_cons_self
   ·obtain rfl:a=i:=by simpa using ha
    simp
  have h4:Dy w (T.filter fun j=>decide (Db l j<=Db l i))=Dy w ((T.take (k+1)).filter fun j=>decide (Db l j<=Db l i))+Dy w ((T.drop (k+1)).filter fun j=>decide (Db l j<=Db l i)):=by
   conv=>lhs; rw [<-List.take_append_drop (k+1) T]
   rw [List.filter_append,Ix]
  have h5:=Hn hw ((T.drop (k+1)).filter fun j=>decide (Db l j<=Db l i))
  rw [h3] at h4
  omega
theorem Sf (l:List Order) (w:List Int):∀(a b:List Int) (d:Int),Fm l w d (a++b)=(Fm l w d a&&Fm l w (d+Dy w a) b)
 | [],b,d=>by simp [Fm,Dy]
 | x::a,b,d=>by
  rw [List.cons_append,Fm,Fm,Sf l w a b,Gl,Bool.and_assoc]
  congr 3
  omega
end Go.Ev.YtgehhippjhealaaGreatC.P5
namespace Go.Ev.YtgehhippjhealaaGreatC.P5
open Go
def Jw (wi i:Int) (least:List Int) (n:Nat):Int:=if n<least.length/\i≠wi then least.getD n 0 else -1
def Ug (l:List Order) (w:List Int) (wi i:Int) (least:List Int) (n:Nat):Int:=
 if n=0\/least.getD (n-1) 0<0 then Jw wi i least n
 else if least.getD (n-1) 0+wk w i<=Db l i/\(Jw wi i least n<0\/least.getD (n-1) 0+wk w i<Jw wi i least n) then least.getD (n-1) 0+wk w i else Jw wi i least n
def Ur (l:List Order) (w:List Int) (wi i:Int) (least:List Int):List Int:=(List.range (least.length+1)).map (Ug l w wi i least)
def Zq (l:List Order) (w:List Int) (wi wo:Int) (P T:List Int):Prop:=T.Sublist P/\Fm l w 0 T=true/\(wi∈P->wi∈T)/\wo∉T
structure DpOk (l:List Order) (w:List Int) (wi wo:Int) (P least:List Int):Prop where
 ex:∀n,n<least.length->0<=least.getD n 0->∃T,Zq l w wi wo P T/\T.length=n/\Dy w T=least.getD n 0
 le:∀T,Zq l w wi wo P T->T.length<least.length/\0<=least.getD T.length 0/\least.getD T.length 0<=Dy w T
theorem Uh {T P:List Int} {i:Int} (h:T.Sublist (P++[i])):T.Sublist P\/∃T',T=T'++[i]/\T'.Sublist P:=by
 obtain ⟨a,b,rfl,h1,h2⟩:=List.sublist_append_iff.1 h
 cases b with
 | nil=>left; simpa using h1
 | cons x r =>
  have hl:=h2.length_le
  simp at hl
  subst hl
  have:x=i:=by simpa using h2.subset (List.mem_cons_self)
  subst this
  exact .inr ⟨a,rfl,h1⟩
theorem Zy {l:List Order} {w:List Int} {T:List Int} {i:Int}:Fm l w 0 (T++[i])=true↔Fm l w 0 T=true/\Dy w T+wk w i<=Db l i:=by
 rw [Sf,Bool.and_eq_true]
 simp [Fm]
theorem Ry (l:List Order) (w:List Int) (wi i:Int) (least:List Int) (n:Nat) (hn:n<least.length+1):(Ur l w wi i least).getD n 0=Ug l w wi i least n:=by
 rw [List.getD_eq_getElem?_getD,Ur,List.getElem?_map,List.getElem?_range hn]
 rfl
theorem Sk (l:List Order) (w:List Int) (wi i:Int) (least:List Int):(Ur l w wi i least).length=least.length+1:=by simp [Ur]
theorem DpOk.step {l:List Order} {w:List Int} {wi wo i:Int} {P least:List Int} (h:DpOk l w wi wo P least) (hw:∀x∈w,0<=x) (hi:i∉P) (ho:i≠wo):DpOk l w wi wo (P++[i]) (Ur l w wi i least):=by
 have hwi:0<=wk w i:=by
  have:=Hn hw [i]
  simpa [Dy] using this
 constructor
 ·intro n hn hge
  rw [Sk] at hn
  rw [Ry _ _ _ _ _ _ hn] at hge ⊢
  have old:0<=Jw wi i least n->∃T,Zq l w wi wo (P++[i]) T/\T.length=n/\Dy w T=Jw wi i least n:=by
   intro h0
   unfold Jw at h0 ⊢
   split at h0
   ·next hc =>
    obtain ⟨T,⟨t1,t2,t3,t4⟩,h2,h3⟩:=h.ex n hc.1 h0
    refine ⟨T,⟨t1.trans (List.sublist_append_left ..),t2,fun hm => ?_,t4⟩,h2,by rw [if_pos hc]; exact h3⟩
    rcases List.mem_append.1 hm with hm | hm
    ·exact t3 hm
    ·have hm':wi=i:=by simpa using hm
     exact (hc.2 hm'.symm).elim
   ·omega
  unfold Ug at hge ⊢
  generalize Jw wi i least n=a at *
  by_cases hz:n=0\/least.getD (n-1) 0<0
  ·rw [if_pos hz] at hge ⊢; exact old hge
  ·rw [if_neg hz] at hge ⊢
   by_cases hc:least.getD (n-1) 0+wk w i<=Db l i/\(a<0\/least.getD (n-1) 0+wk w i<a)
   ·rw [if_pos hc]
    have hn1:n-1<least.length:=by omega
    obtain ⟨T,⟨t1,t2,t3,t4⟩,h2,h3⟩:=h.ex (n-1) hn1 (by omega)
    refine ⟨T++[i],⟨t1.append (List.Sublist.refl _),Zy.2 ⟨t2,by rw [h3]; exact hc.1⟩,fun hm => ?_,?_⟩,by simp; omega,by rw [Ix,h3]; simp [Dy]⟩
    ·rcases List.mem_append.1 hm with hm | hm
     ·exact List.mem_append_left _ (t3 hm)
     ·exact List.mem_append_right _ hm
    ·intro hm
     rcases List.mem_append.1 hm with hm | hm
     ·exact t4 hm
     ·have hm':wo=i:=by simpa using hm
      exact ho hm'.symm
   ·rw [if_neg hc] at hge ⊢; exact old hge
 ·rintro T ⟨t1,t2,t3,t4⟩
  rw [Sk]
  rcases Uh t1 with hT | ⟨T',rfl,hT'⟩
  ·have hiT:i∉T:=fun hm=>hi (hT.subset hm)
   have hne:i≠wi:=fun he=>hiT (he ▸ t3 (by rw [<-he]; simp))
   obtain ⟨h1,h2,h3⟩:=h.le T ⟨hT,t2,fun hm=>t3 (List.mem_append_left _ hm),t4⟩
   refine ⟨by omega,?_⟩
   rw [Ry _ _ _ _ _ _ (by omega)]
   have hold:Jw wi i least T.length=least.getD T.length 0:=by rw [Jw,if_pos ⟨h1,hne⟩]
   unfold Ug
   rw [hold]
   split
   ·exact ⟨h2,h3⟩
   ·split
    ·next hd =>
     refine ⟨by omega,?_⟩
     rcases hd.2 with h | h <;> omega
    ·exact ⟨h2,h3⟩
  ·obtain ⟨f1,f2⟩:=Zy.1 t2
   have hwoT:wo∉T':=fun hm=>t4 (List.mem_append_left _ hm)
   obtain ⟨h1,h2,h3⟩:=h.le T' ⟨hT',f1,fun hm=>by
    rcases List.mem_append.1 (t3 (List.mem_append_left _ hm)) with h | h
    ·exact h
    ·have:wi=i:=by simpa using h
     exact (hi (this ▸ hm)).elim,hwoT⟩
   have hl:(T'++[i]).length=T'.length+1:=by simp
   rw [hl,Ix]
   have hs1:Dy w [i]=wk w i:=by simp [Dy]
   rw [hs1]
   refine ⟨by omega,?_⟩
   rw [Ry _ _ _ _ _ _ (by omega)]
   unfold Ug
   simp only [Nat.add_sub_cancel]
   rw [if_neg (by omega)]
   generalize Jw wi i least (T'.length+1)=a
   split <;> omega
theorem DpOk.skip {l:List Order} {w:List Int} {wi i:Int} {P least:List Int} (h:DpOk l w wi i P least) (hne:wi≠i):DpOk l w wi i (P++[i]) least:=by
 constructor
 ·intro n hn hge
  obtain ⟨T,⟨t1,t2,t3,t4⟩,h2,h3⟩:=h.ex n hn hge
  refine ⟨T,⟨t1.trans (List.sublist_append_left ..),t2,fun hm => ?_,t4⟩,h2,h3⟩
  rcases List.mem_append.1 hm with hm | hm
  ·exact t3 hm
  ·exact (hne (by simpa using hm)).elim
 ·rintro T ⟨t1,t2,t3,t4⟩
  rcases Uh t1 with hT | ⟨T',rfl,hT'⟩
  ·exact h.le T ⟨hT,t2,fun hm=>t3 (List.mem_append_left _ hm),t4⟩
  ·exact (t4 (by simp)).elim
end Go.Ev.YtgehhippjhealaaGreatC.P5
namespace Go.Ev.YtgehhippjhealaaGreatC.P5
open Go
def B6f (b i:Nat):Bool:=decide (b/2 ^ i%2=1)
def listed (b n:Nat):List Int:=(idx n).filter fun i=>B6f b i.toNat
def tb (p:Nat->Bool):Nat->Nat
 | 0=>0
 | n+1=>tb p n+if p n then 2 ^ n else 0
end Go.Ev.YtgehhippjhealaaGreatC.P5
set_option linter.unusedSimpArgs false
set_option linter.unusedVariables false
namespace Go.Ev.YtgehhippjhealaaGreatC.P5
open Go
open Go Go.Proofs
set_option maxRecDepth 100000 in
abbrev Su (l:List Int):AV:=.slice none (l.map (.int .i64)) false
def oAV (o:Order):AV:=.agg [.int .i64 o.lo,.int .i64 o.hi,.int .i64 o.due]
abbrev Wl (l:List Order):AV:=.slice (some 3) (l.map oAV) false
end Go.Ev.YtgehhippjhealaaGreatC.P5
set_option linter.unusedSimpArgs false
set_option linter.unusedVariables false
namespace Go.Ev.YtgehhippjhealaaGreatC.P5
open Go
open Go Go.Proofs
attribute [local irreducible] Res.all evC Df Dh Bq Bh Dn Bf Bj G GO GV GP GC R
set_option maxRecDepth 100000
end Go.Ev.YtgehhippjhealaaGreatC.P5
set_option linter.unusedSimpArgs false
set_option linter.unusedVariables false
namespace Go.Ev.YtgehhippjhealaaGreatC.P5
open Go
open Go Go.Proofs
attribute [local irreducible] Res.all evC Df Dh Bq Bh Dn Bf Bj G GO GV GP GC R
set_option maxRecDepth 100000
end Go.Ev.YtgehhippjhealaaGreatC.P5
set_option linter.unusedSimpArgs false
set_option linter.unusedVariables false
namespace Go.Ev.YtgehhippjhealaaGreatC.P5
open Go
open Go Go.Proofs
attribute [local irreducible] Res.all evC Df Dh Bq Bh Dn Bf Bj G GO GV GP GC R
set_option maxRecDepth 100000
end Go.Ev.YtgehhippjhealaaGreatC.P5
