/- The code of functions that are walked, compiled for the evaluator, as text. The bench of a day: its pauses, by a map and a range that deletes. Entries of the works' calls that are proved by walks. The bench of a valid day, by value. The benches of the two days of the works of layer 2. No condition but those that stand in each. -/
import Derived.Test.YtgehhippjhealaaGreatBTopW
import Derived.Test.YtgehhippjhealaaGreatBTopBar2
import Derived.Test.YtgehhippjhealaaGreatBEvKer3
set_option linter.unusedSimpArgs false
set_option linter.unusedVariables false
set_option maxRecDepth 100000
namespace Go.Ev.YtgehhippjhealaaGreatC
open Go.Proofs
def c382:IFunc:=⟨90,[.tmp 2],.seq (.ops [dO 1 (.box (tM 0)),dO 2 (.mv (.const .nilptr))]) (.seq (.ops [dO 9 (.load (some 2) (tM 1)),⟨some 10,.mkMap,none⟩,dO 11 (.build [.int .i64 0,.slice none [] true,.int .i64 0,.int .i64 0,.int .i64 0,.int .i64 0,.int .i64 0,.int .i64 0,.int .i64 0,.int .i64 0,.int .i64 0,.fmap [] []] [(0,(2,tM 9)),(11,(1,tM 10))]),dO 12 (.box (tM 11)),dO 3 (.mv (tM 12))]) (.seq (.ops [dO 13 (.mv (tM 3)),dO 14 (.nilCheck (tM 13)),dO 15 (.fieldAddr 2 (tM 14)),dO 16 (.sliceA none 9 (tM 15) none none none),eO (.clear (.int .i64 0) (tM 16))]) (.seq (.seq (.ops [dO 17 (.mv (tM 3)),dO 18 (.nilCheck (tM 17)),dO 19 (.fieldAddr 0 (tM 18)),dO 20 (.fieldAddr 1 (tM 19)),dO 21 (.load none (tM 20)),dO 22 (.len (tM 21)),dO 23 (.mv (cI 0))]) (.block 0 (.loop (.seq (.ops [dO 24 (.bin .lss (tM 23) (tM 22))]) (.seq (.cond (tM 24) .skip (.exit 0)) (.seq (.block 1 (.seq (.ops [dO 25 (.mv (tM 23)),dO 26 (.indexAddr 1 (tM 21) (tM 23)),dO 27 (.load none (tM 26)),dO 4 (.mv (tM 25)),dO 5 (.mv (tM 27))]) (.seq (.ops [dO 28 (.mv (tM 3)),dO 29 (.nilCheck (tM 28)),dO 30 (.fieldAddr 0 (tM 29)),dO 31 (.fieldAddr 1 (tM 30)),dO 32 (.load none (tM 31)),dO 33 (.mv (tM 4)),dO 34 (.slice none (tM 32) none (some (tM 33)) none),dO 35 (.len (tM 34)),dO 36 (.mv (cI 0))]) (.block 2 (.loop (.seq (.ops [dO 37 (.bin .lss (tM 36) (tM 35))]) (.seq (.cond (tM 37) .skip (.exit 2)) (.seq (.block 3 (.seq (.ops [dO 38 (.mv (tM 36)),dO 39 (.indexAddr 1 (tM 34) (tM 36)),dO 40 (.load none (tM 39)),dO 6 (.mv (tM 38)),dO 7 (.mv (tM 40))]) (.seq (.ops [dO 41 (.mv (tM 5)),dO 42 (.mv (tM 7)),dO 43 (.bin .eql (tM 41) (tM 42))]) (.cond (tM 43) (.ops [dO 44 (.mv (tM 3)),dO 45 (.nilCheck (tM 44)),dO 46 (.fieldAddr 11 (tM 45)),dO 47 (.load none (tM 46)),dO 48 (.mv (tM 6)),dO 49 (.mv (tM 4)),dO 50 (.build [.int .i64 0,.int .i64 0] [(0,(1,tM 48)),(1,(1,tM 49))]),dO 51 (.mv (tM 5)),eO (.mapUpdate (some 2) (tM 47) (tM 50) (tM 51))]) .skip)))) (.ops [dO 52 (.bin .add (tM 36) (cI 1)),dO 36 (.mv (tM 52))]))))))))) (.ops [dO 53 (.bin .add (tM 23) (cI 1)),dO 23 (.mv (tM 53))]))))))) (.seq (.seq (.ops [dO 54 (.mv (tM 3)),dO 55 (.nilCheck (tM 54)),dO 56 (.fieldAddr 11 (tM 55)),dO 57 (.load none (tM 56)),dO 58 (.range (tM 57))]) (.block 4 (.loop (.seq (.ops [dO 59 (.next (tM 58)),dO 60 (.extract (tM 59) 0)]) (.seq (.cond (tM 60) .skip (.exit 4)) (.block 5 (.seq (.ops [dO 61 (.entry (tM 58)),dO 62 (.extract (tM 61) 0),dO 8 (.alloc [.int .i64 0,.int .i64 0]),eO (.store 2 (tM 8) (tM 62))]) (.seq (.ops [dO 63 (.mv (tM 3)),dO 64 (.nilCheck (tM 63)),dO 65 (.fieldAddr 0 (tM 64)),dO 66 (.fieldAddr 1 (tM 65)),dO 67 (.load none (tM 66)),dO 68 (.fieldAddr 0 (tM 8)),dO 69 (.load none (tM 68)),dO 70 (.bin .add (tM 69) (cI 1)),dO 71 (.fieldAddr 1 (tM 8)),dO 72 (.load none (tM 71)),dO 73 (.slice none (tM 67) (some (tM 70)) (some (tM 72)) none),dO 74 (.mv (tM 3)),dO 75 (.nilCheck (tM 74)),dO 76 (.fieldAddr 0 (tM 75)),dO 77 (.fieldAddr 1 (tM 76)),dO 78 (.load none (tM 77)),dO 79 (.fieldAddr 1 (tM 8)),dO 80 (.load none (tM 79)),dO 81 (.indexAddr 1 (tM 78) (tM 80)),dO 82 (.load none (tM 81)),dO 83 (.callF false 112 [tM 73,tM 82])]) (.cond (tM 83) (.ops [dO 84 (.mv (tM 3)),dO 85 (.nilCheck (tM 84)),dO 86 (.fieldAddr 11 (tM 85)),dO 87 (.load none (tM 86)),dO 88 (.load (some 2) (tM 8)),eO (.delete (some 2) (tM 87) (tM 88))]) .skip))))))))) (.seq (.ops [dO 89 (.mv (tM 3)),dO 2 (.mv (tM 89))]) .ret)))))⟩
theorem k382:(Bt Tryz.prog byr).fns 382=some c382:=by kernel_rfl
theorem t382:T.fns 382=some c382:=Bx k382 (by decide) (by decide)
def c324:IFunc:=⟨12,[.tmp 2,.tmp 3],.seq (.ops [dO 1 (.box (tM 0)),dO 2 (.mv (.const .nilptr)),dO 3 (.mv (cI 0))]) (.seq (.seq (.ops [dO 5 (.load (some 2) (tM 1)),dO 6 (.callF false 381 [tM 5]),dO 4 (.mv (tM 6))]) (.seq (.ops [dO 7 (.mv (tM 4)),dO 8 (.bin .neq (tM 7) (cI 0))]) (.cond (tM 8) (.seq (.ops [dO 9 (.mv (tM 4)),dO 2 (.mv (.const .nilptr)),dO 3 (.mv (tM 9))]) .ret) .skip))) (.seq (.ops [dO 10 (.load (some 2) (tM 1)),dO 11 (.callF true 382 [tM 10]),dO 2 (.mv (tM 11)),dO 3 (.mv (cI 0))]) .ret))⟩
theorem k324:(Bt Tryz.prog byr).fns 324=some c324:=by kernel_rfl
theorem t324:T.fns 324=some c324:=Bx k324 (by decide) (by decide)
def c112:IFunc:=⟨9,[.tmp 4],.seq (.ops [dO 4 (.mv (cB false))]) (.seq (.ops [dO 5 (.mv (tM 0)),dO 6 (.mv (tM 1)),dO 7 (.callF false 43 [tM 5,tM 6]),dO 8 (.bin .geq (tM 7) (cI 0)),dO 4 (.mv (tM 8))]) .ret)⟩
theorem k112:(Bt Tryz.prog byr).fns 112=some c112:=by kernel_rfl
theorem t112:T.fns 112=some c112:=Bx k112 (by decide) (by decide)
def c43:IFunc:=⟨19,[.tmp 4],.seq (.ops [dO 4 (.mv (cI 0))]) (.seq (.seq (.ops [dO 6 (.mv (tM 0)),dO 7 (.len (tM 6)),dO 8 (.mv (cI 0))]) (.block 0 (.loop (.seq (.ops [dO 9 (.bin .lss (tM 8) (tM 7))]) (.seq (.cond (tM 9) .skip (.exit 0)) (.seq (.block 1 (.seq (.ops [dO 10 (.mv (tM 8)),dO 5 (.mv (tM 10))]) (.seq (.ops [dO 11 (.mv (tM 1)),dO 12 (.mv (tM 0)),dO 13 (.mv (tM 5)),dO 14 (.indexAddr 1 (tM 12) (tM 13)),dO 15 (.load none (tM 14)),dO 16 (.bin .eql (tM 11) (tM 15))]) (.cond (tM 16) (.seq (.ops [dO 17 (.mv (tM 5)),dO 4 (.mv (tM 17))]) .ret) .skip)))) (.ops [dO 18 (.bin .add (tM 8) (cI 1)),dO 8 (.mv (tM 18))]))))))) (.seq (.ops [dO 4 (.mv (cI (-1)))]) .ret))⟩
theorem k43:(Bt Tryz.prog byr).fns 43=some c43:=by kernel_rfl
theorem t43:T.fns 43=some c43:=Bx k43 (by decide) (by decide)
def c110:IFunc:=⟨9,[.tmp 4],.seq (.ops [dO 4 (.mv (cB false))]) (.seq (.ops [dO 5 (.mv (tM 0)),dO 6 (.mv (tM 1)),dO 7 (.callF false 176 [tM 5,tM 6]),dO 8 (.bin .geq (tM 7) (cI 0)),dO 4 (.mv (tM 8))]) .ret)⟩
theorem k110:(Bt Tryz.prog byr).fns 110=some c110:=by kernel_rfl
theorem t110:T.fns 110=some c110:=Bx k110 (by decide) (by decide)
def c176:IFunc:=⟨19,[.tmp 4],.seq (.ops [dO 4 (.mv (cI 0))]) (.seq (.seq (.ops [dO 6 (.mv (tM 0)),dO 7 (.len (tM 6)),dO 8 (.mv (cI 0))]) (.block 0 (.loop (.seq (.ops [dO 9 (.bin .lss (tM 8) (tM 7))]) (.seq (.cond (tM 9) .skip (.exit 0)) (.seq (.block 1 (.seq (.ops [dO 10 (.mv (tM 8)),dO 5 (.mv (tM 10))]) (.seq (.ops [dO 11 (.mv (tM 1)),dO 12 (.mv (tM 0)),dO 13 (.mv (tM 5)),dO 14 (.indexAddr 1 (tM 12) (tM 13)),dO 15 (.load none (tM 14)),dO 16 (.call false (tM 11) [tM 15])]) (.cond (tM 16) (.seq (.ops [dO 17 (.mv (tM 5)),dO 4 (.mv (tM 17))]) .ret) .skip)))) (.ops [dO 18 (.bin .add (tM 8) (cI 1)),dO 8 (.mv (tM 18))]))))))) (.seq (.ops [dO 4 (.mv (cI (-1)))]) .ret))⟩
theorem k176:(Bt Tryz.prog byr).fns 176=some c176:=by kernel_rfl
theorem t176:T.fns 176=some c176:=Bx k176 (by decide) (by decide)
def c256:IFunc:=⟨94,[.tmp 4,.tmp 5],.seq (.ops [dO 2 (.box (tM 0)),dO 4 (.mv (cI 0)),dO 5 (.mv (cI 0))]) (.seq (.ops [dO 14 (.load (some 2) (tM 2)),dO 15 (.callF true 324 [tM 14]),dO 13 (.mv (tM 15)),dO 16 (.extract (tM 13) 0),dO 17 (.extract (tM 13) 1),dO 6 (.mv (tM 16)),dO 7 (.mv (tM 17))]) (.seq (.block 0 (.seq (.ops [dO 19 (.mv (tM 7)),dO 20 (.bin .neq (tM 19) (cI 0)),dO 18 (.mv (tM 20))]) (.cond (tM 18) (.seq (.ops [dO 21 (.mv (tM 7)),dO 4 (.mv (cI 0)),dO 5 (.mv (tM 21))]) .ret) (.seq (.ops [dO 23 (.mv (tM 1)),dO 24 (.len (tM 23)),dO 25 (.fieldAddr 1 (tM 2)),dO 26 (.load none (tM 25)),dO 27 (.len (tM 26)),dO 28 (.bin .neq (tM 24) (tM 27)),dO 22 (.mv (tM 28))]) (.cond (tM 22) (.seq (.ops [dO 4 (.mv (cI 0)),dO 5 (.mv (cI 15))]) .ret) (.seq (.ops [dO 30 (.mv (tM 1)),dO 31 (.callF false 325 [cI 0,cI 8,tM 30]),dO 32 (.un .not (tM 31)),dO 29 (.mv (tM 32))]) (.cond (tM 29) (.seq (.ops [dO 4 (.mv (cI 0)),dO 5 (.mv (cI 3))]) .ret) .skip))))))) (.seq (.ops [dO 8 (.mv (cI 0))]) (.seq (.seq (.ops [dO 33 (.fieldAddr 1 (tM 2)),dO 34 (.load none (tM 33)),dO 35 (.len (tM 34)),dO 36 (.mv (cI 0))]) (.block 1 (.loop (.seq (.ops [dO 37 (.bin .lss (tM 36) (tM 35))]) (.seq (.cond (tM 37) .skip (.exit 1)) (.seq (.block 2 (.seq (.ops [dO 38 (.mv (tM 36)),dO 39 (.indexAddr 1 (tM 34) (tM 36)),dO 40 (.load none (tM 39)),dO 9 (.mv (tM 38)),dO 10 (.mv (tM 40))]) (.seq (.ops [dO 41 (.mv (tM 6)),dO 42 (.mv (tM 10)),dO 43 (.callF false 326 [tM 41,tM 42]),dO 44 (.un .not (tM 43)),dO 45 (.mv (tM 44)),gO 46 (.mv (tM 6)) 45 true,gO 47 (.callF false 327 [tM 46]) 45 true,gO 48 (.fieldAddr 0 (tM 2)) 45 true,gO 49 (.load none (tM 48)) 45 true,gO 50 (.bin .eql (tM 47) (tM 49)) 45 true,dO 51 (.pick (tM 45) (tM 50) (cB false)),dO 11 (.mv (tM 51))]) (.seq (.block 3 (.seq (.ops [dO 53 (.mv (tM 11)),dO 54 (.mv (tM 1)),dO 55 (.mv (tM 9)),dO 56 (.indexAddr 1 (tM 54) (tM 55)),dO 57 (.load none (tM 56)),dO 58 (.bin .neq (tM 57) (cI 0)),dO 59 (.eqB true (tM 53) (tM 58)),dO 52 (.mv (tM 59))]) (.cond (tM 52) (.seq (.ops [dO 4 (.mv (cI 0)),dO 5 (.mv (cI 16))]) .ret) (.seq (.ops [dO 61 (.mv (tM 11)),dO 62 (.mv (tM 61)),gO 63 (.mv (tM 6)) 62 true,gO 64 (.mv (tM 1)) 62 true,gO 65 (.mv (tM 9)) 62 true,gO 66 (.indexAddr 1 (tM 64) (tM 65)) 62 true,gO 67 (.load none (tM 66)) 62 true,gO 68 (.callF false 326 [tM 63,tM 67]) 62 true,gO 69 (.un .not (tM 68)) 62 true,dO 70 (.pick (tM 62) (tM 69) (cB false)),dO 60 (.mv (tM 70))]) (.cond (tM 60) (.seq (.ops [dO 4 (.mv (cI 0)),dO 5 (.mv (cI 18))]) .ret) .skip))))) (.seq (.ops [dO 71 (.mv (tM 6)),dO 72 (.nilCheck (tM 71)),dO 73 (.fieldAddr 2 (tM 72)),dO 74 (.load (some 9) (tM 73)),dO 12 (.alloc [.int .i64 0,.int .i64 0,.int .i64 0,.int .i64 0,.int .i64 0,.int .i64 0,.int .i64 0,.int .i64 0,.int .i64 0]),eO (.store 9 (tM 12) (tM 74))]) (.seq (.ops [dO 75 (.mv (tM 6)),dO 76 (.mv (tM 1)),dO 77 (.mv (tM 9)),dO 78 (.indexAddr 1 (tM 76) (tM 77)),dO 79 (.load none (tM 78)),dO 80 (.callF true 328 [tM 75,tM 79])]) (.seq (.ops [dO 81 (.mv (tM 6)),dO 82 (.mv (tM 10)),dO 83 (.callF true 329 [tM 81,tM 82])]) (.seq (.ops [dO 84 (.load (some 9) (tM 12)),dO 85 (.mv (tM 6)),dO 86 (.nilCheck (tM 85)),dO 87 (.fieldAddr 2 (tM 86)),dO 88 (.load (some 9) (tM 87)),dO 89 (.eqAgg 9 true (tM 84) (tM 88))]) (.cond (tM 89) (.ops [dO 90 (.mv (tM 8)),dO 91 (.bin .add (tM 90) (cI 1)),dO 8 (.mv (tM 91))]) .skip))))))))) (.ops [dO 92 (.bin .add (tM 36) (cI 1)),dO 36 (.mv (tM 92))]))))))) (.seq (.ops [dO 93 (.mv (tM 8)),dO 4 (.mv (tM 93)),dO 5 (.mv (cI 0))]) .ret)))))⟩
theorem k256:(Bt Tryz.prog byr).fns 256=some c256:=by kernel_rfl
theorem t256:T.fns 256=some c256:=Bx k256 (by decide) (by decide)
def c326:IFunc:=⟨12,[.tmp 4],.seq (.ops [dO 4 (.mv (cB false))]) (.seq (.ops [dO 5 (.mv (tM 0)),dO 6 (.mv (tM 1)),dO 7 (.nilCheck (tM 5)),dO 8 (.fieldAddr 2 (tM 7)),dO 9 (.indexAddrA 9 1 (tM 8) (tM 6)),dO 10 (.load none (tM 9)),dO 11 (.bin .gtr (tM 10) (cI 0)),dO 4 (.mv (tM 11))]) .ret)⟩
theorem k326:(Bt Tryz.prog byr).fns 326=some c326:=by kernel_rfl
theorem t326:T.fns 326=some c326:=Bx k326 (by decide) (by decide)
def c327:IFunc:=⟨18,[.tmp 2],.seq (.ops [dO 2 (.mv (cI 0))]) (.seq (.ops [dO 3 (.mv (cI 0))]) (.seq (.seq (.ops [dO 6 (.mv (tM 0)),dO 7 (.nilCheck (tM 6)),dO 8 (.fieldAddr 2 (tM 7)),dO 9 (.load (some 9) (tM 8)),dO 10 (.mv (cI 0))]) (.block 0 (.loop (.seq (.ops [dO 11 (.bin .lss (tM 10) (cI 9))]) (.seq (.cond (tM 11) .skip (.exit 0)) (.seq (.block 1 (.seq (.ops [dO 12 (.index none 9 (tM 9) (tM 10)),dO 5 (.mv (tM 12))]) (.ops [dO 13 (.mv (tM 3)),dO 14 (.mv (tM 5)),dO 15 (.bin .add (tM 13) (tM 14)),dO 3 (.mv (tM 15))]))) (.ops [dO 16 (.bin .add (tM 10) (cI 1)),dO 10 (.mv (tM 16))]))))))) (.seq (.ops [dO 17 (.mv (tM 3)),dO 2 (.mv (tM 17))]) .ret)))⟩
theorem k327:(Bt Tryz.prog byr).fns 327=some c327:=by kernel_rfl
theorem t327:T.fns 327=some c327:=Bx k327 (by decide) (by decide)
def c328:IFunc:=⟨9,[],.ops [dO 4 (.mv (tM 0)),dO 5 (.mv (tM 1)),dO 6 (.nilCheck (tM 4)),dO 7 (.fieldAddr 2 (tM 6)),dO 8 (.indexAddrA 9 1 (tM 7) (tM 5)),eO (.store 1 (tM 8) (cI 0))]⟩
theorem k328:(Bt Tryz.prog byr).fns 328=some c328:=by kernel_rfl
theorem t328:T.fns 328=some c328:=Bx k328 (by decide) (by decide)
def c329:IFunc:=⟨9,[],.ops [dO 4 (.mv (tM 0)),dO 5 (.mv (tM 1)),dO 6 (.nilCheck (tM 4)),dO 7 (.fieldAddr 2 (tM 6)),dO 8 (.indexAddrA 9 1 (tM 7) (tM 5)),eO (.store 1 (tM 8) (cI 1))]⟩
theorem k329:(Bt Tryz.prog byr).fns 329=some c329:=by kernel_rfl
theorem t329:T.fns 329=some c329:=Bx k329 (by decide) (by decide)
def c332:IFunc:=⟨113,[.tmp 4],.seq (.ops [dO 4 (.mv (cI 0))]) (.seq (.ops [dO 17 (.build [.int .i64 0,.int .i64 0] [(0,(1,cI 1000)),(1,(1,cI 1000))]),dO 5 (.alloc [.int .i64 0,.int .i64 0]),eO (.store 2 (tM 5) (tM 17))]) (.seq (.ops [⟨some 18,.mkMap,none⟩,dO 19 (.mv (tM 0)),dO 20 (.nilCheck (tM 19)),dO 21 (.fieldAddr 2 (tM 20)),dO 22 (.load (some 9) (tM 21)),eO (.mapUpdate (some 9) (tM 18) (tM 22) (cI 0)),dO 23 (.mv (tM 18)),dO 6 (.mv (tM 23))]) (.seq (.ops [dO 7 (.mv (.const (.fmap [] [])))]) (.seq (.seq (.ops [dO 24 (.mv (tM 0)),dO 25 (.nilCheck (tM 24)),dO 26 (.fieldAddr 0 (tM 25)),dO 27 (.fieldAddr 1 (tM 26)),dO 28 (.load none (tM 27)),dO 29 (.len (tM 28)),dO 30 (.mv (cI 0))]) (.block 0 (.loop (.seq (.ops [dO 31 (.bin .lss (tM 30) (tM 29))]) (.seq (.cond (tM 31) .skip (.exit 0)) (.seq (.block 1 (.seq (.ops [dO 32 (.mv (tM 30)),dO 8 (.mv (tM 32))]) (.seq (.seq (.ops [dO 33 (.mv (tM 8)),dO 34 (.mv (tM 1)),dO 35 (.bin .eql (tM 33) (tM 34))]) (.cond (tM 35) (.seq (.ops [⟨some 36,.mkMap,none⟩,dO 9 (.mv (tM 36))]) (.seq (.ops [⟨some 37,.mkMap,none⟩,dO 10 (.mv (tM 37))]) (.seq (.seq (.ops [dO 38 (.mv (tM 6)),dO 39 (.range (tM 38))]) (.block 2 (.loop (.seq (.ops [dO 40 (.next (tM 39)),dO 41 (.extract (tM 40) 0)]) (.seq (.cond (tM 41) .skip (.exit 2)) (.block 3 (.seq (.ops [dO 42 (.entry (tM 39)),dO 43 (.extract (tM 42) 0),dO 44 (.extract (tM 42) 1),dO 11 (.alloc [.int .i64 0,.int .i64 0,.int .i64 0,.int .i64 0,.int .i64 0,.int .i64 0,.int .i64 0,.int .i64 0,.int .i64 0]),eO (.store 9 (tM 11) (tM 43)),dO 12 (.mv (tM 44))]) (.seq (.ops [dO 45 (.mv (tM 0)),dO 46 (.nilCheck (tM 45)),dO 47 (.fieldAddr 0 (tM 46)),dO 48 (.fieldAddr 1 (tM 47)),dO 49 (.load none (tM 48)),dO 50 (.mv (tM 8)),dO 51 (.indexAddr 1 (tM 49) (tM 50)),dO 52 (.load none (tM 51)),dO 53 (.indexAddrA 9 1 (tM 11) (tM 52)),dO 54 (.load none (tM 53)),dO 55 (.bin .gtr (tM 54) (cI 0))]) (.cond (tM 55) (.ops [dO 56 (.mv (tM 9)),dO 57 (.load (some 9) (tM 11)),dO 58 (.mv (tM 12)),eO (.mapUpdate (some 9) (tM 56) (tM 57) (tM 58))]) (.ops [dO 59 (.mv (tM 10)),dO 60 (.load (some 9) (tM 11)),dO 61 (.mv (tM 12)),eO (.mapUpdate (some 9) (tM 59) (tM 60) (tM 61))])))))))))) (.seq (.ops [dO 62 (.mv (tM 0)),dO 63 (.mv (tM 9)),dO 64 (.mv (tM 8)),dO 65 (.callF true 387 [tM 62,tM 63,tM 64]),dO 66 (.mv (tM 0)),dO 67 (.mv (tM 10)),dO 68 (.mv (tM 8)),dO 69 (.callF true 387 [tM 66,tM 67,tM 68]),dO 6 (.mv (tM 65)),dO 7 (.mv (tM 69))]) (.exit 1))))) .skip)) (.ops [dO 70 (.mv (tM 0)),dO 71 (.mv (tM 6)),dO 72 (.mv (tM 8)),dO 73 (.callF true 387 [tM 70,tM 71,tM 72]),dO 74 (.mv (tM 0)),dO 75 (.mv (tM 7)),dO 76 (.mv (tM 8)),dO 77 (.callF true 387 [tM 74,tM 75,tM 76]),dO 6 (.mv (tM 73)),dO 7 (.mv (tM 77))])))) (.ops [dO 78 (.bin .add (tM 30) (cI 1)),dO 30 (.mv (tM 78))]))))))) (.seq (.seq (.ops [dO 79 (.mv (tM 6)),dO 80 (.range (tM 79))]) (.block 4 (.loop (.seq (.ops [dO 81 (.next (tM 80)),dO 82 (.extract (tM 81) 0)]) (.seq (.cond (tM 82) .skip (.exit 4)) (.block 5 (.seq (.ops [dO 83 (.entry (tM 80)),dO 84 (.extract (tM 83) 1),dO 14 (.mv (tM 84))]) (.ops [dO 85 (.indexAddrA 2 1 (tM 5) (cI 0)),dO 86 (.load none (tM 85)),dO 87 (.mv (tM 14)),dO 88 (.min [tM 86,tM 87]),dO 89 (.indexAddrA 2 1 (tM 5) (cI 0)),eO (.store 1 (tM 89) (tM 88))])))))))) (.seq (.seq (.ops [dO 90 (.mv (tM 7)),dO 91 (.range (tM 90))]) (.block 6 (.loop (.seq (.ops [dO 92 (.next (tM 91)),dO 93 (.extract (tM 92) 0)]) (.seq (.cond (tM 93) .skip (.exit 6)) (.block 7 (.seq (.ops [dO 94 (.entry (tM 91)),dO 95 (.extract (tM 94) 1),dO 16 (.mv (tM 95))]) (.ops [dO 96 (.indexAddrA 2 1 (tM 5) (cI 1)),dO 97 (.load none (tM 96)),dO 98 (.mv (tM 16)),dO 99 (.min [tM 97,tM 98]),dO 100 (.indexAddrA 2 1 (tM 5) (cI 1)),eO (.store 1 (tM 100) (tM 99))])))))))) (.seq (.block 8 (.seq (.ops [dO 102 (.indexAddrA 2 1 (tM 5) (cI 0)),dO 103 (.load none (tM 102)),dO 104 (.indexAddrA 2 1 (tM 5) (cI 1)),dO 105 (.load none (tM 104)),dO 106 (.bin .lss (tM 103) (tM 105)),dO 101 (.mv (tM 106))]) (.cond (tM 101) (.seq (.ops [dO 4 (.mv (cI 0))]) .ret) (.seq (.ops [dO 108 (.indexAddrA 2 1 (tM 5) (cI 0)),dO 109 (.load none (tM 108)),dO 110 (.indexAddrA 2 1 (tM 5) (cI 1)),dO 111 (.load none (tM 110)),dO 112 (.bin .gtr (tM 109) (tM 111)),dO 107 (.mv (tM 112))]) (.cond (tM 107) (.seq (.ops [dO 4 (.mv (cI 2))]) .ret) .skip))))) (.seq (.ops [dO 4 (.mv (cI 1))]) .ret))))))))⟩
theorem k332:(Bt Tryz.prog byr).fns 332=some c332:=by kernel_rfl
theorem t332:T.fns 332=some c332:=Bx k332 (by decide) (by decide)
def c387:IFunc:=⟨93,[.tmp 6],.seq (.ops [dO 6 (.mv (.const (.fmap [] [])))]) (.seq (.ops [⟨some 15,.mkMap,none⟩,dO 7 (.alloc [.fmap [] []]),eO (.store 1 (tM 7) (tM 15))]) (.seq (.ops [dO 16 (.mkFunc 405 [] [tM 7]),dO 8 (.mv (tM 16))]) (.seq (.ops [dO 17 (.mv (tM 0)),dO 18 (.nilCheck (tM 17)),dO 19 (.fieldAddr 0 (tM 18)),dO 20 (.fieldAddr 1 (tM 19)),dO 21 (.load none (tM 20)),dO 22 (.mv (tM 2)),dO 23 (.indexAddr 1 (tM 21) (tM 22)),dO 24 (.load none (tM 23)),dO 9 (.mv (tM 24))]) (.seq (.seq (.ops [dO 25 (.mv (tM 1)),dO 26 (.range (tM 25))]) (.block 0 (.loop (.seq (.ops [dO 27 (.next (tM 26)),dO 28 (.extract (tM 27) 0)]) (.seq (.cond (tM 28) .skip (.exit 0)) (.block 1 (.seq (.ops [dO 29 (.entry (tM 26)),dO 30 (.extract (tM 29) 0),dO 31 (.extract (tM 29) 1),dO 10 (.alloc [.int .i64 0,.int .i64 0,.int .i64 0,.int .i64 0,.int .i64 0,.int .i64 0,.int .i64 0,.int .i64 0,.int .i64 0]),eO (.store 9 (tM 10) (tM 30)),dO 11 (.mv (tM 31))]) (.seq (.ops [dO 32 (.mv (tM 0)),dO 33 (.nilCheck (tM 32)),dO 34 (.fieldAddr 0 (tM 33)),dO 35 (.load (some 2) (tM 34)),dO 36 (.load (some 9) (tM 10)),dO 37 (.build [.int .i64 0,.slice none [] true,.int .i64 0,.int .i64 0,.int .i64 0,.int .i64 0,.int .i64 0,.int .i64 0,.int .i64 0,.int .i64 0,.int .i64 0,.fmap [] []] [(0,(2,tM 35)),(2,(9,tM 36))]),dO 38 (.box (tM 37)),dO 12 (.mv (tM 38))]) (.seq (.block 2 (.seq (.ops [dO 40 (.mv (tM 12)),dO 41 (.mv (tM 9)),dO 42 (.callF false 326 [tM 40,tM 41]),dO 39 (.mv (tM 42))]) (.cond (tM 39) (.seq (.ops [dO 43 (.mv (tM 8)),dO 44 (.load (some 9) (tM 10)),dO 45 (.mv (tM 11)),dO 46 (.call true (tM 43) [tM 44,tM 45])]) (.exit 1)) (.seq (.ops [dO 48 (.mv (tM 12)),dO 49 (.callF false 327 [tM 48]),dO 50 (.mv (tM 0)),dO 51 (.nilCheck (tM 50)),dO 52 (.fieldAddr 0 (tM 51)),dO 53 (.fieldAddr 0 (tM 52)),dO 54 (.load none (tM 53)),dO 55 (.bin .lss (tM 49) (tM 54)),dO 47 (.mv (tM 55))]) (.cond (tM 47) (.seq (.ops [dO 56 (.mv (tM 12)),dO 57 (.mv (tM 9)),dO 58 (.callF true 329 [tM 56,tM 57])]) (.seq (.ops [dO 59 (.mv (tM 8)),dO 60 (.mv (tM 12)),dO 61 (.nilCheck (tM 60)),dO 62 (.fieldAddr 2 (tM 61)),dO 63 (.load (some 9) (tM 62)),dO 64 (.mv (tM 11)),dO 65 (.bin .add (tM 64) (cI 1)),dO 66 (.call true (tM 59) [tM 63,tM 65])]) (.exit 1))) .skip))))) (.seq (.ops [dO 13 (.mv (cI 1))]) (.block 3 (.loop (.seq (.seq (.ops [dO 67 (.mv (tM 13)),dO 68 (.bin .leq (tM 67) (cI 8))]) (.cond (tM 68) .skip (.exit 3))) (.seq (.block 4 (.seq (.ops [dO 71 (.mv (tM 13)),dO 72 (.indexAddrA 9 1 (tM 10) (tM 71)),dO 73 (.load none (tM 72)),dO 74 (.bin .gtr (tM 73) (cI 0))]) (.cond (tM 74) (.seq (.ops [dO 75 (.load (some 9) (tM 10)),dO 76 (.build [.int .i64 0,.slice none [] true,.int .i64 0,.int .i64 0,.int .i64 0,.int .i64 0,.int .i64 0,.int .i64 0,.int .i64 0,.int .i64 0,.int .i64 0,.fmap [] []] [(2,(9,tM 75))]),dO 77 (.box (tM 76)),dO 14 (.mv (tM 77))]) (.seq (.ops [dO 78 (.mv (tM 14)),dO 79 (.mv (tM 13)),dO 80 (.callF true 328 [tM 78,tM 79])]) (.seq (.ops [dO 81 (.mv (tM 14)),dO 82 (.mv (tM 9)),dO 83 (.callF true 329 [tM 81,tM 82])]) (.ops [dO 84 (.mv (tM 8)),dO 85 (.mv (tM 14)),dO 86 (.nilCheck (tM 85)),dO 87 (.fieldAddr 2 (tM 86)),dO 88 (.load (some 9) (tM 87)),dO 89 (.mv (tM 11)),dO 90 (.bin .add (tM 89) (cI 1)),dO 91 (.call true (tM 84) [tM 88,tM 90])])))) .skip))) (.ops [dO 69 (.mv (tM 13)),dO 70 (.bin .add (tM 69) (cI 1)),dO 13 (.mv (tM 70))]))))))))))))))) (.seq (.ops [dO 92 (.load none (tM 7)),dO 6 (.mv (tM 92))]) .ret)))))⟩
theorem k387:(Bt Tryz.prog byr).fns 387=some c387:=by kernel_rfl
theorem t387:T.fns 387=some c387:=Bx k387 (by decide) (by decide)
def c405:IFunc:=⟨23,[],.seq (.ops [dO 3 (.box (tM 0))]) (.seq (.ops [dO 8 (.load none (tM 2)),dO 9 (.load (some 9) (tM 3)),dO 10 (.lookup (some 9) (.int .i64 0) true (tM 8) (tM 9)),dO 7 (.mv (tM 10)),dO 11 (.extract (tM 7) 0),dO 12 (.extract (tM 7) 1),dO 5 (.mv (tM 11)),dO 6 (.mv (tM 12))]) (.seq (.ops [dO 13 (.mv (tM 6)),dO 14 (.un .not (tM 13)),dO 15 (.mv (tM 14)),gO 16 (.mv (tM 1)) 15 false,gO 17 (.mv (tM 5)) 15 false,gO 18 (.bin .lss (tM 16) (tM 17)) 15 false,dO 19 (.pick (tM 15) (cB true) (tM 18))]) (.cond (tM 19) (.ops [dO 20 (.load none (tM 2)),dO 21 (.load (some 9) (tM 3)),dO 22 (.mv (tM 1)),eO (.mapUpdate (some 9) (tM 20) (tM 21) (tM 22))]) .skip)))⟩
theorem k405:(Bt Tryz.prog byr).fns 405=some c405:=by kernel_rfl
theorem t405:T.fns 405=some c405:=Bx k405 (by decide) (by decide)
def c331:IFunc:=⟨113,[.tmp 2],.seq (.ops [dO 2 (.mv (.const (.slice none [] true)))]) (.seq (.ops [dO 12 (.mv (tM 0)),dO 13 (.nilCheck (tM 12)),dO 14 (.fieldAddr 0 (tM 13)),dO 15 (.fieldAddr 1 (tM 14)),dO 16 (.load none (tM 15)),dO 17 (.len (tM 16)),dO 3 (.mv (tM 17))]) (.seq (.ops [dO 18 (.mv (tM 3)),dO 19 (.bin .add (tM 18) (cI 2)),dO 20 (.mkSliceD 20 113 none [.int .i64 0] 8 (tM 19) (tM 19)),dO 21 (.mv (tM 3)),dO 22 (.bin .add (tM 21) (cI 2)),dO 23 (.mkSliceK none [.int .i64 0] 8 (tM 22) (tM 22)),dO 4 (.mv (tM 20)),dO 5 (.mv (tM 23))]) (.seq (.seq (.ops [dO 6 (.alloc [.int .i64 0]),eO (.store 1 (tM 6) (cI 1))]) (.block 0 (.loop (.seq (.seq (.ops [dO 24 (.load none (tM 6)),dO 25 (.mv (tM 3)),dO 26 (.bin .add (tM 25) (cI 1)),dO 27 (.bin .leq (tM 24) (tM 26))]) (.cond (tM 27) .skip (.exit 0))) (.seq (.block 1 (.seq (.ops [dO 30 (.mv (tM 4)),dO 31 (.load none (tM 6)),dO 32 (.indexAddr 1 (tM 30) (tM 31)),eO (.store 1 (tM 32) (cI 1000))]) (.seq (.ops [dO 33 (.load none (tM 6)),dO 34 (.mv (cI 0))]) (.block 2 (.loop (.seq (.ops [dO 35 (.bin .lss (tM 34) (tM 33))]) (.seq (.cond (tM 35) .skip (.exit 2)) (.seq (.block 3 (.seq (.ops [dO 36 (.mv (tM 34)),dO 7 (.alloc [.int .i64 0]),eO (.store 1 (tM 7) (tM 36))]) (.seq (.ops [dO 37 (.mv (tM 4)),dO 38 (.load none (tM 7)),dO 39 (.indexAddr 1 (tM 37) (tM 38)),dO 40 (.load none (tM 39)),dO 8 (.alloc [.int .i64 0]),eO (.store 1 (tM 8) (tM 40))]) (.seq (.seq (.ops [dO 41 (.mv (tM 0)),dO 42 (.callF false 384 [tM 41])]) (.block 4 (.rangeF (tM 42) [43] (.ops [dO 9 (.alloc [.int .i64 0,.int .i64 0]),eO (.store 2 (tM 9) (tM 43))]) (.block 5 (.seq (.ops [dO 44 (.fieldAddr 0 (tM 9)),dO 45 (.load none (tM 44)),dO 46 (.load none (tM 7)),dO 47 (.bin .sub (tM 46) (cI 1)),dO 48 (.bin .geq (tM 45) (tM 47)),dO 49 (.mv (tM 48)),gO 50 (.fieldAddr 1 (tM 9)) 49 true,gO 51 (.load none (tM 50)) 49 true,gO 52 (.load none (tM 6)) 49 true,gO 53 (.bin .sub (tM 52) (cI 1)) 49 true,gO 54 (.bin .leq (tM 51) (tM 53)) 49 true,dO 55 (.pick (tM 49) (tM 54) (cB false)),dO 56 (.mv (tM 55)),gO 57 (.load none (tM 7)) 56 true,gO 58 (.bin .gtr (tM 57) (cI 0)) 56 true,gO 59 (.mv (tM 58)) 56 true,gO 60 (.fieldAddr 0 (tM 9)) 59 false,gO 61 (.load none (tM 60)) 59 false,gO 62 (.bin .geq (tM 61) (cI 0)) 59 false,gO 63 (.pick (tM 59) (cB true) (tM 62)) 56 true,dO 64 (.pick (tM 56) (tM 63) (cB false))]) (.cond (tM 64) (.ops [dO 65 (.load none (tM 8)),dO 66 (.bin .add (tM 65) (cI 1)),eO (.store 1 (tM 8) (tM 66))]) .skip)))))) (.seq (.seq (.ops [dO 67 (.load none (tM 6)),dO 68 (.mv (tM 3)),dO 69 (.bin .leq (tM 67) (tM 68))]) (.cond (tM 69) (.ops [dO 70 (.load none (tM 8)),dO 71 (.mv (tM 0)),dO 72 (.nilCheck (tM 71)),dO 73 (.fieldAddr 0 (tM 72)),dO 74 (.fieldAddr 0 (tM 73)),dO 75 (.load none (tM 74)),dO 76 (.bin .sub (tM 75) (cI 1)),dO 77 (.bin .add (tM 70) (tM 76)),eO (.store 1 (tM 8) (tM 77))]) .skip)) (.seq (.ops [dO 78 (.load none (tM 8)),dO 79 (.mv (tM 4)),dO 80 (.load none (tM 6)),dO 81 (.indexAddr 1 (tM 79) (tM 80)),dO 82 (.load none (tM 81)),dO 83 (.bin .lss (tM 78) (tM 82))]) (.cond (tM 83) (.ops [dO 84 (.mv (tM 4)),dO 85 (.load none (tM 6)),dO 86 (.mv (tM 5)),dO 87 (.loadL none (tM 6) 87 113 []),dO 88 (.load none (tM 8)),dO 89 (.loadL none (tM 7) 89 113 []),dO 90 (.indexAddr 1 (tM 84) (tM 85)),eO (.storeL 113 1 (tM 90) (tM 88)),dO 91 (.indexAddr 1 (tM 86) (tM 87)),eO (.store 1 (tM 91) (tM 89))]) .skip))))))) (.ops [dO 92 (.bin .add (tM 34) (cI 1)),dO 34 (.mv (tM 92))]))))))))) (.seq (.seq (.ops [dO 93 (.load none (tM 6))]) (.ops [dO 6 (.alloc [.int .i64 0]),eO (.store 1 (tM 6) (tM 93))])) (.ops [dO 28 (.load none (tM 6)),dO 29 (.bin .add (tM 28) (cI 1)),eO (.store 1 (tM 6) (tM 29))]))))))) (.seq (.ops [dO 10 (.mv (.const (.slice none [] true)))]) (.seq (.seq (.ops [dO 94 (.mv (tM 5)),dO 95 (.mv (tM 3)),dO 96 (.bin .add (tM 95) (cI 1)),dO 97 (.indexAddr 1 (tM 94) (tM 96)),dO 98 (.load none (tM 97)),dO 11 (.mv (tM 98))]) (.block 6 (.loop (.seq (.seq (.ops [dO 99 (.mv (tM 11)),dO 100 (.bin .gtr (tM 99) (cI 0))]) (.cond (tM 100) .skip (.exit 6))) (.seq (.block 7 (.ops [dO 105 (.mv (tM 10)),dO 106 (.mv (tM 11)),dO 107 (.bin .sub (tM 106) (cI 1)),dO 108 (.buildSlice none [.int .i64 0] [(0,(1,tM 107))]),dO 109 (.append none 8 (tM 105) (tM 108)),dO 10 (.mv (tM 109))])) (.ops [dO 101 (.mv (tM 5)),dO 102 (.mv (tM 11)),dO 103 (.indexAddr 1 (tM 101) (tM 102)),dO 104 (.load none (tM 103)),dO 11 (.mv (tM 104))])))))) (.seq (.ops [dO 110 (.mv (tM 10)),dO 111 (.callF false 386 [tM 110])]) (.seq (.ops [dO 112 (.mv (tM 10)),dO 2 (.mv (tM 112))]) .ret)))))))⟩
theorem k331:(Bt Tryz.prog byr).fns 331=some c331:=by kernel_rfl
theorem t331:T.fns 331=some c331:=Bx k331 (by decide) (by decide)
def c384:IFunc:=⟨4,[.tmp 2],.seq (.ops [dO 1 (.box (tM 0)),dO 2 (.mv (.const .nilfn))]) (.seq (.ops [dO 3 (.mkFunc 404 [] [tM 1]),dO 2 (.mv (tM 3))]) .ret)⟩
theorem k384:(Bt Tryz.prog byr).fns 384=some c384:=by kernel_rfl
theorem t384:T.fns 384=some c384:=Bx k384 (by decide) (by decide)
def c404:IFunc:=⟨37,[],.seq (.ops [dO 6 (.load none (tM 1)),dO 7 (.nilCheck (tM 6)),dO 8 (.fieldAddr 0 (tM 7)),dO 9 (.fieldAddr 1 (tM 8)),dO 10 (.load none (tM 9)),dO 11 (.len (tM 10)),dO 12 (.mv (cI 0))]) (.block 0 (.loop (.seq (.ops [dO 13 (.bin .lss (tM 12) (tM 11))]) (.seq (.cond (tM 13) .skip (.exit 0)) (.seq (.block 1 (.seq (.ops [dO 14 (.mv (tM 12)),dO 3 (.mv (tM 14))]) (.seq (.ops [dO 15 (.mv (tM 3)),dO 16 (.mv (cI 0))]) (.block 2 (.loop (.seq (.ops [dO 17 (.bin .lss (tM 16) (tM 15))]) (.seq (.cond (tM 17) .skip (.exit 2)) (.seq (.block 3 (.seq (.ops [dO 18 (.mv (tM 16)),dO 4 (.mv (tM 18))]) (.seq (.ops [dO 19 (.mv (tM 4)),dO 20 (.mv (tM 3)),dO 21 (.build [.int .i64 0,.int .i64 0] [(0,(1,tM 19)),(1,(1,tM 20))]),dO 5 (.alloc [.int .i64 0,.int .i64 0]),eO (.store 2 (tM 5) (tM 21))]) (.seq (.ops [dO 22 (.load none (tM 1)),dO 23 (.nilCheck (tM 22)),dO 24 (.fieldAddr 11 (tM 23)),dO 25 (.load none (tM 24)),dO 26 (.load (some 2) (tM 5)),dO 27 (.lookup (some 2) (.int .i64 0) false (tM 25) (tM 26)),dO 28 (.bin .gtr (tM 27) (cI 0)),dO 29 (.mv (tM 28)),gO 30 (.mv (tM 0)) 29 true,gO 31 (.load (some 2) (tM 5)) 29 true,gO 32 (.call true (tM 30) [tM 31]) 29 true,gO 33 (.un .not (tM 32)) 29 true,dO 34 (.pick (tM 29) (tM 33) (cB false))]) (.cond (tM 34) .ret .skip))))) (.ops [dO 35 (.bin .add (tM 16) (cI 1)),dO 16 (.mv (tM 35))]))))))))) (.ops [dO 36 (.bin .add (tM 12) (cI 1)),dO 12 (.mv (tM 36))]))))))⟩
theorem k404:(Bt Tryz.prog byr).fns 404=some c404:=by kernel_rfl
theorem t404:T.fns 404=some c404:=Bx k404 (by decide) (by decide)
end Go.Ev.YtgehhippjhealaaGreatC
set_option linter.unusedSimpArgs false
set_option linter.unusedVariables false
namespace Go.Ev.YtgehhippjhealaaGreatC
open Go Go.Proofs
def A4r (g:Option Nat) (n:Nat) (h:Bd):AV->Res AV
 | .optr k ver off =>
  match Bc h k with
  | .cells v cs=>if v=ver/\off+n*Bg g<=cs.length then .ret (.oslice k ver g off n (some n)) else .fail
  | _ => .fail
 | .ptr cells off=>if off+n*Bg g<=cells.length then .ret (.slice g (Ed g n ((cells.drop off).take (n*Bg g))) false) else .fail
 | _ => .fail
theorem A5g {call:Bn} {base:Nat} {Q:EX×St->Prop} {ks:List Kont} {e:Env} {h:Bd} {l:List IOper} {d:Option Nat} (g:Option Nat) (n:Nat) (x:IX):GO call base Q (⟨d,.sliceA g n x none none none,none⟩::l) ks ⟨e,h⟩=GV call base Q d l ks e h (A4r g n h (x.ev e)):=by
 rw [Dk]
 simp only [Bh,GV,A4r]
 cases x.ev e with
 | optr k ver off =>
  simp only
  cases Bc h k with
  | cells v cs =>
   simp only
   split
   ·simp [sliceB,Res.bind,Res.all]
   ·rfl
  | _=>rfl
 | ptr cells off =>
  simp only
  split
  ·simp [sliceB,Res.bind,Res.all]
  ·rfl
 | _=>rfl
attribute [local irreducible] Res.all evC Df Dh Bq Bh Dn Bf Bj G GO GV GP GC R
set_option maxRecDepth 100000
theorem Avn {g:Option Nat} {e:Env} {lo hi:IX} {xs:List AV} {ex:Bool} {a b:Nat} (h1:lo.ev e = .int .i64 (a:Int)) (h2:hi.ev e = .int .i64 (b:Int)) (hab:a<=b) (hb:b<=xs.length) :
  slA g e (some lo) (some hi) none (.slice g xs ex) = .ret (.slice g ((xs.take b).drop a) (ex&&(b==xs.length))):=by
 simp only [slA,sliceB,ne_eq,not_true_eq_false,if_false,h1,h2,Gi,Option.getD_some]
 rw [if_pos ⟨by omega,by omega⟩]
 simp only [Res.bind,Int.toNat_natCast]
 rw [if_pos ⟨by omega,by omega⟩]
 simp [Res.bind]
theorem Aae (xs:List Int) (a:Int) (hl:xs.length<=1000):Con T 1 43 [.slice none (xs.map (.int .i64)) false,.int .i64 a] (.int .i64 (Hh (fun x=>a==x) xs 0)):=by
 refine Bs t43 fun n hn V hV => ?_
 simp (disch:=first | assumption | omega) only [c43,go_sem,↓reduceIte]
 refine Bz (fun M s=>∃k:Nat,M=xs.length-k/\k<=xs.length/\At s.env [(0,.slice none (xs.map (.int .i64)) false),(1,.int .i64 a),(7,.int .i64 xs.length),(8,.int .i64 k)]/\Hh (fun x=>a==x) xs 0=Hh (fun x=>a==x) (xs.drop k) k) xs.length (by omega) ⟨0,by simp,by omega,by simp [go_sem,↓reduceIte],rfl⟩ ?_
 rintro M e h hM ⟨k,rfl,hk,hE,hA⟩ P hP
 simp only [Bp,Bw] at hE
 obtain ⟨h0,h1,h7,h8,-⟩:=hE
 by_cases hlt:k<xs.length
 ·obtain ⟨y,hy⟩:=Fq hlt
  rw [Fa hy,Hh] at hA
  by_cases hp:(a==y)=true
  ·simp (disch:=first | assumption | omega) only [go_sem,↓reduceIte,h0,h1,h7,h8,hlt,hy,hp]
   exact hV _ _ (by rw [Bl,hA,if_pos hp])
  ·have hp':(a==y)=false:=by simpa using hp
   simp (disch:=first | assumption | omega) only [go_sem,↓reduceIte,h0,h1,h7,h8,hlt,hy,hp',Bool.false_eq_true]
   exact hP (xs.length-(k+1)) _ (by omega) ⟨k+1,rfl,by omega,by simp only [go_sem,↓reduceIte,h0,h1,h7],by rw [hA,if_neg hp]; rfl⟩
 ·simp (disch:=first | assumption | omega) only [go_sem,↓reduceIte,h0,h1,h7,h8,hlt]
  exact hV _ _ (by rw [Bl,hA,List.drop_eq_nil_of_le (by omega)]; rfl)
theorem Se (xs:List Int) (a:Int) (hl:xs.length<=1000):Con T 2 112 [.slice none (xs.map (.int .i64)) false,.int .i64 a] (.bool (xs.any fun x=>a==x)):=by
 refine Bs t112 fun n hn V hV => ?_
 simp (disch:=first | assumption | omega) only [c112,go_sem,↓reduceIte]
 refine Dt (Aae xs a hl) hn (by repeat (first | exact By _ | refine Di _ _ _ _ ?_ | refine Fb _ _ _ ?_)) (Fx _ _ _) ?_
 simp (disch:=first | assumption | omega) only [go_sem,↓reduceIte,Mi]
 exact hV _ _ (Do _ _ _)
def enG (g:Nat×Nat->Nat) (ps:List (Nat×Nat)):List LE:=ps.zipIdx.map fun t=>(t.1,g t.1,t.2)
theorem Aib (g:Nat×Nat->Nat) (ps:List (Nat×Nat)) (q:Nat×Nat):enG g (ps++[q])=enG g ps++[(q,g q,ps.length)]:=by
 simp [enG,List.zipIdx_append]
theorem A3n (g:Nat×Nat->Nat) (ps:List (Nat×Nat)):(enG g ps).map (·.1)=ps:=by
 simp only [enG,List.map_map]
 exact List.zipIdx_map_fst 0 ps
theorem Avz (g:Nat×Nat->Nat) (ps:List (Nat×Nat)):(enG g ps).length=ps.length:=by simp [enG]
theorem Aca (g:Nat×Nat->Nat) (ps:List (Nat×Nat)):eB (enG g ps)=List.range ps.length:=by
 simp only [eB,enG,List.map_map]
 have:=List.zipIdx_map_snd 0 ps
 rw [List.range_eq_range']
 exact this
theorem B1d (g:Nat×Nat->Nat) (ps:List (Nat×Nat)):∀t∈enG g ps,t.2.2<ps.length:=fun t ht=>by
 have:t.2.2∈eB (enG g ps):=List.mem_map_of_mem (f:=fun t:LE=>t.2.2) ht
 rw [Aca] at this
 exact List.mem_range.1 this
theorem Awg (g:Nat×Nat->Nat) (ps:List (Nat×Nat)):∀t∈enG g ps,t.2.1=g t.1/\t.1∈ps:=fun t ht=>by
 obtain ⟨u,hu,rfl⟩:=List.mem_map.1 ht
 exact ⟨rfl,(List.mem_zipIdx' hu).2 ▸ List.getElem_mem _⟩
def Qv (l:List Nat) (q:Nat×Nat):Bool:=l.getD q.1 0==l.getD q.2 0
def Hb (l:List Nat) (q:Nat×Nat):Nat:=l.getD q.2 0
def psW (l:List Nat) (k i:Nat):List (Nat×Nat):=(prU k i).filter (Qv l)
theorem A2g (l:List Nat) (k i:Nat):psW l k (i+1)=psW l k i++if Qv l (i,k) then [(i,k)] else []:=by
 rw [psW,Re,List.filter_append]
 congr 1
 by_cases h:Qv l (i,k)=true <;> simp [List.filter_cons,h]
theorem Aii (l:List Nat) (k:Nat):psW l k k=psW l (k+1) 0:=by rw [psW,psW,Xb,Kg]
def Jd (l:List Nat) (t:LE):Bool:=((l.drop (t.1.1+1)).take (t.1.2-(t.1.1+1))).any fun x=>((l.getD t.1.2 0:Nat):Int)==(x:Nat)
def paE (l:List Nat):List LE:=(enG (Hb l) (psW l l.length 0)).filter fun t => !Jd l t
abbrev Br (l:List Nat):AV:=.slice none (l.map fun n:Nat => .int .i64 n) false
abbrev z9:List AV:=[.int .i64 0,.int .i64 0,.int .i64 0,.int .i64 0,.int .i64 0,.int .i64 0,.int .i64 0,.int .i64 0,.int .i64 0]
abbrev bnC (r:Int) (l:List Nat) (on:List AV) (m:AV):List AV:=.int .i64 r::Br l::(on++[m])
def Abu (r:Int) (l:List Nat) (h:Bd) (v:AV) (h':Bd):Prop:=
 v = .optr (h.length+12) 0 0/\Bc h' (h.length+12) = .cells 0 (bnC r l z9 (.omap (h.length+90) 0))/\h.length+91<=h'.length/\
 (∀j,j<h.length->Bc h' j=Bc h j)/\∃c,Bc h' (h.length+90) = .map 0 c (eK (paE l)) (eV (paE l)) (eB (paE l))
set_option maxHeartbeats 2000000 in
theorem Xt (r:Int) (l:List Nat) (hl:l.length<=16):∀m,3<=m->∀(h:Bd) (V:AV×Bd->Prop),(∀v h',Abu r l h v h'->V (v,h'))->
  G (Bf T m) h.length (Fin c382.results V) c382.body [] ⟨[.agg [.int .i64 r,Br l]],h++List.replicate c382.ntmps .none⟩:=by
 intro m hm h0 V hV
 obtain ⟨m,rfl⟩:∃m',m=m'+1:=⟨m-1,by omega⟩
 have hnew:=Fd h0 90 90
 have hnew12:=Fd h0 90 12
 have hnew1:=Fd h0 90 1
 unfold Abu at hV
 generalize hB:h0.length=B at *
 have n1:¬(B+1=B+90):=by omega
 have n2:¬(B+90=B+1):=by omega
 have n3:¬(B+12=B+90):=by omega
 have n4:¬(B+90=B+12):=by omega
 have n5:¬(B+1=B+12):=by omega
 have n6:¬(B+12=B+1):=by omega
 have hsp:Dp [.int .i64 r,Br l,.int .i64 0,.int .i64 0,.int .i64 0,.int .i64 0,.int .i64 0,.int .i64 0,.int .i64 0,.int .i64 0,.int .i64 0,.omap (B+90) 0] 2 (List.replicate 9 (.int .i64 0))=[.int .i64 r,Br l,.int .i64 0,.int .i64 0,.int .i64 0,.int .i64 0,.int .i64 0,.int .i64 0,.int .i64 0,.int .i64 0,.int .i64 0,.omap (B+90) 0]:=rfl
 simp (disch:=first | assumption | omega) only [c382,go_sem,↓reduceIte,Bu,A5g,A4r,hnew,hnew12,hnew1,hB,next_none,n1,n2,n3,n4,n5,n6,List.length_map,clA,hsp]
 obtain ⟨Z,hZ⟩:∃Z:List AV,Z=[.int .i64 r,Br l,.int .i64 0,.int .i64 0,.int .i64 0,.int .i64 0,.int .i64 0,.int .i64 0,.int .i64 0,.int .i64 0,.int .i64 0,.omap (B+90) 0]:=⟨_,rfl⟩
 have z1:Z[1]? = some (Br l):=by rw [hZ]; rfl
 have z11:Z[11]? = some (.omap (B+90) 0):=by rw [hZ]; rfl
 have zl:Z.length=12:=by rw [hZ]; rfl
 rw [<-hZ]
 refine Bz (fun M st=>∃k:Nat,M=l.length-k/\k<=l.length/\At st.env [(3,.optr (B+12) 0 0),(21,Br l),(22,.int .i64 l.length),(23,.int .i64 k)]/\
   Bc st.heap (B+90) = .map 0 (psW l k 0).length (eK (enG (Hb l) (psW l k 0))) (eV (enG (Hb l) (psW l k 0))) (eB (enG (Hb l) (psW l k 0)))/\Bc st.heap (B+12) = .cells 0 Z/\st.heap.length=B+91/\∀j,j<B->Bc st.heap j=Bc h0 j) l.length (by omega)
  ⟨0,by omega,by omega,by simp only [go_sem,↓reduceIte],by simp only [go_sem,↓reduceIte,n3,n4]; rfl,by simp only [go_sem,↓reduceIte],by simp only [Be,List.length_append,List.length_replicate,hB]; omega,fun j hj=>by
        have q1:B+8≠j:=by omega
        have q2:B+90≠j:=by omega
        have q3:B+91≠j:=by omega
        have q4:B+12≠j:=by omega
        have q5:B+1≠j:=by omega
        simp only [Ba _ _ _ _ q1,Ba _ _ _ _ q2,Ba _ _ _ _ q3,Ba _ _ _ _ q4,Ba _ _ _ _ q5,Bi]⟩ ?_
 rintro M e h hM ⟨k,rfl,hk,hE,gM,gB,hlen,kp⟩ P hP
 simp only [Bp,Bw] at hE gM gB hlen
 obtain ⟨f3,f21,f22,f23,-⟩:=hE
 by_cases hlt:k<l.length
 ·have hget:(l.map fun n:Nat=>AV.int .i64 n)[k]? = some (.int .i64 (l[k]:Nat)):=by rw [List.getElem?_map,List.getElem?_eq_getElem hlt]; rfl
  have hgD:l.getD k 0=l[k]:=by rw [List.getD_eq_getElem?_getD,List.getElem?_eq_getElem hlt]; rfl
  have htkl:((l.map fun n:Nat=>AV.int .i64 n).take k).length=k:=by rw [List.length_take,List.length_map]; omega
  simp (disch:=first | assumption | omega) only [go_sem,↓reduceIte,Bu,f3,f21,f22,f23,hlt,hget,gB,z1,zl]
  refine ⟨⟨by omega,by omega⟩,?_⟩
  simp only [Int.toNat_natCast,htkl]
  generalize hwk:l[k]=wk at *
  refine Bz (fun M st=>∃i:Nat,M=k-i/\i<=k/\At st.env [(3,.optr (B+12) 0 0),(4,.int .i64 k),(5,.int .i64 wk),(21,Br l),(22,.int .i64 l.length),(23,.int .i64 k),(34,.slice none ((l.map fun n:Nat=>AV.int .i64 n).take k) (false&&k==l.length)),(35,.int .i64 k),(36,.int .i64 i)]/\
    Bc st.heap (B+90) = .map 0 (psW l k i).length (eK (enG (Hb l) (psW l k i))) (eV (enG (Hb l) (psW l k i))) (eB (enG (Hb l) (psW l k i)))/\Bc st.heap (B+12) = .cells 0 Z/\st.heap.length=B+91/\∀j,j<B->Bc st.heap j=Bc h0 j) k (by omega)
   ⟨0,by omega,by omega,by simp only [go_sem,↓reduceIte,f3,f21,f22,f23],gM,gB,hlen,kp⟩ ?_
  rintro M e2 h2 hM2 ⟨i,rfl,hi,hE2,gM2,gB2,hlen2,kp2⟩ P2 hP2
  simp only [Bp,Bw] at hE2 gM2 gB2 hlen2
  obtain ⟨f3,f4,f5,f21,f22,f23,f34,f35,f36,-⟩:=hE2
  by_cases hik:i<k
  ·have hget2:((l.map fun n:Nat=>AV.int .i64 n).take k)[i]? = some (.int .i64 ((l[i]'(by omega):Nat):Int)):=by
    rw [List.getElem?_take,if_pos hik,List.getElem?_map,List.getElem?_eq_getElem (by omega)]; rfl
   have hgDi:l.getD i 0=l[i]'(by omega):=by rw [List.getD_eq_getElem?_getD,List.getElem?_eq_getElem (by omega)]; rfl
   generalize hwi:l[i]'(by omega)=wi at *
   have hsw:Qv l (i,k)=(wi==wk):=by simp only [Qv]; rw [hgDi,hgD]
   by_cases hs:wk=wi
   ·have hs2:Qv l (i,k)=true:=by rw [hsw]; simp [hs]
    have hbe:((wk:Int)==(wi:Int))=true:=by simp [hs]
    have hpsw:psW l k (i+1)=psW l k i++[(i,k)]:=by rw [A2g,if_pos hs2]
    have hnot:(i,k)∉(enG (Hb l) (psW l k i)).map (·.1):=by
     rw [A3n]
     intro hm
     have:=Zs.1 (List.mem_filter.1 hm).1
     simp at this
    have hfk:=Kj (i,k) (enG (Hb l) (psW l k i)) 0 hnot
    have hv:Hb l (i,k)=wk:=by simp only [Hb]; exact hgD
    have hpush:=Aib (Hb l) (psW l k i) (i,k)
    rw [<-hpsw,hv] at hpush
    have hlenS:(psW l k (i+1)).length=(psW l k i).length+1:=by rw [hpsw]; simp
    have hko:Er (some 2) (.agg [.int .i64 (i:Int),.int .i64 (k:Int)])=true:=rfl
    simp only [edA] at hfk
    have hk1:eK (enG (Hb l) (psW l k i))++[AV.agg [.int .i64 (i:Int),.int .i64 (k:Int)]]=eK (enG (Hb l) (psW l k (i+1))):=by rw [hpush]; simp [eK,edA]
    have hv1:eV (enG (Hb l) (psW l k i))++[AV.int .i64 (wk:Int)]=eV (enG (Hb l) (psW l k (i+1))):=by rw [hpush]; simp [eV]
    have hb1:eB (enG (Hb l) (psW l k i))++[(psW l k i).length]=eB (enG (Hb l) (psW l k (i+1))):=by rw [hpush]; simp [eB]
    simp (disch:=first | assumption | omega) only [go_sem,↓reduceIte,Bu,f3,f4,f5,f21,f22,f23,f34,f35,f36,hik,hget2,hbe,gB2,z11,zl,muA,gM2,hfk,hko]
    rw [hk1,hv1,hb1]
    exact hP2 (k-(i+1)) _ (by omega) ⟨i+1,rfl,by omega,by simp only [go_sem,↓reduceIte,f3,f4,f5,f21,f22,f23,f34,f35],by simp only [go_sem,↓reduceIte,hlenS],by simp only [go_sem,↓reduceIte,n3,n4,gB2],by simp only [Be,hlen2]; omega,fun j hj=>by
     have q1:B+8≠j:=by omega
     have q2:B+90≠j:=by omega
     have q3:B+91≠j:=by omega
     have q4:B+12≠j:=by omega
     have q5:B+1≠j:=by omega
     simp only [Ba _ _ _ _ q1,Ba _ _ _ _ q2,Ba _ _ _ _ q3,Ba _ _ _ _ q4,Ba _ _ _ _ q5,Bi,kp2 j hj]⟩
   ·have hs2:Qv l (i,k)=false:=by rw [hsw]; simp; exact fun h=>hs h.symm
    have hbe:((wk:Int)==(wi:Int))=false:=by simp; omega
    have hpsw:psW l k (i+1)=psW l k i:=by rw [A2g,hs2]; simp
    simp (disch:=first | assumption | omega) only [go_sem,↓reduceIte,Bu,f3,f4,f5,f21,f22,f23,f34,f35,f36,hik,hget2,hbe,Bool.false_eq_true]
    exact hP2 (k-(i+1)) _ (by omega) ⟨i+1,rfl,by omega,by simp only [go_sem,↓reduceIte,f3,f4,f5,f21,f22,f23,f34,f35],by rw [hpsw]; exact gM2,gB2,hlen2,kp2⟩
  ·obtain rfl:i=k:=by omega
   simp (disch:=first | assumption | omega) only [go_sem,↓reduceIte,Bu,f3,f4,f5,f21,f22,f23,f34,f35,f36,hik]
   rw [Aii] at gM2
   exact hP (l.length-(i+1)) _ (by omega) ⟨i+1,rfl,by omega,by simp only [go_sem,↓reduceIte,f3,f21,f22],gM2,gB2,hlen2,kp2⟩
 ·obtain rfl:k=l.length:=by omega
  have gN:Bc h (B+91) = .none:=Em _ _ (by omega)
  obtain ⟨E,hEd⟩:∃E,E=enG (Hb l) (psW l l.length 0):=⟨_,rfl⟩
  obtain ⟨c,hc⟩:∃c,c=(psW l l.length 0).length:=⟨_,rfl⟩
  have hbcE:∀t∈E,t.2.2<c:=by rw [hEd,hc]; exact B1d _ _
  have hbnE:(eB E).Nodup:=by rw [hEd,Aca]; exact List.nodup_range
  have hndE:(E.map (·.1)).Nodup:=by
   rw [hEd,A3n,psW,Kg]
   exact List.Nodup.sublist List.filter_sublist (Sq _)
  have hvlE:∀t∈E,t.1.1<t.1.2/\t.1.2<l.length:=fun t ht=>by
   rw [hEd] at ht
   obtain ⟨h1,h2⟩:=Awg _ _ t ht
   rw [psW,Kg] at h2
   exact Vq.1 (List.mem_filter.1 h2).1
  have hEl:E.length<=200:=by
   rw [hEd,Avz,psW,Kg]
   have h1:∀k,k<17->(prs k).length<=200:=by decide
   exact Nat.le_trans (List.length_filter_le _ _) (h1 _ (by omega))
  have hcl:paE l=E.filter fun t => !Jd l t:=by rw [paE,hEd]
  rw [<-hEd,<-hc] at gM
  have hrg:rgA h (.omap (B+90) 0) = .ret (.iter (B+91) 0,setH h (B+91) (.iter 0 (B+90) 0 c [] c)):=by
   simp only [rgA,gM,hlen,gN,next_none,if_true]
  simp (disch:=first | assumption | omega) only [go_sem,↓reduceIte,Bu,f3,f21,f22,f23,hlt,gB,z11,zl,hrg]
  have n94a:¬(B+91=B+90):=by omega
  have n94b:¬(B+91=B+12):=by omega
  have m94a:¬(B+90=B+91):=by omega
  have m94b:¬(B+12=B+91):=by omega
  refine Bz (fun M st=>∃seen:List Nat,M=(E.filter fun t => !seen.contains t.2.2).length/\At st.env [(3,.optr (B+12) 0 0),(58,.iter (B+91) 0)]/\
    Bc st.heap (B+90) = .map 0 c (eK (E.filter (Fe (Jd l) seen))) (eV (E.filter (Fe (Jd l) seen))) (eB (E.filter (Fe (Jd l) seen)))/\Bc st.heap (B+12) = .cells 0 Z/\Bc st.heap (B+91) = .iter 0 (B+90) 0 c seen c/\st.heap.length=B+92/\∀j,j<B->Bc st.heap j=Bc h0 j) E.length
   (by omega)
   ⟨[],by rw [List.filter_eq_self.2 (by simp)],by simp only [go_sem,↓reduceIte,f3],by rw [Ba _ _ _ _ (by omega),A0k]; exact gM,by rw [Ba _ _ _ _ (by omega)]; exact gB,getH_setH_self _ _ _,by rw [Be]; omega,fun j hj=>by
     have q1:B+8≠j:=by omega
     have q2:B+90≠j:=by omega
     have q3:B+91≠j:=by omega
     have q4:B+12≠j:=by omega
     have q5:B+1≠j:=by omega
     simp only [Ba _ _ _ _ q1,Ba _ _ _ _ q2,Ba _ _ _ _ q3,Ba _ _ _ _ q4,Ba _ _ _ _ q5,Bi,kp j hj]⟩ ?_
  rintro M e2 h2 hM2 ⟨seen,rfl,hE2,gM2,gB2,gI,hl9,kp2⟩ P2 hP2
  simp only [Bp,Bw] at hE2 gM2 gB2 gI hl9
  obtain ⟨f3,f58,-⟩:=hE2
  have hbc:∀t∈E.filter (Fe (Jd l) seen),t.2.2<c:=fun t ht=>hbcE t ((List.mem_filter.1 ht).1)
  simp (disch:=first | assumption | omega) only [go_sem,↓reduceIte,Bu,f58]
  refine Jg gI gM2 hbc (fun hall => ?_) (fun t ht hnt => ?_)
  ·rw [A0z _ hall,<-hcl] at gM2
   simp (disch:=first | assumption | omega) only [go_sem,↓reduceIte,Bu,f3]
   exact hV _ _ ⟨rfl,by rw [gB2,hZ]; rfl,by omega,kp2,c,gM2⟩
  ·have htE:t∈E:=(List.mem_filter.1 ht).1
   obtain ⟨v2,v3⟩:=hvlE t htE
   have hbn2:(eB (E.filter (Fe (Jd l) seen))).Nodup:=List.Nodup.sublist (List.Sublist.map _ List.filter_sublist) hbnE
   have hen:enA (setH h2 (B+91) (.iter 0 (B+90) 0 c (seen++[t.2.2]) c)) (.iter (B+91) 0) = .ret (.tuple [edA t.1,.int .i64 (t.2.1:Nat)]):=
    Xr (mk:=B+90) (mv:=0) (since:=c) (getH_setH_self _ _ _) (by rw [Ba _ _ _ _ (by omega)]; exact gM2) hbn2 ht
   have hml:(E.filter fun u => !(seen++[t.2.2]).contains u.2.2).length<(E.filter fun u => !seen.contains u.2.2).length:=by
    refine Hf _ _ (fun u hu => ?_) t ?_ ?_ E htE
    ·simp at hu ⊢
     exact hu.1
    ·simpa using hnt
    ·simp
   obtain ⟨A,B',hspl⟩:=List.append_of_mem ht
   have hA:t.1∉A.map (·.1):=by
    have hnd:((E.filter (Fe (Jd l) seen)).map (·.1)).Nodup:=List.Nodup.sublist (List.Sublist.map _ List.filter_sublist) hndE
    rw [hspl,List.map_append,List.map_cons,List.nodup_append] at hnd
    exact fun hm=>hnd.2.2 _ hm _ List.mem_cons_self rfl
   have hfk:=Ie t.1 t B' rfl A 0 hA
   rw [<-hspl,Nat.zero_add] at hfk
   have hko:=Ig t.1
   have x1:=Wx A B' t
   have x2:=Wm A B' t
   have x3:=Xd A B' t
   rw [<-hspl] at x1 x2 x3
   have hgb:(l.map fun n:Nat=>AV.int .i64 n)[t.1.2]? = some (.int .i64 ((l.getD t.1.2 0:Nat):Int)):=by
    rw [List.getElem?_map,List.getD_eq_getElem?_getD,List.getElem?_eq_getElem (by omega)]; rfl
   have hdv:Jd l t=((l.drop (t.1.1+1)).take (t.1.2-(t.1.1+1))).any fun x=>((l.getD t.1.2 0:Nat):Int)==(x:Nat):=rfl
   obtain ⟨⟨ta,tb⟩,tn,tbn⟩:=t
   simp only at hgb hdv v2 v3 hfk hko hen hnt hml
   generalize l.getD tb 0=wb at *
   simp only [edA] at hfk hko hen
   have hxs:(((l.map fun n:Nat=>AV.int .i64 n).take tb).drop (ta+1))=(((l.drop (ta+1)).take (tb-(ta+1))).map fun n:Nat=>(n:Int)).map (AV.int .i64):=by
    rw [List.drop_take,List.map_map,List.map_take,List.map_drop]; rfl
   have hany:(((l.drop (ta+1)).take (tb-(ta+1))).map fun n:Nat=>(n:Int)).any (fun x=>(wb:Int)==x)=Jd l ((ta,tb),tn,tbn):=by rw [hdv,List.any_map]; rfl
   have hxl:(((l.drop (ta+1)).take (tb-(ta+1))).map fun n:Nat=>(n:Int)).length<=1000:=by simp; omega
   have cs:∀{base:Nat} {Q:EX×St->Prop} {d:Option Nat} {L:List IOper} {ks:List Kont} {e:Env} {h:Bd} {x:Bool},GP (Bf T (m+1)) base Q d L ks e (Bf T (m+1) false (.fn 112) [.slice none (((l.map fun n:Nat=>AV.int .i64 n).take tb).drop (ta+1)) x,.int .i64 (wb:Int)] h)=GO (Bf T (m+1)) base Q L ks ⟨Bk e d (.bool (Jd l ((ta,tb),tn,tbn))),h⟩:=fun {base Q d L ks e h x}=>by
    rw [hxs,<-hany]
    exact Es (Se _ (wb:Int) hxl) (by omega) (by repeat (first | exact By _ | refine Di _ _ _ _ ?_ | refine Fb _ _ _ ?_)) (Ir _ _)
   have hi1:(ta:Int)+1=((ta+1:Nat):Int):=rfl
   have n8a:¬(B+8=B+90):=by omega
   have n8b:¬(B+8=B+12):=by omega
   have n8c:¬(B+8=B+91):=by omega
   have m8a:¬(B+90=B+8):=by omega
   have m8b:¬(B+12=B+8):=by omega
   have m8c:¬(B+91=B+8):=by omega
   simp (disch:=first | assumption | omega) only [go_sem,↓reduceIte,Bu,f3,f58,hen,edA,gB2,z1,z11,zl,n8a,n8b,n8c,m8a,m8b,m8c,n94a,n94b,m94a,m94b]
   rw [Avn (a:=ta+1) (b:=tb)]
   ·by_cases hlp:Jd l ((ta,tb),tn,tbn)=true
    ·have hgone:=Yd (Jd l) hbnE hspl hlp
     simp (disch:=first | assumption | omega) only [go_sem,↓reduceIte,Bu,f3,f58,gB2,z1,z11,zl,hgb,v3,List.length_map,cs,hlp,n8a,n8b,n8c,m8a,m8b,m8c,n94a,n94b,m94a,m94b,dlA,gM2,hfk,hko,x1,x2,x3]
     exact hP2 _ _ hml ⟨seen++[tbn],rfl,by simp only [go_sem,↓reduceIte,f3,f58],by simp only [go_sem,↓reduceIte,hgone],by simp only [go_sem,↓reduceIte,n8a,n8b,n8c,m8a,m8b,m8c,n94a,n94b,m94a,m94b,n3,n4,gB2],by simp only [go_sem,↓reduceIte,n8a,n8b,n8c,m8a,m8b,m8c,n94a,n94b,m94a,m94b],by simp only [Be,hl9]; omega,fun j hj=>by
     have q1:B+8≠j:=by omega
     have q2:B+90≠j:=by omega
     have q3:B+91≠j:=by omega
     have q4:B+12≠j:=by omega
     have q5:B+1≠j:=by omega
     simp only [Ba _ _ _ _ q1,Ba _ _ _ _ q2,Ba _ _ _ _ q3,Ba _ _ _ _ q4,Ba _ _ _ _ q5,Bi,kp2 j hj]⟩
    ·have hlp:Jd l ((ta,tb),tn,tbn)=false:=by simpa using hlp
     have hkp:=A3a (Jd l) (E:=E) (seen:=seen) (b:=tbn) fun u hu he=>by
      obtain rfl:=Yr hbnE hu htE he
      exact hlp
     simp (disch:=first | assumption | omega) only [go_sem,↓reduceIte,Bu,f3,f58,gB2,z1,z11,zl,hgb,v3,List.length_map,cs,hlp,Bool.false_eq_true,n8a,n8b,n8c,m8a,m8b,m8c,n94a,n94b,m94a,m94b]
     exact hP2 _ _ hml ⟨seen++[tbn],rfl,by simp only [go_sem,↓reduceIte,f3,f58],by simp only [go_sem,↓reduceIte,hkp,gM2,n8a,n8b,n8c,m8a,m8b,m8c,n94a,n94b,m94a,m94b],by simp only [go_sem,↓reduceIte,n8a,n8b,n8c,m8a,m8b,m8c,n94a,n94b,m94a,m94b,n3,n4,gB2],by simp only [go_sem,↓reduceIte,n8a,n8b,n8c,m8a,m8b,m8c,n94a,n94b,m94a,m94b],by simp only [Be,hl9]; omega,fun j hj=>by
     have q1:B+8≠j:=by omega
     have q2:B+90≠j:=by omega
     have q3:B+91≠j:=by omega
     have q4:B+12≠j:=by omega
     have q5:B+1≠j:=by omega
     simp only [Ba _ _ _ _ q1,Ba _ _ _ _ q2,Ba _ _ _ _ q3,Ba _ _ _ _ q4,Ba _ _ _ _ q5,Bi,kp2 j hj]⟩
   ·simp only [go_sem,↓reduceIte]
   ·simp only [go_sem,↓reduceIte]
   ·omega
   ·rw [List.length_map]; omega
end Go.Ev.YtgehhippjhealaaGreatC
set_option linter.unusedSimpArgs false
set_option linter.unusedVariables false
set_option maxRecDepth 100000
namespace Go.Ev.YtgehhippjhealaaGreatC
open Go Go.Proofs
def Mv:AnsY:=⟨324,[(.agg [(wN 3),(wI [1,2,3,4,1,2,5,1,2,3,4,5] false)])],(.tuple [(.ptr [(wN 3),(wI [1,2,3,4,1,2,5,1,2,3,4,5] false),(wN 0),(wN 0),(wN 0),(wN 0),(wN 0),(wN 0),(wN 0),(wN 0),(wN 0),(.fmap [(.agg [(wN 0),(wN 4)]),(.agg [(wN 1),(wN 5)]),(.agg [(wN 4),(wN 7)]),(.agg [(wN 5),(wN 8)]),(.agg [(wN 2),(wN 9)]),(.agg [(wN 3),(wN 10)]),(.agg [(wN 6),(wN 11)])] [(wN 1),(wN 2),(wN 1),(wN 2),(wN 3),(wN 4),(wN 5)])] 0),(wN 0)]),false⟩
def A1v:AnsY:=⟨324,[(.agg [(wN 4),(wI [1,2,3,4,1,2,5,1,2,3,4,5] false)])],(.tuple [(.ptr [(wN 4),(wI [1,2,3,4,1,2,5,1,2,3,4,5] false),(wN 0),(wN 0),(wN 0),(wN 0),(wN 0),(wN 0),(wN 0),(wN 0),(wN 0),(.fmap [(.agg [(wN 0),(wN 4)]),(.agg [(wN 1),(wN 5)]),(.agg [(wN 4),(wN 7)]),(.agg [(wN 5),(wN 8)]),(.agg [(wN 2),(wN 9)]),(.agg [(wN 3),(wN 10)]),(.agg [(wN 6),(wN 11)])] [(wN 1),(wN 2),(wN 1),(wN 2),(wN 3),(wN 4),(wN 5)])] 0),(wN 0)]),false⟩
def Abh:AnsY:=⟨256,[(.agg [(wN 3),(wI [1,2,3,4,1,2,5,1,2,3,4,5] false)]),(wI [0,0,0,3,0,0,4,0,0,2,1,0] false)],(.tuple [(wN 7),(wN 0)]),false⟩
def Abj:AnsY:=⟨256,[(.agg [(wN 3),(wI [1,2,3,4,1,2,5,1,2,3,4,5] false)]),(wI [0,0,0,5,0,0,4,0,0,1,2,0] false)],(.tuple [(wN 0),(wN 18)]),false⟩
def A8n:AnsY:=⟨256,[(.agg [(wN 3),(wI [1,2,3,4,1,2,5,1,2,3,4,5] false)]),(wI [0,0,0,3,1,0,4,0,0,1,2,0] false)],(.tuple [(wN 0),(wN 16)]),false⟩
def Aai:AnsY:=⟨331,[(.ptr [(wN 3),(wI [1,2,3,4,1,2,5,1,2,3,4,5] false),(wN 0),(wN 0),(wN 0),(wN 0),(wN 0),(wN 0),(wN 0),(wN 0),(wN 0),(.fmap [(.agg [(wN 0),(wN 4)]),(.agg [(wN 1),(wN 5)]),(.agg [(wN 4),(wN 7)]),(.agg [(wN 5),(wN 8)]),(.agg [(wN 2),(wN 9)]),(.agg [(wN 3),(wN 10)]),(.agg [(wN 6),(wN 11)])] [(wN 1),(wN 2),(wN 1),(wN 2),(wN 3),(wN 4),(wN 5)])] 0)],(wI [6] false),false⟩
def Aax:AnsY:=⟨332,[(.ptr [(wN 3),(wI [1,2,3,4,1,2,5,1,2,3,4,5] false),(wN 0),(wN 0),(wN 0),(wN 0),(wN 0),(wN 0),(wN 0),(wN 0),(wN 0),(.fmap [(.agg [(wN 0),(wN 4)]),(.agg [(wN 1),(wN 5)]),(.agg [(wN 4),(wN 7)]),(.agg [(wN 5),(wN 8)]),(.agg [(wN 2),(wN 9)]),(.agg [(wN 3),(wN 10)]),(.agg [(wN 6),(wN 11)])] [(wN 1),(wN 2),(wN 1),(wN 2),(wN 3),(wN 4),(wN 5)])] 0),(wN 4)],(wN 0),false⟩
end Go.Ev.YtgehhippjhealaaGreatC
set_option linter.unusedSimpArgs false
set_option linter.unusedVariables false
set_option maxRecDepth 100000
namespace Go.Ev.YtgehhippjhealaaGreatC
open Go Go.Proofs
theorem Gm {T:Cfg} {k f:Nat} {xs:List AV} {r:AV} (h:ConAt T k f xs r):Con T k f xs r:=fun n h' as0 V hn hz hp hV=>Iw T hn _ _ _ _ _ (h h' as0 V hz hp hV)
attribute [local irreducible] Res.all evC Df Dh Bq Bh Dn Bf Bj G GO GV GP GC R
set_option maxRecDepth 100000
def Jz (r:Int) (l:List Nat):AV:=.ptr (bnC r l z9 (.fmap (eK (paE l)) (eV (paE l)))) 0
theorem Xj (r:Int) (l:List Nat) (hl:l.length<=16) (hc:Con T 200 381 [.agg [.int .i64 r,Br l]] (.int .i64 0)):Con T 210 324 [.agg [.int .i64 r,Br l]] (.tuple [Jz r l,.int .i64 0]):=by
 refine Bs t324 fun n hn V hV => ?_
 have cs:∀{base:Nat} {Q:EX×St->Prop} {d:Option Nat} {L:List IOper} {ks:List Kont} {e:Env} {h:Bd},GP (Bf T n) base Q d L ks e (Bf T n false (.fn 381) [.agg [.int .i64 r,Br l]] h)=GO (Bf T n) base Q L ks ⟨Bk e d (.int .i64 0),h⟩:=
  Es hc (by omega) (Da (by repeat (first | exact Dc _ _ | exact Bl _ _ _ _ | exact Do _ _ _ | exact Dm _ _ _ _ _ | exact Dr _ _ _ _ | exact Et _ _ | refine Bv ?_ ?_ | refine En ?_ | refine Eh ?_ ?_ | refine Fc ?_ ?_ ?_)) (By _)) (by exact Bool.or_true _)
 have e0:((0:Int) != 0)=false:=rfl
 simp (disch:=first | assumption | omega) only [c324,go_sem,↓reduceIte,cs,e0,Bool.false_eq_true]
 refine Xy (Nb (k:=3) t382 (Xt r l hl)) (by omega) fun v h' hv => ?_
 obtain ⟨rfl,h1,h2,_,c,h3⟩:=hv
 simp (disch:=first | assumption | omega) only [go_sem,↓reduceIte]
 refine hV _ _ ?_
 have hmp:∀(f:AV->Res AV) (xs:List AV),(∀x∈xs,f x = .ret x)->mapR f xs = .ret xs:=fun f xs hx=>by
  induction xs with
  | nil=>rfl
  | cons a r ih =>
   simp only [mapR,hx a (by simp),Res.bind,ih fun x h=>hx x (by simp [h])]
 have hB:(setH (List.replicate 12 AObj.none) 1 (AObj.cells 0 [AV.int .i64 r,Br l])).length=12:=by simp only [Be,List.length_replicate]; omega
 rw [hB] at h1 h3
 have hom:Bj h' 6 (.omap (12+90) 0) = .ret (.fmap (eK (paE l)) (eV (paE l))):=
  Ri h3 (hmp _ _ fun x hx=>by
   obtain ⟨t,_,rfl⟩:=List.mem_map.1 hx
   exact (by repeat (first | exact Dc _ _ | exact Bl _ _ _ _ | exact Do _ _ _ | exact Dm _ _ _ _ _ | exact Dr _ _ _ _ | exact Et _ _ | refine Bv ?_ ?_ | refine En ?_ | refine Eh ?_ ?_ | refine Fc ?_ ?_ ?_))) (hmp _ _ fun x hx=>by
   obtain ⟨t,_,rfl⟩:=List.mem_map.1 hx
   exact Bl _ _ _ _)
 exact Eh (Fh h1 (Bv (Bl _ _ _ _) (Bv (Dm _ _ _ _ _) (Bv (Bl _ _ _ _) (Bv (Bl _ _ _ _) (Bv (Bl _ _ _ _) (Bv (Bl _ _ _ _) (Bv (Bl _ _ _ _) (Bv (Bl _ _ _ _) (Bv (Bl _ _ _ _) (Bv (Bl _ _ _ _) (Bv (Bl _ _ _ _) (Bv hom (Dc _ _)))))))))))))) (Bl _ _ _ _)
end Go.Ev.YtgehhippjhealaaGreatC
set_option linter.unusedSimpArgs false
set_option linter.unusedVariables false
set_option maxRecDepth 100000
namespace Go.Ev.YtgehhippjhealaaGreatC
open Go Go.Proofs
def wW:List Nat:=[1,2,3,4,1,2,5,1,2,3,4,5]
theorem wBz2:YOk T 2000 Mv:=by
 have hc:YOk T 200 ⟨381,[.agg [.int .i64 3,Br wW]],.int .i64 0,false⟩:=(Bb (k:=0) (n:=60) (l:=[]) (fun _ h=>by cases h) (by kernel_rfl)).mono (by decide)
 have h:=Ek (Xj 3 wW (by decide) (Gm hc)) (Nat.le_refl _)
 have e:AnsY.mk 324 [.agg [.int .i64 3,Br wW]] (.tuple [Jz 3 wW,.int .i64 0]) false=Mv:=by kernel_rfl
 rw [<-e]
 exact (Fi h).mono (by decide)
theorem wBz32:YOk T 2000 A1v:=by
 have hc:YOk T 200 ⟨381,[.agg [.int .i64 4,Br wW]],.int .i64 0,false⟩:=(Bb (k:=0) (n:=60) (l:=[]) (fun _ h=>by cases h) (by kernel_rfl)).mono (by decide)
 have h:=Ek (Xj 4 wW (by decide) (Gm hc)) (Nat.le_refl _)
 have e:AnsY.mk 324 [.agg [.int .i64 4,Br wW]] (.tuple [Jz 4 wW,.int .i64 0]) false=A1v:=by kernel_rfl
 rw [<-e]
 exact (Fi h).mono (by decide)
end Go.Ev.YtgehhippjhealaaGreatC
