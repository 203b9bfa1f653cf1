/- The code of functions that are walked, compiled for the evaluator, as text. The bench of a day: its pauses, by a map and a range that deletes. Entries of the works' calls that are proved by walks. The bench of a valid day, by value. The benches of the two days of the works of layer 2. No condition but those that stand in each. -/
import Derived.Test.YtbgodhhdojjbmaaGreatATopW
import Derived.Test.YtbgodhhdojjbmaaGreatATopBar2
import Derived.Test.YtbgodhhdojjbmaaGreatAEvKer3
set_option linter.unusedSimpArgs false
set_option linter.unusedVariables false
set_option maxRecDepth 100000
namespace Go.Ev.YtbgodhhdojjbmaaGreatC
open Go.Proofs
def c480:IFunc:=⟨90,[.tmp 2],sO [dO 1 (.box (tM 0)),dO 2 (.mv (.const .nilptr))] (sO [dO 9 (.load (some 2) (tM 1)),⟨some 10,.mkMap,none⟩,dO 11 (.build [.int .i64 0,.slice none [] true,.int .i64 0,.int .i64 0,.int .i64 0,.int .i64 0,.int .i64 0,.int .i64 0,.int .i64 0,.int .i64 0,.int .i64 0,.fmap [] []] [(0,(2,tM 9)),(11,(1,tM 10))]),dO 12 (.box (tM 11)),mV 3 12] (sO [mV 13 3,dO 14 (.nilCheck (tM 13)),dO 15 (.fieldAddr 2 (tM 14)),dO 16 (.sliceA none 9 (tM 15) none none none),eO (.clear (.int .i64 0) (tM 16))] (.seq (sO [mV 17 3,dO 18 (.nilCheck (tM 17)),dO 19 (.fieldAddr 0 (tM 18)),dO 20 (.fieldAddr 1 (tM 19)),lD 21 20,lN 22 21,dO 23 (.mv (cI 0))] (.block 0 (.loop (sO [bB 24 .lss 23 22] (.seq (.cond (tM 24) .skip (.exit 0)) (.seq (.block 1 (sO [mV 25 23,iA 26 21 23,lD 27 26,mV 4 25,mV 5 27] (sO [mV 28 3,dO 29 (.nilCheck (tM 28)),dO 30 (.fieldAddr 0 (tM 29)),dO 31 (.fieldAddr 1 (tM 30)),lD 32 31,mV 33 4,dO 34 (.slice none (tM 32) none (some (tM 33)) none),lN 35 34,dO 36 (.mv (cI 0))] (.block 2 (.loop (sO [bB 37 .lss 36 35] (.seq (.cond (tM 37) .skip (.exit 2)) (.seq (.block 3 (sO [mV 38 36,iA 39 34 36,lD 40 39,mV 6 38,mV 7 40] (sO [mV 41 5,mV 42 7,bB 43 .eql 41 42] (.cond (tM 43) (.ops [mV 44 3,dO 45 (.nilCheck (tM 44)),dO 46 (.fieldAddr 11 (tM 45)),lD 47 46,mV 48 6,mV 49 4,dO 50 (.build [.int .i64 0,.int .i64 0] [(0,(1,tM 48)),(1,(1,tM 49))]),mV 51 5,eO (.mapUpdate (some 2) (tM 47) (tM 50) (tM 51))]) .skip)))) (.ops [bC 52 .add 36 1,mV 36 52]))))))))) (.ops [bC 53 .add 23 1,mV 23 53]))))))) (.seq (sO [mV 54 3,dO 55 (.nilCheck (tM 54)),dO 56 (.fieldAddr 11 (tM 55)),lD 57 56,dO 58 (.range (tM 57))] (.block 4 (.loop (sO [dO 59 (.next (tM 58)),xT 60 59 0] (.seq (.cond (tM 60) .skip (.exit 4)) (.block 5 (sO [dO 61 (.entry (tM 58)),xT 62 61 0,dO 8 (.alloc [.int .i64 0,.int .i64 0]),eO (.store 2 (tM 8) (tM 62))] (sO [mV 63 3,dO 64 (.nilCheck (tM 63)),dO 65 (.fieldAddr 0 (tM 64)),dO 66 (.fieldAddr 1 (tM 65)),lD 67 66,dO 68 (.fieldAddr 0 (tM 8)),lD 69 68,bC 70 .add 69 1,dO 71 (.fieldAddr 1 (tM 8)),lD 72 71,dO 73 (.slice none (tM 67) (some (tM 70)) (some (tM 72)) none),mV 74 3,dO 75 (.nilCheck (tM 74)),dO 76 (.fieldAddr 0 (tM 75)),dO 77 (.fieldAddr 1 (tM 76)),lD 78 77,dO 79 (.fieldAddr 1 (tM 8)),lD 80 79,iA 81 78 80,lD 82 81,dO 83 (.callF false 54 [tM 73,tM 82])] (.cond (tM 83) (.ops [mV 84 3,dO 85 (.nilCheck (tM 84)),dO 86 (.fieldAddr 11 (tM 85)),lD 87 86,dO 88 (.load (some 2) (tM 8)),eO (.delete (some 2) (tM 87) (tM 88))]) .skip))))))))) (sO [mV 89 3,mV 2 89] .ret)))))⟩
theorem k480:(Bm Tryz.prog byr).fns 480=some c480:=by kernel_rfl
theorem t480:T.fns 480=some c480:=Bp k480 (by decide) (by decide)
def c417:IFunc:=⟨12,[.tmp 2,.tmp 3],sO [dO 1 (.box (tM 0)),dO 2 (.mv (.const .nilptr)),dO 3 (.mv (cI 0))] (.seq (sO [dO 5 (.load (some 2) (tM 1)),dO 6 (.callF false 479 [tM 5]),mV 4 6] (sO [mV 7 4,bC 8 .neq 7 0] (.cond (tM 8) (sO [mV 9 4,dO 2 (.mv (.const .nilptr)),mV 3 9] .ret) .skip))) (sO [dO 10 (.load (some 2) (tM 1)),dO 11 (.callF true 480 [tM 10]),mV 2 11,dO 3 (.mv (cI 0))] .ret))⟩
theorem k417:(Bm Tryz.prog byr).fns 417=some c417:=by kernel_rfl
theorem t417:T.fns 417=some c417:=Bp k417 (by decide) (by decide)
def c54:IFunc:=⟨9,[.tmp 4],sO [dO 4 (.mv (cB false))] (sO [mV 5 0,mV 6 1,dO 7 (.callF false 85 [tM 5,tM 6]),bC 8 .geq 7 0,mV 4 8] .ret)⟩
theorem k54:(Bm Tryz.prog byr).fns 54=some c54:=by kernel_rfl
theorem t54:T.fns 54=some c54:=Bp k54 (by decide) (by decide)
def c85:IFunc:=⟨19,[.tmp 4],sO [dO 4 (.mv (cI 0))] (.seq (sO [mV 6 0,lN 7 6,dO 8 (.mv (cI 0))] (.block 0 (.loop (sO [bB 9 .lss 8 7] (.seq (.cond (tM 9) .skip (.exit 0)) (.seq (.block 1 (sO [mV 10 8,mV 5 10] (sO [mV 11 1,mV 12 0,mV 13 5,iA 14 12 13,lD 15 14,bB 16 .eql 11 15] (.cond (tM 16) (sO [mV 17 5,mV 4 17] .ret) .skip)))) (.ops [bC 18 .add 8 1,mV 8 18]))))))) (sO [dO 4 (.mv (cI (-1)))] .ret))⟩
theorem k85:(Bm Tryz.prog byr).fns 85=some c85:=by kernel_rfl
theorem t85:T.fns 85=some c85:=Bp k85 (by decide) (by decide)
def c131:IFunc:=⟨19,[.tmp 4],sO [dO 4 (.mv (cI 0))] (.seq (sO [mV 6 0,lN 7 6,dO 8 (.mv (cI 0))] (.block 0 (.loop (sO [bB 9 .lss 8 7] (.seq (.cond (tM 9) .skip (.exit 0)) (.seq (.block 1 (sO [mV 10 8,mV 5 10] (sO [mV 11 1,mV 12 0,mV 13 5,iA 14 12 13,lD 15 14,dO 16 (.call false (tM 11) [tM 15])] (.cond (tM 16) (sO [mV 17 5,mV 4 17] .ret) .skip)))) (.ops [bC 18 .add 8 1,mV 8 18]))))))) (sO [dO 4 (.mv (cI (-1)))] .ret))⟩
theorem k131:(Bm Tryz.prog byr).fns 131=some c131:=by kernel_rfl
theorem t131:T.fns 131=some c131:=Bp k131 (by decide) (by decide)
def c345:IFunc:=⟨94,[.tmp 4,.tmp 5],sO [dO 2 (.box (tM 0)),dO 4 (.mv (cI 0)),dO 5 (.mv (cI 0))] (sO [dO 14 (.load (some 2) (tM 2)),dO 15 (.callF true 417 [tM 14]),mV 13 15,xT 16 13 0,xT 17 13 1,mV 6 16,mV 7 17] (.seq (.block 0 (sO [mV 19 7,bC 20 .neq 19 0,mV 18 20] (.cond (tM 18) (sO [mV 21 7,dO 4 (.mv (cI 0)),mV 5 21] .ret) (sO [mV 23 1,lN 24 23,dO 25 (.fieldAddr 1 (tM 2)),lD 26 25,lN 27 26,bB 28 .neq 24 27,mV 22 28] (.cond (tM 22) (sO [dO 4 (.mv (cI 0)),dO 5 (.mv (cI 15))] .ret) (sO [mV 30 1,dO 31 (.callF false 418 [cI 0,cI 8,tM 30]),dO 32 (.un .not (tM 31)),mV 29 32] (.cond (tM 29) (sO [dO 4 (.mv (cI 0)),dO 5 (.mv (cI 3))] .ret) .skip))))))) (sO [dO 8 (.mv (cI 0))] (.seq (sO [dO 33 (.fieldAddr 1 (tM 2)),lD 34 33,lN 35 34,dO 36 (.mv (cI 0))] (.block 1 (.loop (sO [bB 37 .lss 36 35] (.seq (.cond (tM 37) .skip (.exit 1)) (.seq (.block 2 (sO [mV 38 36,iA 39 34 36,lD 40 39,mV 9 38,mV 10 40] (sO [mV 41 6,mV 42 10,dO 43 (.callF false 419 [tM 41,tM 42]),dO 44 (.un .not (tM 43)),mV 45 44,gV 46 6 45 true,gO 47 (.callF false 420 [tM 46]) 45 true,gO 48 (.fieldAddr 0 (tM 2)) 45 true,gO 49 (.load none (tM 48)) 45 true,gO 50 (.bin .eql (tM 47) (tM 49)) 45 true,dO 51 (.pick (tM 45) (tM 50) (cB false)),mV 11 51] (.seq (.block 3 (sO [mV 53 11,mV 54 1,mV 55 9,iA 56 54 55,lD 57 56,bC 58 .neq 57 0,dO 59 (.eqB true (tM 53) (tM 58)),mV 52 59] (.cond (tM 52) (sO [dO 4 (.mv (cI 0)),dO 5 (.mv (cI 16))] .ret) (sO [mV 61 11,mV 62 61,gV 63 6 62 true,gV 64 1 62 true,gV 65 9 62 true,gO 66 (.indexAddr 1 (tM 64) (tM 65)) 62 true,gO 67 (.load none (tM 66)) 62 true,gO 68 (.callF false 419 [tM 63,tM 67]) 62 true,gO 69 (.un .not (tM 68)) 62 true,dO 70 (.pick (tM 62) (tM 69) (cB false)),mV 60 70] (.cond (tM 60) (sO [dO 4 (.mv (cI 0)),dO 5 (.mv (cI 18))] .ret) .skip))))) (sO [mV 71 6,dO 72 (.nilCheck (tM 71)),dO 73 (.fieldAddr 2 (tM 72)),dO 74 (.load (some 9) (tM 73)),dO 12 (.alloc [.int .i64 0,.int .i64 0,.int .i64 0,.int .i64 0,.int .i64 0,.int .i64 0,.int .i64 0,.int .i64 0,.int .i64 0]),eO (.store 9 (tM 12) (tM 74))] (sO [mV 75 6,mV 76 1,mV 77 9,iA 78 76 77,lD 79 78,dO 80 (.callF true 421 [tM 75,tM 79])] (sO [mV 81 6,mV 82 10,dO 83 (.callF true 422 [tM 81,tM 82])] (sO [dO 84 (.load (some 9) (tM 12)),mV 85 6,dO 86 (.nilCheck (tM 85)),dO 87 (.fieldAddr 2 (tM 86)),dO 88 (.load (some 9) (tM 87)),dO 89 (.eqAgg 9 true (tM 84) (tM 88))] (.cond (tM 89) (.ops [mV 90 8,bC 91 .add 90 1,mV 8 91]) .skip))))))))) (.ops [bC 92 .add 36 1,mV 36 92]))))))) (sO [mV 93 8,mV 4 93,dO 5 (.mv (cI 0))] .ret)))))⟩
theorem k345:(Bm Tryz.prog byr).fns 345=some c345:=by kernel_rfl
theorem t345:T.fns 345=some c345:=Bp k345 (by decide) (by decide)
def c419:IFunc:=⟨12,[.tmp 4],sO [dO 4 (.mv (cB false))] (sO [mV 5 0,mV 6 1,dO 7 (.nilCheck (tM 5)),dO 8 (.fieldAddr 2 (tM 7)),dO 9 (.indexAddrA 9 1 (tM 8) (tM 6)),lD 10 9,bC 11 .gtr 10 0,mV 4 11] .ret)⟩
theorem k419:(Bm Tryz.prog byr).fns 419=some c419:=by kernel_rfl
theorem t419:T.fns 419=some c419:=Bp k419 (by decide) (by decide)
def c420:IFunc:=⟨18,[.tmp 2],sO [dO 2 (.mv (cI 0))] (sO [dO 3 (.mv (cI 0))] (.seq (sO [mV 6 0,dO 7 (.nilCheck (tM 6)),dO 8 (.fieldAddr 2 (tM 7)),dO 9 (.load (some 9) (tM 8)),dO 10 (.mv (cI 0))] (.block 0 (.loop (sO [bC 11 .lss 10 9] (.seq (.cond (tM 11) .skip (.exit 0)) (.seq (.block 1 (sO [dO 12 (.index none 9 (tM 9) (tM 10)),mV 5 12] (.ops [mV 13 3,mV 14 5,bB 15 .add 13 14,mV 3 15]))) (.ops [bC 16 .add 10 1,mV 10 16]))))))) (sO [mV 17 3,mV 2 17] .ret)))⟩
theorem k420:(Bm Tryz.prog byr).fns 420=some c420:=by kernel_rfl
theorem t420:T.fns 420=some c420:=Bp k420 (by decide) (by decide)
def c421:IFunc:=⟨9,[],.ops [mV 4 0,mV 5 1,dO 6 (.nilCheck (tM 4)),dO 7 (.fieldAddr 2 (tM 6)),dO 8 (.indexAddrA 9 1 (tM 7) (tM 5)),eO (.store 1 (tM 8) (cI 0))]⟩
theorem k421:(Bm Tryz.prog byr).fns 421=some c421:=by kernel_rfl
theorem t421:T.fns 421=some c421:=Bp k421 (by decide) (by decide)
def c422:IFunc:=⟨9,[],.ops [mV 4 0,mV 5 1,dO 6 (.nilCheck (tM 4)),dO 7 (.fieldAddr 2 (tM 6)),dO 8 (.indexAddrA 9 1 (tM 7) (tM 5)),eO (.store 1 (tM 8) (cI 1))]⟩
theorem k422:(Bm Tryz.prog byr).fns 422=some c422:=by kernel_rfl
theorem t422:T.fns 422=some c422:=Bp k422 (by decide) (by decide)
def c425:IFunc:=⟨113,[.tmp 4],sO [dO 4 (.mv (cI 0))] (sO [dO 17 (.build [.int .i64 0,.int .i64 0] [(0,(1,cI 1000)),(1,(1,cI 1000))]),dO 5 (.alloc [.int .i64 0,.int .i64 0]),eO (.store 2 (tM 5) (tM 17))] (sO [⟨some 18,.mkMap,none⟩,mV 19 0,dO 20 (.nilCheck (tM 19)),dO 21 (.fieldAddr 2 (tM 20)),dO 22 (.load (some 9) (tM 21)),eO (.mapUpdate (some 9) (tM 18) (tM 22) (cI 0)),mV 23 18,mV 6 23] (sO [dO 7 (.mv (.const (.fmap [] [])))] (.seq (sO [mV 24 0,dO 25 (.nilCheck (tM 24)),dO 26 (.fieldAddr 0 (tM 25)),dO 27 (.fieldAddr 1 (tM 26)),lD 28 27,lN 29 28,dO 30 (.mv (cI 0))] (.block 0 (.loop (sO [bB 31 .lss 30 29] (.seq (.cond (tM 31) .skip (.exit 0)) (.seq (.block 1 (sO [mV 32 30,mV 8 32] (.seq (sO [mV 33 8,mV 34 1,bB 35 .eql 33 34] (.cond (tM 35) (sO [⟨some 36,.mkMap,none⟩,mV 9 36] (sO [⟨some 37,.mkMap,none⟩,mV 10 37] (.seq (sO [mV 38 6,dO 39 (.range (tM 38))] (.block 2 (.loop (sO [dO 40 (.next (tM 39)),xT 41 40 0] (.seq (.cond (tM 41) .skip (.exit 2)) (.block 3 (sO [dO 42 (.entry (tM 39)),xT 43 42 0,xT 44 42 1,dO 11 (.alloc [.int .i64 0,.int .i64 0,.int .i64 0,.int .i64 0,.int .i64 0,.int .i64 0,.int .i64 0,.int .i64 0,.int .i64 0]),eO (.store 9 (tM 11) (tM 43)),mV 12 44] (sO [mV 45 0,dO 46 (.nilCheck (tM 45)),dO 47 (.fieldAddr 0 (tM 46)),dO 48 (.fieldAddr 1 (tM 47)),lD 49 48,mV 50 8,iA 51 49 50,lD 52 51,dO 53 (.indexAddrA 9 1 (tM 11) (tM 52)),lD 54 53,bC 55 .gtr 54 0] (.cond (tM 55) (.ops [mV 56 9,dO 57 (.load (some 9) (tM 11)),mV 58 12,eO (.mapUpdate (some 9) (tM 56) (tM 57) (tM 58))]) (.ops [mV 59 10,dO 60 (.load (some 9) (tM 11)),mV 61 12,eO (.mapUpdate (some 9) (tM 59) (tM 60) (tM 61))])))))))))) (sO [mV 62 0,mV 63 9,mV 64 8,dO 65 (.callF true 485 [tM 62,tM 63,tM 64]),mV 66 0,mV 67 10,mV 68 8,dO 69 (.callF true 485 [tM 66,tM 67,tM 68]),mV 6 65,mV 7 69] (.exit 1))))) .skip)) (.ops [mV 70 0,mV 71 6,mV 72 8,dO 73 (.callF true 485 [tM 70,tM 71,tM 72]),mV 74 0,mV 75 7,mV 76 8,dO 77 (.callF true 485 [tM 74,tM 75,tM 76]),mV 6 73,mV 7 77])))) (.ops [bC 78 .add 30 1,mV 30 78]))))))) (.seq (sO [mV 79 6,dO 80 (.range (tM 79))] (.block 4 (.loop (sO [dO 81 (.next (tM 80)),xT 82 81 0] (.seq (.cond (tM 82) .skip (.exit 4)) (.block 5 (sO [dO 83 (.entry (tM 80)),xT 84 83 1,mV 14 84] (.ops [dO 85 (.indexAddrA 2 1 (tM 5) (cI 0)),lD 86 85,mV 87 14,dO 88 (.min [tM 86,tM 87]),dO 89 (.indexAddrA 2 1 (tM 5) (cI 0)),eO (.store 1 (tM 89) (tM 88))])))))))) (.seq (sO [mV 90 7,dO 91 (.range (tM 90))] (.block 6 (.loop (sO [dO 92 (.next (tM 91)),xT 93 92 0] (.seq (.cond (tM 93) .skip (.exit 6)) (.block 7 (sO [dO 94 (.entry (tM 91)),xT 95 94 1,mV 16 95] (.ops [dO 96 (.indexAddrA 2 1 (tM 5) (cI 1)),lD 97 96,mV 98 16,dO 99 (.min [tM 97,tM 98]),dO 100 (.indexAddrA 2 1 (tM 5) (cI 1)),eO (.store 1 (tM 100) (tM 99))])))))))) (.seq (.block 8 (sO [dO 102 (.indexAddrA 2 1 (tM 5) (cI 0)),lD 103 102,dO 104 (.indexAddrA 2 1 (tM 5) (cI 1)),lD 105 104,bB 106 .lss 103 105,mV 101 106] (.cond (tM 101) (sO [dO 4 (.mv (cI 0))] .ret) (sO [dO 108 (.indexAddrA 2 1 (tM 5) (cI 0)),lD 109 108,dO 110 (.indexAddrA 2 1 (tM 5) (cI 1)),lD 111 110,bB 112 .gtr 109 111,mV 107 112] (.cond (tM 107) (sO [dO 4 (.mv (cI 2))] .ret) .skip))))) (sO [dO 4 (.mv (cI 1))] .ret))))))))⟩
theorem k425:(Bm Tryz.prog byr).fns 425=some c425:=by kernel_rfl
theorem t425:T.fns 425=some c425:=Bp k425 (by decide) (by decide)
def c485:IFunc:=⟨93,[.tmp 6],sO [dO 6 (.mv (.const (.fmap [] [])))] (sO [⟨some 15,.mkMap,none⟩,dO 7 (.alloc [.fmap [] []]),eO (.store 1 (tM 7) (tM 15))] (sO [dO 16 (.mkFunc 514 [] [tM 7]),mV 8 16] (sO [mV 17 0,dO 18 (.nilCheck (tM 17)),dO 19 (.fieldAddr 0 (tM 18)),dO 20 (.fieldAddr 1 (tM 19)),lD 21 20,mV 22 2,iA 23 21 22,lD 24 23,mV 9 24] (.seq (sO [mV 25 1,dO 26 (.range (tM 25))] (.block 0 (.loop (sO [dO 27 (.next (tM 26)),xT 28 27 0] (.seq (.cond (tM 28) .skip (.exit 0)) (.block 1 (sO [dO 29 (.entry (tM 26)),xT 30 29 0,xT 31 29 1,dO 10 (.alloc [.int .i64 0,.int .i64 0,.int .i64 0,.int .i64 0,.int .i64 0,.int .i64 0,.int .i64 0,.int .i64 0,.int .i64 0]),eO (.store 9 (tM 10) (tM 30)),mV 11 31] (sO [mV 32 0,dO 33 (.nilCheck (tM 32)),dO 34 (.fieldAddr 0 (tM 33)),dO 35 (.load (some 2) (tM 34)),dO 36 (.load (some 9) (tM 10)),dO 37 (.build [.int .i64 0,.slice none [] true,.int .i64 0,.int .i64 0,.int .i64 0,.int .i64 0,.int .i64 0,.int .i64 0,.int .i64 0,.int .i64 0,.int .i64 0,.fmap [] []] [(0,(2,tM 35)),(2,(9,tM 36))]),dO 38 (.box (tM 37)),mV 12 38] (.seq (.block 2 (sO [mV 40 12,mV 41 9,dO 42 (.callF false 419 [tM 40,tM 41]),mV 39 42] (.cond (tM 39) (sO [mV 43 8,dO 44 (.load (some 9) (tM 10)),mV 45 11,dO 46 (.call true (tM 43) [tM 44,tM 45])] (.exit 1)) (sO [mV 48 12,dO 49 (.callF false 420 [tM 48]),mV 50 0,dO 51 (.nilCheck (tM 50)),dO 52 (.fieldAddr 0 (tM 51)),dO 53 (.fieldAddr 0 (tM 52)),lD 54 53,bB 55 .lss 49 54,mV 47 55] (.cond (tM 47) (sO [mV 56 12,mV 57 9,dO 58 (.callF true 422 [tM 56,tM 57])] (sO [mV 59 8,mV 60 12,dO 61 (.nilCheck (tM 60)),dO 62 (.fieldAddr 2 (tM 61)),dO 63 (.load (some 9) (tM 62)),mV 64 11,bC 65 .add 64 1,dO 66 (.call true (tM 59) [tM 63,tM 65])] (.exit 1))) .skip))))) (sO [dO 13 (.mv (cI 1))] (.block 3 (.loop (.seq (sO [mV 67 13,bC 68 .leq 67 8] (.cond (tM 68) .skip (.exit 3))) (.seq (.block 4 (sO [mV 71 13,dO 72 (.indexAddrA 9 1 (tM 10) (tM 71)),lD 73 72,bC 74 .gtr 73 0] (.cond (tM 74) (sO [dO 75 (.load (some 9) (tM 10)),dO 76 (.build [.int .i64 0,.slice none [] true,.int .i64 0,.int .i64 0,.int .i64 0,.int .i64 0,.int .i64 0,.int .i64 0,.int .i64 0,.int .i64 0,.int .i64 0,.fmap [] []] [(2,(9,tM 75))]),dO 77 (.box (tM 76)),mV 14 77] (sO [mV 78 14,mV 79 13,dO 80 (.callF true 421 [tM 78,tM 79])] (sO [mV 81 14,mV 82 9,dO 83 (.callF true 422 [tM 81,tM 82])] (.ops [mV 84 8,mV 85 14,dO 86 (.nilCheck (tM 85)),dO 87 (.fieldAddr 2 (tM 86)),dO 88 (.load (some 9) (tM 87)),mV 89 11,bC 90 .add 89 1,dO 91 (.call true (tM 84) [tM 88,tM 90])])))) .skip))) (.ops [mV 69 13,bC 70 .add 69 1,mV 13 70]))))))))))))))) (sO [lD 92 7,mV 6 92] .ret)))))⟩
theorem k485:(Bm Tryz.prog byr).fns 485=some c485:=by kernel_rfl
theorem t485:T.fns 485=some c485:=Bp k485 (by decide) (by decide)
def c514:IFunc:=⟨23,[],sO [dO 3 (.box (tM 0))] (sO [lD 8 2,dO 9 (.load (some 9) (tM 3)),dO 10 (.lookup (some 9) (.int .i64 0) true (tM 8) (tM 9)),mV 7 10,xT 11 7 0,xT 12 7 1,mV 5 11,mV 6 12] (sO [mV 13 6,dO 14 (.un .not (tM 13)),mV 15 14,gV 16 1 15 false,gV 17 5 15 false,gO 18 (.bin .lss (tM 16) (tM 17)) 15 false,dO 19 (.pick (tM 15) (cB true) (tM 18))] (.cond (tM 19) (.ops [lD 20 2,dO 21 (.load (some 9) (tM 3)),mV 22 1,eO (.mapUpdate (some 9) (tM 20) (tM 21) (tM 22))]) .skip)))⟩
theorem k514:(Bm Tryz.prog byr).fns 514=some c514:=by kernel_rfl
theorem t514:T.fns 514=some c514:=Bp k514 (by decide) (by decide)
def c424:IFunc:=⟨113,[.tmp 2],sO [dO 2 (.mv (.const (.slice none [] true)))] (sO [mV 12 0,dO 13 (.nilCheck (tM 12)),dO 14 (.fieldAddr 0 (tM 13)),dO 15 (.fieldAddr 1 (tM 14)),lD 16 15,lN 17 16,mV 3 17] (sO [mV 18 3,bC 19 .add 18 2,dO 20 (.mkSliceD 20 113 none [.int .i64 0] 8 (tM 19) (tM 19)),mV 21 3,bC 22 .add 21 2,dO 23 (.mkSliceK none [.int .i64 0] 8 (tM 22) (tM 22)),mV 4 20,mV 5 23] (.seq (sO [dO 6 (.alloc [.int .i64 0]),eO (.store 1 (tM 6) (cI 1))] (.block 0 (.loop (.seq (sO [lD 24 6,mV 25 3,bC 26 .add 25 1,bB 27 .leq 24 26] (.cond (tM 27) .skip (.exit 0))) (.seq (.block 1 (sO [mV 30 4,lD 31 6,iA 32 30 31,eO (.store 1 (tM 32) (cI 1000))] (sO [lD 33 6,dO 34 (.mv (cI 0))] (.block 2 (.loop (sO [bB 35 .lss 34 33] (.seq (.cond (tM 35) .skip (.exit 2)) (.seq (.block 3 (sO [mV 36 34,dO 7 (.alloc [.int .i64 0]),eO (.store 1 (tM 7) (tM 36))] (sO [mV 37 4,lD 38 7,iA 39 37 38,lD 40 39,dO 8 (.alloc [.int .i64 0]),eO (.store 1 (tM 8) (tM 40))] (.seq (sO [mV 41 0,dO 42 (.callF false 482 [tM 41])] (.block 4 (.rangeF (tM 42) [43] (.ops [dO 9 (.alloc [.int .i64 0,.int .i64 0]),eO (.store 2 (tM 9) (tM 43))]) (.block 5 (sO [dO 44 (.fieldAddr 0 (tM 9)),lD 45 44,lD 46 7,bC 47 .sub 46 1,bB 48 .geq 45 47,mV 49 48,gO 50 (.fieldAddr 1 (tM 9)) 49 true,gO 51 (.load none (tM 50)) 49 true,gO 52 (.load none (tM 6)) 49 true,gO 53 (.bin .sub (tM 52) (cI 1)) 49 true,gO 54 (.bin .leq (tM 51) (tM 53)) 49 true,dO 55 (.pick (tM 49) (tM 54) (cB false)),mV 56 55,gO 57 (.load none (tM 7)) 56 true,gO 58 (.bin .gtr (tM 57) (cI 0)) 56 true,gV 59 58 56 true,gO 60 (.fieldAddr 0 (tM 9)) 59 false,gO 61 (.load none (tM 60)) 59 false,gO 62 (.bin .geq (tM 61) (cI 0)) 59 false,gO 63 (.pick (tM 59) (cB true) (tM 62)) 56 true,dO 64 (.pick (tM 56) (tM 63) (cB false))] (.cond (tM 64) (.ops [lD 65 8,bC 66 .add 65 1,eO (.store 1 (tM 8) (tM 66))]) .skip)))))) (.seq (sO [lD 67 6,mV 68 3,bB 69 .leq 67 68] (.cond (tM 69) (.ops [lD 70 8,mV 71 0,dO 72 (.nilCheck (tM 71)),dO 73 (.fieldAddr 0 (tM 72)),dO 74 (.fieldAddr 0 (tM 73)),lD 75 74,bC 76 .sub 75 1,bB 77 .add 70 76,eO (.store 1 (tM 8) (tM 77))]) .skip)) (sO [lD 78 8,mV 79 4,lD 80 6,iA 81 79 80,lD 82 81,bB 83 .lss 78 82] (.cond (tM 83) (.ops [mV 84 4,lD 85 6,mV 86 5,dO 87 (.loadL none (tM 6) 87 113 []),lD 88 8,dO 89 (.loadL none (tM 7) 89 113 []),iA 90 84 85,eO (.storeL 113 1 (tM 90) (tM 88)),iA 91 86 87,eO (.store 1 (tM 91) (tM 89))]) .skip))))))) (.ops [bC 92 .add 34 1,mV 34 92]))))))))) (.seq (sO [lD 93 6] (.ops [dO 6 (.alloc [.int .i64 0]),eO (.store 1 (tM 6) (tM 93))])) (.ops [lD 28 6,bC 29 .add 28 1,eO (.store 1 (tM 6) (tM 29))]))))))) (sO [dO 10 (.mv (.const (.slice none [] true)))] (.seq (sO [mV 94 5,mV 95 3,bC 96 .add 95 1,iA 97 94 96,lD 98 97,mV 11 98] (.block 6 (.loop (.seq (sO [mV 99 11,bC 100 .gtr 99 0] (.cond (tM 100) .skip (.exit 6))) (.seq (.block 7 (.ops [mV 105 10,mV 106 11,bC 107 .sub 106 1,dO 108 (.buildSlice none [.int .i64 0] [(0,(1,tM 107))]),dO 109 (.append none 8 (tM 105) (tM 108)),mV 10 109])) (.ops [mV 101 5,mV 102 11,iA 103 101 102,lD 104 103,mV 11 104])))))) (sO [mV 110 10,dO 111 (.callF false 484 [tM 110])] (sO [mV 112 10,mV 2 112] .ret)))))))⟩
theorem k424:(Bm Tryz.prog byr).fns 424=some c424:=by kernel_rfl
theorem t424:T.fns 424=some c424:=Bp k424 (by decide) (by decide)
def c482:IFunc:=⟨4,[.tmp 2],sO [dO 1 (.box (tM 0)),dO 2 (.mv (.const .nilfn))] (sO [dO 3 (.mkFunc 513 [] [tM 1]),mV 2 3] .ret)⟩
theorem k482:(Bm Tryz.prog byr).fns 482=some c482:=by kernel_rfl
theorem t482:T.fns 482=some c482:=Bp k482 (by decide) (by decide)
def c513:IFunc:=⟨37,[],sO [lD 6 1,dO 7 (.nilCheck (tM 6)),dO 8 (.fieldAddr 0 (tM 7)),dO 9 (.fieldAddr 1 (tM 8)),lD 10 9,lN 11 10,dO 12 (.mv (cI 0))] (.block 0 (.loop (sO [bB 13 .lss 12 11] (.seq (.cond (tM 13) .skip (.exit 0)) (.seq (.block 1 (sO [mV 14 12,mV 3 14] (sO [mV 15 3,dO 16 (.mv (cI 0))] (.block 2 (.loop (sO [bB 17 .lss 16 15] (.seq (.cond (tM 17) .skip (.exit 2)) (.seq (.block 3 (sO [mV 18 16,mV 4 18] (sO [mV 19 4,mV 20 3,dO 21 (.build [.int .i64 0,.int .i64 0] [(0,(1,tM 19)),(1,(1,tM 20))]),dO 5 (.alloc [.int .i64 0,.int .i64 0]),eO (.store 2 (tM 5) (tM 21))] (sO [lD 22 1,dO 23 (.nilCheck (tM 22)),dO 24 (.fieldAddr 11 (tM 23)),lD 25 24,dO 26 (.load (some 2) (tM 5)),dO 27 (.lookup (some 2) (.int .i64 0) false (tM 25) (tM 26)),bC 28 .gtr 27 0,mV 29 28,gV 30 0 29 true,gO 31 (.load (some 2) (tM 5)) 29 true,gO 32 (.call true (tM 30) [tM 31]) 29 true,gO 33 (.un .not (tM 32)) 29 true,dO 34 (.pick (tM 29) (tM 33) (cB false))] (.cond (tM 34) .ret .skip))))) (.ops [bC 35 .add 16 1,mV 16 35]))))))))) (.ops [bC 36 .add 12 1,mV 12 36]))))))⟩
theorem k513:(Bm Tryz.prog byr).fns 513=some c513:=by kernel_rfl
theorem t513:T.fns 513=some c513:=Bp k513 (by decide) (by decide)
end Go.Ev.YtbgodhhdojjbmaaGreatC
namespace Go.Ev.YtbgodhhdojjbmaaGreatC
open Go Go.Proofs
def A9f (g:Option Nat) (n:Nat) (h:Bc):AV->Res AV
 | .optr k ver off =>
  match Bb h k with
  | .cells v cs=>if v=ver/\off+n*Be g<=cs.length then .ret (.oslice k ver g off n (some n)) else .fail
  | _ => .fail
 | .ptr cells off=>if off+n*Be g<=cells.length then .ret (.slice g (Ej g n ((cells.drop off).take (n*Be g))) false) else .fail
 | _ => .fail
theorem Aav {call:Bf} {base:Nat} {Q:EX×St->Prop} {ks:List Kont} {e:Env} {h:Bc} {l:List IOper} {d:Option Nat} (g:Option Nat) (n:Nat) (x:IX):GO call base Q (⟨d,.sliceA g n x none none none,none⟩::l) ks ⟨e,h⟩=GV call base Q d l ks e h (A9f g n h (x.ev e)):=by
 rw [Ds]
 simp only [Bd,GV,A9f]
 cases x.ev e with
 | optr k ver off =>
  simp only
  cases Bb h k with
  | cells v cs =>
   simp only
   split
   ·simp [sliceB,Res.bind,Res.all]
   ·rfl
  | _=>rfl
 | ptr cells off =>
  simp only
  split
  ·simp [sliceB,Res.bind,Res.all]
  ·rfl
 | _=>rfl
attribute [local irreducible] Res.all evC Do Dr Bv Bd Dw Bg Bj G GO GV GP GC R
theorem Aup {g:Option Nat} {e:Env} {lo hi:IX} {xs:List AV} {ex:Bool} {a b:Nat} (h1:lo.ev e = .int .i64 (a:Int)) (h2:hi.ev e = .int .i64 (b:Int)) (hab:a<=b) (hb:b<=xs.length) :
  slA g e (some lo) (some hi) none (.slice g xs ex) = .ret (.slice g ((xs.take b).drop a) (ex&&(b==xs.length))):=by
 simp only [slA,sliceB,ne_eq,not_true_eq_false,if_false,h1,h2,Gd,Option.getD_some]
 rw [if_pos ⟨by omega,by omega⟩]
 simp only [Res.bind,Int.toNat_natCast]
 rw [if_pos ⟨by omega,by omega⟩]
 simp [Res.bind]
theorem Adl (xs:List Int) (a:Int) (hl:xs.length<=1000):Con T 1 85 [.slice none (xs.map (.int .i64)) false,.int .i64 a] (.int .i64 (Kj (fun x=>a==x) xs 0)):=by
 refine Dd t85 fun n hn V hV => ?_
 simp (disch:=first | assumption | omega) only [c85,go_sem,↓reduceIte]
 refine Dm (fun M s=>∃k:Nat,M=xs.length-k/\k<=xs.length/\At s.env [(0,.slice none (xs.map (.int .i64)) false),(1,.int .i64 a),(7,.int .i64 xs.length),(8,.int .i64 k)]/\Kj (fun x=>a==x) xs 0=Kj (fun x=>a==x) (xs.drop k) k) xs.length (by omega) ⟨0,by simp,by omega,by simp [go_sem,↓reduceIte],rfl⟩ ?_
 rintro M e h hM ⟨k,rfl,hk,hE,hA⟩ P hP
 simp only [Bz,Dc] at hE
 obtain ⟨h0,h1,h7,h8,-⟩:=hE
 by_cases hlt:k<xs.length
 ·obtain ⟨y,hy⟩:=Gy hlt
  rw [Hv hy,Kj] at hA
  by_cases hp:(a==y)=true
  ·simp (disch:=first | assumption | omega) only [go_sem,↓reduceIte,h0,h1,h7,h8,hlt,hy,hp]
   exact hV _ _ (by rw [Bq,hA,if_pos hp])
  ·have hp':(a==y)=false:=by simpa using hp
   simp (disch:=first | assumption | omega) only [go_sem,↓reduceIte,h0,h1,h7,h8,hlt,hy,hp',Bool.false_eq_true]
   exact hP (xs.length-(k+1)) _ (by omega) ⟨k+1,rfl,by omega,by simp only [go_sem,↓reduceIte,h0,h1,h7],by rw [hA,if_neg hp]; rfl⟩
 ·simp (disch:=first | assumption | omega) only [go_sem,↓reduceIte,h0,h1,h7,h8,hlt]
  exact hV _ _ (by rw [Bq,hA,List.drop_eq_nil_of_le (by omega)]; rfl)
theorem A5b (xs:List Int) (a:Int) (hl:xs.length<=1000):Con T 2 54 [.slice none (xs.map (.int .i64)) false,.int .i64 a] (.bool (xs.any fun x=>a==x)):=by
 refine Dd t54 fun n hn V hV => ?_
 simp (disch:=first | assumption | omega) only [c54,go_sem,↓reduceIte]
 refine Ee (Adl xs a hl) hn (by repeat (first | exact Dt _ | refine Fi _ _ _ _ ?_ | refine Fw _ _ _ ?_)) (Gt _ _ _) ?_
 simp (disch:=first | assumption | omega) only [go_sem,↓reduceIte,Sg]
 exact hV _ _ (Ea _ _ _)
def enG (g:Nat×Nat->Nat) (ps:List (Nat×Nat)):List LE:=ps.zipIdx.map fun t=>(t.1,g t.1,t.2)
theorem Akp (g:Nat×Nat->Nat) (ps:List (Nat×Nat)) (q:Nat×Nat):enG g (ps++[q])=enG g ps++[(q,g q,ps.length)]:=by
 simp [enG,List.zipIdx_append]
theorem A6o (g:Nat×Nat->Nat) (ps:List (Nat×Nat)):(enG g ps).map (·.1)=ps:=by
 simp only [enG,List.map_map]
 exact List.zipIdx_map_fst 0 ps
theorem Arc (g:Nat×Nat->Nat) (ps:List (Nat×Nat)):(enG g ps).length=ps.length:=by simp [enG]
theorem Ahe (g:Nat×Nat->Nat) (ps:List (Nat×Nat)):eB (enG g ps)=List.range ps.length:=by
 simp only [eB,enG,List.map_map]
 have:=List.zipIdx_map_snd 0 ps
 rw [List.range_eq_range']
 exact this
theorem Awk (g:Nat×Nat->Nat) (ps:List (Nat×Nat)):∀t∈enG g ps,t.2.2<ps.length:=fun t ht=>by
 have:t.2.2∈eB (enG g ps):=List.mem_map_of_mem (f:=fun t:LE=>t.2.2) ht
 rw [Ahe] at this
 exact List.mem_range.1 this
theorem Ard (g:Nat×Nat->Nat) (ps:List (Nat×Nat)):∀t∈enG g ps,t.2.1=g t.1/\t.1∈ps:=fun t ht=>by
 obtain ⟨u,hu,rfl⟩:=List.mem_map.1 ht
 exact ⟨rfl,(List.mem_zipIdx' hu).2 ▸ List.getElem_mem _⟩
def Sr (l:List Nat) (q:Nat×Nat):Bool:=l.getD q.1 0==l.getD q.2 0
def Ih (l:List Nat) (q:Nat×Nat):Nat:=l.getD q.2 0
def psW (l:List Nat) (k i:Nat):List (Nat×Nat):=(prU k i).filter (Sr l)
theorem A8n (l:List Nat) (k i:Nat):psW l k (i+1)=psW l k i++if Sr l (i,k) then [(i,k)] else []:=by
 rw [psW,Sm,List.filter_append]
 congr 1
 by_cases h:Sr l (i,k)=true <;> simp [List.filter_cons,h]
theorem Anc (l:List Nat) (k:Nat):psW l k k=psW l (k+1) 0:=by rw [psW,psW,Zl,Lw]
def Kf (l:List Nat) (t:LE):Bool:=((l.drop (t.1.1+1)).take (t.1.2-(t.1.1+1))).any fun x=>((l.getD t.1.2 0:Nat):Int)==(x:Nat)
def paE (l:List Nat):List LE:=(enG (Ih l) (psW l l.length 0)).filter fun t => !Kf l t
abbrev By (l:List Nat):AV:=.slice none (l.map fun n:Nat => .int .i64 n) false
abbrev z9:List AV:=[.int .i64 0,.int .i64 0,.int .i64 0,.int .i64 0,.int .i64 0,.int .i64 0,.int .i64 0,.int .i64 0,.int .i64 0]
abbrev bnC (r:Int) (l:List Nat) (on:List AV) (m:AV):List AV:=.int .i64 r::By l::(on++[m])
def Agm (r:Int) (l:List Nat) (h:Bc) (v:AV) (h':Bc):Prop:=
 v = .optr (h.length+12) 0 0/\Bb h' (h.length+12) = .cells 0 (bnC r l z9 (.omap (h.length+90) 0))/\h.length+91<=h'.length/\
 (∀j,j<h.length->Bb h' j=Bb h j)/\∃c,Bb h' (h.length+90) = .map 0 c (eK (paE l)) (eV (paE l)) (eB (paE l))
set_option maxHeartbeats 2000000 in
theorem A1b (r:Int) (l:List Nat) (hl:l.length<=16):∀m,3<=m->∀(h:Bc) (V:AV×Bc->Prop),(∀v h',Agm r l h v h'->V (v,h'))->
  G (Bg T m) h.length (Fin c480.results V) c480.body [] ⟨[.agg [.int .i64 r,By l]],h++List.replicate c480.ntmps .none⟩:=by
 intro m hm h0 V hV
 obtain ⟨m,rfl⟩:∃m',m=m'+1:=⟨m-1,by omega⟩
 have hnew:=Gv h0 90 90
 have hnew12:=Gv h0 90 12
 have hnew1:=Gv h0 90 1
 unfold Agm at hV
 generalize hB:h0.length=B at *
 have n1:¬(B+1=B+90):=by omega
 have n2:¬(B+90=B+1):=by omega
 have n3:¬(B+12=B+90):=by omega
 have n4:¬(B+90=B+12):=by omega
 have n5:¬(B+1=B+12):=by omega
 have n6:¬(B+12=B+1):=by omega
 have hsp:Dk [.int .i64 r,By l,.int .i64 0,.int .i64 0,.int .i64 0,.int .i64 0,.int .i64 0,.int .i64 0,.int .i64 0,.int .i64 0,.int .i64 0,.omap (B+90) 0] 2 (List.replicate 9 (.int .i64 0))=[.int .i64 r,By l,.int .i64 0,.int .i64 0,.int .i64 0,.int .i64 0,.int .i64 0,.int .i64 0,.int .i64 0,.int .i64 0,.int .i64 0,.omap (B+90) 0]:=rfl
 simp (disch:=first | assumption | omega) only [c480,go_sem,↓reduceIte,Bw,Aav,A9f,hnew,hnew12,hnew1,hB,next_none,n1,n2,n3,n4,n5,n6,List.length_map,clA,hsp]
 obtain ⟨Z,hZ⟩:∃Z:List AV,Z=[.int .i64 r,By l,.int .i64 0,.int .i64 0,.int .i64 0,.int .i64 0,.int .i64 0,.int .i64 0,.int .i64 0,.int .i64 0,.int .i64 0,.omap (B+90) 0]:=⟨_,rfl⟩
 have z1:Z[1]? = some (By l):=by rw [hZ]; rfl
 have z11:Z[11]? = some (.omap (B+90) 0):=by rw [hZ]; rfl
 have zl:Z.length=12:=by rw [hZ]; rfl
 rw [<-hZ]
 refine Dm (fun M st=>∃k:Nat,M=l.length-k/\k<=l.length/\At st.env [(3,.optr (B+12) 0 0),(21,By l),(22,.int .i64 l.length),(23,.int .i64 k)]/\
   Bb st.heap (B+90) = .map 0 (psW l k 0).length (eK (enG (Ih l) (psW l k 0))) (eV (enG (Ih l) (psW l k 0))) (eB (enG (Ih l) (psW l k 0)))/\Bb st.heap (B+12) = .cells 0 Z/\st.heap.length=B+91/\∀j,j<B->Bb st.heap j=Bb h0 j) l.length (by omega)
  ⟨0,by omega,by omega,by simp only [go_sem,↓reduceIte],by simp only [go_sem,↓reduceIte,n3,n4]; rfl,by simp only [go_sem,↓reduceIte],by simp only [Bh,List.length_append,List.length_replicate,hB]; omega,fun j hj=>by
        have q1:B+8≠j:=by omega
        have q2:B+90≠j:=by omega
        have q3:B+91≠j:=by omega
        have q4:B+12≠j:=by omega
        have q5:B+1≠j:=by omega
        simp only [Ba _ _ _ _ q1,Ba _ _ _ _ q2,Ba _ _ _ _ q3,Ba _ _ _ _ q4,Ba _ _ _ _ q5,Bi]⟩ ?_
 rintro M e h hM ⟨k,rfl,hk,hE,gM,gB,hlen,kp⟩ P hP
 simp only [Bz,Dc] at hE gM gB hlen
 obtain ⟨f3,f21,f22,f23,-⟩:=hE
 by_cases hlt:k<l.length
 ·have hget:(l.map fun n:Nat=>AV.int .i64 n)[k]? = some (.int .i64 (l[k]:Nat)):=by rw [List.getElem?_map,List.getElem?_eq_getElem hlt]; rfl
  have hgD:l.getD k 0=l[k]:=by rw [List.getD_eq_getElem?_getD,List.getElem?_eq_getElem hlt]; rfl
  have htkl:((l.map fun n:Nat=>AV.int .i64 n).take k).length=k:=by rw [List.length_take,List.length_map]; omega
  simp (disch:=first | assumption | omega) only [go_sem,↓reduceIte,Bw,f3,f21,f22,f23,hlt,hget,gB,z1,zl]
  refine ⟨⟨by omega,by omega⟩,?_⟩
  simp only [Int.toNat_natCast,htkl]
  generalize hwk:l[k]=wk at *
  refine Dm (fun M st=>∃i:Nat,M=k-i/\i<=k/\At st.env [(3,.optr (B+12) 0 0),(4,.int .i64 k),(5,.int .i64 wk),(21,By l),(22,.int .i64 l.length),(23,.int .i64 k),(34,.slice none ((l.map fun n:Nat=>AV.int .i64 n).take k) (false&&k==l.length)),(35,.int .i64 k),(36,.int .i64 i)]/\
    Bb st.heap (B+90) = .map 0 (psW l k i).length (eK (enG (Ih l) (psW l k i))) (eV (enG (Ih l) (psW l k i))) (eB (enG (Ih l) (psW l k i)))/\Bb st.heap (B+12) = .cells 0 Z/\st.heap.length=B+91/\∀j,j<B->Bb st.heap j=Bb h0 j) k (by omega)
   ⟨0,by omega,by omega,by simp only [go_sem,↓reduceIte,f3,f21,f22,f23],gM,gB,hlen,kp⟩ ?_
  rintro M e2 h2 hM2 ⟨i,rfl,hi,hE2,gM2,gB2,hlen2,kp2⟩ P2 hP2
  simp only [Bz,Dc] at hE2 gM2 gB2 hlen2
  obtain ⟨f3,f4,f5,f21,f22,f23,f34,f35,f36,-⟩:=hE2
  by_cases hik:i<k
  ·have hget2:((l.map fun n:Nat=>AV.int .i64 n).take k)[i]? = some (.int .i64 ((l[i]'(by omega):Nat):Int)):=by
    rw [List.getElem?_take,if_pos hik,List.getElem?_map,List.getElem?_eq_getElem (by omega)]; rfl
   have hgDi:l.getD i 0=l[i]'(by omega):=by rw [List.getD_eq_getElem?_getD,List.getElem?_eq_getElem (by omega)]; rfl
   generalize hwi:l[i]'(by omega)=wi at *
   have hsw:Sr l (i,k)=(wi==wk):=by simp only [Sr]; rw [hgDi,hgD]
   by_cases hs:wk=wi
   ·have hs2:Sr l (i,k)=true:=by rw [hsw]; simp [hs]
    have hbe:((wk:Int)==(wi:Int))=true:=by simp [hs]
    have hpsw:psW l k (i+1)=psW l k i++[(i,k)]:=by rw [A8n,if_pos hs2]
    have hnot:(i,k)∉(enG (Ih l) (psW l k i)).map (·.1):=by
     rw [A6o]
     intro hm
     have:=A2m.1 (List.mem_filter.1 hm).1
     simp at this
    have hfk:=Lo (i,k) (enG (Ih l) (psW l k i)) 0 hnot
    have hv:Ih l (i,k)=wk:=by simp only [Ih]; exact hgD
    have hpush:=Akp (Ih l) (psW l k i) (i,k)
    rw [<-hpsw,hv] at hpush
    have hlenS:(psW l k (i+1)).length=(psW l k i).length+1:=by rw [hpsw]; simp
    have hko:Ei (some 2) (.agg [.int .i64 (i:Int),.int .i64 (k:Int)])=true:=rfl
    simp only [edA] at hfk
    have hk1:eK (enG (Ih l) (psW l k i))++[AV.agg [.int .i64 (i:Int),.int .i64 (k:Int)]]=eK (enG (Ih l) (psW l k (i+1))):=by rw [hpush]; simp [eK,edA]
    have hv1:eV (enG (Ih l) (psW l k i))++[AV.int .i64 (wk:Int)]=eV (enG (Ih l) (psW l k (i+1))):=by rw [hpush]; simp [eV]
    have hb1:eB (enG (Ih l) (psW l k i))++[(psW l k i).length]=eB (enG (Ih l) (psW l k (i+1))):=by rw [hpush]; simp [eB]
    simp (disch:=first | assumption | omega) only [go_sem,↓reduceIte,Bw,f3,f4,f5,f21,f22,f23,f34,f35,f36,hik,hget2,hbe,gB2,z11,zl,muA,gM2,hfk,hko]
    rw [hk1,hv1,hb1]
    exact hP2 (k-(i+1)) _ (by omega) ⟨i+1,rfl,by omega,by simp only [go_sem,↓reduceIte,f3,f4,f5,f21,f22,f23,f34,f35],by simp only [go_sem,↓reduceIte,hlenS],by simp only [go_sem,↓reduceIte,n3,n4,gB2],by simp only [Bh,hlen2]; omega,fun j hj=>by
     have q1:B+8≠j:=by omega
     have q2:B+90≠j:=by omega
     have q3:B+91≠j:=by omega
     have q4:B+12≠j:=by omega
     have q5:B+1≠j:=by omega
     simp only [Ba _ _ _ _ q1,Ba _ _ _ _ q2,Ba _ _ _ _ q3,Ba _ _ _ _ q4,Ba _ _ _ _ q5,Bi,kp2 j hj]⟩
   ·have hs2:Sr l (i,k)=false:=by rw [hsw]; simp; exact fun h=>hs h.symm
    have hbe:((wk:Int)==(wi:Int))=false:=by simp; omega
    have hpsw:psW l k (i+1)=psW l k i:=by rw [A8n,hs2]; simp
    simp (disch:=first | assumption | omega) only [go_sem,↓reduceIte,Bw,f3,f4,f5,f21,f22,f23,f34,f35,f36,hik,hget2,hbe,Bool.false_eq_true]
    exact hP2 (k-(i+1)) _ (by omega) ⟨i+1,rfl,by omega,by simp only [go_sem,↓reduceIte,f3,f4,f5,f21,f22,f23,f34,f35],by rw [hpsw]; exact gM2,gB2,hlen2,kp2⟩
  ·obtain rfl:i=k:=by omega
   simp (disch:=first | assumption | omega) only [go_sem,↓reduceIte,Bw,f3,f4,f5,f21,f22,f23,f34,f35,f36,hik]
   rw [Anc] at gM2
   exact hP (l.length-(i+1)) _ (by omega) ⟨i+1,rfl,by omega,by simp only [go_sem,↓reduceIte,f3,f21,f22],gM2,gB2,hlen2,kp2⟩
 ·obtain rfl:k=l.length:=by omega
  have gN:Bb h (B+91) = .none:=Eh _ _ (by omega)
  obtain ⟨E,hEd⟩:∃E,E=enG (Ih l) (psW l l.length 0):=⟨_,rfl⟩
  obtain ⟨c,hc⟩:∃c,c=(psW l l.length 0).length:=⟨_,rfl⟩
  have hbcE:∀t∈E,t.2.2<c:=by rw [hEd,hc]; exact Awk _ _
  have hbnE:(eB E).Nodup:=by rw [hEd,Ahe]; exact List.nodup_range
  have hndE:(E.map (·.1)).Nodup:=by
   rw [hEd,A6o,psW,Lw]
   exact List.Nodup.sublist List.filter_sublist (Wt _)
  have hvlE:∀t∈E,t.1.1<t.1.2/\t.1.2<l.length:=fun t ht=>by
   rw [hEd] at ht
   obtain ⟨h1,h2⟩:=Ard _ _ t ht
   rw [psW,Lw] at h2
   exact A2n.1 (List.mem_filter.1 h2).1
  have hEl:E.length<=200:=by
   rw [hEd,Arc,psW,Lw]
   have h1:∀k,k<17->(prs k).length<=200:=by decide
   exact Nat.le_trans (List.length_filter_le _ _) (h1 _ (by omega))
  have hcl:paE l=E.filter fun t => !Kf l t:=by rw [paE,hEd]
  rw [<-hEd,<-hc] at gM
  have hrg:rgA h (.omap (B+90) 0) = .ret (.iter (B+91) 0,setH h (B+91) (.iter 0 (B+90) 0 c [] c)):=by
   simp only [rgA,gM,hlen,gN,next_none,if_true]
  simp (disch:=first | assumption | omega) only [go_sem,↓reduceIte,Bw,f3,f21,f22,f23,hlt,gB,z11,zl,hrg]
  have n94a:¬(B+91=B+90):=by omega
  have n94b:¬(B+91=B+12):=by omega
  have m94a:¬(B+90=B+91):=by omega
  have m94b:¬(B+12=B+91):=by omega
  refine Dm (fun M st=>∃seen:List Nat,M=(E.filter fun t => !seen.contains t.2.2).length/\At st.env [(3,.optr (B+12) 0 0),(58,.iter (B+91) 0)]/\
    Bb st.heap (B+90) = .map 0 c (eK (E.filter (Fo (Kf l) seen))) (eV (E.filter (Fo (Kf l) seen))) (eB (E.filter (Fo (Kf l) seen)))/\Bb st.heap (B+12) = .cells 0 Z/\Bb st.heap (B+91) = .iter 0 (B+90) 0 c seen c/\st.heap.length=B+92/\∀j,j<B->Bb st.heap j=Bb h0 j) E.length
   (by omega)
   ⟨[],by rw [List.filter_eq_self.2 (by simp)],by simp only [go_sem,↓reduceIte,f3],by rw [Ba _ _ _ _ (by omega),A4l]; exact gM,by rw [Ba _ _ _ _ (by omega)]; exact gB,getH_setH_self _ _ _,by rw [Bh]; omega,fun j hj=>by
     have q1:B+8≠j:=by omega
     have q2:B+90≠j:=by omega
     have q3:B+91≠j:=by omega
     have q4:B+12≠j:=by omega
     have q5:B+1≠j:=by omega
     simp only [Ba _ _ _ _ q1,Ba _ _ _ _ q2,Ba _ _ _ _ q3,Ba _ _ _ _ q4,Ba _ _ _ _ q5,Bi,kp j hj]⟩ ?_
  rintro M e2 h2 hM2 ⟨seen,rfl,hE2,gM2,gB2,gI,hl9,kp2⟩ P2 hP2
  simp only [Bz,Dc] at hE2 gM2 gB2 gI hl9
  obtain ⟨f3,f58,-⟩:=hE2
  have hbc:∀t∈E.filter (Fo (Kf l) seen),t.2.2<c:=fun t ht=>hbcE t ((List.mem_filter.1 ht).1)
  simp (disch:=first | assumption | omega) only [go_sem,↓reduceIte,Bw,f58]
  refine Id gI gM2 hbc (fun hall => ?_) (fun t ht hnt => ?_)
  ·rw [A4k _ hall,<-hcl] at gM2
   simp (disch:=first | assumption | omega) only [go_sem,↓reduceIte,Bw,f3]
   exact hV _ _ ⟨rfl,by rw [gB2,hZ]; rfl,by omega,kp2,c,gM2⟩
  ·have htE:t∈E:=(List.mem_filter.1 ht).1
   obtain ⟨v2,v3⟩:=hvlE t htE
   have hbn2:(eB (E.filter (Fo (Kf l) seen))).Nodup:=List.Nodup.sublist (List.Sublist.map _ List.filter_sublist) hbnE
   have hen:enA (setH h2 (B+91) (.iter 0 (B+90) 0 c (seen++[t.2.2]) c)) (.iter (B+91) 0) = .ret (.tuple [edA t.1,.int .i64 (t.2.1:Nat)]):=
    Rc (mk:=B+90) (mv:=0) (since:=c) (getH_setH_self _ _ _) (by rw [Ba _ _ _ _ (by omega)]; exact gM2) hbn2 ht
   have hml:(E.filter fun u => !(seen++[t.2.2]).contains u.2.2).length<(E.filter fun u => !seen.contains u.2.2).length:=by
    refine Gn _ _ (fun u hu => ?_) t ?_ ?_ E htE
    ·simp at hu ⊢
     exact hu.1
    ·simpa using hnt
    ·simp
   obtain ⟨A,B',hspl⟩:=List.append_of_mem ht
   have hA:t.1∉A.map (·.1):=by
    have hnd:((E.filter (Fo (Kf l) seen)).map (·.1)).Nodup:=List.Nodup.sublist (List.Sublist.map _ List.filter_sublist) hndE
    rw [hspl,List.map_append,List.map_cons,List.nodup_append] at hnd
    exact fun hm=>hnd.2.2 _ hm _ List.mem_cons_self rfl
   have hfk:=Hy t.1 t B' rfl A 0 hA
   rw [<-hspl,Nat.zero_add] at hfk
   have hko:=Ie t.1
   have x1:=Rx A B' t
   have x2:=Ry A B' t
   have x3:=Rw A B' t
   rw [<-hspl] at x1 x2 x3
   have hgb:(l.map fun n:Nat=>AV.int .i64 n)[t.1.2]? = some (.int .i64 ((l.getD t.1.2 0:Nat):Int)):=by
    rw [List.getElem?_map,List.getD_eq_getElem?_getD,List.getElem?_eq_getElem (by omega)]; rfl
   have hdv:Kf l t=((l.drop (t.1.1+1)).take (t.1.2-(t.1.1+1))).any fun x=>((l.getD t.1.2 0:Nat):Int)==(x:Nat):=rfl
   obtain ⟨⟨ta,tb⟩,tn,tbn⟩:=t
   simp only at hgb hdv v2 v3 hfk hko hen hnt hml
   generalize l.getD tb 0=wb at *
   simp only [edA] at hfk hko hen
   have hxs:(((l.map fun n:Nat=>AV.int .i64 n).take tb).drop (ta+1))=(((l.drop (ta+1)).take (tb-(ta+1))).map fun n:Nat=>(n:Int)).map (AV.int .i64):=by
    rw [List.drop_take,List.map_map,List.map_take,List.map_drop]; rfl
   have hany:(((l.drop (ta+1)).take (tb-(ta+1))).map fun n:Nat=>(n:Int)).any (fun x=>(wb:Int)==x)=Kf l ((ta,tb),tn,tbn):=by rw [hdv,List.any_map]; rfl
   have hxl:(((l.drop (ta+1)).take (tb-(ta+1))).map fun n:Nat=>(n:Int)).length<=1000:=by simp; omega
   have cs:∀{base:Nat} {Q:EX×St->Prop} {d:Option Nat} {L:List IOper} {ks:List Kont} {e:Env} {h:Bc} {x:Bool},GP (Bg T (m+1)) base Q d L ks e (Bg T (m+1) false (.fn 54) [.slice none (((l.map fun n:Nat=>AV.int .i64 n).take tb).drop (ta+1)) x,.int .i64 (wb:Int)] h)=GO (Bg T (m+1)) base Q L ks ⟨Bk e d (.bool (Kf l ((ta,tb),tn,tbn))),h⟩:=fun {base Q d L ks e h x}=>by
    rw [hxs,<-hany]
    exact Hb (A5b _ (wb:Int) hxl) (by omega) (by repeat (first | exact Dt _ | refine Fi _ _ _ _ ?_ | refine Fw _ _ _ ?_)) (Kb _ _)
   have hi1:(ta:Int)+1=((ta+1:Nat):Int):=rfl
   have n8a:¬(B+8=B+90):=by omega
   have n8b:¬(B+8=B+12):=by omega
   have n8c:¬(B+8=B+91):=by omega
   have m8a:¬(B+90=B+8):=by omega
   have m8b:¬(B+12=B+8):=by omega
   have m8c:¬(B+91=B+8):=by omega
   simp (disch:=first | assumption | omega) only [go_sem,↓reduceIte,Bw,f3,f58,hen,edA,gB2,z1,z11,zl,n8a,n8b,n8c,m8a,m8b,m8c,n94a,n94b,m94a,m94b]
   rw [Aup (a:=ta+1) (b:=tb)]
   ·by_cases hlp:Kf l ((ta,tb),tn,tbn)=true
    ·have hgone:=A1e (Kf l) hbnE hspl hlp
     simp (disch:=first | assumption | omega) only [go_sem,↓reduceIte,Bw,f3,f58,gB2,z1,z11,zl,hgb,v3,List.length_map,cs,hlp,n8a,n8b,n8c,m8a,m8b,m8c,n94a,n94b,m94a,m94b,dlA,gM2,hfk,hko,x1,x2,x3]
     exact hP2 _ _ hml ⟨seen++[tbn],rfl,by simp only [go_sem,↓reduceIte,f3,f58],by simp only [go_sem,↓reduceIte,hgone],by simp only [go_sem,↓reduceIte,n8a,n8b,n8c,m8a,m8b,m8c,n94a,n94b,m94a,m94b,n3,n4,gB2],by simp only [go_sem,↓reduceIte,n8a,n8b,n8c,m8a,m8b,m8c,n94a,n94b,m94a,m94b],by simp only [Bh,hl9]; omega,fun j hj=>by
     have q1:B+8≠j:=by omega
     have q2:B+90≠j:=by omega
     have q3:B+91≠j:=by omega
     have q4:B+12≠j:=by omega
     have q5:B+1≠j:=by omega
     simp only [Ba _ _ _ _ q1,Ba _ _ _ _ q2,Ba _ _ _ _ q3,Ba _ _ _ _ q4,Ba _ _ _ _ q5,Bi,kp2 j hj]⟩
    ·have hlp:Kf l ((ta,tb),tn,tbn)=false:=by simpa using hlp
     have hkp:=A7f (Kf l) (E:=E) (seen:=seen) (b:=tbn) fun u hu he=>by
      obtain rfl:=Rb hbnE hu htE he
      exact hlp
     simp (disch:=first | assumption | omega) only [go_sem,↓reduceIte,Bw,f3,f58,gB2,z1,z11,zl,hgb,v3,List.length_map,cs,hlp,Bool.false_eq_true,n8a,n8b,n8c,m8a,m8b,m8c,n94a,n94b,m94a,m94b]
     exact hP2 _ _ hml ⟨seen++[tbn],rfl,by simp only [go_sem,↓reduceIte,f3,f58],by simp only [go_sem,↓reduceIte,hkp,gM2,n8a,n8b,n8c,m8a,m8b,m8c,n94a,n94b,m94a,m94b],by simp only [go_sem,↓reduceIte,n8a,n8b,n8c,m8a,m8b,m8c,n94a,n94b,m94a,m94b,n3,n4,gB2],by simp only [go_sem,↓reduceIte,n8a,n8b,n8c,m8a,m8b,m8c,n94a,n94b,m94a,m94b],by simp only [Bh,hl9]; omega,fun j hj=>by
     have q1:B+8≠j:=by omega
     have q2:B+90≠j:=by omega
     have q3:B+91≠j:=by omega
     have q4:B+12≠j:=by omega
     have q5:B+1≠j:=by omega
     simp only [Ba _ _ _ _ q1,Ba _ _ _ _ q2,Ba _ _ _ _ q3,Ba _ _ _ _ q4,Ba _ _ _ _ q5,Bi,kp2 j hj]⟩
   ·simp only [go_sem,↓reduceIte]
   ·simp only [go_sem,↓reduceIte]
   ·omega
   ·rw [List.length_map]; omega
end Go.Ev.YtbgodhhdojjbmaaGreatC
namespace Go.Ev.YtbgodhhdojjbmaaGreatC
open Go Go.Proofs
def B0h:AnsY:=⟨417,[(.agg [wN 3,wI [1,2,3,4,1,2,5,1,2,3,4,5] false])],(.tuple [(.ptr [wN 3,wI [1,2,3,4,1,2,5,1,2,3,4,5] false,wN 0,wN 0,wN 0,wN 0,wN 0,wN 0,wN 0,wN 0,wN 0,(.fmap [.agg [wN 0,wN 4],.agg [wN 1,wN 5],.agg [wN 4,wN 7],.agg [wN 5,wN 8],.agg [wN 2,wN 9],.agg [wN 3,wN 10],.agg [wN 6,wN 11]] [wN 1,wN 2,wN 1,wN 2,wN 3,wN 4,wN 5])] 0),wN 0]),false⟩
def Aow:AnsY:=⟨417,[(.agg [wN 4,wI [1,2,3,4,1,2,5,1,2,3,4,5] false])],(.tuple [(.ptr [wN 4,wI [1,2,3,4,1,2,5,1,2,3,4,5] false,wN 0,wN 0,wN 0,wN 0,wN 0,wN 0,wN 0,wN 0,wN 0,(.fmap [.agg [wN 0,wN 4],.agg [wN 1,wN 5],.agg [wN 4,wN 7],.agg [wN 5,wN 8],.agg [wN 2,wN 9],.agg [wN 3,wN 10],.agg [wN 6,wN 11]] [wN 1,wN 2,wN 1,wN 2,wN 3,wN 4,wN 5])] 0),wN 0]),false⟩
def Aox:AnsY:=⟨345,[(.agg [wN 3,wI [1,2,3,4,1,2,5,1,2,3,4,5] false]),wI [0,0,0,3,0,0,4,0,0,2,1,0] false],(.tuple [wN 7,wN 0]),false⟩
def Aoy:AnsY:=⟨345,[(.agg [wN 3,wI [1,2,3,4,1,2,5,1,2,3,4,5] false]),wI [0,0,0,5,0,0,4,0,0,1,2,0] false],(.tuple [wN 0,wN 18]),false⟩
def Aoz:AnsY:=⟨345,[(.agg [wN 3,wI [1,2,3,4,1,2,5,1,2,3,4,5] false]),wI [0,0,0,3,1,0,4,0,0,1,2,0] false],(.tuple [wN 0,wN 16]),false⟩
def Apa:AnsY:=⟨424,[(.ptr [wN 3,wI [1,2,3,4,1,2,5,1,2,3,4,5] false,wN 0,wN 0,wN 0,wN 0,wN 0,wN 0,wN 0,wN 0,wN 0,(.fmap [.agg [wN 0,wN 4],.agg [wN 1,wN 5],.agg [wN 4,wN 7],.agg [wN 5,wN 8],.agg [wN 2,wN 9],.agg [wN 3,wN 10],.agg [wN 6,wN 11]] [wN 1,wN 2,wN 1,wN 2,wN 3,wN 4,wN 5])] 0)],wI [6] false,false⟩
def Apb:AnsY:=⟨425,[(.ptr [wN 3,wI [1,2,3,4,1,2,5,1,2,3,4,5] false,wN 0,wN 0,wN 0,wN 0,wN 0,wN 0,wN 0,wN 0,wN 0,(.fmap [.agg [wN 0,wN 4],.agg [wN 1,wN 5],.agg [wN 4,wN 7],.agg [wN 5,wN 8],.agg [wN 2,wN 9],.agg [wN 3,wN 10],.agg [wN 6,wN 11]] [wN 1,wN 2,wN 1,wN 2,wN 3,wN 4,wN 5])] 0),wN 4],wN 0,false⟩
end Go.Ev.YtbgodhhdojjbmaaGreatC
namespace Go.Ev.YtbgodhhdojjbmaaGreatC
open Go Go.Proofs
theorem Ep {T:Cfg} {k f:Nat} {xs:List AV} {r:AV} (h:ConAt T k f xs r):Con T k f xs r:=fun n h' as0 V hn hz hp hV=>Hn T hn _ _ _ _ _ (h h' as0 V hz hp hV)
attribute [local irreducible] Res.all evC Do Dr Bv Bd Dw Bg Bj G GO GV GP GC R
def Ks (r:Int) (l:List Nat):AV:=.ptr (bnC r l z9 (.fmap (eK (paE l)) (eV (paE l)))) 0
theorem A0i (r:Int) (l:List Nat) (hl:l.length<=16) (hc:Con T 200 479 [.agg [.int .i64 r,By l]] (.int .i64 0)):Con T 210 417 [.agg [.int .i64 r,By l]] (.tuple [Ks r l,.int .i64 0]):=by
 refine Dd t417 fun n hn V hV => ?_
 have cs:∀{base:Nat} {Q:EX×St->Prop} {d:Option Nat} {L:List IOper} {ks:List Kont} {e:Env} {h:Bc},GP (Bg T n) base Q d L ks e (Bg T n false (.fn 479) [.agg [.int .i64 r,By l]] h)=GO (Bg T n) base Q L ks ⟨Bk e d (.int .i64 0),h⟩:=
  Hb hc (by omega) (Dj (by repeat (first | exact Dp _ _ | exact Bq _ _ _ _ | exact Ea _ _ _ | exact Dv _ _ _ _ _ | exact Eq _ _ _ _ | exact Ex _ _ | refine Db ?_ ?_ | refine Eo ?_ | refine Ey ?_ ?_ | refine Fg ?_ ?_ ?_)) (Dt _)) (by exact Bool.or_true _)
 have e0:((0:Int) != 0)=false:=rfl
 simp (disch:=first | assumption | omega) only [c417,go_sem,↓reduceIte,cs,e0,Bool.false_eq_true]
 refine A1d (Qd (k:=3) t480 (A1b r l hl)) (by omega) fun v h' hv => ?_
 obtain ⟨rfl,h1,h2,_,c,h3⟩:=hv
 simp (disch:=first | assumption | omega) only [go_sem,↓reduceIte]
 refine hV _ _ ?_
 have hmp:∀(f:AV->Res AV) (xs:List AV),(∀x∈xs,f x = .ret x)->mapR f xs = .ret xs:=fun f xs hx=>by
  induction xs with
  | nil=>rfl
  | cons a r ih =>
   simp only [mapR,hx a (by simp),Res.bind,ih fun x h=>hx x (by simp [h])]
 have hB:(setH (List.replicate 12 AObj.none) 1 (AObj.cells 0 [AV.int .i64 r,By l])).length=12:=by simp only [Bh,List.length_replicate]; omega
 rw [hB] at h1 h3
 have hom:Bj h' 6 (.omap (12+90) 0) = .ret (.fmap (eK (paE l)) (eV (paE l))):=
  Nx h3 (hmp _ _ fun x hx=>by
   obtain ⟨t,_,rfl⟩:=List.mem_map.1 hx
   exact (by repeat (first | exact Dp _ _ | exact Bq _ _ _ _ | exact Ea _ _ _ | exact Dv _ _ _ _ _ | exact Eq _ _ _ _ | exact Ex _ _ | refine Db ?_ ?_ | refine Eo ?_ | refine Ey ?_ ?_ | refine Fg ?_ ?_ ?_))) (hmp _ _ fun x hx=>by
   obtain ⟨t,_,rfl⟩:=List.mem_map.1 hx
   exact Bq _ _ _ _)
 exact Ey (Ge h1 (Db (Bq _ _ _ _) (Db (Dv _ _ _ _ _) (Db (Bq _ _ _ _) (Db (Bq _ _ _ _) (Db (Bq _ _ _ _) (Db (Bq _ _ _ _) (Db (Bq _ _ _ _) (Db (Bq _ _ _ _) (Db (Bq _ _ _ _) (Db (Bq _ _ _ _) (Db (Bq _ _ _ _) (Db hom (Dp _ _)))))))))))))) (Bq _ _ _ _)
end Go.Ev.YtbgodhhdojjbmaaGreatC
namespace Go.Ev.YtbgodhhdojjbmaaGreatC
open Go Go.Proofs
def wW:List Nat:=[1,2,3,4,1,2,5,1,2,3,4,5]
theorem Uw:YOk T 2000 B0h:=by
 have hc:YOk T 200 ⟨479,[.agg [.int .i64 3,By wW]],.int .i64 0,false⟩:=(Fy (k:=0) (n:=60) (l:=[]) (fun _ h=>by cases h) (by kernel_rfl)).mono (by decide)
 have h:=Dz (A0i 3 wW (by decide) (Ep hc)) (Nat.le_refl _)
 have e:AnsY.mk 417 [.agg [.int .i64 3,By wW]] (.tuple [Ks 3 wW,.int .i64 0]) false=B0h:=by kernel_rfl
 rw [<-e]
 exact (Es h).mono (by decide)
theorem Apf:YOk T 2000 Aow:=by
 have hc:YOk T 200 ⟨479,[.agg [.int .i64 4,By wW]],.int .i64 0,false⟩:=(Fy (k:=0) (n:=60) (l:=[]) (fun _ h=>by cases h) (by kernel_rfl)).mono (by decide)
 have h:=Dz (A0i 4 wW (by decide) (Ep hc)) (Nat.le_refl _)
 have e:AnsY.mk 417 [.agg [.int .i64 4,By wW]] (.tuple [Ks 4 wW,.int .i64 0]) false=Aow:=by kernel_rfl
 rw [<-e]
 exact (Es h).mono (by decide)
end Go.Ev.YtbgodhhdojjbmaaGreatC
