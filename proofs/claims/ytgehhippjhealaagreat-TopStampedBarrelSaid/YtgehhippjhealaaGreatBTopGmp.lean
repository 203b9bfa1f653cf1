/- The code of functions that are walked, compiled for the evaluator, as text. The determinant of a table, as the program reckons it: step by step, each number out of four, while none grows too great. Maps whose keys are links, two numbers each: what is found, what comes in, what goes, and a range over them. Maps with keys of two numbers: a range that deletes some of them. Maps whose keys are arrays of nine numbers, with a cost each: what is found, what comes in, and a range over them. No condition but those that stand in each. -/
import Derived.Test.YtgehhippjhealaaGreatBTopW
import Derived.Test.YtgehhippjhealaaGreatBEvKer3
set_option linter.unusedSimpArgs false
set_option linter.unusedVariables false
set_option maxRecDepth 100000
namespace Go.Ev.YtgehhippjhealaaGreatC
open Go.Proofs
def c42:IFunc:=⟨157,[.tmp 2],.seq (.ops [dO 2 (.mv (cI 0))]) (.seq (.ops [⟨some 20,.mkMap,none⟩,dO 3 (.mv (tM 20))]) (.seq (.ops [dO 4 (.alloc [.int .i64 0,.int .i64 0,.int .i64 0,.int .i64 0,.int .i64 0,.int .i64 0,.int .i64 0,.int .i64 0])]) (.seq (.seq (.ops [dO 21 (.mv (tM 0)),dO 22 (.nilCheck (tM 21)),dO 23 (.fieldAddr 0 (tM 22)),dO 24 (.fieldAddr 1 (tM 23)),dO 25 (.load none (tM 24)),dO 26 (.len (tM 25)),dO 27 (.mv (cI 0))]) (.block 0 (.loop (.seq (.ops [dO 28 (.bin .lss (tM 27) (tM 26))]) (.seq (.cond (tM 28) .skip (.exit 0)) (.seq (.block 1 (.seq (.ops [dO 29 (.indexAddr 2 (tM 25) (tM 27)),dO 30 (.load (some 2) (tM 29)),dO 6 (.alloc [.int .i64 0,.int .i64 0]),eO (.store 2 (tM 6) (tM 30))]) (.seq (.ops [dO 31 (.mv (tM 3)),dO 32 (.indexAddrA 2 1 (tM 6) (cI 0)),dO 33 (.load none (tM 32)),dO 34 (.indexAddrA 2 1 (tM 6) (cI 1)),dO 35 (.load none (tM 34)),dO 36 (.build [.int .i64 0,.int .i64 0] [(0,(1,tM 33)),(1,(1,tM 35))]),dO 37 (.lookup (some 2) (.int .i64 0) false (tM 31) (tM 36)),dO 38 (.bin .add (tM 37) (cI 1)),dO 39 (.mapEntry (some 2) (.int .i64 0) (tM 31) (tM 36)),dO 40 (.extract (tM 39) 1),eO (.entryStore (tM 31) (tM 40) (tM 38))]) (.ops [dO 41 (.indexAddrA 2 1 (tM 6) (cI 0)),dO 42 (.load none (tM 41)),dO 43 (.indexAddrA 8 1 (tM 4) (tM 42)),dO 44 (.load none (tM 43)),dO 45 (.bin .add (tM 44) (cI 1)),dO 46 (.indexAddrA 8 1 (tM 4) (tM 42)),eO (.store 1 (tM 46) (tM 45))])))) (.ops [dO 47 (.bin .add (tM 27) (cI 1)),dO 27 (.mv (tM 47))]))))))) (.seq (.seq (.ops [dO 48 (.mv (tM 3)),dO 49 (.range (tM 48))]) (.block 2 (.loop (.seq (.ops [dO 50 (.next (tM 49)),dO 51 (.extract (tM 50) 0)]) (.seq (.cond (tM 51) .skip (.exit 2)) (.block 3 (.seq (.ops [dO 52 (.entry (tM 49)),dO 53 (.extract (tM 52) 0),dO 7 (.alloc [.int .i64 0,.int .i64 0]),eO (.store 2 (tM 7) (tM 53))]) (.seq (.ops [dO 54 (.fieldAddr 0 (tM 7)),dO 55 (.load none (tM 54)),dO 56 (.fieldAddr 1 (tM 7)),dO 57 (.load none (tM 56)),dO 58 (.bin .eql (tM 55) (tM 57))]) (.cond (tM 58) (.ops [dO 59 (.mv (tM 3)),dO 60 (.load (some 2) (tM 7)),eO (.delete (some 2) (tM 59) (tM 60))]) .skip))))))))) (.seq (.ops [dO 8 (.mv (.const (.slice none [] true)))]) (.seq (.ops [dO 9 (.mv (cI 1))]) (.seq (.seq (.ops [dO 61 (.load (some 8) (tM 4)),dO 62 (.mv (cI 0))]) (.block 4 (.loop (.seq (.ops [dO 63 (.bin .lss (tM 62) (cI 8))]) (.seq (.cond (tM 63) .skip (.exit 4)) (.seq (.block 5 (.seq (.ops [dO 64 (.mv (tM 62)),dO 65 (.index none 8 (tM 61) (tM 62)),dO 10 (.mv (tM 64)),dO 11 (.mv (tM 65))]) (.seq (.seq (.ops [dO 66 (.mv (tM 11)),dO 67 (.bin .gtr (tM 66) (cI 0)),dO 68 (.mv (tM 67)),gO 69 (.mv (tM 10)) 68 true,gO 70 (.mv (tM 0)) 68 true,gO 71 (.nilCheck (tM 70)) 68 true,gO 72 (.fieldAddr 0 (tM 71)) 68 true,gO 73 (.fieldAddr 1 (tM 72)) 68 true,gO 74 (.load none (tM 73)) 68 true,gO 75 (.indexAddr 2 (tM 74) (cI 0)) 68 true,gO 76 (.indexAddrA 2 1 (tM 75) (cI 0)) 68 true,gO 77 (.load none (tM 76)) 68 true,gO 78 (.bin .neq (tM 69) (tM 77)) 68 true,dO 79 (.pick (tM 68) (tM 78) (cB false))]) (.cond (tM 79) (.ops [dO 80 (.mv (tM 8)),dO 81 (.mv (tM 10)),dO 82 (.buildSlice none [.int .i64 0] [(0,(1,tM 81))]),dO 83 (.append none 8 (tM 80) (tM 82)),dO 8 (.mv (tM 83))]) .skip)) (.seq (.ops [dO 12 (.mv (cI 2))]) (.block 6 (.loop (.seq (.seq (.ops [dO 84 (.mv (tM 12)),dO 85 (.mv (tM 11)),dO 86 (.bin .lss (tM 84) (tM 85))]) (.cond (tM 86) .skip (.exit 6))) (.seq (.block 7 (.ops [dO 89 (.mv (tM 9)),dO 90 (.mv (tM 12)),dO 91 (.bin .mul (tM 89) (tM 90)),dO 9 (.mv (tM 91))])) (.ops [dO 87 (.mv (tM 12)),dO 88 (.bin .add (tM 87) (cI 1)),dO 12 (.mv (tM 88))]))))))))) (.ops [dO 92 (.bin .add (tM 62) (cI 1)),dO 62 (.mv (tM 92))]))))))) (.seq (.ops [dO 93 (.mv (tM 8)),dO 94 (.len (tM 93)),dO 95 (.mkSlice none [.slice none [] true] 24 (tM 94) (tM 94)),dO 13 (.mv (tM 95))]) (.seq (.seq (.ops [dO 96 (.mv (tM 8)),dO 97 (.len (tM 96)),dO 98 (.mv (cI 0))]) (.block 8 (.loop (.seq (.ops [dO 99 (.bin .lss (tM 98) (tM 97))]) (.seq (.cond (tM 99) .skip (.exit 8)) (.seq (.block 9 (.seq (.ops [dO 100 (.mv (tM 98)),dO 101 (.indexAddr 1 (tM 96) (tM 98)),dO 102 (.load none (tM 101)),dO 14 (.mv (tM 100)),dO 15 (.mv (tM 102))]) (.seq (.ops [dO 103 (.mv (tM 13)),dO 104 (.mv (tM 14)),dO 105 (.mv (tM 8)),dO 106 (.len (tM 105)),dO 107 (.mkSlice none [.int .i64 0] 8 (tM 106) (tM 106)),dO 108 (.indexAddr 1 (tM 103) (tM 104)),eO (.store 1 (tM 108) (tM 107))]) (.seq (.seq (.ops [dO 109 (.mv (tM 3)),dO 110 (.range (tM 109))]) (.block 10 (.loop (.seq (.ops [dO 111 (.next (tM 110)),dO 112 (.extract (tM 111) 0)]) (.seq (.cond (tM 112) .skip (.exit 10)) (.block 11 (.seq (.ops [dO 113 (.entry (tM 110)),dO 114 (.extract (tM 113) 0),dO 115 (.extract (tM 113) 1),dO 16 (.alloc [.int .i64 0,.int .i64 0]),eO (.store 2 (tM 16) (tM 114)),dO 17 (.mv (tM 115))]) (.seq (.ops [dO 116 (.fieldAddr 0 (tM 16)),dO 117 (.load none (tM 116)),dO 118 (.mv (tM 15)),dO 119 (.bin .eql (tM 117) (tM 118))]) (.cond (tM 119) (.ops [dO 120 (.mv (tM 13)),dO 121 (.mv (tM 14)),dO 122 (.indexAddr 1 (tM 120) (tM 121)),dO 123 (.load none (tM 122)),dO 124 (.mv (tM 14)),dO 125 (.indexAddr 1 (tM 123) (tM 124)),dO 126 (.load none (tM 125)),dO 127 (.mv (tM 17)),dO 128 (.bin .add (tM 126) (tM 127)),dO 129 (.indexAddr 1 (tM 123) (tM 124)),eO (.store 1 (tM 129) (tM 128))]) .skip))))))))) (.seq (.ops [dO 130 (.mv (tM 8)),dO 131 (.len (tM 130)),dO 132 (.mv (cI 0))]) (.block 12 (.loop (.seq (.ops [dO 133 (.bin .lss (tM 132) (tM 131))]) (.seq (.cond (tM 133) .skip (.exit 12)) (.seq (.block 13 (.seq (.ops [dO 134 (.mv (tM 132)),dO 135 (.indexAddr 1 (tM 130) (tM 132)),dO 136 (.load none (tM 135)),dO 18 (.mv (tM 134)),dO 19 (.mv (tM 136))]) (.ops [dO 137 (.mv (tM 13)),dO 138 (.mv (tM 14)),dO 139 (.indexAddr 1 (tM 137) (tM 138)),dO 140 (.load none (tM 139)),dO 141 (.mv (tM 18)),dO 142 (.indexAddr 1 (tM 140) (tM 141)),dO 143 (.load none (tM 142)),dO 144 (.mv (tM 3)),dO 145 (.mv (tM 15)),dO 146 (.mv (tM 19)),dO 147 (.build [.int .i64 0,.int .i64 0] [(0,(1,tM 145)),(1,(1,tM 146))]),dO 148 (.lookup (some 2) (.int .i64 0) false (tM 144) (tM 147)),dO 149 (.bin .sub (tM 143) (tM 148)),dO 150 (.indexAddr 1 (tM 140) (tM 141)),eO (.store 1 (tM 150) (tM 149))]))) (.ops [dO 151 (.bin .add (tM 132) (cI 1)),dO 132 (.mv (tM 151))]))))))))))) (.ops [dO 152 (.bin .add (tM 98) (cI 1)),dO 98 (.mv (tM 152))]))))))) (.seq (.ops [dO 153 (.mv (tM 9)),dO 154 (.mv (tM 13)),dO 155 (.callF true 102 [tM 154]),dO 156 (.bin .mul (tM 153) (tM 155)),dO 2 (.mv (tM 156))]) .ret))))))))))⟩
theorem k42:(Bt Tryz.prog byr).fns 42=some c42:=by kernel_rfl
theorem t42:T.fns 42=some c42:=Bx k42 (by decide) (by decide)
def c102:IFunc:=⟨76,[.tmp 2],.seq (.ops [dO 2 (.mv (cI 0))]) (.seq (.ops [dO 3 (.mv (cI 1))]) (.seq (.seq (.ops [dO 7 (.mv (tM 0)),dO 8 (.len (tM 7)),dO 9 (.mv (cI 0))]) (.block 0 (.loop (.seq (.ops [dO 10 (.bin .lss (tM 9) (tM 8))]) (.seq (.cond (tM 10) .skip (.exit 0)) (.seq (.block 1 (.seq (.ops [dO 11 (.mv (tM 9)),dO 4 (.mv (tM 11))]) (.seq (.seq (.ops [dO 12 (.mv (tM 4)),dO 13 (.bin .add (tM 12) (cI 1)),dO 5 (.mv (tM 13))]) (.block 2 (.loop (.seq (.seq (.ops [dO 14 (.mv (tM 5)),dO 15 (.mv (tM 0)),dO 16 (.len (tM 15)),dO 17 (.bin .lss (tM 14) (tM 16))]) (.cond (tM 17) .skip (.exit 2))) (.seq (.block 3 (.seq (.ops [dO 20 (.mv (tM 4)),dO 21 (.bin .add (tM 20) (cI 1)),dO 6 (.mv (tM 21))]) (.block 4 (.loop (.seq (.seq (.ops [dO 22 (.mv (tM 6)),dO 23 (.mv (tM 0)),dO 24 (.len (tM 23)),dO 25 (.bin .lss (tM 22) (tM 24))]) (.cond (tM 25) .skip (.exit 4))) (.seq (.block 5 (.ops [dO 28 (.mv (tM 0)),dO 29 (.mv (tM 5)),dO 30 (.indexAddr 1 (tM 28) (tM 29)),dO 31 (.load none (tM 30)),dO 32 (.mv (tM 6)),dO 33 (.mv (tM 0)),dO 34 (.mv (tM 5)),dO 35 (.indexAddr 1 (tM 33) (tM 34)),dO 36 (.load none (tM 35)),dO 37 (.mv (tM 6)),dO 38 (.indexAddr 1 (tM 36) (tM 37)),dO 39 (.load none (tM 38)),dO 40 (.mv (tM 0)),dO 41 (.mv (tM 4)),dO 42 (.indexAddr 1 (tM 40) (tM 41)),dO 43 (.load none (tM 42)),dO 44 (.mv (tM 4)),dO 45 (.indexAddr 1 (tM 43) (tM 44)),dO 46 (.load none (tM 45)),dO 47 (.bin .mul (tM 39) (tM 46)),dO 48 (.mv (tM 0)),dO 49 (.mv (tM 5)),dO 50 (.indexAddr 1 (tM 48) (tM 49)),dO 51 (.load none (tM 50)),dO 52 (.mv (tM 4)),dO 53 (.indexAddr 1 (tM 51) (tM 52)),dO 54 (.load none (tM 53)),dO 55 (.mv (tM 0)),dO 56 (.mv (tM 4)),dO 57 (.indexAddr 1 (tM 55) (tM 56)),dO 58 (.load none (tM 57)),dO 59 (.mv (tM 6)),dO 60 (.indexAddr 1 (tM 58) (tM 59)),dO 61 (.load none (tM 60)),dO 62 (.bin .mul (tM 54) (tM 61)),dO 63 (.bin .sub (tM 47) (tM 62)),dO 64 (.mv (tM 3)),dO 65 (.bin .quo (tM 63) (tM 64)),dO 66 (.indexAddr 1 (tM 31) (tM 32)),eO (.store 1 (tM 66) (tM 65))])) (.ops [dO 26 (.mv (tM 6)),dO 27 (.bin .add (tM 26) (cI 1)),dO 6 (.mv (tM 27))]))))))) (.ops [dO 18 (.mv (tM 5)),dO 19 (.bin .add (tM 18) (cI 1)),dO 5 (.mv (tM 19))])))))) (.ops [dO 67 (.mv (tM 0)),dO 68 (.mv (tM 4)),dO 69 (.indexAddr 1 (tM 67) (tM 68)),dO 70 (.load none (tM 69)),dO 71 (.mv (tM 4)),dO 72 (.indexAddr 1 (tM 70) (tM 71)),dO 73 (.load none (tM 72)),dO 3 (.mv (tM 73))])))) (.ops [dO 74 (.bin .add (tM 9) (cI 1)),dO 9 (.mv (tM 74))]))))))) (.seq (.ops [dO 75 (.mv (tM 3)),dO 2 (.mv (tM 75))]) .ret)))⟩
theorem k102:(Bt Tryz.prog byr).fns 102=some c102:=by kernel_rfl
theorem t102:T.fns 102=some c102:=Bx k102 (by decide) (by decide)
end Go.Ev.YtgehhippjhealaaGreatC
set_option linter.unusedSimpArgs false
set_option linter.unusedVariables false
namespace Go.Ev.YtgehhippjhealaaGreatC
open Go Go.Proofs
attribute [local irreducible] Res.all evC Df Dh Bq Bh Dn Bf Bj G GO GV GP GC R
set_option maxRecDepth 100000
structure TabAt (h:Bd) (kt m:Nat) (kk:Nat->Nat) (F:Nat->Nat->Int):Prop where
 tab:Bc h kt = .cells 0 ((List.range m).map fun a => .oslice (kk a) 0 none 0 m (some m))
 row:∀a,a<m->Bc h (kk a) = .cells 0 ((List.range m).map fun b => .int .i64 (F a b))
 inj:∀a b,a<m->b<m->kk a=kk b->a=b
 ne:∀a,a<m->kk a≠kt
theorem Gn {α:Type} (m i:Nat) (f:Nat->α) (hi:i<m):((List.range m).map f)[i]? = some (f i):=by
 rw [List.getElem?_map,List.getElem?_range hi]; rfl
theorem Rp (m i:Nat) (f:Nat->AV) (hi:i<m):rd none ((List.range m).map f) i = .ret (f i):=by
 simp only [rd,Gn m i f hi]; rfl
theorem Nk {α:Type} (m i:Nat) (f:Nat->α) (v:α):((List.range m).map f).set i v=(List.range m).map fun b=>if b=i then v else f b:=by
 apply List.ext_getElem?
 intro j
 rw [List.getElem?_set]
 by_cases hj:j<m
 ·rw [Gn m j _ hj,Gn m j _ hj]
  by_cases hij:i=j
  ·subst hij; simp [hj]
  ·rw [if_neg hij,if_neg (fun h=>hij h.symm)]
 ·rw [List.getElem?_eq_none (by simp; omega),List.getElem?_eq_none (by simp; omega)]
  split
  ·next h=>rw [if_neg (by simp; omega)]
  ·rfl
theorem TabAt.upd {h:Bd} {kt m:Nat} {kk:Nat->Nat} {F:Nat->Nat->Int} (ht:TabAt h kt m kk F) {i j:Nat} (hi:i<m) (v:Int) :
  TabAt (setH h (kk i) (.cells 0 (((List.range m).map fun b=>AV.int .i64 (F i b)).set j (.int .i64 v)))) kt m kk (fun a b=>if a=i/\b=j then v else F a b) where
 tab:=by rw [Ba _ _ _ _ (ht.ne i hi)]; exact ht.tab
 row:=fun a ha=>by
  by_cases hai:a=i
  ·subst hai
   rw [getH_setH_self,Nk]
   congr 1
   apply List.map_congr_left
   intro b hb
   simp only [true_and]
   split <;> rfl
  ·rw [Ba _ _ _ _ (fun h=>hai (ht.inj _ _ hi ha h).symm),ht.row a ha]
   congr 1
   apply List.map_congr_left
   intro b hb
   rw [if_neg (fun h=>hai h.1)]
 inj:=ht.inj
 ne:=ht.ne
theorem TabAt.congr {h:Bd} {kt m:Nat} {kk:Nat->Nat} {F G:Nat->Nat->Int} (ht:TabAt h kt m kk F) (hg:∀a b,a<m->b<m->F a b=G a b):TabAt h kt m kk G where
 tab:=ht.tab
 row:=fun a ha=>by
  rw [ht.row a ha]
  congr 1
  apply List.map_congr_left
  intro b hb
  rw [hg a b ha (by simpa using hb)]
 inj:=ht.inj
 ne:=ht.ne
theorem TabAt.ldt {h:Bd} {kt m:Nat} {kk:Nat->Nat} {F:Nat->Nat->Int} (ht:TabAt h kt m kk F) {a:Nat} (ha:a<m):ldA none h (.optr kt 0 a) = .ret (.oslice (kk a) 0 none 0 m (some m)):=by
 simp only [ldA,ht.tab,if_true,Rp m a _ ha]
theorem TabAt.ldr {h:Bd} {kt m:Nat} {kk:Nat->Nat} {F:Nat->Nat->Int} (ht:TabAt h kt m kk F) {a b:Nat} (ha:a<m) (hb:b<m):ldA none h (.optr (kk a) 0 b) = .ret (.int .i64 (F a b)):=by
 simp only [ldA,ht.row a ha,if_true,Rp m b _ hb]
theorem B2g {a b:Int} (hb:b≠0) (h1 : -9223372036854775808<=a.tdiv b) (h2:a.tdiv b<=9223372036854775807):Ea .quo (.int .i64 a) (.int .i64 b) = .ret (.int .i64 (a.tdiv b)):=by
 simp only [Ea,Id,if_true]
 rw [if_neg hb,wrap64 h1 h2]
def stg (k i j a b:Nat):Nat:=if k<a/\k<b/\(a<i\/(a=i/\b<j)) then k+1 else min k (min a b)
theorem Agk (k a b:Nat):stg k (k+1) 0 a b=min k (min a b):=by unfold stg; split <;> omega
theorem B5u {k i:Nat} (a b:Nat) (h:k<i):stg k i (k+1) a b=stg k i 0 a b:=by unfold stg; split <;> split <;> omega
theorem B4l {k i m b:Nat} (a:Nat) (h:b<m):stg k i m a b=stg k (i+1) 0 a b:=by unfold stg; split <;> split <;> omega
theorem B4a {k m a:Nat} (b:Nat) (h:a<m):stg k m 0 a b=min (k+1) (min a b):=by unfold stg; split <;> omega
theorem B1i {k i j:Nat} (a b:Nat) (h:¬(a=i/\b=j)):stg k i j a b=stg k i (j+1) a b:=by unfold stg; split <;> split <;> omega
theorem B2k {k i j:Nat} (h1:k<i) (h2:k<j):stg k i (j+1) i j=k+1:=by unfold stg; split <;> omega
structure Bar (m:Nat) (X:Nat->Nat->Nat->Int) (L:Nat->Int):Prop where
 l0:L 0=1
 ls:∀k,k<m->L (k+1)=X k k k
 nz:∀k,k<m->L k≠0
 st:∀k i j,k<i->i<m->k<j->j<m->X (k+1) i j=(X k i j*X k k k-X k i k*X k k j).tdiv (L k)
 lo:∀k i j,-1073741824<=X k i j
 hi:∀k i j,X k i j<=1073741824
theorem A6t {a b:Int} (h1 : -1073741824<=a) (h2:a<=1073741824) (h3 : -1073741824<=b) (h4:b<=1073741824) : -1152921504606846976<=a*b/\a*b<=1152921504606846976:=by
 have h5:a.natAbs<=1073741824:=by omega
 have h6:b.natAbs<=1073741824:=by omega
 have h7:=Nat.mul_le_mul h5 h6
 rw [<-Int.natAbs_mul] at h7
 omega
theorem TabAt.pad {h:Bd} {kt m:Nat} {kk:Nat->Nat} {F:Nat->Nat->Int} (ht:TabAt h kt m kk F) (n:Nat):TabAt (h++List.replicate n .none) kt m kk F where
 tab:=by rw [Bi]; exact ht.tab
 row:=fun a ha=>by rw [Bi]; exact ht.row a ha
 inj:=ht.inj
 ne:=ht.ne
theorem A4k {a b:Int} (h1 : -4611686018427387904<=a) (h2:a<=4611686018427387904) : -9223372036854775808<=a.tdiv b/\a.tdiv b<=9223372036854775807:=by
 have h3:(a.tdiv b).natAbs<=a.natAbs:=by rw [Int.natAbs_tdiv]; exact Nat.div_le_self _ _
 omega
set_option maxHeartbeats 4000000 in
theorem Awc {m:Nat} {X:Nat->Nat->Nat->Int} {L:Nat->Int} (hX:Bar m X L) (hm:m<=64) {kt:Nat} {kk:Nat->Nat} {h0:Bd} (ht0:TabAt h0 kt m kk (X 0)) (n:Nat) {V:AV×Bd->Prop} (hV:∀h',V (.int .i64 (L m),h')) :
  (Bf T (n+1) true (.fn 102) [.oslice kt 0 none 0 m (some m)] h0).all V:=by
 rw [Eg t102]
 simp (disch:=first | assumption | omega) only [c102,go_sem,↓reduceIte]
 refine Bz (fun M st=>∃k,M=m-k/\k<=m/\At st.env [(0,.oslice kt 0 none 0 m (some m)),(3,.int .i64 (L k)),(8,.int .i64 m),(9,.int .i64 k)]/\TabAt st.heap kt m kk (fun a b=>X (min k (min a b)) a b)) m (by omega)
  ⟨0,rfl,by omega,by simp only [go_sem,↓reduceIte,hX.l0],(ht0.pad 76).congr fun a b _ _=>by rw [Nat.zero_min]⟩ ?_
 rintro M e h hM ⟨k,rfl,hk,hE,hT⟩ P hP
 simp only [Bp,Bw] at hE hT
 obtain ⟨f0,f3,f8,f9,-⟩:=hE
 by_cases hlt:k<m
 ·simp (disch:=first | assumption | omega) only [go_sem,↓reduceIte,f0,f3,f8,f9,hlt]
  refine Bz (fun M st=>∃i,M=m-i/\k<i/\i<=m/\At st.env [(0,.oslice kt 0 none 0 m (some m)),(3,.int .i64 (L k)),(4,.int .i64 k),(5,.int .i64 i),(8,.int .i64 m),(9,.int .i64 k)]/\TabAt st.heap kt m kk (fun a b=>X (stg k i 0 a b) a b)) (m-(k+1)) (by omega)
   ⟨k+1,rfl,by omega,by omega,by simp only [go_sem,↓reduceIte,f0,f3,f8,f9],hT.congr fun a b _ _=>by rw [Agk]⟩ ?_
  rintro M e2 h2 hM2 ⟨i,rfl,hki,hi,hE2,hT2⟩ P2 hP2
  simp only [Bp,Bw] at hE2 hT2
  obtain ⟨g0,g3,g4,g5,g8,g9,-⟩:=hE2
  by_cases hlt2:i<m
  ·simp (disch:=first | assumption | omega) only [go_sem,↓reduceIte,g0,g3,g4,g5,g8,g9,hlt2]
   refine Bz (fun M st=>∃j,M=m-j/\k<j/\j<=m/\At st.env [(0,.oslice kt 0 none 0 m (some m)),(3,.int .i64 (L k)),(4,.int .i64 k),(5,.int .i64 i),(6,.int .i64 j),(8,.int .i64 m),(9,.int .i64 k)]/\TabAt st.heap kt m kk (fun a b=>X (stg k i j a b) a b)) (m-(k+1)) (by omega)
    ⟨k+1,rfl,by omega,by omega,by simp only [go_sem,↓reduceIte,g0,g3,g4,g5,g8,g9],hT2.congr fun a b _ _=>by rw [B5u a b hki]⟩ ?_
   rintro M e3 h3 hM3 ⟨j,rfl,hkj,hj,hE3,hT3⟩ P3 hP3
   simp only [Bp,Bw] at hE3 hT3
   obtain ⟨q0,q3,q4,q5,q6,q8,q9,-⟩:=hE3
   by_cases hlt3:j<m
   ·have e1:=hT3.ldt hlt2
    have e2:=hT3.ldt hlt
    have d1:=hT3.ldr hlt2 hlt3
    have d2:=hT3.ldr hlt hlt
    have d3:=hT3.ldr hlt2 hlt
    have d4:=hT3.ldr hlt hlt3
    have s1:stg k i j i j=k:=by unfold stg; split <;> omega
    have s2:stg k i j k k=k:=by unfold stg; split <;> omega
    have s3:stg k i j i k=k:=by unfold stg; split <;> omega
    have s4:stg k i j k j=k:=by unfold stg; split <;> omega
    rw [s1] at d1; rw [s2] at d2; rw [s3] at d3; rw [s4] at d4
    have r1:=hT3.row i hlt2
    have m1:=A6t (hX.lo k i j) (hX.hi k i j) (hX.lo k k k) (hX.hi k k k)
    have m2:=A6t (hX.lo k i k) (hX.hi k i k) (hX.lo k k j) (hX.hi k k j)
    have hst:=hX.st k i j hki hlt2 hkj hlt3
    generalize hp1:X k i j*X k k k=p1 at *
    generalize hp2:X k i k*X k k j=p2 at *
    have hq:Ea .quo (.int .i64 (p1-p2)) (.int .i64 (L k)) = .ret (.int .i64 (X (k+1) i j)):=by
     rw [hst]
     exact B2g (hX.nz k hlt) (A4k (by omega) (by omega)).1 (A4k (by omega) (by omega)).2
    simp (disch:=first | assumption | omega) only [go_sem,↓reduceIte,q0,q3,q4,q5,q6,q8,q9,hlt,hlt2,hlt3,e1,e2,d1,d2,d3,d4,hp1,hp2,hq,r1,List.length_map,List.length_range]
    refine ⟨by omega,?_⟩
    refine hP3 (m-(j+1)) _ (by omega) ⟨j+1,rfl,by omega,by omega,by simp only [go_sem,↓reduceIte,q0,q3,q4,q5,q6,q8,q9],?_⟩
    exact (hT3.upd hlt2 (X (k+1) i j) (j:=j)).congr fun a b ha hb=>by
     by_cases hab:a=i/\b=j
     ·obtain ⟨rfl,rfl⟩:=hab
      rw [if_pos ⟨rfl,rfl⟩,B2k hki hkj]
     ·rw [if_neg hab,B1i a b hab]
   ·obtain rfl:j=m:=by omega
    simp (disch:=first | assumption | omega) only [go_sem,↓reduceIte,q0,q3,q4,q5,q6,q8,q9,hlt3]
    exact hP2 (j-(i+1)) _ (by omega) ⟨i+1,rfl,by omega,by omega,by simp only [go_sem,↓reduceIte,q0,q3,q4,q5,q8,q9],hT3.congr fun a b ha hb=>by rw [B4l a hb]⟩
  ·obtain rfl:i=m:=by omega
   have e1:=hT2.ldt hlt
   have d1:=hT2.ldr hlt hlt
   have s1:stg k i 0 k k=k:=by unfold stg; split <;> omega
   rw [s1] at d1
   simp (disch:=first | assumption | omega) only [go_sem,↓reduceIte,g0,g3,g4,g5,g8,g9,hlt2,hlt,e1,d1]
   exact hP (i-(k+1)) _ (by omega) ⟨k+1,rfl,by omega,by simp only [go_sem,↓reduceIte,g0,g3,g8,g9,hX.ls k hlt],hT2.congr fun a b ha hb=>by rw [B4a b ha]⟩
 ·obtain rfl:k=m:=by omega
  simp (disch:=first | assumption | omega) only [go_sem,↓reduceIte,f0,f3,f8,f9,hlt]
  exact hV _
end Go.Ev.YtgehhippjhealaaGreatC
set_option linter.unusedSimpArgs false
set_option linter.unusedVariables false
namespace Go.Ev.YtgehhippjhealaaGreatC
open Go Go.Proofs
attribute [local irreducible] Res.all evC Df Dh Bq Bh Dn Bf Bj G GO GV GP GC R
set_option maxRecDepth 100000
def edA (q:Nat×Nat):AV:=.agg [.int .i64 q.1,.int .i64 q.2]
abbrev LE:=(Nat×Nat)×Nat×Nat
def eK (E:List LE):List AV:=E.map fun t=>edA t.1
def eV (E:List LE):List AV:=E.map fun t => .int .i64 (t.2.1:Nat)
def eB (E:List LE):List Nat:=E.map (·.2.2)
theorem Va (q r:Nat×Nat):Dw (edA q).cells (edA r).cells=some (decide (q=r)):=by
 obtain ⟨a,b⟩:=q
 obtain ⟨c,d⟩:=r
 simp only [edA,AV.cells,Dw,if_true]
 by_cases h1:(a:Int)=c
 ·rw [if_pos h1]
  have h1':a=c:=by omega
  by_cases h2:(b:Int)=d
  ·rw [if_pos h2]
   have h2':b=d:=by omega
   simp [h1',h2']
  ·rw [if_neg h2]
   have h2':¬b=d:=by omega
   simp [h2']
 ·rw [if_neg h1]
  have h1':¬a=c:=by omega
  simp [h1']
theorem Ig (q:Nat×Nat):Er (some 2) (edA q)=true:=rfl
theorem Kj (q:Nat×Nat):∀(E:List LE) (i:Nat),q∉E.map (·.1)->Du (some 2) (edA q) (eK E) i=some none
 | [],_,_=>rfl
 | t::r,i,h=>by
  simp only [List.map_cons,List.mem_cons,not_or] at h
  simp only [eK,List.map_cons,Du,Ig,if_true,Va]
  have:decide (q=t.1)=false:=by simpa using h.1
  rw [this]
  exact Kj q r (i+1) h.2
theorem Ie (q:Nat×Nat) (t:LE) (B:List LE) (ht:t.1=q):∀(A:List LE) (i:Nat),q∉A.map (·.1)->Du (some 2) (edA q) (eK (A++t::B)) i=some (some (i+A.length))
 | [],i,_=>by
  simp only [eK,List.nil_append,List.map_cons,Du,Ig,if_true,Va,ht,decide_true]
  rfl
 | u::A,i,h=>by
  simp only [List.map_cons,List.mem_cons,not_or] at h
  simp only [eK,List.cons_append,List.map_cons,Du,Ig,if_true,Va]
  have:decide (q=u.1)=false:=by simpa using h.1
  rw [this]
  have:=Ie q t B ht A (i+1) h.2
  simp only [eK] at this
  simp only [this,List.length_cons]
  congr 2
  omega
theorem So (b:Nat) (B:List Nat):∀(A:List Nat) (i:Nat),b∉A->Jb b (A++b::B) i=some (i+A.length)
 | [],i,_=>by simp [Jb]
 | c::A,i,h=>by
  simp only [List.mem_cons,not_or] at h
  simp only [List.cons_append,Jb]
  rw [if_neg (fun e=>h.1 e.symm),So b B A (i+1) h.2]
  simp only [List.length_cons]
  congr 1
  omega
structure LM (p:List (Nat×Nat)) (E:List LE) (c:Nat):Prop where
 nd:(E.map (·.1)).Nodup
 cnt:∀t∈E,t.2.1=p.count t.1
 mem:∀q∈p,q∈E.map (·.1)
 sub:∀t∈E,t.1∈p
 bn:(eB E).Nodup
 bc:∀t∈E,t.2.2<c
theorem LM.nil:LM [] [] 0:=⟨by simp,by simp,by simp,by simp,by simp [eB],by simp⟩
theorem LM.split {p:List (Nat×Nat)} {E:List LE} {c:Nat} (h:LM p E c) {q:Nat×Nat} (hq:q∈E.map (·.1)):∃A n b B,E=A++(q,n,b)::B/\q∉A.map (·.1)/\q∉B.map (·.1)/\b∉eB A/\b∉eB B/\n=p.count q:=by
 obtain ⟨t,ht,rfl⟩:=List.mem_map.1 hq
 obtain ⟨A,B,rfl⟩:=List.append_of_mem ht
 have h1:=h.nd
 have h2:=h.bn
 rw [List.map_append,List.map_cons,List.nodup_append] at h1
 simp only [eB] at h2 ⊢
 rw [List.map_append,List.map_cons,List.nodup_append] at h2
 obtain ⟨a1,a2,a3⟩:=h1
 obtain ⟨b1,b2,b3⟩:=h2
 refine ⟨A,t.2.1,t.2.2,B,rfl,fun hm => ?_,(List.nodup_cons.1 a2).1,fun hm => ?_,(List.nodup_cons.1 b2).1,h.cnt t (by simp)⟩
 ·exact a3 _ hm _ List.mem_cons_self rfl
 ·exact b3 _ hm _ List.mem_cons_self rfl
theorem LM.old {p:List (Nat×Nat)} {A B:List LE} {q:Nat×Nat} {n b c:Nat} (h:LM p (A++(q,n,b)::B) c) (hA:q∉A.map (·.1)) (hB:q∉B.map (·.1)):LM (p++[q]) (A++(q,n+1,b)::B) c where
 nd:=by have:=h.nd; simpa using this
 cnt:=fun t ht=>by
  have hne:∀u∈A++B,u.1≠q:=fun u hu he=>by
   rcases List.mem_append.1 hu with hu | hu
   ·exact hA (he ▸ List.mem_map_of_mem (f:=fun t:LE=>t.1) hu)
   ·exact hB (he ▸ List.mem_map_of_mem (f:=fun t:LE=>t.1) hu)
  rw [List.count_append]
  rcases List.mem_append.1 ht with ht | ht
  ·rw [h.cnt t (List.mem_append_left _ ht),List.count_singleton]
   have:=hne t (List.mem_append_left _ ht)
   simp [this.symm]
  ·rcases List.mem_cons.1 ht with rfl | ht
   ·have:=h.cnt (q,n,b) (by simp)
    simp only at this ⊢
    rw [this]; simp
   ·rw [h.cnt t (List.mem_append_right _ (List.mem_cons_of_mem _ ht)),List.count_singleton]
    have:=hne t (List.mem_append_right _ ht)
    simp [this.symm]
 mem:=fun r hr=>by
  have:r∈(A++(q,n,b)::B).map (·.1):=by
   rcases List.mem_append.1 hr with hr | hr
   ·exact h.mem r hr
   ·obtain rfl:r=q:=by simpa using hr
    simp
  simpa using this
 sub:=fun t ht=>by
  rcases List.mem_append.1 ht with ht | ht
  ·exact List.mem_append_left _ (h.sub t (List.mem_append_left _ ht))
  ·rcases List.mem_cons.1 ht with rfl | ht
   ·simp
   ·exact List.mem_append_left _ (h.sub t (List.mem_append_right _ (List.mem_cons_of_mem _ ht)))
 bn:=by have:=h.bn; simpa [eB] using this
 bc:=fun t ht=>by
  rcases List.mem_append.1 ht with ht | ht
  ·exact h.bc t (List.mem_append_left _ ht)
  ·rcases List.mem_cons.1 ht with rfl | ht
   ·exact h.bc (q,n,b) (by simp)
   ·exact h.bc t (List.mem_append_right _ (List.mem_cons_of_mem _ ht))
theorem LM.new {p:List (Nat×Nat)} {E:List LE} {q:Nat×Nat} {c:Nat} (h:LM p E c) (hq:q∉E.map (·.1)):LM (p++[q]) (E++[(q,1,c)]) (c+1) where
 nd:=by
  rw [List.map_append,List.nodup_append]
  refine ⟨h.nd,by simp,fun a ha b hb => ?_⟩
  obtain rfl:b=q:=by simpa using hb
  exact fun e=>hq (e ▸ ha)
 cnt:=fun t ht=>by
  rw [List.count_append]
  rcases List.mem_append.1 ht with ht | ht
  ·rw [h.cnt t ht,List.count_singleton]
   have:t.1≠q:=fun e=>hq (e ▸ List.mem_map_of_mem (f:=fun t:LE=>t.1) ht)
   simp [this.symm]
  ·obtain rfl:t=(q,1,c):=by simpa using ht
   have:p.count q=0:=List.count_eq_zero.2 fun hm=>hq (h.mem q hm)
   simp [this]
 mem:=fun r hr=>by
  rcases List.mem_append.1 hr with hr | hr
  ·have:=h.mem r hr; simp only [List.map_append,List.mem_append]; exact .inl this
  ·obtain rfl:r=q:=by simpa using hr
   simp
 sub:=fun t ht=>by
  rcases List.mem_append.1 ht with ht | ht
  ·exact List.mem_append_left _ (h.sub t ht)
  ·obtain rfl:t=(q,1,c):=by simpa using ht
   simp
 bn:=by
  simp only [eB,List.map_append]
  rw [List.nodup_append]
  refine ⟨h.bn,by simp,fun a ha b hb => ?_⟩
  obtain rfl:b=c:=by simpa using hb
  obtain ⟨t,ht,rfl⟩:=List.mem_map.1 ha
  have:=h.bc t ht
  omega
 bc:=fun t ht=>by
  rcases List.mem_append.1 ht with ht | ht
  ·have:=h.bc t ht; omega
  ·obtain rfl:t=(q,1,c):=by simpa using ht
   simp
theorem Adn {p:List (Nat×Nat)} {E:List LE} {c:Nat} (h:LM p E c) (q:Nat×Nat):lkA (some 2) (.int .i64 0) false (edA q) (some (eK E,eV E)) = .ret (.int .i64 (p.count q:Nat)):=by
 simp only [lkA,Ig,if_true]
 by_cases hq:q∈E.map (·.1)
 ·obtain ⟨A,n,b,B,rfl,hA,hB,_,_,rfl⟩:=h.split hq
  rw [Ie q _ B rfl A 0 hA]
  simp only [eV,List.map_append,List.map_cons,Nat.zero_add]
  rw [List.getElem?_append_right (by simp)]
  simp
 ·rw [Kj q E 0 hq]
  have:p.count q=0:=List.count_eq_zero.2 fun hm=>hq (h.mem q hm)
  simp [this]
theorem A4p:∀E:List LE,(eK E).zip ((eV E).zip (eB E))=E.map fun t=>(edA t.1,AV.int .i64 (t.2.1:Nat),t.2.2)
 | []=>rfl
 | t::r=>by
  have:=A4p r
  simp only [eK,eV,eB,List.map_cons,List.zip_cons_cons] at this ⊢
  rw [this]
theorem A6v (E:List LE) (seen:List Nat):Gp (eK E) (eV E) (eB E) seen=(E.filter fun t => !seen.contains t.2.2).map fun t=>(edA t.1,AV.int .i64 (t.2.1:Nat),t.2.2):=by
 rw [Gp,A4p,List.filter_map]
 rfl
theorem Avq (E:List LE) (t:LE) (hn:(eB E).Nodup) (ht:t∈E):((eK E).zip ((eV E).zip (eB E))).find? (fun u=>u.2.2==t.2.2)=some (edA t.1,AV.int .i64 (t.2.1:Nat),t.2.2):=by
 rw [A4p]
 induction E with
 | nil=>cases ht
 | cons a r ih =>
  rw [List.map_cons,List.find?_cons]
  simp only [eB,List.map_cons,List.nodup_cons] at hn
  rcases List.mem_cons.1 ht with rfl | ht
  ·simp
  ·have hne:(a.2.2==t.2.2)=false:=by
    have:a.2.2≠t.2.2:=fun h=>hn.1 (h ▸ List.mem_map_of_mem (f:=fun t:LE=>t.2.2) ht)
    simpa using this
   simp only [hne]
   exact ih hn.2 ht
theorem Yr {E:List LE} (hn:(eB E).Nodup) {u t:LE} (hu:u∈E) (ht:t∈E) (h:u.2.2=t.2.2):u=t:=by
 induction E with
 | nil=>cases hu
 | cons a r ih =>
  simp only [eB,List.map_cons,List.nodup_cons] at hn
  rcases List.mem_cons.1 hu with hu' | hu' <;> rcases List.mem_cons.1 ht with ht' | ht'
  ·rw [hu',ht']
  ·exact absurd (List.mem_map.2 ⟨t,ht',by rw [<-hu']; exact h.symm⟩) hn.1
  ·exact absurd (List.mem_map.2 ⟨u,hu',by rw [<-ht']; exact h⟩) hn.1
  ·exact ih hn.2 hu' ht'
theorem Jg {n base:Nat} {Q:EX×St->Prop} {d:Option Nat} {L:List IOper} {kk:List Kont} {e:Env} {h:Bd} {key ver mk mv clock:Nat} {E:List LE} {seen:List Nat}
  (hi:Bc h key = .iter ver mk mv clock seen clock) (hm:Bc h mk = .map mv clock (eK E) (eV E) (eB E)) (hb:∀t∈E,t.2.2<clock)
  (hE:(∀t∈E,t.2.2∈seen)->GO (Bf T n) base Q L kk ⟨Bk e d (.tuple [.bool false]),h⟩)
  (hN:∀t∈E,t.2.2∉seen->GO (Bf T n) base Q L kk ⟨Bk e d (.tuple [.bool true,edA t.1,.int .i64 (t.2.1:Nat)]),setH h key (.iter ver mk mv clock (seen++[t.2.2]) clock)⟩) :
  GP (Bf T n) base Q d L kk e (nxA h (.iter key ver)):=by
 refine Vo hi hm ?_ (Nat.le_refl _) ?_ ?_
 ·intro b hb'
  obtain ⟨t,ht,rfl⟩:=List.mem_map.1 hb'
  exact hb t ht
 ·intro hl
  rw [A6v] at hl
  refine hE fun t ht => ?_
  have:=List.map_eq_nil_iff.1 hl
  rw [List.filter_eq_nil_iff] at this
  simpa using this t ht
 ·intro k v b hmem
  rw [A6v] at hmem
  obtain ⟨t,ht,he⟩:=List.mem_map.1 hmem
  obtain ⟨h1,h2⟩:=List.mem_filter.1 ht
  cases he
  exact hN t h1 (by simpa using h2)
theorem Xr {h:Bd} {key ver mk mv clock since:Nat} {E:List LE} {seen:List Nat} {t:LE}
  (hi:Bc h key = .iter ver mk mv since (seen++[t.2.2]) clock) (hm:Bc h mk = .map mv clock (eK E) (eV E) (eB E)) (hn:(eB E).Nodup) (ht:t∈E) :
  enA h (.iter key ver) = .ret (.tuple [edA t.1,.int .i64 (t.2.1:Nat)]):=by
 simp only [enA,hi,hm,List.getLast?_append,List.getLast?_singleton,Option.some_or]
 rw [if_pos ⟨trivial,trivial,trivial⟩,Avq E t hn ht]
theorem Hf {α:Type} (p q:α->Bool) (hqp:∀t,q t=true->p t=true) (t0:α) (hp:p t0=true) (hq:q t0=false):∀l:List α,t0∈l->(l.filter q).length<(l.filter p).length
 | [],h=>by cases h
 | a::r,h=>by
  have hle:∀l:List α,(l.filter q).length<=(l.filter p).length:=fun l=>by
   induction l with
   | nil=>simp
   | cons b r ih =>
    rw [List.filter_cons,List.filter_cons]
    by_cases hb:q b=true
    ·rw [if_pos hb,if_pos (hqp b hb)]; simpa using ih
    ·rw [if_neg hb]
     split
     ·simp only [List.length_cons]; omega
     ·exact ih
  rw [List.filter_cons,List.filter_cons]
  rcases List.mem_cons.1 h with rfl | h
  ·rw [if_pos hp,if_neg (by rw [hq]; simp)]
   have:=hle r
   simp only [List.length_cons]; omega
  ·have ih:=Hf p q hqp t0 hp hq r h
   by_cases hb:q a=true
   ·rw [if_pos hb,if_pos (hqp a hb)]; simpa using ih
   ·rw [if_neg hb]
    split
    ·simp only [List.length_cons]; omega
    ·exact ih
def Ha (t:LE):Bool:=t.1.1==t.1.2
def Fo (seen:List Nat) (t:LE):Bool:=!(Ha t&&seen.contains t.2.2)
theorem Ago (E:List LE):E.filter (Fo [])=E:=by
 rw [List.filter_eq_self]
 intro t _
 simp [Fo]
theorem Avg {E:List LE} {seen:List Nat} {b:Nat} (h:∀t∈E,t.2.2=b->Ha t=false):E.filter (Fo (seen++[b]))=E.filter (Fo seen):=by
 apply List.filter_congr
 intro t ht
 simp only [Fo,List.contains_eq_mem,List.mem_append,List.mem_singleton]
 by_cases hb:t.2.2=b
 ·simp [h t ht hb]
 ·simp [hb]
theorem Aci {E A B:List LE} {seen:List Nat} {t:LE} (hn:(eB E).Nodup) (hE:E.filter (Fo seen)=A++t::B) (hl:Ha t=true):E.filter (Fo (seen++[t.2.2]))=A++B:=by
 have h1:E.filter (Fo (seen++[t.2.2]))=(E.filter (Fo seen)).filter fun u => !(Ha u&&u.2.2==t.2.2):=by
  rw [List.filter_filter]
  apply List.filter_congr
  intro u _
  simp only [Fo,List.contains_eq_mem,List.mem_append,List.mem_singleton]
  by_cases h1:Ha u=true <;> by_cases h2:u.2.2∈seen <;> by_cases h3:u.2.2=t.2.2 <;> simp [h1,h2,h3]
 have hnd:(eB (A++t::B)).Nodup:=by rw [<-hE]; exact List.Nodup.sublist (List.Sublist.map _ List.filter_sublist) hn
 simp only [eB,List.map_append,List.map_cons] at hnd
 rw [List.nodup_append] at hnd
 obtain ⟨n1,n2,n3⟩:=hnd
 have hA:A.filter (fun u => !(Ha u&&u.2.2==t.2.2))=A:=by
  rw [List.filter_eq_self]
  intro u hu
  have:u.2.2≠t.2.2:=fun e=>n3 _ (List.mem_map_of_mem (f:=fun t:LE=>t.2.2) hu) _ List.mem_cons_self e
  simp [this]
 have hB:B.filter (fun u => !(Ha u&&u.2.2==t.2.2))=B:=by
  rw [List.filter_eq_self]
  intro u hu
  have:u.2.2≠t.2.2:=fun e=>(List.nodup_cons.1 n2).1 (e ▸ List.mem_map_of_mem (f:=fun t:LE=>t.2.2) hu)
  simp [this]
 rw [h1,hE,List.filter_append,hA,List.filter_cons,hB]
 simp [hl]
theorem Wx (A B:List LE) (t:LE):(eK (A++t::B)).eraseIdx A.length=eK (A++B):=by
 simp only [eK,List.map_append,List.map_cons]
 rw [List.eraseIdx_append_of_length_le (by simp)]
 simp
theorem Wm (A B:List LE) (t:LE):(eV (A++t::B)).eraseIdx A.length=eV (A++B):=by
 simp only [eV,List.map_append,List.map_cons]
 rw [List.eraseIdx_append_of_length_le (by simp)]
 simp
theorem Xd (A B:List LE) (t:LE):(eB (A++t::B)).eraseIdx A.length=eB (A++B):=by
 simp only [eB,List.map_append,List.map_cons]
 rw [List.eraseIdx_append_of_length_le (by simp)]
 simp
end Go.Ev.YtgehhippjhealaaGreatC
set_option linter.unusedSimpArgs false
set_option linter.unusedVariables false
namespace Go.Ev.YtgehhippjhealaaGreatC
open Go Go.Proofs
section
variable (p:LE->Bool)
def Fe (seen:List Nat) (t:LE):Bool:=!(p t&&seen.contains t.2.2)
theorem A0k (E:List LE):E.filter (Fe p [])=E:=by
 rw [List.filter_eq_self]
 intro t _
 simp [Fe]
theorem A3a {E:List LE} {seen:List Nat} {b:Nat} (h:∀t∈E,t.2.2=b->p t=false):E.filter (Fe p (seen++[b]))=E.filter (Fe p seen):=by
 apply List.filter_congr
 intro t ht
 simp only [Fe,List.contains_eq_mem,List.mem_append,List.mem_singleton]
 by_cases hb:t.2.2=b
 ·simp [h t ht hb]
 ·simp [hb]
theorem Yd {E A B:List LE} {seen:List Nat} {t:LE} (hn:(eB E).Nodup) (hE:E.filter (Fe p seen)=A++t::B) (hl:p t=true):E.filter (Fe p (seen++[t.2.2]))=A++B:=by
 have h1:E.filter (Fe p (seen++[t.2.2]))=(E.filter (Fe p seen)).filter fun u => !(p u&&u.2.2==t.2.2):=by
  rw [List.filter_filter]
  apply List.filter_congr
  intro u _
  simp only [Fe,List.contains_eq_mem,List.mem_append,List.mem_singleton]
  by_cases h1:p u=true <;> by_cases h2:u.2.2∈seen <;> by_cases h3:u.2.2=t.2.2 <;> simp [h1,h2,h3]
 have hnd:(eB (A++t::B)).Nodup:=by rw [<-hE]; exact List.Nodup.sublist (List.Sublist.map _ List.filter_sublist) hn
 simp only [eB,List.map_append,List.map_cons] at hnd
 rw [List.nodup_append] at hnd
 obtain ⟨n1,n2,n3⟩:=hnd
 have hA:A.filter (fun u => !(p u&&u.2.2==t.2.2))=A:=by
  rw [List.filter_eq_self]
  intro u hu
  have:u.2.2≠t.2.2:=fun e=>n3 _ (List.mem_map_of_mem (f:=fun t:LE=>t.2.2) hu) _ List.mem_cons_self e
  simp [this]
 have hB:B.filter (fun u => !(p u&&u.2.2==t.2.2))=B:=by
  rw [List.filter_eq_self]
  intro u hu
  have:u.2.2≠t.2.2:=fun e=>(List.nodup_cons.1 n2).1 (e ▸ List.mem_map_of_mem (f:=fun t:LE=>t.2.2) hu)
  simp [this]
 rw [h1,hE,List.filter_append,hA,List.filter_cons,hB]
 simp [hl]
theorem A0z {E:List LE} {seen:List Nat} (hall:∀t∈E.filter (Fe p seen),t.2.2∈seen):E.filter (Fe p seen)=E.filter fun t => !p t:=by
 apply List.filter_congr
 intro t ht
 simp only [Fe]
 by_cases h1:p t=true
 ·by_cases h2:t.2.2∈seen
  ·simp [h1,h2]
  ·exfalso
   exact h2 (hall t (List.mem_filter.2 ⟨ht,by simp [Fe,h2]⟩))
 ·simp [h1]
end
end Go.Ev.YtgehhippjhealaaGreatC
set_option linter.unusedSimpArgs false
set_option linter.unusedVariables false
namespace Go.Ev.YtgehhippjhealaaGreatC
open Go Go.Proofs
attribute [local irreducible] Res.all evC Df Dh Bq Bh Dn Bf Bj G GO GV GP GC R
set_option maxRecDepth 100000
def pA (q:List Int):AV:=.agg (q.map (.int .i64))
abbrev PE:=List Int×Int×Nat
def pK (E:List PE):List AV:=E.map fun t=>pA t.1
def pV (E:List PE):List AV:=E.map fun t => .int .i64 t.2.1
def pB (E:List PE):List Nat:=E.map (·.2.2)
def L9 (E:List PE):Prop:=∀t∈E,t.1.length=9
theorem Wu (q r:List Int) (h:q.length=r.length):Dw (pA q).cells (pA r).cells=some (decide (q=r)):=Kx .i64 q r h
theorem Jf (q:List Int) (h:q.length=9):Er (some 9) (pA q)=true:=by
 simp only [pA,Er,Bool.and_eq_true,List.length_map,beq_iff_eq]
 refine ⟨h,?_⟩
 rw [List.all_eq_true]
 intro x hx
 obtain ⟨a,_,rfl⟩:=List.mem_map.1 hx
 rfl
theorem Uf (q:List Int) (hq:q.length=9):∀(E:List PE) (i:Nat),L9 E->q∉E.map (·.1)->Du (some 9) (pA q) (pK E) i=some none
 | [],_,_,_=>rfl
 | t::r,i,hL,h=>by
  simp only [List.map_cons,List.mem_cons,not_or] at h
  have ht:=hL t (by simp)
  simp only [pK,List.map_cons,Du,Jf t.1 ht,if_true,Wu q t.1 (by omega)]
  have:decide (q=t.1)=false:=by simpa using h.1
  rw [this]
  exact Uf q hq r (i+1) (fun u hu=>hL u (by simp [hu])) h.2
theorem Ux (q:List Int) (hq:q.length=9) (t:PE) (B:List PE) (ht:t.1=q):∀(A:List PE) (i:Nat),L9 (A++t::B)->q∉A.map (·.1)->Du (some 9) (pA q) (pK (A++t::B)) i=some (some (i+A.length))
 | [],i,hL,_=>by
  simp only [pK,List.nil_append,List.map_cons,Du,ht,Jf q hq,if_true,Wu q q rfl,decide_true]
  rfl
 | u::A,i,hL,h=>by
  simp only [List.map_cons,List.mem_cons,not_or] at h
  have hu:=hL u (by simp)
  simp only [pK,List.cons_append,List.map_cons,Du,Jf u.1 hu,if_true,Wu q u.1 (by omega)]
  have:decide (q=u.1)=false:=by simpa using h.1
  rw [this]
  have:=Ux q hq t B ht A (i+1) (fun v hv=>hL v (by simp at hv ⊢; exact .inr hv)) h.2
  simp only [pK] at this
  simp only [this,List.length_cons]
  congr 2
  omega
structure MM (P:List Int×Int->Prop) (E:List PE) (c:Nat):Prop where
 nd:(E.map (·.1)).Nodup
 val:∀t∈E,P (t.1,t.2.1)
 least:∀t∈E,∀m,P (t.1,m)->t.2.1<=m
 mem:∀q m,P (q,m)->q∈E.map (·.1)
 bn:(pB E).Nodup
 bc:∀t∈E,t.2.2<c
 l9:L9 E
theorem MM.nil:MM (fun _=>False) [] 0:=⟨by simp,by simp,by simp,by simp,by simp [pB],by simp,by simp [L9]⟩
theorem MM.congr {P P':List Int×Int->Prop} {E:List PE} {c:Nat} (h:MM P E c) (hp:∀q,P q↔P' q):MM P' E c:=by
 obtain rfl:P=P':=funext fun q=>propext (hp q)
 exact h
theorem MM.split {P:List Int×Int->Prop} {E:List PE} {c:Nat} (h:MM P E c) {q:List Int} (hq:q∈E.map (·.1)):∃A n b B,E=A++(q,n,b)::B/\q∉A.map (·.1)/\q∉B.map (·.1):=by
 obtain ⟨t,ht,rfl⟩:=List.mem_map.1 hq
 obtain ⟨A,B,rfl⟩:=List.append_of_mem ht
 have h1:=h.nd
 rw [List.map_append,List.map_cons,List.nodup_append] at h1
 obtain ⟨a1,a2,a3⟩:=h1
 exact ⟨A,t.2.1,t.2.2,B,rfl,fun hm=>a3 _ hm _ List.mem_cons_self rfl,(List.nodup_cons.1 a2).1⟩
theorem MM.new {P:List Int×Int->Prop} {E:List PE} {c:Nat} (h:MM P E c) {q:List Int} {n:Int} (hl:q.length=9) (hq:q∉E.map (·.1)):MM (fun x=>P x\/x=(q,n)) (E++[(q,n,c)]) (c+1) where
 nd:=by
  rw [List.map_append,List.nodup_append]
  refine ⟨h.nd,by simp,fun a ha b hb => ?_⟩
  obtain rfl:b=q:=by simpa using hb
  exact fun e=>hq (e ▸ ha)
 val:=fun t ht=>by
  rcases List.mem_append.1 ht with ht | ht
  ·exact .inl (h.val t ht)
  ·obtain rfl:t=(q,n,c):=by simpa using ht
   exact .inr rfl
 least:=fun t ht m hm=>by
  rcases List.mem_append.1 ht with ht | ht
  ·rcases hm with hm | hm
   ·exact h.least t ht m hm
   ·have:t.1=q:=(Prod.mk.inj hm).1
    exact absurd (this ▸ List.mem_map_of_mem (f:=fun t:PE=>t.1) ht) hq
  ·obtain rfl:t=(q,n,c):=by simpa using ht
   rcases hm with hm | hm
   ·exact absurd (h.mem _ _ hm) hq
   ·have:m=n:=(Prod.mk.inj hm).2
    simp [this]
 mem:=fun r m hr=>by
  rcases hr with hr | hr
  ·have:=h.mem r m hr; simp only [List.map_append,List.mem_append]; exact .inl this
  ·have:r=q:=(Prod.mk.inj hr).1
   simp [this]
 bn:=by
  simp only [pB,List.map_append]
  rw [List.nodup_append]
  refine ⟨h.bn,by simp,fun a ha b hb => ?_⟩
  obtain rfl:b=c:=by simpa using hb
  obtain ⟨t,ht,rfl⟩:=List.mem_map.1 ha
  have:=h.bc t ht
  omega
 bc:=fun t ht=>by
  rcases List.mem_append.1 ht with ht | ht
  ·have:=h.bc t ht; omega
  ·obtain rfl:t=(q,n,c):=by simpa using ht
   simp
 l9:=fun t ht=>by
  rcases List.mem_append.1 ht with ht | ht
  ·exact h.l9 t ht
  ·obtain rfl:t=(q,n,c):=by simpa using ht
   exact hl
theorem MM.more {P:List Int×Int->Prop} {E:List PE} {c:Nat} (h:MM P E c) {t:PE} (ht:t∈E) {n:Int} (hn:t.2.1<=n):MM (fun x=>P x\/x=(t.1,n)) E c where
 nd:=h.nd
 val:=fun u hu => .inl (h.val u hu)
 least:=fun u hu m hm=>by
  rcases hm with hm | hm
  ·exact h.least u hu m hm
  ·have h1:u.1=t.1:=(Prod.mk.inj hm).1
   have h2:m=n:=(Prod.mk.inj hm).2
   have:t.2.1=u.2.1:=by
    have a:=h.least u hu t.2.1 (h1 ▸ h.val t ht)
    have b:=h.least t ht u.2.1 (h1 ▸ h.val u hu)
    omega
   omega
 mem:=fun r m hr=>by
  rcases hr with hr | hr
  ·exact h.mem r m hr
  ·have:r=t.1:=(Prod.mk.inj hr).1
   exact this ▸ List.mem_map_of_mem (f:=fun t:PE=>t.1) ht
 bn:=h.bn
 bc:=h.bc
 l9:=h.l9
theorem MM.less {P:List Int×Int->Prop} {A B:List PE} {q:List Int} {n m:Int} {b c:Nat} (h:MM P (A++(q,n,b)::B) c) (hA:q∉A.map (·.1)) (hB:q∉B.map (·.1)) (hm:m<n):MM (fun x=>P x\/x=(q,m)) (A++(q,m,b)::B) c where
 nd:=by have:=h.nd; simpa using this
 val:=fun t ht=>by
  rcases List.mem_append.1 ht with ht | ht
  ·exact .inl (h.val t (List.mem_append_left _ ht))
  ·rcases List.mem_cons.1 ht with rfl | ht
   ·exact .inr rfl
   ·exact .inl (h.val t (List.mem_append_right _ (List.mem_cons_of_mem _ ht)))
 least:=fun t ht k hk=>by
  have hother:t∈A++B->t.2.1<=k:=fun hu=>by
   have hne:t.1≠q:=fun he=>by
    rcases List.mem_append.1 hu with hu | hu
    ·exact hA (he ▸ List.mem_map_of_mem (f:=fun t:PE=>t.1) hu)
    ·exact hB (he ▸ List.mem_map_of_mem (f:=fun t:PE=>t.1) hu)
   rcases hk with hk | hk
   ·refine h.least t ?_ k hk
    rcases List.mem_append.1 hu with hu | hu
    ·exact List.mem_append_left _ hu
    ·exact List.mem_append_right _ (List.mem_cons_of_mem _ hu)
   ·exact absurd ((Prod.mk.inj hk).1) hne
  rcases List.mem_append.1 ht with ht | ht
  ·exact hother (List.mem_append_left _ ht)
  ·rcases List.mem_cons.1 ht with rfl | ht
   ·rcases hk with hk | hk
    ·have:=h.least (q,n,b) (by simp) k hk
     simp only at this ⊢
     omega
    ·have:k=m:=(Prod.mk.inj hk).2
     simp [this]
   ·exact hother (List.mem_append_right _ ht)
 mem:=fun r k hr=>by
  have:r∈(A++(q,n,b)::B).map (·.1):=by
   rcases hr with hr | hr
   ·exact h.mem r k hr
   ·have:r=q:=(Prod.mk.inj hr).1
    simp [this]
  simpa using this
 bn:=by have:=h.bn; simpa [pB] using this
 bc:=fun t ht=>by
  rcases List.mem_append.1 ht with ht | ht
  ·exact h.bc t (List.mem_append_left _ ht)
  ·rcases List.mem_cons.1 ht with rfl | ht
   ·exact h.bc (q,n,b) (by simp)
   ·exact h.bc t (List.mem_append_right _ (List.mem_cons_of_mem _ ht))
 l9:=fun t ht=>by
  rcases List.mem_append.1 ht with ht | ht
  ·exact h.l9 t (List.mem_append_left _ ht)
  ·rcases List.mem_cons.1 ht with rfl | ht
   ·exact h.l9 (q,n,b) (by simp)
   ·exact h.l9 t (List.mem_append_right _ (List.mem_cons_of_mem _ ht))
theorem B5s {P:List Int×Int->Prop} {E:List PE} {c:Nat} (h:MM P E c) {q:List Int} (hl:q.length=9) {ok:Bool} {z:AV} :
  (q∉E.map (·.1)/\lkA (some 9) z ok (pA q) (some (pK E,pV E)) = .ret (if ok then .tuple [z,.bool false] else z))\/
  ∃A n b B,E=A++(q,n,b)::B/\q∉A.map (·.1)/\q∉B.map (·.1)/\lkA (some 9) z ok (pA q) (some (pK E,pV E)) = .ret (if ok then .tuple [.int .i64 n,.bool true] else .int .i64 n):=by
 by_cases hq:q∈E.map (·.1)
 ·obtain ⟨A,n,b,B,rfl,hA,hB⟩:=h.split hq
  refine .inr ⟨A,n,b,B,rfl,hA,hB,?_⟩
  simp only [lkA,Jf q hl,if_true]
  rw [Ux q hl (q,n,b) B rfl A 0 h.l9 hA]
  simp only [pV,List.map_append,List.map_cons,Nat.zero_add]
  rw [List.getElem?_append_right (by simp)]
  simp
 ·refine .inl ⟨hq,?_⟩
  simp only [lkA,Jf q hl,if_true]
  rw [Uf q hl E 0 h.l9 hq]
theorem B2j (A B:List PE) (q:List Int) (n m:Int) (b:Nat):(pK (A++(q,n,b)::B)).set A.length (pA q)=pK (A++(q,m,b)::B):=by
 simp only [pK,List.map_append,List.map_cons]
 rw [List.set_append_right _ _ (by simp)]
 simp
theorem B1e (A B:List PE) (q:List Int) (n m:Int) (b:Nat):(pV (A++(q,n,b)::B)).set A.length (.int .i64 m)=pV (A++(q,m,b)::B):=by
 simp only [pV,List.map_append,List.map_cons]
 rw [List.set_append_right _ _ (by simp)]
 simp
theorem B3c (A B:List PE) (q:List Int) (n m:Int) (b:Nat):pB (A++(q,n,b)::B)=pB (A++(q,m,b)::B):=by simp [pB]
theorem A7j {E:List PE} {h:Bd} {key ver c:Nat} {q:List Int} {n:Int} (hH:Bc h key = .map ver c (pK E) (pV E) (pB E)) (h9:L9 E) (hl:q.length=9) (hq:q∉E.map (·.1)) :
  muA (some 9) h (pA q) (.int .i64 n) (.omap key ver) = .ret (.undef,setH h key (.map ver (c+1) (pK (E++[(q,n,c)])) (pV (E++[(q,n,c)])) (pB (E++[(q,n,c)])))):=by
 simp only [muA,hH]
 rw [if_pos ⟨trivial,Jf q hl⟩,Uf q hl E 0 h9 hq]
 simp [pK,pV,pB]
theorem Awp {A B:List PE} {h:Bd} {key ver c b:Nat} {q:List Int} {n m:Int} (hH:Bc h key = .map ver c (pK (A++(q,n,b)::B)) (pV (A++(q,n,b)::B)) (pB (A++(q,n,b)::B))) (h9:L9 (A++(q,n,b)::B)) (hl:q.length=9) (hA:q∉A.map (·.1)) :
  muA (some 9) h (pA q) (.int .i64 m) (.omap key ver) = .ret (.undef,setH h key (.map ver c (pK (A++(q,m,b)::B)) (pV (A++(q,m,b)::B)) (pB (A++(q,m,b)::B)))):=by
 simp only [muA,hH]
 rw [if_pos ⟨trivial,Jf q hl⟩,Ux q hl (q,n,b) B rfl A 0 h9 hA]
 simp only [Nat.zero_add]
 rw [B2j A B q n m b,B1e A B q n m b,B3c A B q n m b]
theorem A3d:∀E:List PE,(pK E).zip ((pV E).zip (pB E))=E.map fun t=>(pA t.1,AV.int .i64 t.2.1,t.2.2)
 | []=>rfl
 | t::r=>by
  have:=A3d r
  simp only [pK,pV,pB,List.map_cons,List.zip_cons_cons] at this ⊢
  rw [this]
theorem A6u (E:List PE) (seen:List Nat):Gp (pK E) (pV E) (pB E) seen=(E.filter fun t => !seen.contains t.2.2).map fun t=>(pA t.1,AV.int .i64 t.2.1,t.2.2):=by
 rw [Gp,A3d,List.filter_map]
 rfl
theorem Avx (E:List PE) (t:PE) (hn:(pB E).Nodup) (ht:t∈E):((pK E).zip ((pV E).zip (pB E))).find? (fun u=>u.2.2==t.2.2)=some (pA t.1,AV.int .i64 t.2.1,t.2.2):=by
 rw [A3d]
 induction E with
 | nil=>cases ht
 | cons a r ih =>
  rw [List.map_cons,List.find?_cons]
  simp only [pB,List.map_cons,List.nodup_cons] at hn
  rcases List.mem_cons.1 ht with rfl | ht
  ·simp
  ·have hne:(a.2.2==t.2.2)=false:=by
    have:a.2.2≠t.2.2:=fun h=>hn.1 (h ▸ List.mem_map_of_mem (f:=fun t:PE=>t.2.2) ht)
    simpa using this
   simp only [hne]
   exact ih hn.2 ht
theorem A3q {E:List PE} (hn:(pB E).Nodup) {u t:PE} (hu:u∈E) (ht:t∈E) (h:u.2.2=t.2.2):u=t:=by
 induction E with
 | nil=>cases hu
 | cons a r ih =>
  simp only [pB,List.map_cons,List.nodup_cons] at hn
  rcases List.mem_cons.1 hu with hu' | hu' <;> rcases List.mem_cons.1 ht with ht' | ht'
  ·rw [hu',ht']
  ·exact absurd (List.mem_map.2 ⟨t,ht',by rw [<-hu']; exact h.symm⟩) hn.1
  ·exact absurd (List.mem_map.2 ⟨u,hu',by rw [<-ht']; exact h⟩) hn.1
  ·exact ih hn.2 hu' ht'
theorem Qy {n base:Nat} {Q:EX×St->Prop} {d:Option Nat} {L:List IOper} {kk:List Kont} {e:Env} {h:Bd} {key ver mk mv clock:Nat} {E:List PE} {seen:List Nat}
  (hi:Bc h key = .iter ver mk mv clock seen clock) (hm:Bc h mk = .map mv clock (pK E) (pV E) (pB E)) (hb:∀t∈E,t.2.2<clock)
  (hE:(∀t∈E,t.2.2∈seen)->GO (Bf T n) base Q L kk ⟨Bk e d (.tuple [.bool false]),h⟩)
  (hN:∀t∈E,t.2.2∉seen->GO (Bf T n) base Q L kk ⟨Bk e d (.tuple [.bool true,pA t.1,.int .i64 t.2.1]),setH h key (.iter ver mk mv clock (seen++[t.2.2]) clock)⟩) :
  GP (Bf T n) base Q d L kk e (nxA h (.iter key ver)):=by
 refine Vo hi hm ?_ (Nat.le_refl _) ?_ ?_
 ·intro b hb'
  obtain ⟨t,ht,rfl⟩:=List.mem_map.1 hb'
  exact hb t ht
 ·intro hl
  rw [A6u] at hl
  refine hE fun t ht => ?_
  have:=List.map_eq_nil_iff.1 hl
  rw [List.filter_eq_nil_iff] at this
  simpa using this t ht
 ·intro k v b hmem
  rw [A6u] at hmem
  obtain ⟨t,ht,he⟩:=List.mem_map.1 hmem
  obtain ⟨h1,h2⟩:=List.mem_filter.1 ht
  cases he
  exact hN t h1 (by simpa using h2)
theorem Yj {h:Bd} {key ver mk mv clock since:Nat} {E:List PE} {seen:List Nat} {t:PE}
  (hi:Bc h key = .iter ver mk mv since (seen++[t.2.2]) clock) (hm:Bc h mk = .map mv clock (pK E) (pV E) (pB E)) (hn:(pB E).Nodup) (ht:t∈E) :
  enA h (.iter key ver) = .ret (.tuple [pA t.1,.int .i64 t.2.1]):=by
 simp only [enA,hi,hm,List.getLast?_append,List.getLast?_singleton,Option.some_or]
 rw [if_pos ⟨trivial,trivial,trivial⟩,Avx E t hn ht]
theorem Vj {E:List PE} {seen:List Nat} {t:PE} (ht:t∈E) (hnt:t.2.2∉seen):(E.filter fun u => !(seen++[t.2.2]).contains u.2.2).length<(E.filter fun u => !seen.contains u.2.2).length:=by
 refine Hf _ _ (fun u hu => ?_) t ?_ ?_ E ht
 ·simp at hu ⊢
  exact hu.1
 ·simpa using hnt
 ·simp
theorem Uo {E:List PE} {seen:List Nat} {t:PE} (hn:(pB E).Nodup) (ht:t∈E) (f:PE->List Int×Int->Prop) (x:List Int×Int) :
  (∃u∈E,u.2.2∈seen++[t.2.2]/\f u x)↔(∃u∈E,u.2.2∈seen/\f u x)\/f t x:=by
 constructor
 ·rintro ⟨u,hu,hs,hf⟩
  rcases List.mem_append.1 hs with hs | hs
  ·exact .inl ⟨u,hu,hs,hf⟩
  ·obtain rfl:=A3q hn hu ht (by simpa using hs)
   exact .inr hf
 ·rintro (⟨u,hu,hs,hf⟩ | hf)
  ·exact ⟨u,hu,List.mem_append_left _ hs,hf⟩
  ·exact ⟨t,ht,by simp,hf⟩
end Go.Ev.YtgehhippjhealaaGreatC
