/- The code of functions that are walked, compiled for the evaluator, as text. The determinant of a table, as the program reckons it: step by step, each number out of four, while none grows too great. Maps whose keys are links, two numbers each: what is found, what comes in, what goes, and a range over them. Maps with keys of two numbers: a range that deletes some of them. Maps whose keys are arrays of nine numbers, with a cost each: what is found, what comes in, and a range over them. No condition but those that stand in each. -/
import Derived.Test.YtbgodhhdojjbmaaGreatATopW
import Derived.Test.YtbgodhhdojjbmaaGreatAEvKer3
set_option linter.unusedSimpArgs false
set_option linter.unusedVariables false
set_option maxRecDepth 100000
namespace Go.Ev.YtbgodhhdojjbmaaGreatC
open Go.Proofs
def c376:IFunc:=⟨157,[.tmp 2],sO [dO 2 (.mv (cI 0))] (sO [⟨some 20,.mkMap,none⟩,mV 3 20] (sO [dO 4 (.alloc [.int .i64 0,.int .i64 0,.int .i64 0,.int .i64 0,.int .i64 0,.int .i64 0,.int .i64 0,.int .i64 0])] (.seq (sO [mV 21 0,dO 22 (.nilCheck (tM 21)),dO 23 (.fieldAddr 0 (tM 22)),dO 24 (.fieldAddr 1 (tM 23)),lD 25 24,lN 26 25,dO 27 (.mv (cI 0))] (.block 0 (.loop (sO [bB 28 .lss 27 26] (.seq (.cond (tM 28) .skip (.exit 0)) (.seq (.block 1 (sO [dO 29 (.indexAddr 2 (tM 25) (tM 27)),dO 30 (.load (some 2) (tM 29)),dO 6 (.alloc [.int .i64 0,.int .i64 0]),eO (.store 2 (tM 6) (tM 30))] (sO [mV 31 3,dO 32 (.indexAddrA 2 1 (tM 6) (cI 0)),lD 33 32,dO 34 (.indexAddrA 2 1 (tM 6) (cI 1)),lD 35 34,dO 36 (.build [.int .i64 0,.int .i64 0] [(0,(1,tM 33)),(1,(1,tM 35))]),dO 37 (.lookup (some 2) (.int .i64 0) false (tM 31) (tM 36)),bC 38 .add 37 1,dO 39 (.mapEntry (some 2) (.int .i64 0) (tM 31) (tM 36)),xT 40 39 1,eO (.entryStore (tM 31) (tM 40) (tM 38))] (.ops [dO 41 (.indexAddrA 2 1 (tM 6) (cI 0)),lD 42 41,dO 43 (.indexAddrA 8 1 (tM 4) (tM 42)),lD 44 43,bC 45 .add 44 1,dO 46 (.indexAddrA 8 1 (tM 4) (tM 42)),eO (.store 1 (tM 46) (tM 45))])))) (.ops [bC 47 .add 27 1,mV 27 47]))))))) (.seq (sO [mV 48 3,dO 49 (.range (tM 48))] (.block 2 (.loop (sO [dO 50 (.next (tM 49)),xT 51 50 0] (.seq (.cond (tM 51) .skip (.exit 2)) (.block 3 (sO [dO 52 (.entry (tM 49)),xT 53 52 0,dO 7 (.alloc [.int .i64 0,.int .i64 0]),eO (.store 2 (tM 7) (tM 53))] (sO [dO 54 (.fieldAddr 0 (tM 7)),lD 55 54,dO 56 (.fieldAddr 1 (tM 7)),lD 57 56,bB 58 .eql 55 57] (.cond (tM 58) (.ops [mV 59 3,dO 60 (.load (some 2) (tM 7)),eO (.delete (some 2) (tM 59) (tM 60))]) .skip))))))))) (sO [dO 8 (.mv (.const (.slice none [] true)))] (sO [dO 9 (.mv (cI 1))] (.seq (sO [dO 61 (.load (some 8) (tM 4)),dO 62 (.mv (cI 0))] (.block 4 (.loop (sO [bC 63 .lss 62 8] (.seq (.cond (tM 63) .skip (.exit 4)) (.seq (.block 5 (sO [mV 64 62,dO 65 (.index none 8 (tM 61) (tM 62)),mV 10 64,mV 11 65] (.seq (sO [mV 66 11,bC 67 .gtr 66 0,mV 68 67,gV 69 10 68 true,gV 70 0 68 true,gO 71 (.nilCheck (tM 70)) 68 true,gO 72 (.fieldAddr 0 (tM 71)) 68 true,gO 73 (.fieldAddr 1 (tM 72)) 68 true,gO 74 (.load none (tM 73)) 68 true,gO 75 (.indexAddr 2 (tM 74) (cI 0)) 68 true,gO 76 (.indexAddrA 2 1 (tM 75) (cI 0)) 68 true,gO 77 (.load none (tM 76)) 68 true,gO 78 (.bin .neq (tM 69) (tM 77)) 68 true,dO 79 (.pick (tM 68) (tM 78) (cB false))] (.cond (tM 79) (.ops [mV 80 8,mV 81 10,dO 82 (.buildSlice none [.int .i64 0] [(0,(1,tM 81))]),dO 83 (.append none 8 (tM 80) (tM 82)),mV 8 83]) .skip)) (sO [dO 12 (.mv (cI 2))] (.block 6 (.loop (.seq (sO [mV 84 12,mV 85 11,bB 86 .lss 84 85] (.cond (tM 86) .skip (.exit 6))) (.seq (.block 7 (.ops [mV 89 9,mV 90 12,bB 91 .mul 89 90,mV 9 91])) (.ops [mV 87 12,bC 88 .add 87 1,mV 12 88]))))))))) (.ops [bC 92 .add 62 1,mV 62 92]))))))) (sO [mV 93 8,lN 94 93,dO 95 (.mkSlice none [.slice none [] true] 24 (tM 94) (tM 94)),mV 13 95] (.seq (sO [mV 96 8,lN 97 96,dO 98 (.mv (cI 0))] (.block 8 (.loop (sO [bB 99 .lss 98 97] (.seq (.cond (tM 99) .skip (.exit 8)) (.seq (.block 9 (sO [mV 100 98,iA 101 96 98,lD 102 101,mV 14 100,mV 15 102] (sO [mV 103 13,mV 104 14,mV 105 8,lN 106 105,dO 107 (.mkSlice none [.int .i64 0] 8 (tM 106) (tM 106)),iA 108 103 104,eO (.store 1 (tM 108) (tM 107))] (.seq (sO [mV 109 3,dO 110 (.range (tM 109))] (.block 10 (.loop (sO [dO 111 (.next (tM 110)),xT 112 111 0] (.seq (.cond (tM 112) .skip (.exit 10)) (.block 11 (sO [dO 113 (.entry (tM 110)),xT 114 113 0,xT 115 113 1,dO 16 (.alloc [.int .i64 0,.int .i64 0]),eO (.store 2 (tM 16) (tM 114)),mV 17 115] (sO [dO 116 (.fieldAddr 0 (tM 16)),lD 117 116,mV 118 15,bB 119 .eql 117 118] (.cond (tM 119) (.ops [mV 120 13,mV 121 14,iA 122 120 121,lD 123 122,mV 124 14,iA 125 123 124,lD 126 125,mV 127 17,bB 128 .add 126 127,iA 129 123 124,eO (.store 1 (tM 129) (tM 128))]) .skip))))))))) (sO [mV 130 8,lN 131 130,dO 132 (.mv (cI 0))] (.block 12 (.loop (sO [bB 133 .lss 132 131] (.seq (.cond (tM 133) .skip (.exit 12)) (.seq (.block 13 (sO [mV 134 132,iA 135 130 132,lD 136 135,mV 18 134,mV 19 136] (.ops [mV 137 13,mV 138 14,iA 139 137 138,lD 140 139,mV 141 18,iA 142 140 141,lD 143 142,mV 144 3,mV 145 15,mV 146 19,dO 147 (.build [.int .i64 0,.int .i64 0] [(0,(1,tM 145)),(1,(1,tM 146))]),dO 148 (.lookup (some 2) (.int .i64 0) false (tM 144) (tM 147)),bB 149 .sub 143 148,iA 150 140 141,eO (.store 1 (tM 150) (tM 149))]))) (.ops [bC 151 .add 132 1,mV 132 151]))))))))))) (.ops [bC 152 .add 98 1,mV 98 152]))))))) (sO [mV 153 9,mV 154 13,dO 155 (.callF true 458 [tM 154]),bB 156 .mul 153 155,mV 2 156] .ret))))))))))⟩
theorem k376:(Bm Tryz.prog byr).fns 376=some c376:=by kernel_rfl
theorem t376:T.fns 376=some c376:=Bp k376 (by decide) (by decide)
def c458:IFunc:=⟨76,[.tmp 2],sO [dO 2 (.mv (cI 0))] (sO [dO 3 (.mv (cI 1))] (.seq (sO [mV 7 0,lN 8 7,dO 9 (.mv (cI 0))] (.block 0 (.loop (sO [bB 10 .lss 9 8] (.seq (.cond (tM 10) .skip (.exit 0)) (.seq (.block 1 (sO [mV 11 9,mV 4 11] (.seq (sO [mV 12 4,bC 13 .add 12 1,mV 5 13] (.block 2 (.loop (.seq (sO [mV 14 5,mV 15 0,lN 16 15,bB 17 .lss 14 16] (.cond (tM 17) .skip (.exit 2))) (.seq (.block 3 (sO [mV 20 4,bC 21 .add 20 1,mV 6 21] (.block 4 (.loop (.seq (sO [mV 22 6,mV 23 0,lN 24 23,bB 25 .lss 22 24] (.cond (tM 25) .skip (.exit 4))) (.seq (.block 5 (.ops [mV 28 0,mV 29 5,iA 30 28 29,lD 31 30,mV 32 6,mV 33 0,mV 34 5,iA 35 33 34,lD 36 35,mV 37 6,iA 38 36 37,lD 39 38,mV 40 0,mV 41 4,iA 42 40 41,lD 43 42,mV 44 4,iA 45 43 44,lD 46 45,bB 47 .mul 39 46,mV 48 0,mV 49 5,iA 50 48 49,lD 51 50,mV 52 4,iA 53 51 52,lD 54 53,mV 55 0,mV 56 4,iA 57 55 56,lD 58 57,mV 59 6,iA 60 58 59,lD 61 60,bB 62 .mul 54 61,bB 63 .sub 47 62,mV 64 3,bB 65 .quo 63 64,iA 66 31 32,eO (.store 1 (tM 66) (tM 65))])) (.ops [mV 26 6,bC 27 .add 26 1,mV 6 27]))))))) (.ops [mV 18 5,bC 19 .add 18 1,mV 5 19])))))) (.ops [mV 67 0,mV 68 4,iA 69 67 68,lD 70 69,mV 71 4,iA 72 70 71,lD 73 72,mV 3 73])))) (.ops [bC 74 .add 9 1,mV 9 74]))))))) (sO [mV 75 3,mV 2 75] .ret)))⟩
theorem k458:(Bm Tryz.prog byr).fns 458=some c458:=by kernel_rfl
theorem t458:T.fns 458=some c458:=Bp k458 (by decide) (by decide)
end Go.Ev.YtbgodhhdojjbmaaGreatC
namespace Go.Ev.YtbgodhhdojjbmaaGreatC
open Go Go.Proofs
attribute [local irreducible] Res.all evC Do Dr Bv Bd Dw Bg Bj G GO GV GP GC R
structure TabAt (h:Bc) (kt m:Nat) (kk:Nat->Nat) (F:Nat->Nat->Int):Prop where
 tab:Bb h kt = .cells 0 ((List.range m).map fun a => .oslice (kk a) 0 none 0 m (some m))
 row:∀a,a<m->Bb h (kk a) = .cells 0 ((List.range m).map fun b => .int .i64 (F a b))
 inj:∀a b,a<m->b<m->kk a=kk b->a=b
 ne:∀a,a<m->kk a≠kt
theorem Hj {α:Type} (m i:Nat) (f:Nat->α) (hi:i<m):((List.range m).map f)[i]? = some (f i):=by
 rw [List.getElem?_map,List.getElem?_range hi]; rfl
theorem Sp (m i:Nat) (f:Nat->AV) (hi:i<m):rd none ((List.range m).map f) i = .ret (f i):=by
 simp only [rd,Hj m i f hi]; rfl
theorem Qe {α:Type} (m i:Nat) (f:Nat->α) (v:α):((List.range m).map f).set i v=(List.range m).map fun b=>if b=i then v else f b:=by
 apply List.ext_getElem?
 intro j
 rw [List.getElem?_set]
 by_cases hj:j<m
 ·rw [Hj m j _ hj,Hj m j _ hj]
  by_cases hij:i=j
  ·subst hij; simp [hj]
  ·rw [if_neg hij,if_neg (fun h=>hij h.symm)]
 ·rw [List.getElem?_eq_none (by simp; omega),List.getElem?_eq_none (by simp; omega)]
  split
  ·next h=>rw [if_neg (by simp; omega)]
  ·rfl
theorem TabAt.upd {h:Bc} {kt m:Nat} {kk:Nat->Nat} {F:Nat->Nat->Int} (ht:TabAt h kt m kk F) {i j:Nat} (hi:i<m) (v:Int) :
  TabAt (setH h (kk i) (.cells 0 (((List.range m).map fun b=>AV.int .i64 (F i b)).set j (.int .i64 v)))) kt m kk (fun a b=>if a=i/\b=j then v else F a b) where
 tab:=by rw [Ba _ _ _ _ (ht.ne i hi)]; exact ht.tab
 row:=fun a ha=>by
  by_cases hai:a=i
  ·subst hai
   rw [getH_setH_self,Qe]
   congr 1
   apply List.map_congr_left
   intro b hb
   simp only [true_and]
   split <;> rfl
  ·rw [Ba _ _ _ _ (fun h=>hai (ht.inj _ _ hi ha h).symm),ht.row a ha]
   congr 1
   apply List.map_congr_left
   intro b hb
   rw [if_neg (fun h=>hai h.1)]
 inj:=ht.inj
 ne:=ht.ne
theorem TabAt.congr {h:Bc} {kt m:Nat} {kk:Nat->Nat} {F G:Nat->Nat->Int} (ht:TabAt h kt m kk F) (hg:∀a b,a<m->b<m->F a b=G a b):TabAt h kt m kk G where
 tab:=ht.tab
 row:=fun a ha=>by
  rw [ht.row a ha]
  congr 1
  apply List.map_congr_left
  intro b hb
  rw [hg a b ha (by simpa using hb)]
 inj:=ht.inj
 ne:=ht.ne
theorem TabAt.ldt {h:Bc} {kt m:Nat} {kk:Nat->Nat} {F:Nat->Nat->Int} (ht:TabAt h kt m kk F) {a:Nat} (ha:a<m):ldA none h (.optr kt 0 a) = .ret (.oslice (kk a) 0 none 0 m (some m)):=by
 simp only [ldA,ht.tab,if_true,Sp m a _ ha]
theorem TabAt.ldr {h:Bc} {kt m:Nat} {kk:Nat->Nat} {F:Nat->Nat->Int} (ht:TabAt h kt m kk F) {a b:Nat} (ha:a<m) (hb:b<m):ldA none h (.optr (kk a) 0 b) = .ret (.int .i64 (F a b)):=by
 simp only [ldA,ht.row a ha,if_true,Sp m b _ hb]
theorem Avs {a b:Int} (hb:b≠0) (h1 : -9223372036854775808<=a.tdiv b) (h2:a.tdiv b<=9223372036854775807):Ef .quo (.int .i64 a) (.int .i64 b) = .ret (.int .i64 (a.tdiv b)):=by
 simp only [Ef,Kg,if_true]
 rw [if_neg hb,wrap64 h1 h2]
def stg (k i j a b:Nat):Nat:=if k<a/\k<b/\(a<i\/(a=i/\b<j)) then k+1 else min k (min a b)
theorem Aoc (k a b:Nat):stg k (k+1) 0 a b=min k (min a b):=by unfold stg; split <;> omega
theorem B8b {k i:Nat} (a b:Nat) (h:k<i):stg k i (k+1) a b=stg k i 0 a b:=by unfold stg; split <;> split <;> omega
theorem B8c {k i m b:Nat} (a:Nat) (h:b<m):stg k i m a b=stg k (i+1) 0 a b:=by unfold stg; split <;> split <;> omega
theorem B8d {k m a:Nat} (b:Nat) (h:a<m):stg k m 0 a b=min (k+1) (min a b):=by unfold stg; split <;> omega
theorem B0f {k i j:Nat} (a b:Nat) (h:¬(a=i/\b=j)):stg k i j a b=stg k i (j+1) a b:=by unfold stg; split <;> split <;> omega
theorem B0e {k i j:Nat} (h1:k<i) (h2:k<j):stg k i (j+1) i j=k+1:=by unfold stg; split <;> omega
structure Bar (m:Nat) (X:Nat->Nat->Nat->Int) (L:Nat->Int):Prop where
 l0:L 0=1
 ls:∀k,k<m->L (k+1)=X k k k
 nz:∀k,k<m->L k≠0
 st:∀k i j,k<i->i<m->k<j->j<m->X (k+1) i j=(X k i j*X k k k-X k i k*X k k j).tdiv (L k)
 lo:∀k i j,-1073741824<=X k i j
 hi:∀k i j,X k i j<=1073741824
theorem Acl {a b:Int} (h1 : -1073741824<=a) (h2:a<=1073741824) (h3 : -1073741824<=b) (h4:b<=1073741824) : -1152921504606846976<=a*b/\a*b<=1152921504606846976:=by
 have h5:a.natAbs<=1073741824:=by omega
 have h6:b.natAbs<=1073741824:=by omega
 have h7:=Nat.mul_le_mul h5 h6
 rw [<-Int.natAbs_mul] at h7
 omega
theorem TabAt.pad {h:Bc} {kt m:Nat} {kk:Nat->Nat} {F:Nat->Nat->Int} (ht:TabAt h kt m kk F) (n:Nat):TabAt (h++List.replicate n .none) kt m kk F where
 tab:=by rw [Bi]; exact ht.tab
 row:=fun a ha=>by rw [Bi]; exact ht.row a ha
 inj:=ht.inj
 ne:=ht.ne
theorem A9l {a b:Int} (h1 : -4611686018427387904<=a) (h2:a<=4611686018427387904) : -9223372036854775808<=a.tdiv b/\a.tdiv b<=9223372036854775807:=by
 have h3:(a.tdiv b).natAbs<=a.natAbs:=by rw [Int.natAbs_tdiv]; exact Nat.div_le_self _ _
 omega
set_option maxHeartbeats 4000000 in
theorem Aqw {m:Nat} {X:Nat->Nat->Nat->Int} {L:Nat->Int} (hX:Bar m X L) (hm:m<=64) {kt:Nat} {kk:Nat->Nat} {h0:Bc} (ht0:TabAt h0 kt m kk (X 0)) (n:Nat) {V:AV×Bc->Prop} (hV:∀h',V (.int .i64 (L m),h')) :
  (Bg T (n+1) true (.fn 458) [.oslice kt 0 none 0 m (some m)] h0).all V:=by
 rw [Ew t458]
 simp (disch:=first | assumption | omega) only [c458,go_sem,↓reduceIte]
 refine Dm (fun M st=>∃k,M=m-k/\k<=m/\At st.env [(0,.oslice kt 0 none 0 m (some m)),(3,.int .i64 (L k)),(8,.int .i64 m),(9,.int .i64 k)]/\TabAt st.heap kt m kk (fun a b=>X (min k (min a b)) a b)) m (by omega)
  ⟨0,rfl,by omega,by simp only [go_sem,↓reduceIte,hX.l0],(ht0.pad 76).congr fun a b _ _=>by rw [Nat.zero_min]⟩ ?_
 rintro M e h hM ⟨k,rfl,hk,hE,hT⟩ P hP
 simp only [Bz,Dc] at hE hT
 obtain ⟨f0,f3,f8,f9,-⟩:=hE
 by_cases hlt:k<m
 ·simp (disch:=first | assumption | omega) only [go_sem,↓reduceIte,f0,f3,f8,f9,hlt]
  refine Dm (fun M st=>∃i,M=m-i/\k<i/\i<=m/\At st.env [(0,.oslice kt 0 none 0 m (some m)),(3,.int .i64 (L k)),(4,.int .i64 k),(5,.int .i64 i),(8,.int .i64 m),(9,.int .i64 k)]/\TabAt st.heap kt m kk (fun a b=>X (stg k i 0 a b) a b)) (m-(k+1)) (by omega)
   ⟨k+1,rfl,by omega,by omega,by simp only [go_sem,↓reduceIte,f0,f3,f8,f9],hT.congr fun a b _ _=>by rw [Aoc]⟩ ?_
  rintro M e2 h2 hM2 ⟨i,rfl,hki,hi,hE2,hT2⟩ P2 hP2
  simp only [Bz,Dc] at hE2 hT2
  obtain ⟨g0,g3,g4,g5,g8,g9,-⟩:=hE2
  by_cases hlt2:i<m
  ·simp (disch:=first | assumption | omega) only [go_sem,↓reduceIte,g0,g3,g4,g5,g8,g9,hlt2]
   refine Dm (fun M st=>∃j,M=m-j/\k<j/\j<=m/\At st.env [(0,.oslice kt 0 none 0 m (some m)),(3,.int .i64 (L k)),(4,.int .i64 k),(5,.int .i64 i),(6,.int .i64 j),(8,.int .i64 m),(9,.int .i64 k)]/\TabAt st.heap kt m kk (fun a b=>X (stg k i j a b) a b)) (m-(k+1)) (by omega)
    ⟨k+1,rfl,by omega,by omega,by simp only [go_sem,↓reduceIte,g0,g3,g4,g5,g8,g9],hT2.congr fun a b _ _=>by rw [B8b a b hki]⟩ ?_
   rintro M e3 h3 hM3 ⟨j,rfl,hkj,hj,hE3,hT3⟩ P3 hP3
   simp only [Bz,Dc] at hE3 hT3
   obtain ⟨q0,q3,q4,q5,q6,q8,q9,-⟩:=hE3
   by_cases hlt3:j<m
   ·have e1:=hT3.ldt hlt2
    have e2:=hT3.ldt hlt
    have d1:=hT3.ldr hlt2 hlt3
    have d2:=hT3.ldr hlt hlt
    have d3:=hT3.ldr hlt2 hlt
    have d4:=hT3.ldr hlt hlt3
    have s1:stg k i j i j=k:=by unfold stg; split <;> omega
    have s2:stg k i j k k=k:=by unfold stg; split <;> omega
    have s3:stg k i j i k=k:=by unfold stg; split <;> omega
    have s4:stg k i j k j=k:=by unfold stg; split <;> omega
    rw [s1] at d1; rw [s2] at d2; rw [s3] at d3; rw [s4] at d4
    have r1:=hT3.row i hlt2
    have m1:=Acl (hX.lo k i j) (hX.hi k i j) (hX.lo k k k) (hX.hi k k k)
    have m2:=Acl (hX.lo k i k) (hX.hi k i k) (hX.lo k k j) (hX.hi k k j)
    have hst:=hX.st k i j hki hlt2 hkj hlt3
    generalize hp1:X k i j*X k k k=p1 at *
    generalize hp2:X k i k*X k k j=p2 at *
    have hq:Ef .quo (.int .i64 (p1-p2)) (.int .i64 (L k)) = .ret (.int .i64 (X (k+1) i j)):=by
     rw [hst]
     exact Avs (hX.nz k hlt) (A9l (by omega) (by omega)).1 (A9l (by omega) (by omega)).2
    simp (disch:=first | assumption | omega) only [go_sem,↓reduceIte,q0,q3,q4,q5,q6,q8,q9,hlt,hlt2,hlt3,e1,e2,d1,d2,d3,d4,hp1,hp2,hq,r1,List.length_map,List.length_range]
    refine ⟨by omega,?_⟩
    refine hP3 (m-(j+1)) _ (by omega) ⟨j+1,rfl,by omega,by omega,by simp only [go_sem,↓reduceIte,q0,q3,q4,q5,q6,q8,q9],?_⟩
    exact (hT3.upd hlt2 (X (k+1) i j) (j:=j)).congr fun a b ha hb=>by
     by_cases hab:a=i/\b=j
     ·obtain ⟨rfl,rfl⟩:=hab
      rw [if_pos ⟨rfl,rfl⟩,B0e hki hkj]
     ·rw [if_neg hab,B0f a b hab]
   ·obtain rfl:j=m:=by omega
    simp (disch:=first | assumption | omega) only [go_sem,↓reduceIte,q0,q3,q4,q5,q6,q8,q9,hlt3]
    exact hP2 (j-(i+1)) _ (by omega) ⟨i+1,rfl,by omega,by omega,by simp only [go_sem,↓reduceIte,q0,q3,q4,q5,q8,q9],hT3.congr fun a b ha hb=>by rw [B8c a hb]⟩
  ·obtain rfl:i=m:=by omega
   have e1:=hT2.ldt hlt
   have d1:=hT2.ldr hlt hlt
   have s1:stg k i 0 k k=k:=by unfold stg; split <;> omega
   rw [s1] at d1
   simp (disch:=first | assumption | omega) only [go_sem,↓reduceIte,g0,g3,g4,g5,g8,g9,hlt2,hlt,e1,d1]
   exact hP (i-(k+1)) _ (by omega) ⟨k+1,rfl,by omega,by simp only [go_sem,↓reduceIte,g0,g3,g8,g9,hX.ls k hlt],hT2.congr fun a b ha hb=>by rw [B8d b ha]⟩
 ·obtain rfl:k=m:=by omega
  simp (disch:=first | assumption | omega) only [go_sem,↓reduceIte,f0,f3,f8,f9,hlt]
  exact hV _
def edA (q:Nat×Nat):AV:=.agg [.int .i64 q.1,.int .i64 q.2]
abbrev LE:=(Nat×Nat)×Nat×Nat
def eK (E:List LE):List AV:=E.map fun t=>edA t.1
def eV (E:List LE):List AV:=E.map fun t => .int .i64 (t.2.1:Nat)
def eB (E:List LE):List Nat:=E.map (·.2.2)
theorem Vy (q r:Nat×Nat):Ec (edA q).cells (edA r).cells=some (decide (q=r)):=by
 obtain ⟨a,b⟩:=q
 obtain ⟨c,d⟩:=r
 simp only [edA,AV.cells,Ec,if_true]
 by_cases h1:(a:Int)=c
 ·rw [if_pos h1]
  have h1':a=c:=by omega
  by_cases h2:(b:Int)=d
  ·rw [if_pos h2]
   have h2':b=d:=by omega
   simp [h1',h2']
  ·rw [if_neg h2]
   have h2':¬b=d:=by omega
   simp [h2']
 ·rw [if_neg h1]
  have h1':¬a=c:=by omega
  simp [h1']
theorem Ie (q:Nat×Nat):Ei (some 2) (edA q)=true:=rfl
theorem Lo (q:Nat×Nat):∀(E:List LE) (i:Nat),q∉E.map (·.1)->Du (some 2) (edA q) (eK E) i=some none
 | [],_,_=>rfl
 | t::r,i,h=>by
  simp only [List.map_cons,List.mem_cons,not_or] at h
  simp only [eK,List.map_cons,Du,Ie,if_true,Vy]
  have:decide (q=t.1)=false:=by simpa using h.1
  rw [this]
  exact Lo q r (i+1) h.2
theorem Hy (q:Nat×Nat) (t:LE) (B:List LE) (ht:t.1=q):∀(A:List LE) (i:Nat),q∉A.map (·.1)->Du (some 2) (edA q) (eK (A++t::B)) i=some (some (i+A.length))
 | [],i,_=>by
  simp only [eK,List.nil_append,List.map_cons,Du,Ie,if_true,Vy,ht,decide_true]
  rfl
 | u::A,i,h=>by
  simp only [List.map_cons,List.mem_cons,not_or] at h
  simp only [eK,List.cons_append,List.map_cons,Du,Ie,if_true,Vy]
  have:decide (q=u.1)=false:=by simpa using h.1
  rw [this]
  have:=Hy q t B ht A (i+1) h.2
  simp only [eK] at this
  simp only [this,List.length_cons]
  congr 2
  omega
theorem Wb (b:Nat) (B:List Nat):∀(A:List Nat) (i:Nat),b∉A->Ji b (A++b::B) i=some (i+A.length)
 | [],i,_=>by simp [Ji]
 | c::A,i,h=>by
  simp only [List.mem_cons,not_or] at h
  simp only [List.cons_append,Ji]
  rw [if_neg (fun e=>h.1 e.symm),Wb b B A (i+1) h.2]
  simp only [List.length_cons]
  congr 1
  omega
structure LM (p:List (Nat×Nat)) (E:List LE) (c:Nat):Prop where
 nd:(E.map (·.1)).Nodup
 cnt:∀t∈E,t.2.1=p.count t.1
 mem:∀q∈p,q∈E.map (·.1)
 sub:∀t∈E,t.1∈p
 bn:(eB E).Nodup
 bc:∀t∈E,t.2.2<c
theorem LM.nil:LM [] [] 0:=⟨by simp,by simp,by simp,by simp,by simp [eB],by simp⟩
theorem LM.split {p:List (Nat×Nat)} {E:List LE} {c:Nat} (h:LM p E c) {q:Nat×Nat} (hq:q∈E.map (·.1)):∃A n b B,E=A++(q,n,b)::B/\q∉A.map (·.1)/\q∉B.map (·.1)/\b∉eB A/\b∉eB B/\n=p.count q:=by
 obtain ⟨t,ht,rfl⟩:=List.mem_map.1 hq
 obtain ⟨A,B,rfl⟩:=List.append_of_mem ht
 have h1:=h.nd
 have h2:=h.bn
 rw [List.map_append,List.map_cons,List.nodup_append] at h1
 simp only [eB] at h2 ⊢
 rw [List.map_append,List.map_cons,List.nodup_append] at h2
 obtain ⟨a1,a2,a3⟩:=h1
 obtain ⟨b1,b2,b3⟩:=h2
 refine ⟨A,t.2.1,t.2.2,B,rfl,fun hm => ?_,(List.nodup_cons.1 a2).1,fun hm => ?_,(List.nodup_cons.1 b2).1,h.cnt t (by simp)⟩
 ·exact a3 _ hm _ List.mem_cons_self rfl
 ·exact b3 _ hm _ List.mem_cons_self rfl
theorem LM.old {p:List (Nat×Nat)} {A B:List LE} {q:Nat×Nat} {n b c:Nat} (h:LM p (A++(q,n,b)::B) c) (hA:q∉A.map (·.1)) (hB:q∉B.map (·.1)):LM (p++[q]) (A++(q,n+1,b)::B) c where
 nd:=by have:=h.nd; simpa using this
 cnt:=fun t ht=>by
  have hne:∀u∈A++B,u.1≠q:=fun u hu he=>by
   rcases List.mem_append.1 hu with hu | hu
   ·exact hA (he ▸ List.mem_map_of_mem (f:=fun t:LE=>t.1) hu)
   ·exact hB (he ▸ List.mem_map_of_mem (f:=fun t:LE=>t.1) hu)
  rw [List.count_append]
  rcases List.mem_append.1 ht with ht | ht
  ·rw [h.cnt t (List.mem_append_left _ ht),List.count_singleton]
   have:=hne t (List.mem_append_left _ ht)
   simp [this.symm]
  ·rcases List.mem_cons.1 ht with rfl | ht
   ·have:=h.cnt (q,n,b) (by simp)
    simp only at this ⊢
    rw [this]; simp
   ·rw [h.cnt t (List.mem_append_right _ (List.mem_cons_of_mem _ ht)),List.count_singleton]
    have:=hne t (List.mem_append_right _ ht)
    simp [this.symm]
 mem:=fun r hr=>by
  have:r∈(A++(q,n,b)::B).map (·.1):=by
   rcases List.mem_append.1 hr with hr | hr
   ·exact h.mem r hr
   ·obtain rfl:r=q:=by simpa using hr
    simp
  simpa using this
 sub:=fun t ht=>by
  rcases List.mem_append.1 ht with ht | ht
  ·exact List.mem_append_left _ (h.sub t (List.mem_append_left _ ht))
  ·rcases List.mem_cons.1 ht with rfl | ht
   ·simp
   ·exact List.mem_append_left _ (h.sub t (List.mem_append_right _ (List.mem_cons_of_mem _ ht)))
 bn:=by have:=h.bn; simpa [eB] using this
 bc:=fun t ht=>by
  rcases List.mem_append.1 ht with ht | ht
  ·exact h.bc t (List.mem_append_left _ ht)
  ·rcases List.mem_cons.1 ht with rfl | ht
   ·exact h.bc (q,n,b) (by simp)
   ·exact h.bc t (List.mem_append_right _ (List.mem_cons_of_mem _ ht))
theorem LM.new {p:List (Nat×Nat)} {E:List LE} {q:Nat×Nat} {c:Nat} (h:LM p E c) (hq:q∉E.map (·.1)):LM (p++[q]) (E++[(q,1,c)]) (c+1) where
 nd:=by
  rw [List.map_append,List.nodup_append]
  refine ⟨h.nd,by simp,fun a ha b hb => ?_⟩
  obtain rfl:b=q:=by simpa using hb
  exact fun e=>hq (e ▸ ha)
 cnt:=fun t ht=>by
  rw [List.count_append]
  rcases List.mem_append.1 ht with ht | ht
  ·rw [h.cnt t ht,List.count_singleton]
   have:t.1≠q:=fun e=>hq (e ▸ List.mem_map_of_mem (f:=fun t:LE=>t.1) ht)
   simp [this.symm]
  ·obtain rfl:t=(q,1,c):=by simpa using ht
   have:p.count q=0:=List.count_eq_zero.2 fun hm=>hq (h.mem q hm)
   simp [this]
 mem:=fun r hr=>by
  rcases List.mem_append.1 hr with hr | hr
  ·have:=h.mem r hr; simp only [List.map_append,List.mem_append]; exact .inl this
  ·obtain rfl:r=q:=by simpa using hr
   simp
 sub:=fun t ht=>by
  rcases List.mem_append.1 ht with ht | ht
  ·exact List.mem_append_left _ (h.sub t ht)
  ·obtain rfl:t=(q,1,c):=by simpa using ht
   simp
 bn:=by
  simp only [eB,List.map_append]
  rw [List.nodup_append]
  refine ⟨h.bn,by simp,fun a ha b hb => ?_⟩
  obtain rfl:b=c:=by simpa using hb
  obtain ⟨t,ht,rfl⟩:=List.mem_map.1 ha
  have:=h.bc t ht
  omega
 bc:=fun t ht=>by
  rcases List.mem_append.1 ht with ht | ht
  ·have:=h.bc t ht; omega
  ·obtain rfl:t=(q,1,c):=by simpa using ht
   simp
theorem Aib {p:List (Nat×Nat)} {E:List LE} {c:Nat} (h:LM p E c) (q:Nat×Nat):lkA (some 2) (.int .i64 0) false (edA q) (some (eK E,eV E)) = .ret (.int .i64 (p.count q:Nat)):=by
 simp only [lkA,Ie,if_true]
 by_cases hq:q∈E.map (·.1)
 ·obtain ⟨A,n,b,B,rfl,hA,hB,_,_,rfl⟩:=h.split hq
  rw [Hy q _ B rfl A 0 hA]
  simp only [eV,List.map_append,List.map_cons,Nat.zero_add]
  rw [List.getElem?_append_right (by simp)]
  simp
 ·rw [Lo q E 0 hq]
  have:p.count q=0:=List.count_eq_zero.2 fun hm=>hq (h.mem q hm)
  simp [this]
theorem A9v:∀E:List LE,(eK E).zip ((eV E).zip (eB E))=E.map fun t=>(edA t.1,AV.int .i64 (t.2.1:Nat),t.2.2)
 | []=>rfl
 | t::r=>by
  have:=A9v r
  simp only [eK,eV,eB,List.map_cons,List.zip_cons_cons] at this ⊢
  rw [this]
theorem Acg (E:List LE) (seen:List Nat):Hh (eK E) (eV E) (eB E) seen=(E.filter fun t => !seen.contains t.2.2).map fun t=>(edA t.1,AV.int .i64 (t.2.1:Nat),t.2.2):=by
 rw [Hh,A9v,List.filter_map]
 rfl
theorem Ari (E:List LE) (t:LE) (hn:(eB E).Nodup) (ht:t∈E):((eK E).zip ((eV E).zip (eB E))).find? (fun u=>u.2.2==t.2.2)=some (edA t.1,AV.int .i64 (t.2.1:Nat),t.2.2):=by
 rw [A9v]
 induction E with
 | nil=>cases ht
 | cons a r ih =>
  rw [List.map_cons,List.find?_cons]
  simp only [eB,List.map_cons,List.nodup_cons] at hn
  rcases List.mem_cons.1 ht with rfl | ht
  ·simp
  ·have hne:(a.2.2==t.2.2)=false:=by
    have:a.2.2≠t.2.2:=fun h=>hn.1 (h ▸ List.mem_map_of_mem (f:=fun t:LE=>t.2.2) ht)
    simpa using this
   simp only [hne]
   exact ih hn.2 ht
theorem Rb {E:List LE} (hn:(eB E).Nodup) {u t:LE} (hu:u∈E) (ht:t∈E) (h:u.2.2=t.2.2):u=t:=by
 induction E with
 | nil=>cases hu
 | cons a r ih =>
  simp only [eB,List.map_cons,List.nodup_cons] at hn
  rcases List.mem_cons.1 hu with hu' | hu' <;> rcases List.mem_cons.1 ht with ht' | ht'
  ·rw [hu',ht']
  ·exact absurd (List.mem_map.2 ⟨t,ht',by rw [<-hu']; exact h.symm⟩) hn.1
  ·exact absurd (List.mem_map.2 ⟨u,hu',by rw [<-ht']; exact h⟩) hn.1
  ·exact ih hn.2 hu' ht'
theorem Id {n base:Nat} {Q:EX×St->Prop} {d:Option Nat} {L:List IOper} {kk:List Kont} {e:Env} {h:Bc} {key ver mk mv clock:Nat} {E:List LE} {seen:List Nat}
  (hi:Bb h key = .iter ver mk mv clock seen clock) (hm:Bb h mk = .map mv clock (eK E) (eV E) (eB E)) (hb:∀t∈E,t.2.2<clock)
  (hE:(∀t∈E,t.2.2∈seen)->GO (Bg T n) base Q L kk ⟨Bk e d (.tuple [.bool false]),h⟩)
  (hN:∀t∈E,t.2.2∉seen->GO (Bg T n) base Q L kk ⟨Bk e d (.tuple [.bool true,edA t.1,.int .i64 (t.2.1:Nat)]),setH h key (.iter ver mk mv clock (seen++[t.2.2]) clock)⟩) :
  GP (Bg T n) base Q d L kk e (nxA h (.iter key ver)):=by
 refine Xw hi hm ?_ (Nat.le_refl _) ?_ ?_
 ·intro b hb'
  obtain ⟨t,ht,rfl⟩:=List.mem_map.1 hb'
  exact hb t ht
 ·intro hl
  rw [Acg] at hl
  refine hE fun t ht => ?_
  have:=List.map_eq_nil_iff.1 hl
  rw [List.filter_eq_nil_iff] at this
  simpa using this t ht
 ·intro k v b hmem
  rw [Acg] at hmem
  obtain ⟨t,ht,he⟩:=List.mem_map.1 hmem
  obtain ⟨h1,h2⟩:=List.mem_filter.1 ht
  cases he
  exact hN t h1 (by simpa using h2)
theorem Rc {h:Bc} {key ver mk mv clock since:Nat} {E:List LE} {seen:List Nat} {t:LE}
  (hi:Bb h key = .iter ver mk mv since (seen++[t.2.2]) clock) (hm:Bb h mk = .map mv clock (eK E) (eV E) (eB E)) (hn:(eB E).Nodup) (ht:t∈E) :
  enA h (.iter key ver) = .ret (.tuple [edA t.1,.int .i64 (t.2.1:Nat)]):=by
 simp only [enA,hi,hm,List.getLast?_append,List.getLast?_singleton,Option.some_or]
 rw [if_pos ⟨trivial,trivial,trivial⟩,Ari E t hn ht]
theorem Gn {α:Type} (p q:α->Bool) (hqp:∀t,q t=true->p t=true) (t0:α) (hp:p t0=true) (hq:q t0=false):∀l:List α,t0∈l->(l.filter q).length<(l.filter p).length
 | [],h=>by cases h
 | a::r,h=>by
  have hle:∀l:List α,(l.filter q).length<=(l.filter p).length:=fun l=>by
   induction l with
   | nil=>simp
   | cons b r ih =>
    rw [List.filter_cons,List.filter_cons]
    by_cases hb:q b=true
    ·rw [if_pos hb,if_pos (hqp b hb)]; simpa using ih
    ·rw [if_neg hb]
     split
     ·simp only [List.length_cons]; omega
     ·exact ih
  rw [List.filter_cons,List.filter_cons]
  rcases List.mem_cons.1 h with rfl | h
  ·rw [if_pos hp,if_neg (by rw [hq]; simp)]
   have:=hle r
   simp only [List.length_cons]; omega
  ·have ih:=Gn p q hqp t0 hp hq r h
   by_cases hb:q a=true
   ·rw [if_pos hb,if_pos (hqp a hb)]; simpa using ih
   ·rw [if_neg hb]
    split
    ·simp only [List.length_cons]; omega
    ·exact ih
def Fb (t:LE):Bool:=t.1.1==t.1.2
def Fd (seen:List Nat) (t:LE):Bool:=!(Fb t&&seen.contains t.2.2)
theorem A7g (E:List LE):E.filter (Fd [])=E:=by
 rw [List.filter_eq_self]
 intro t _
 simp [Fd]
theorem Acf {E:List LE} {seen:List Nat} {b:Nat} (h:∀t∈E,t.2.2=b->Fb t=false):E.filter (Fd (seen++[b]))=E.filter (Fd seen):=by
 apply List.filter_congr
 intro t ht
 simp only [Fd,List.contains_eq_mem,List.mem_append,List.mem_singleton]
 by_cases hb:t.2.2=b
 ·simp [h t ht hb]
 ·simp [hb]
theorem A4m {E A B:List LE} {seen:List Nat} {t:LE} (hn:(eB E).Nodup) (hE:E.filter (Fd seen)=A++t::B) (hl:Fb t=true):E.filter (Fd (seen++[t.2.2]))=A++B:=by
 have h1:E.filter (Fd (seen++[t.2.2]))=(E.filter (Fd seen)).filter fun u => !(Fb u&&u.2.2==t.2.2):=by
  rw [List.filter_filter]
  apply List.filter_congr
  intro u _
  simp only [Fd,List.contains_eq_mem,List.mem_append,List.mem_singleton]
  by_cases h1:Fb u=true <;> by_cases h2:u.2.2∈seen <;> by_cases h3:u.2.2=t.2.2 <;> simp [h1,h2,h3]
 have hnd:(eB (A++t::B)).Nodup:=by rw [<-hE]; exact List.Nodup.sublist (List.Sublist.map _ List.filter_sublist) hn
 simp only [eB,List.map_append,List.map_cons] at hnd
 rw [List.nodup_append] at hnd
 obtain ⟨n1,n2,n3⟩:=hnd
 have hA:A.filter (fun u => !(Fb u&&u.2.2==t.2.2))=A:=by
  rw [List.filter_eq_self]
  intro u hu
  have:u.2.2≠t.2.2:=fun e=>n3 _ (List.mem_map_of_mem (f:=fun t:LE=>t.2.2) hu) _ List.mem_cons_self e
  simp [this]
 have hB:B.filter (fun u => !(Fb u&&u.2.2==t.2.2))=B:=by
  rw [List.filter_eq_self]
  intro u hu
  have:u.2.2≠t.2.2:=fun e=>(List.nodup_cons.1 n2).1 (e ▸ List.mem_map_of_mem (f:=fun t:LE=>t.2.2) hu)
  simp [this]
 rw [h1,hE,List.filter_append,hA,List.filter_cons,hB]
 simp [hl]
theorem Rx (A B:List LE) (t:LE):(eK (A++t::B)).eraseIdx A.length=eK (A++B):=by
 simp only [eK,List.map_append,List.map_cons]
 rw [List.eraseIdx_append_of_length_le (by simp)]
 simp
theorem Ry (A B:List LE) (t:LE):(eV (A++t::B)).eraseIdx A.length=eV (A++B):=by
 simp only [eV,List.map_append,List.map_cons]
 rw [List.eraseIdx_append_of_length_le (by simp)]
 simp
theorem Rw (A B:List LE) (t:LE):(eB (A++t::B)).eraseIdx A.length=eB (A++B):=by
 simp only [eB,List.map_append,List.map_cons]
 rw [List.eraseIdx_append_of_length_le (by simp)]
 simp
end Go.Ev.YtbgodhhdojjbmaaGreatC
namespace Go.Ev.YtbgodhhdojjbmaaGreatC
open Go Go.Proofs
section
variable (p:LE->Bool)
def Fo (seen:List Nat) (t:LE):Bool:=!(p t&&seen.contains t.2.2)
theorem A4l (E:List LE):E.filter (Fo p [])=E:=by
 rw [List.filter_eq_self]
 intro t _
 simp [Fo]
theorem A7f {E:List LE} {seen:List Nat} {b:Nat} (h:∀t∈E,t.2.2=b->p t=false):E.filter (Fo p (seen++[b]))=E.filter (Fo p seen):=by
 apply List.filter_congr
 intro t ht
 simp only [Fo,List.contains_eq_mem,List.mem_append,List.mem_singleton]
 by_cases hb:t.2.2=b
 ·simp [h t ht hb]
 ·simp [hb]
theorem A1e {E A B:List LE} {seen:List Nat} {t:LE} (hn:(eB E).Nodup) (hE:E.filter (Fo p seen)=A++t::B) (hl:p t=true):E.filter (Fo p (seen++[t.2.2]))=A++B:=by
 have h1:E.filter (Fo p (seen++[t.2.2]))=(E.filter (Fo p seen)).filter fun u => !(p u&&u.2.2==t.2.2):=by
  rw [List.filter_filter]
  apply List.filter_congr
  intro u _
  simp only [Fo,List.contains_eq_mem,List.mem_append,List.mem_singleton]
  by_cases h1:p u=true <;> by_cases h2:u.2.2∈seen <;> by_cases h3:u.2.2=t.2.2 <;> simp [h1,h2,h3]
 have hnd:(eB (A++t::B)).Nodup:=by rw [<-hE]; exact List.Nodup.sublist (List.Sublist.map _ List.filter_sublist) hn
 simp only [eB,List.map_append,List.map_cons] at hnd
 rw [List.nodup_append] at hnd
 obtain ⟨n1,n2,n3⟩:=hnd
 have hA:A.filter (fun u => !(p u&&u.2.2==t.2.2))=A:=by
  rw [List.filter_eq_self]
  intro u hu
  have:u.2.2≠t.2.2:=fun e=>n3 _ (List.mem_map_of_mem (f:=fun t:LE=>t.2.2) hu) _ List.mem_cons_self e
  simp [this]
 have hB:B.filter (fun u => !(p u&&u.2.2==t.2.2))=B:=by
  rw [List.filter_eq_self]
  intro u hu
  have:u.2.2≠t.2.2:=fun e=>(List.nodup_cons.1 n2).1 (e ▸ List.mem_map_of_mem (f:=fun t:LE=>t.2.2) hu)
  simp [this]
 rw [h1,hE,List.filter_append,hA,List.filter_cons,hB]
 simp [hl]
theorem A4k {E:List LE} {seen:List Nat} (hall:∀t∈E.filter (Fo p seen),t.2.2∈seen):E.filter (Fo p seen)=E.filter fun t => !p t:=by
 apply List.filter_congr
 intro t ht
 simp only [Fo]
 by_cases h1:p t=true
 ·by_cases h2:t.2.2∈seen
  ·simp [h1,h2]
  ·exfalso
   exact h2 (hall t (List.mem_filter.2 ⟨ht,by simp [Fo,h2]⟩))
 ·simp [h1]
end
end Go.Ev.YtbgodhhdojjbmaaGreatC
namespace Go.Ev.YtbgodhhdojjbmaaGreatC
open Go Go.Proofs
attribute [local irreducible] Res.all evC Do Dr Bv Bd Dw Bg Bj G GO GV GP GC R
def pA (q:List Int):AV:=.agg (q.map (.int .i64))
abbrev PE:=List Int×Int×Nat
def pK (E:List PE):List AV:=E.map fun t=>pA t.1
def pV (E:List PE):List AV:=E.map fun t => .int .i64 t.2.1
def pB (E:List PE):List Nat:=E.map (·.2.2)
def L9 (E:List PE):Prop:=∀t∈E,t.1.length=9
theorem Zk (q r:List Int) (h:q.length=r.length):Ec (pA q).cells (pA r).cells=some (decide (q=r)):=Me .i64 q r h
theorem Kk (q:List Int) (h:q.length=9):Ei (some 9) (pA q)=true:=by
 simp only [pA,Ei,Bool.and_eq_true,List.length_map,beq_iff_eq]
 refine ⟨h,?_⟩
 rw [List.all_eq_true]
 intro x hx
 obtain ⟨a,_,rfl⟩:=List.mem_map.1 hx
 rfl
theorem Wd (q:List Int) (hq:q.length=9):∀(E:List PE) (i:Nat),L9 E->q∉E.map (·.1)->Du (some 9) (pA q) (pK E) i=some none
 | [],_,_,_=>rfl
 | t::r,i,hL,h=>by
  simp only [List.map_cons,List.mem_cons,not_or] at h
  have ht:=hL t (by simp)
  simp only [pK,List.map_cons,Du,Kk t.1 ht,if_true,Zk q t.1 (by omega)]
  have:decide (q=t.1)=false:=by simpa using h.1
  rw [this]
  exact Wd q hq r (i+1) (fun u hu=>hL u (by simp [hu])) h.2
theorem Wc (q:List Int) (hq:q.length=9) (t:PE) (B:List PE) (ht:t.1=q):∀(A:List PE) (i:Nat),L9 (A++t::B)->q∉A.map (·.1)->Du (some 9) (pA q) (pK (A++t::B)) i=some (some (i+A.length))
 | [],i,hL,_=>by
  simp only [pK,List.nil_append,List.map_cons,Du,ht,Kk q hq,if_true,Zk q q rfl,decide_true]
  rfl
 | u::A,i,hL,h=>by
  simp only [List.map_cons,List.mem_cons,not_or] at h
  have hu:=hL u (by simp)
  simp only [pK,List.cons_append,List.map_cons,Du,Kk u.1 hu,if_true,Zk q u.1 (by omega)]
  have:decide (q=u.1)=false:=by simpa using h.1
  rw [this]
  have:=Wc q hq t B ht A (i+1) (fun v hv=>hL v (by simp at hv ⊢; exact .inr hv)) h.2
  simp only [pK] at this
  simp only [this,List.length_cons]
  congr 2
  omega
structure MM (P:List Int×Int->Prop) (E:List PE) (c:Nat):Prop where
 nd:(E.map (·.1)).Nodup
 val:∀t∈E,P (t.1,t.2.1)
 least:∀t∈E,∀m,P (t.1,m)->t.2.1<=m
 mem:∀q m,P (q,m)->q∈E.map (·.1)
 bn:(pB E).Nodup
 bc:∀t∈E,t.2.2<c
 l9:L9 E
theorem MM.nil:MM (fun _=>False) [] 0:=⟨by simp,by simp,by simp,by simp,by simp [pB],by simp,by simp [L9]⟩
theorem MM.congr {P P':List Int×Int->Prop} {E:List PE} {c:Nat} (h:MM P E c) (hp:∀q,P q↔P' q):MM P' E c:=by
 obtain rfl:P=P':=funext fun q=>propext (hp q)
 exact h
theorem MM.split {P:List Int×Int->Prop} {E:List PE} {c:Nat} (h:MM P E c) {q:List Int} (hq:q∈E.map (·.1)):∃A n b B,E=A++(q,n,b)::B/\q∉A.map (·.1)/\q∉B.map (·.1):=by
 obtain ⟨t,ht,rfl⟩:=List.mem_map.1 hq
 obtain ⟨A,B,rfl⟩:=List.append_of_mem ht
 have h1:=h.nd
 rw [List.map_append,List.map_cons,List.nodup_append] at h1
 obtain ⟨a1,a2,a3⟩:=h1
 exact ⟨A,t.2.1,t.2.2,B,rfl,fun hm=>a3 _ hm _ List.mem_cons_self rfl,(List.nodup_cons.1 a2).1⟩
theorem MM.new {P:List Int×Int->Prop} {E:List PE} {c:Nat} (h:MM P E c) {q:List Int} {n:Int} (hl:q.length=9) (hq:q∉E.map (·.1)):MM (fun x=>P x\/x=(q,n)) (E++[(q,n,c)]) (c+1) where
 nd:=by
  rw [List.map_append,List.nodup_append]
  refine ⟨h.nd,by simp,fun a ha b hb => ?_⟩
  obtain rfl:b=q:=by simpa using hb
  exact fun e=>hq (e ▸ ha)
 val:=fun t ht=>by
  rcases List.mem_append.1 ht with ht | ht
  ·exact .inl (h.val t ht)
  ·obtain rfl:t=(q,n,c):=by simpa using ht
   exact .inr rfl
 least:=fun t ht m hm=>by
  rcases List.mem_append.1 ht with ht | ht
  ·rcases hm with hm | hm
   ·exact h.least t ht m hm
   ·have:t.1=q:=(Prod.mk.inj hm).1
    exact absurd (this ▸ List.mem_map_of_mem (f:=fun t:PE=>t.1) ht) hq
  ·obtain rfl:t=(q,n,c):=by simpa using ht
   rcases hm with hm | hm
   ·exact absurd (h.mem _ _ hm) hq
   ·have:m=n:=(Prod.mk.inj hm).2
    simp [this]
 mem:=fun r m hr=>by
  rcases hr with hr | hr
  ·have:=h.mem r m hr; simp only [List.map_append,List.mem_append]; exact .inl this
  ·have:r=q:=(Prod.mk.inj hr).1
   simp [this]
 bn:=by
  simp only [pB,List.map_append]
  rw [List.nodup_append]
  refine ⟨h.bn,by simp,fun a ha b hb => ?_⟩
  obtain rfl:b=c:=by simpa using hb
  obtain ⟨t,ht,rfl⟩:=List.mem_map.1 ha
  have:=h.bc t ht
  omega
 bc:=fun t ht=>by
  rcases List.mem_append.1 ht with ht | ht
  ·have:=h.bc t ht; omega
  ·obtain rfl:t=(q,n,c):=by simpa using ht
   simp
 l9:=fun t ht=>by
  rcases List.mem_append.1 ht with ht | ht
  ·exact h.l9 t ht
  ·obtain rfl:t=(q,n,c):=by simpa using ht
   exact hl
theorem MM.more {P:List Int×Int->Prop} {E:List PE} {c:Nat} (h:MM P E c) {t:PE} (ht:t∈E) {n:Int} (hn:t.2.1<=n):MM (fun x=>P x\/x=(t.1,n)) E c where
 nd:=h.nd
 val:=fun u hu => .inl (h.val u hu)
 least:=fun u hu m hm=>by
  rcases hm with hm | hm
  ·exact h.least u hu m hm
  ·have h1:u.1=t.1:=(Prod.mk.inj hm).1
   have h2:m=n:=(Prod.mk.inj hm).2
   have:t.2.1=u.2.1:=by
    have a:=h.least u hu t.2.1 (h1 ▸ h.val t ht)
    have b:=h.least t ht u.2.1 (h1 ▸ h.val u hu)
    omega
   omega
 mem:=fun r m hr=>by
  rcases hr with hr | hr
  ·exact h.mem r m hr
  ·have:r=t.1:=(Prod.mk.inj hr).1
   exact this ▸ List.mem_map_of_mem (f:=fun t:PE=>t.1) ht
 bn:=h.bn
 bc:=h.bc
 l9:=h.l9
theorem MM.less {P:List Int×Int->Prop} {A B:List PE} {q:List Int} {n m:Int} {b c:Nat} (h:MM P (A++(q,n,b)::B) c) (hA:q∉A.map (·.1)) (hB:q∉B.map (·.1)) (hm:m<n):MM (fun x=>P x\/x=(q,m)) (A++(q,m,b)::B) c where
 nd:=by have:=h.nd; simpa using this
 val:=fun t ht=>by
  rcases List.mem_append.1 ht with ht | ht
  ·exact .inl (h.val t (List.mem_append_left _ ht))
  ·rcases List.mem_cons.1 ht with rfl | ht
   ·exact .inr rfl
   ·exact .inl (h.val t (List.mem_append_right _ (List.mem_cons_of_mem _ ht)))
 least:=fun t ht k hk=>by
  have hother:t∈A++B->t.2.1<=k:=fun hu=>by
   have hne:t.1≠q:=fun he=>by
    rcases List.mem_append.1 hu with hu | hu
    ·exact hA (he ▸ List.mem_map_of_mem (f:=fun t:PE=>t.1) hu)
    ·exact hB (he ▸ List.mem_map_of_mem (f:=fun t:PE=>t.1) hu)
   rcases hk with hk | hk
   ·refine h.least t ?_ k hk
    rcases List.mem_append.1 hu with hu | hu
    ·exact List.mem_append_left _ hu
    ·exact List.mem_append_right _ (List.mem_cons_of_mem _ hu)
   ·exact absurd ((Prod.mk.inj hk).1) hne
  rcases List.mem_append.1 ht with ht | ht
  ·exact hother (List.mem_append_left _ ht)
  ·rcases List.mem_cons.1 ht with rfl | ht
   ·rcases hk with hk | hk
    ·have:=h.least (q,n,b) (by simp) k hk
     simp only at this ⊢
     omega
    ·have:k=m:=(Prod.mk.inj hk).2
     simp [this]
   ·exact hother (List.mem_append_right _ ht)
 mem:=fun r k hr=>by
  have:r∈(A++(q,n,b)::B).map (·.1):=by
   rcases hr with hr | hr
   ·exact h.mem r k hr
   ·have:r=q:=(Prod.mk.inj hr).1
    simp [this]
  simpa using this
 bn:=by have:=h.bn; simpa [pB] using this
 bc:=fun t ht=>by
  rcases List.mem_append.1 ht with ht | ht
  ·exact h.bc t (List.mem_append_left _ ht)
  ·rcases List.mem_cons.1 ht with rfl | ht
   ·exact h.bc (q,n,b) (by simp)
   ·exact h.bc t (List.mem_append_right _ (List.mem_cons_of_mem _ ht))
 l9:=fun t ht=>by
  rcases List.mem_append.1 ht with ht | ht
  ·exact h.l9 t (List.mem_append_left _ ht)
  ·rcases List.mem_cons.1 ht with rfl | ht
   ·exact h.l9 (q,n,b) (by simp)
   ·exact h.l9 t (List.mem_append_right _ (List.mem_cons_of_mem _ ht))
theorem B1w {P:List Int×Int->Prop} {E:List PE} {c:Nat} (h:MM P E c) {q:List Int} (hl:q.length=9) {ok:Bool} {z:AV} :
  (q∉E.map (·.1)/\lkA (some 9) z ok (pA q) (some (pK E,pV E)) = .ret (if ok then .tuple [z,.bool false] else z))\/
  ∃A n b B,E=A++(q,n,b)::B/\q∉A.map (·.1)/\q∉B.map (·.1)/\lkA (some 9) z ok (pA q) (some (pK E,pV E)) = .ret (if ok then .tuple [.int .i64 n,.bool true] else .int .i64 n):=by
 by_cases hq:q∈E.map (·.1)
 ·obtain ⟨A,n,b,B,rfl,hA,hB⟩:=h.split hq
  refine .inr ⟨A,n,b,B,rfl,hA,hB,?_⟩
  simp only [lkA,Kk q hl,if_true]
  rw [Wc q hl (q,n,b) B rfl A 0 h.l9 hA]
  simp only [pV,List.map_append,List.map_cons,Nat.zero_add]
  rw [List.getElem?_append_right (by simp)]
  simp
 ·refine .inl ⟨hq,?_⟩
  simp only [lkA,Kk q hl,if_true]
  rw [Wd q hl E 0 h.l9 hq]
theorem Aye (A B:List PE) (q:List Int) (n m:Int) (b:Nat):(pK (A++(q,n,b)::B)).set A.length (pA q)=pK (A++(q,m,b)::B):=by
 simp only [pK,List.map_append,List.map_cons]
 rw [List.set_append_right _ _ (by simp)]
 simp
theorem Ayf (A B:List PE) (q:List Int) (n m:Int) (b:Nat):(pV (A++(q,n,b)::B)).set A.length (.int .i64 m)=pV (A++(q,m,b)::B):=by
 simp only [pV,List.map_append,List.map_cons]
 rw [List.set_append_right _ _ (by simp)]
 simp
theorem Ayd (A B:List PE) (q:List Int) (n m:Int) (b:Nat):pB (A++(q,n,b)::B)=pB (A++(q,m,b)::B):=by simp [pB]
theorem Ack {E:List PE} {h:Bc} {key ver c:Nat} {q:List Int} {n:Int} (hH:Bb h key = .map ver c (pK E) (pV E) (pB E)) (h9:L9 E) (hl:q.length=9) (hq:q∉E.map (·.1)) :
  muA (some 9) h (pA q) (.int .i64 n) (.omap key ver) = .ret (.undef,setH h key (.map ver (c+1) (pK (E++[(q,n,c)])) (pV (E++[(q,n,c)])) (pB (E++[(q,n,c)])))):=by
 simp only [muA,hH]
 rw [if_pos ⟨trivial,Kk q hl⟩,Wd q hl E 0 h9 hq]
 simp [pK,pV,pB]
theorem Asv {A B:List PE} {h:Bc} {key ver c b:Nat} {q:List Int} {n m:Int} (hH:Bb h key = .map ver c (pK (A++(q,n,b)::B)) (pV (A++(q,n,b)::B)) (pB (A++(q,n,b)::B))) (h9:L9 (A++(q,n,b)::B)) (hl:q.length=9) (hA:q∉A.map (·.1)) :
  muA (some 9) h (pA q) (.int .i64 m) (.omap key ver) = .ret (.undef,setH h key (.map ver c (pK (A++(q,m,b)::B)) (pV (A++(q,m,b)::B)) (pB (A++(q,m,b)::B)))):=by
 simp only [muA,hH]
 rw [if_pos ⟨trivial,Kk q hl⟩,Wc q hl (q,n,b) B rfl A 0 h9 hA]
 simp only [Nat.zero_add]
 rw [Aye A B q n m b,Ayf A B q n m b,Ayd A B q n m b]
theorem A9w:∀E:List PE,(pK E).zip ((pV E).zip (pB E))=E.map fun t=>(pA t.1,AV.int .i64 t.2.1,t.2.2)
 | []=>rfl
 | t::r=>by
  have:=A9w r
  simp only [pK,pV,pB,List.map_cons,List.zip_cons_cons] at this ⊢
  rw [this]
theorem Ach (E:List PE) (seen:List Nat):Hh (pK E) (pV E) (pB E) seen=(E.filter fun t => !seen.contains t.2.2).map fun t=>(pA t.1,AV.int .i64 t.2.1,t.2.2):=by
 rw [Hh,A9w,List.filter_map]
 rfl
theorem Arj (E:List PE) (t:PE) (hn:(pB E).Nodup) (ht:t∈E):((pK E).zip ((pV E).zip (pB E))).find? (fun u=>u.2.2==t.2.2)=some (pA t.1,AV.int .i64 t.2.1,t.2.2):=by
 rw [A9w]
 induction E with
 | nil=>cases ht
 | cons a r ih =>
  rw [List.map_cons,List.find?_cons]
  simp only [pB,List.map_cons,List.nodup_cons] at hn
  rcases List.mem_cons.1 ht with rfl | ht
  ·simp
  ·have hne:(a.2.2==t.2.2)=false:=by
    have:a.2.2≠t.2.2:=fun h=>hn.1 (h ▸ List.mem_map_of_mem (f:=fun t:PE=>t.2.2) ht)
    simpa using this
   simp only [hne]
   exact ih hn.2 ht
theorem A8k {E:List PE} (hn:(pB E).Nodup) {u t:PE} (hu:u∈E) (ht:t∈E) (h:u.2.2=t.2.2):u=t:=by
 induction E with
 | nil=>cases hu
 | cons a r ih =>
  simp only [pB,List.map_cons,List.nodup_cons] at hn
  rcases List.mem_cons.1 hu with hu' | hu' <;> rcases List.mem_cons.1 ht with ht' | ht'
  ·rw [hu',ht']
  ·exact absurd (List.mem_map.2 ⟨t,ht',by rw [<-hu']; exact h.symm⟩) hn.1
  ·exact absurd (List.mem_map.2 ⟨u,hu',by rw [<-ht']; exact h⟩) hn.1
  ·exact ih hn.2 hu' ht'
theorem Sc {n base:Nat} {Q:EX×St->Prop} {d:Option Nat} {L:List IOper} {kk:List Kont} {e:Env} {h:Bc} {key ver mk mv clock:Nat} {E:List PE} {seen:List Nat}
  (hi:Bb h key = .iter ver mk mv clock seen clock) (hm:Bb h mk = .map mv clock (pK E) (pV E) (pB E)) (hb:∀t∈E,t.2.2<clock)
  (hE:(∀t∈E,t.2.2∈seen)->GO (Bg T n) base Q L kk ⟨Bk e d (.tuple [.bool false]),h⟩)
  (hN:∀t∈E,t.2.2∉seen->GO (Bg T n) base Q L kk ⟨Bk e d (.tuple [.bool true,pA t.1,.int .i64 t.2.1]),setH h key (.iter ver mk mv clock (seen++[t.2.2]) clock)⟩) :
  GP (Bg T n) base Q d L kk e (nxA h (.iter key ver)):=by
 refine Xw hi hm ?_ (Nat.le_refl _) ?_ ?_
 ·intro b hb'
  obtain ⟨t,ht,rfl⟩:=List.mem_map.1 hb'
  exact hb t ht
 ·intro hl
  rw [Ach] at hl
  refine hE fun t ht => ?_
  have:=List.map_eq_nil_iff.1 hl
  rw [List.filter_eq_nil_iff] at this
  simpa using this t ht
 ·intro k v b hmem
  rw [Ach] at hmem
  obtain ⟨t,ht,he⟩:=List.mem_map.1 hmem
  obtain ⟨h1,h2⟩:=List.mem_filter.1 ht
  cases he
  exact hN t h1 (by simpa using h2)
theorem A0l {h:Bc} {key ver mk mv clock since:Nat} {E:List PE} {seen:List Nat} {t:PE}
  (hi:Bb h key = .iter ver mk mv since (seen++[t.2.2]) clock) (hm:Bb h mk = .map mv clock (pK E) (pV E) (pB E)) (hn:(pB E).Nodup) (ht:t∈E) :
  enA h (.iter key ver) = .ret (.tuple [pA t.1,.int .i64 t.2.1]):=by
 simp only [enA,hi,hm,List.getLast?_append,List.getLast?_singleton,Option.some_or]
 rw [if_pos ⟨trivial,trivial,trivial⟩,Arj E t hn ht]
theorem Yb {E:List PE} {seen:List Nat} {t:PE} (ht:t∈E) (hnt:t.2.2∉seen):(E.filter fun u => !(seen++[t.2.2]).contains u.2.2).length<(E.filter fun u => !seen.contains u.2.2).length:=by
 refine Gn _ _ (fun u hu => ?_) t ?_ ?_ E ht
 ·simp at hu ⊢
  exact hu.1
 ·simpa using hnt
 ·simp
theorem Xa {E:List PE} {seen:List Nat} {t:PE} (hn:(pB E).Nodup) (ht:t∈E) (f:PE->List Int×Int->Prop) (x:List Int×Int) :
  (∃u∈E,u.2.2∈seen++[t.2.2]/\f u x)↔(∃u∈E,u.2.2∈seen/\f u x)\/f t x:=by
 constructor
 ·rintro ⟨u,hu,hs,hf⟩
  rcases List.mem_append.1 hs with hs | hs
  ·exact .inl ⟨u,hu,hs,hf⟩
  ·obtain rfl:=A8k hn hu ht (by simpa using hs)
   exact .inr hf
 ·rintro (⟨u,hu,hs,hf⟩ | hf)
  ·exact ⟨u,hu,List.mem_append_left _ hs,hf⟩
  ·exact ⟨t,ht,by simp,hf⟩
end Go.Ev.YtbgodhhdojjbmaaGreatC
