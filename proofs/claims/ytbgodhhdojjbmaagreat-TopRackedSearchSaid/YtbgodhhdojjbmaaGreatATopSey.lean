/- The rows of search at the examples: newRow, open and CheckBounds, whose ranges are drawn. CheckBounds of search at the examples. No condition but those that stand in each. -/
import Derived.Test.YtbgodhhdojjbmaaGreatATopWJD
import Derived.Test.YtbgodhhdojjbmaaGreatARtLwR
import Derived.Test.YtbgodhhdojjbmaaGreatAEvKer3
import Derived.Test.YtbgodhhdojjbmaaGreatATopGmp
import Derived.Test.YtbgodhhdojjbmaaGreatATopShd
set_option linter.unusedSimpArgs false
set_option linter.unusedVariables false
set_option maxRecDepth 100000
namespace Go.Ev.YtbgodhhdojjbmaaGreatC
open Go Go.Proofs
def nrX:IC:=(sO [mV 15 0,lN 16 15,bC 17 .add 16 1,dO 18 (.mv (cI 0))] (.block 0 (.loop (sO [bB 19 .lss 18 17] (.seq (.cond (tM 19) .skip (.exit 0)) (.seq (.block 1 (sO [mV 20 18,mV 4 20] (sO [mV 21 0,lN 22 21,mV 23 4,bB 24 .sub 22 23,bC 25 .add 24 1,dO 26 (.mv (cI 0))] (.block 2 (.loop (sO [bB 27 .lss 26 25] (.seq (.cond (tM 27) .skip (.exit 2)) (.seq (.block 3 (sO [mV 28 26,mV 5 28] (sO [mV 29 5,mV 30 5,mV 31 4,bB 32 .add 30 31,dO 33 (.build [.int .i64 0,.int .i64 0] [(0,(1,tM 29)),(1,(1,tM 32))]),dO 6 (.alloc [.int .i64 0,.int .i64 0]),eO (.store 2 (tM 6) (tM 33))] (.seq (sO [mV 34 4,bC 35 .eql 34 0] (.cond (tM 35) (sO [mV 36 3,dO 37 (.nilCheck (tM 36)),dO 38 (.fieldAddr 1 (tM 37)),lD 39 38,dO 40 (.load (some 2) (tM 6)),eO (.mapUpdate (some 2) (tM 39) (tM 40) (cI 0))] (.exit 3)) .skip)) (sO [dO 7 (.mv (.const (.slice none [] true)))] (.seq (sO [dO 41 (.fieldAddr 0 (tM 6)),lD 42 41,mV 8 42] (.block 4 (.loop (.seq (sO [mV 43 8,dO 44 (.fieldAddr 1 (tM 6)),lD 45 44,bB 46 .lss 43 45] (.cond (tM 46) .skip (.exit 4))) (.seq (.block 5 (.ops [mV 49 7,mV 50 3,dO 51 (.nilCheck (tM 50)),dO 52 (.fieldAddr 0 (tM 51)),dO 53 (.load (some 1) (tM 52)),dO 54 (.load (some 2) (tM 6)),dO 55 (.callF false 125 [tM 53,tM 54]),mV 56 3,dO 57 (.load (some 2) (tM 6)),mV 58 8,dO 59 (.callF false 175 [tM 56,tM 57,tM 58]),bB 60 .add 55 59,dO 61 (.buildSlice none [.int .i64 0] [(0,(1,tM 60))]),dO 62 (.append none 8 (tM 49) (tM 61)),mV 7 62])) (.ops [mV 47 8,bC 48 .add 47 1,mV 8 48])))))) (.ops [mV 63 3,dO 64 (.nilCheck (tM 63)),dO 65 (.fieldAddr 1 (tM 64)),lD 66 65,dO 67 (.load (some 2) (tM 6)),mV 68 7,dO 69 (.callF false 230 [tM 68,.const (.clo 231 [] [])]),eO (.mapUpdate (some 2) (tM 66) (tM 67) (tM 69))]))))))) (.ops [bC 70 .add 26 1,mV 26 70]))))))))) (.ops [bC 71 .add 18 1,mV 18 71])))))))
def nrY:IC:=(.seq (sO [mV 72 3,dO 73 (.nilCheck (tM 72)),dO 74 (.fieldAddr 1 (tM 73)),lD 75 74,dO 76 (.range (tM 75))] (.block 6 (.loop (sO [dO 77 (.next (tM 76)),xT 78 77 0] (.seq (.cond (tM 78) .skip (.exit 6)) (.block 7 (sO [dO 79 (.entry (tM 76)),xT 80 79 0,dO 9 (.alloc [.int .i64 0,.int .i64 0]),eO (.store 2 (tM 9) (tM 80))] (sO [dO 81 (.fieldAddr 0 (tM 9)),lD 82 81,dO 83 (.fieldAddr 1 (tM 9)),lD 84 83,bB 85 .eql 82 84] (.cond (tM 85) (.ops [mV 86 3,dO 87 (.nilCheck (tM 86)),dO 88 (.fieldAddr 1 (tM 87)),lD 89 88,dO 90 (.load (some 2) (tM 9)),eO (.delete (some 2) (tM 89) (tM 90))]) .skip))))))))) (sO [mV 91 3,mV 2 91] .ret))
def nrP:IC:=sO [dO 2 (.mv (.const .nilptr))] (sO [mV 10 0,dO 11 (.build [.slice none [] true] [(0,(1,tM 10))]),⟨some 12,.mkMap,none⟩,dO 13 (.build [.slice none [] true,.fmap [] []] [(0,(1,tM 11)),(1,(1,tM 12))]),dO 14 (.box (tM 13)),mV 3 14] nrX)
theorem Asw:c170.body=sO [dO 2 (.mv (.const .nilptr))] (sO [mV 10 0,dO 11 (.build [.slice none [] true] [(0,(1,tM 10))]),⟨some 12,.mkMap,none⟩,dO 13 (.build [.slice none [] true,.fmap [] []] [(0,(1,tM 11)),(1,(1,tM 12))]),dO 14 (.box (tM 13)),mV 3 14] (.seq nrX nrY)):=rfl
def nrC (h0:Bc) (b:Nat) (w:AV) (E:List LE) (c:Nat) (p:EX×St):Bool:=
 (match p.1 with | .normal=>true | _=>false) &&
 (match Bs p.2.env 3 with | .optr k 0 0=>decide (k=b+14) | _=>false) &&
 (match Bb p.2.heap (b+14) with | .cells 0 [x,.omap k 0]=>eqV 10 x w&&decide (k=b+92) | _=>false) &&
 (match Bb p.2.heap (b+92) with | .map 0 d ks vs bs=>decide (d=c)&&Hr (eqV 10) ks (eK E)&&Hr (eqV 10) vs (eV E)&&decide (bs=eB E) | _=>false) &&
 A1f h0 p.2.heap b&&decide (b+93<=p.2.heap.length)
noncomputable def nrQ (h:Bc) (w:AV) (E:List LE) (c:Nat):Bool:=
 (fL (fV 8) [w] fun e=>fL fA (h++List.replicate 92 AObj.none) fun H=>Go.Ev.fN h.length fun b=>Js (Mb T [] 60) b nrP ⟨e,H⟩).allB (nrC h h.length w E c)
theorem B2f {h0:Bc} {b:Nat} {w:AV} {E:List LE} {c:Nat} {x:EX} {s:St} (h:nrC h0 b w E c (x,s)=true):x = .normal/\Bs s.env 3 = .optr (b+14) 0 0/\Bb s.heap (b+14) = .cells 0 [w,.omap (b+92) 0]/\
  Bb s.heap (b+92) = .map 0 c (eK E) (eV E) (eB E)/\(∀k,k<b->Nf (Bb h0 k) (Bb s.heap k)=true)/\b+93<=s.heap.length:=by
 simp only [nrC,Bool.and_eq_true,decide_eq_true_eq] at h
 obtain ⟨⟨⟨⟨⟨h1,h2⟩,h3⟩,h4⟩,h5⟩,h6⟩:=h
 refine ⟨?_,?_,?_,?_,?_,h6⟩
 ·split at h1
  ·rfl
  ·cases h1
 ·split at h2
  ·next hh=>rw [hh]; rw [of_decide_eq_true h2]
  ·cases h2
 ·split at h3
  ·next hh =>
   simp only [Bool.and_eq_true,decide_eq_true_eq] at h3
   rw [hh,Ky 10 _ _ h3.1,h3.2]
  ·cases h3
 ·split at h4
  ·next hh =>
   simp only [Bool.and_eq_true,decide_eq_true_eq] at h4
   rw [hh,h4.1.1.1,Fv (Ky 10) _ _ h4.1.1.2,Fv (Ky 10) _ _ h4.1.2,h4.2]
  ·cases h4
 ·intro k hk
  unfold A1f at h5
  exact List.all_eq_true.1 h5 k (List.mem_range.2 hk)
theorem A1n {call:Bf} {base:Nat} {Q:EX×St->Prop} {c:IC} {ks:List Kont} {s:St}:Lr call base Q (.seq c::ks) (.normal,s)=G call base Q c ks s:=rfl
theorem Aly {call:Bf} {base:Nat} {Q:EX×St->Prop} {ks:List Kont} {s:St}:G call base Q c170.body ks s=G call base Q nrP (.seq nrY::ks) s:=by
 rw [Asw]
 unfold nrP
 simp only [sO,A1i,A5t]
 unfold GO
 congr 1
 funext s1
 rw [A1n,A1n,A1i,A1i,A5t,A5t]
 unfold GO
 congr 1
 funext s2
 rw [A1n,A1n]
 exact A1i _ _
theorem B1v {call:Bf} {base:Nat} {Q:EX×St->Prop} {c:IC} {ks:List Kont} {s:St} {P:EX×St->Prop} (h:(evC call base c s).all P) (H:∀x s',P (x,s')->R call base Q x ks s'):G call base Q c ks s:=Res.all_mono _ h fun p hp=>H p.1 p.2 hp
attribute [local irreducible] Res.all evC Do Dr Bv Bd Dw Bg Bj G GO GV GP GC R
set_option maxHeartbeats 1000000 in
theorem A1o {n:Nat} (hn:60<=n) {h:Bc} {w:AV} {E:List LE} {c:Nat} {V:AV×Bc->Prop} (hk:nrQ h w E c=true) (hbn:(eB E).Nodup) (hnd:(E.map (·.1)).Nodup) (hbc:∀t∈E,t.2.2<c) (hsz:E.length<=1000)
  (hV:∀h',(∀k,k<h.length->∀v cs,Bb h k = .cells v cs->Bb h' k = .cells v cs)->Bb h' (h.length+14) = .cells 0 [w,.omap (h.length+92) 0]->Bb h' (h.length+92) = .map 0 c (eK (E.filter fun t => !Fb t)) (eV (E.filter fun t => !Fb t)) (eB (E.filter fun t => !Fb t))->h.length+93<=h'.length->V (.optr (h.length+14) 0 0,h')) :
  (Bg T (n+1) true (.fn 170) [w] h).all V:=by
 rw [Ew t170,Aly]
 have h1:=Res.allB_all _ _ hk
 simp only [Hs (Fq 8),Hs A5o,Fp,A2c] at h1
 have h2:=Ii (Ns (T:=T) (k:=0) (l:=[]) (fun a h=>by cases h) 60) h.length nrP _ _ h1
 have h3:=Ii (c1:=Bg T (0+60)) (c2:=Bg T n) (fun raw t xs h Q hq=>Hn T (by omega) raw t xs h Q hq) h.length nrP _ _ h2
 refine B1v h3 ?_
 rintro x ⟨e,H⟩ hp
 obtain ⟨rfl,f3,g14,g12,hkp,hl92⟩:=B2f hp
 simp only at f3 g14 g12 hkp hl92
 rw [Aos]
 unfold nrY
 have gN:Bb H H.length = .none:=Eh _ _ (Nat.le_refl _)
 have hrg:rgA H (.omap (h.length+92) 0) = .ret (.iter H.length 0,setH H H.length (.iter 0 (h.length+92) 0 c [] c)):=by
  simp only [rgA,g12,gN,next_none,if_true]
 simp (disch:=first | assumption | omega) only [go_sem,↓reduceIte,Bw,f3,g14,hrg]
 have hI:∃I,H.length=I:=⟨_,rfl⟩
 obtain ⟨I,hI⟩:=hI
 obtain ⟨b,hb⟩:∃b,h.length=b:=⟨_,rfl⟩
 rw [hI,hb]
 rw [hb] at f3 g14 g12 hkp hl92 hV
 rw [hI] at hl92
 have c1:I≠b+92:=by omega
 have c2:I≠b+14:=by omega
 have c3:¬(b+9=b+92):=by omega
 have c4:¬(b+9=b+14):=by omega
 have c5:¬(b+9=I):=by omega
 have c6:¬(I=b+9):=by omega
 refine Dm (fun M st=>∃seen:List Nat,M=(E.filter fun t => !seen.contains t.2.2).length/\At st.env [(3,.optr (b+14) 0 0),(76,.iter I 0)]/\
   Bb st.heap (b+92) = .map 0 c (eK (E.filter (Fd seen))) (eV (E.filter (Fd seen))) (eB (E.filter (Fd seen)))/\Bb st.heap (b+14) = .cells 0 [w,.omap (b+92) 0]/\Bb st.heap I = .iter 0 (b+92) 0 c seen c/\(∀k,k<b->Bb st.heap k=Bb H k)/\I+1<=st.heap.length) E.length (by omega)
  ⟨[],by rw [List.filter_eq_self.2 (by simp)],by simp only [go_sem,↓reduceIte,f3],by simp only [A7g]; rw [Ba _ _ _ _ c1,g12],by rw [Ba _ _ _ _ c2,g14],by simp only [go_sem,↓reduceIte],fun k hk=>Ba _ _ _ _ (by omega),by simp only [Bh]; omega⟩ ?_
 rintro M e2 h2 hM2 ⟨seen,hMs,hE2,gM2,g142,gI,hfr,hl2⟩ P2 hP2
 simp only [Bz,Dc] at hE2 gM2 g142 gI hl2
 simp only at hfr
 obtain ⟨f3,f76,-⟩:=hE2
 have hbc2:∀t∈E.filter (Fd seen),t.2.2<c:=fun t ht=>hbc t ((List.mem_filter.1 ht).1)
 simp (disch:=first | assumption | omega) only [go_sem,↓reduceIte,Bw,f76]
 refine Id gI gM2 hbc2 (fun hall => ?_) (fun t ht hnt => ?_)
 ·have hEn:E.filter (Fd seen)=E.filter fun t => !Fb t:=by
   apply List.filter_congr
   intro t ht
   simp only [Fd]
   by_cases h1:Fb t=true
   ·by_cases h2:t.2.2∈seen
    ·simp [h1,h2]
    ·exfalso
     exact h2 (hall t (List.mem_filter.2 ⟨ht,by simp [Fd,h2]⟩))
   ·simp [h1]
  rw [hEn] at gM2
  simp (disch:=first | assumption | omega) only [c170,go_sem,↓reduceIte,Bw,f3,f76,Gf,mapR]
  refine hV _ (fun k hk v cs hc => ?_) g142 gM2 (by omega)
  rw [hfr k hk]
  exact Qt (hkp k hk) hc
 ·have htE:t∈E:=(List.mem_filter.1 ht).1
  have hbn2:(eB (E.filter (Fd seen))).Nodup:=List.Nodup.sublist (List.Sublist.map _ List.filter_sublist) hbn
  have hen:enA (setH h2 I (.iter 0 (b+92) 0 c (seen++[t.2.2]) c)) (.iter I 0) = .ret (.tuple [edA t.1,.int .i64 (t.2.1:Nat)]):=
   Rc (mk:=b+92) (mv:=0) (since:=c) (getH_setH_self _ _ _) (by rw [Ba _ _ _ _ c1]; exact gM2) hbn2 ht
  have hml:(E.filter fun u => !(seen++[t.2.2]).contains u.2.2).length<M:=by
   rw [hMs]
   refine Gn _ _ (fun u hu => ?_) t ?_ ?_ E htE
   ·simp at hu ⊢
    exact hu.1
   ·simpa using hnt
   ·simp
  obtain ⟨A,B,hsp⟩:=List.append_of_mem ht
  have hA:t.1∉A.map (·.1):=by
   have hnd2:((E.filter (Fd seen)).map (·.1)).Nodup:=List.Nodup.sublist (List.Sublist.map _ List.filter_sublist) hnd
   rw [hsp,List.map_append,List.map_cons,List.nodup_append] at hnd2
   exact fun hm=>hnd2.2.2 _ hm _ List.mem_cons_self rfl
  have hfk:=Hy t.1 t B rfl A 0 hA
  rw [<-hsp,Nat.zero_add] at hfk
  have hko:=Ie t.1
  have x1:=Rx A B t
  have x2:=Ry A B t
  have x3:=Rw A B t
  rw [<-hsp] at x1 x2 x3
  have d1:¬(I=b+92):=c1
  have d2:¬(I=b+14):=c2
  have hfr2:∀(a:AObj) k,k<b->Bb (setH h2 I a) k=Bb H k:=fun a k hk=>by rw [Ba _ _ _ _ (by omega),hfr k hk]
  by_cases hlp:t.1.1=t.1.2
  ·have hgone:=A4m hbn hsp (by simpa [Fb] using hlp)
   obtain ⟨⟨ta,tb⟩,tn,tbn⟩:=t
   simp only at hlp
   subst hlp
   simp only [edA] at hen hfk hko
   have hbe:((ta:Int)==(ta:Int))=true:=by simp
   simp (disch:=first | assumption | omega) only [go_sem,↓reduceIte,Bw,f3,f76,hen,edA,d1,d2,c3,c4,c5,c6,hbe,dlA,gM2,g142,hfk,hko,x1,x2,x3,if_true,if_false]
   have k9:∀(x1 x2 x3:AObj) k,k≠b+9->Bb (setH (setH (setH h2 I x1) (b+9) x2) (b+9) x3) k=Bb (setH h2 I x1) k:=fun x1 x2 x3 k hk=>by rw [Ba _ _ _ _ (by omega),Ba _ _ _ _ (by omega)]
   refine hP2 _ _ hml ⟨seen++[tbn],rfl,by simp only [go_sem,↓reduceIte,f3,f76],?_,?_,?_,fun k hk => ?_,?_⟩
   ·simp only [hgone]; rw [getH_setH_self]
   ·simp only; rw [Ba _ _ _ _ (by omega),k9 _ _ _ _ (by omega),Ba _ _ _ _ c2,g142]
   ·simp only; rw [Ba _ _ _ _ (by omega),k9 _ _ _ _ (by omega),getH_setH_self]
   ·simp only; rw [Ba _ _ _ _ (by omega),k9 _ _ _ _ (by omega),hfr2 _ _ hk]
   ·simp only [Bh]; omega
  ·have hkp2:=Acf (E:=E) (seen:=seen) (b:=t.2.2) fun u hu he=>by
    obtain rfl:=Rb hbn hu htE he
    simpa [Fb] using hlp
   obtain ⟨⟨ta,tb⟩,tn,tbn⟩:=t
   simp only at hlp
   have hbe:((ta:Int)==(tb:Int))=false:=by simp; omega
   simp only [edA] at hen
   simp (disch:=first | assumption | omega) only [go_sem,↓reduceIte,Bw,f3,f76,hen,edA,d1,d2,c3,c4,c5,c6,hbe,gM2,g142,Bool.false_eq_true,if_true,if_false]
   have k9:∀(x1 x2 x3:AObj) k,k≠b+9->Bb (setH (setH (setH h2 I x1) (b+9) x2) (b+9) x3) k=Bb (setH h2 I x1) k:=fun x1 x2 x3 k hk=>by rw [Ba _ _ _ _ (by omega),Ba _ _ _ _ (by omega)]
   refine hP2 _ _ hml ⟨seen++[tbn],rfl,by simp only [go_sem,↓reduceIte,f3,f76],?_,?_,?_,fun k hk => ?_,?_⟩
   ·simp only [hkp2]; rw [k9 _ _ _ _ (by omega),Ba _ _ _ _ c1,gM2]
   ·simp only; rw [k9 _ _ _ _ (by omega),Ba _ _ _ _ c2,g142]
   ·simp only; rw [k9 _ _ _ _ (by omega),getH_setH_self]
   ·simp only; rw [k9 _ _ _ _ (by omega),hfr2 _ _ hk]
   ·simp only [Bh]; omega
theorem A4g:∀(h m:List AObj) {k:Nat},k<h.length->Bb (h++m) k=Bb h k
 | [],_,_,hk=>by simp at hk
 | _::_,_,0,_=>rfl
 | a::r,m,k+1,hk=>A4g r m (by simpa using hk)
theorem Ahn (h:Bc) (n:Nat):∀E:List LE,mapR (Bj h (n+2)) (eK E) = .ret (eK E)
 | []=>Dp _ _
 | t::E=>Db (Eo (Db (Bq _ _ _ _) (Db (Bq _ _ _ _) (Dp _ _)))) (Ahn h n E)
theorem Aho (h:Bc) (n:Nat):∀E:List LE,mapR (Bj h (n+1)) (eV E) = .ret (eV E)
 | []=>Dp _ _
 | t::E=>Db (Bq _ _ _ _) (Aho h n E)
noncomputable def okW (w:List Int):Bool:=zB T [] 60 40 [wI w false] (.int .i64 0)
theorem Abu {w:List Int} (h:okW w=true):Con T 61 40 [wI w false] (.int .i64 0):=Ep (Fy (k:=0) (n:=60) (l:=[]) (fun a h=>by cases h) h)
theorem Aji {n:Nat} (hn:62<=n) {h:Bc} {w:List Int} {E:List LE} {c:Nat} {V:AV×Bc->Prop} (hw:okW w=true) (hk:nrQ (h++List.replicate 12 AObj.none) (wI w false) E c=true) (hbn:(eB E).Nodup) (hnd:(E.map (·.1)).Nodup) (hbc:∀t∈E,t.2.2<c) (hsz:E.length<=1000)
  (hV:∀h',(∀k,k<h.length->∀v cs,Bb h k = .cells v cs->Bb h' k = .cells v cs)->Bb h' (h.length+26) = .cells 0 [wI w false,.omap (h.length+104) 0]->Bb h' (h.length+104) = .map 0 c (eK (E.filter fun t => !Fb t)) (eV (E.filter fun t => !Fb t)) (eB (E.filter fun t => !Fb t))->h.length+105<=h'.length->V (.tuple [.optr (h.length+26) 0 0,.int .i64 0],h')) :
  (Bg T (n+1) true (.fn 117) [wI w false] h).all V:=by
 obtain ⟨n,rfl⟩:∃m,n=m+1:=⟨n-1,by omega⟩
 rw [Ew t117]
 have e0:((0:Int) != 0)=false:=rfl
 simp (disch:=first | assumption | omega) only [c117,go_sem,↓reduceIte]
 refine Ee (Abu hw) (by omega) (by repeat (first | exact Dt _ | refine Fi _ _ _ _ ?_ | refine Fw _ _ _ ?_)) (Gt _ _ _) ?_
 simp (disch:=first | assumption | omega) only [go_sem,↓reduceIte,e0,Bool.false_eq_true]
 have hl:(h++List.replicate 12 AObj.none).length=h.length+12:=by simp
 refine Gi (A1o (by omega) hk hbn hnd hbc hsz fun h' hf g14 g12 hll => ?_)
 rw [hl] at g14 g12 hll ⊢
 simp (disch:=first | assumption | omega) only [go_sem,↓reduceIte,Gf,mapR]
 refine hV _ (fun k hk v cs hc=>hf k (by omega) v cs (by rw [A4g _ _ hk]; exact hc)) g14 g12 (by omega)
theorem A3t {w:List Int} {E:List LE} {c:Nat} (hw:okW w=true) (hk:nrQ (List.replicate 12 AObj.none) (wI w false) E c=true) (hbn:(eB E).Nodup) (hnd:(E.map (·.1)).Nodup) (hbc:∀t∈E,t.2.2<c) (hsz:E.length<=1000) :
  Con T 70 117 [wI w false] (.tuple [.ptr [wI w false,.fmap (eK (E.filter fun t => !Fb t)) (eV (E.filter fun t => !Fb t))] 0,.int .i64 0]):=by
 refine Dd t117 fun n hn V hV => ?_
 obtain ⟨n,rfl⟩:∃m,n=m+1:=⟨n-1,by omega⟩
 have e0:((0:Int) != 0)=false:=rfl
 simp (disch:=first | assumption | omega) only [c117,go_sem,↓reduceIte]
 refine Ee (Abu hw) (by omega) (by repeat (first | exact Dt _ | refine Fi _ _ _ _ ?_ | refine Fw _ _ _ ?_)) (Gt _ _ _) ?_
 simp (disch:=first | assumption | omega) only [go_sem,↓reduceIte,e0,Bool.false_eq_true]
 refine Gi (A1o (by omega) hk hbn hnd hbc hsz fun h' hf g14 g12 hll => ?_)
 simp (disch:=first | assumption | omega) only [go_sem,↓reduceIte,Gf,mapR]
 exact hV _ _ (Ey (Ge g14 (Db (Dv _ _ _ _ _) (Db (Nx g12 (Ahn _ _ _) (Aho _ _ _)) (Dp _ _)))) (Bq _ _ _ _))
def seE:List LE:=[((0,0),0,0),((1,1),0,1),((2,2),0,2),((3,3),0,3),((4,4),0,4),((0,1),4,5),((1,2),2,6),((2,3),6,7),((3,4),3,8),((0,2),8,9),((1,3),10,10),((2,4),12,11),((0,3),20,12),((1,4),16,13),((0,4),26,14)]
def C7k:List LE:=[((0,0),0,0),((1,1),0,1),((2,2),0,2),((0,1),1,3),((1,2),1,4),((0,2),3,5)]
theorem A5z:YOk T 2000 Bzr:=by
 have h:=Dz (A3t (w:=[4,2,6,3]) (E:=seE) (c:=15) (by kernel_rfl) (by kernel_rfl) (by decide) (by decide) (by decide) (by decide)) (Nat.le_refl _)
 exact (Es h).mono (by decide)
theorem C2t:YOk T 2000 C0d:=by
 have h:=Dz (A3t (w:=[1,1]) (E:=C7k) (c:=6) (by kernel_rfl) (by kernel_rfl) (by decide) (by decide) (by decide) (by decide)) (Nat.le_refl _)
 exact (Es h).mono (by decide)
end Go.Ev.YtbgodhhdojjbmaaGreatC
namespace Go.Ev.YtbgodhhdojjbmaaGreatC
open Go Go.Proofs
def cbW:List Int:=[4,2,6,3]
def cbV (B:List (List Int)):AV:=.slice none (B.map fun l=>wI l false) false
def Gz (B:List (List Int)) (a b:Nat):Int:=if a=b then 0 else (B.getD a []).getD (b-a-1) 0
def A3h (a b:Nat):Int:=((cbW.drop a).take (b-a)).foldl (·+·) 0
def Xk (B:List (List Int)) (a b k:Nat):Bool:=decide (Gz B a b>A3h a b+Gz B a k+Gz B (k+1) b)
noncomputable def cbQ (B:List (List Int)):Bool:=
 ((List.range 5).all fun a=>(List.range 5).all fun b=>decide (b<a)||zB T [] 60 124 [.agg [.int .i64 (a:Nat),.int .i64 (b:Nat)],.ptr [cbV B] 0] (.int .i64 (Gz B a b))) &&
 (B.all fun l=>zB T [] 60 37 [.int .i64 0,.int .i64 1099511627776,wI l false] (.bool true))
noncomputable def cbS:Bool:=(List.range 5).all fun a=>(List.range 5).all fun b=>decide (b<a)||zB T [] 60 125 [.agg [wI cbW false],.agg [.int .i64 (a:Nat),.int .i64 (b:Nat)]] (.int .i64 (A3h a b))
theorem Avu:cbS=true:=by kernel_rfl
theorem Akj {a b:Nat} (ha:a<=b) (hb:b<=4):Con T 61 125 [.agg [wI cbW false],.agg [.int .i64 (a:Nat),.int .i64 (b:Nat)]] (.int .i64 (A3h a b)):=by
 have h:=Avu
 unfold cbS at h
 rw [List.all_eq_true] at h
 have h1:=h a (List.mem_range.2 (by omega))
 rw [List.all_eq_true] at h1
 have h2:=h1 b (List.mem_range.2 (by omega))
 rw [decide_eq_false (by omega),Bool.false_or] at h2
 exact Ep (Fy (k:=0) (n:=60) (l:=[]) (fun a h=>by cases h) h2)
theorem Ru {B:List (List Int)} (hB:cbQ B=true) {a b:Nat} (ha:a<=b) (hb:b<=4):Con T 61 124 [.agg [.int .i64 (a:Nat),.int .i64 (b:Nat)],.ptr [cbV B] 0] (.int .i64 (Gz B a b)):=by
 unfold cbQ at hB
 rw [Bool.and_eq_true,List.all_eq_true] at hB
 have h1:=hB.1 a (List.mem_range.2 (by omega))
 rw [List.all_eq_true] at h1
 have h2:=h1 b (List.mem_range.2 (by omega))
 rw [decide_eq_false (by omega),Bool.false_or] at h2
 exact Ep (Fy (k:=0) (n:=60) (l:=[]) (fun a h=>by cases h) h2)
theorem Aok:zB T [] 60 119 [.agg [wI cbW false]] (.agg [.int .i64 0,.int .i64 4])=true:=by kernel_rfl
theorem Adm:Con T 61 119 [.agg [wI cbW false]] (.agg [.int .i64 0,.int .i64 4]):=Ep (Fy (k:=0) (n:=60) (l:=[]) (fun a h=>by cases h) Aok)
theorem Aur:∀a,a<=4->∀b,b<=4->0<=A3h a b/\A3h a b<=1000:=by decide
theorem A1a {h:Bc} {v:Nat} {a b:Int} {B:List (List Int)} (g:Bb h 3 = .cells v [cbV B]):fz h [.agg [.int .i64 a,.int .i64 b],.optr 3 v 0] = .ret [.agg [.int .i64 a,.int .i64 b],.ptr [cbV B] 0]:=
 Dj (Eo (Db (Bq _ _ _ _) (Db (Bq _ _ _ _) (Dp _ _)))) (Dj (Ge g (Db (Dv _ _ _ _ _) (Dp _ _))) (Dt _))
theorem Akk {B:List (List Int)} (hB:cbQ B=true) {l:List Int} (hl:l∈B):Con T 61 37 [.int .i64 0,.int .i64 1099511627776,wI l false] (.bool true):=by
 unfold cbQ at hB
 rw [Bool.and_eq_true,List.all_eq_true,List.all_eq_true] at hB
 exact Ep (Fy (k:=0) (n:=60) (l:=[]) (fun a h=>by cases h) (hB.2 l hl))
attribute [local irreducible] Res.all evC Do Dr Bv Bd Dw Bg Bj G GO GV GP GC R
set_option maxHeartbeats 2000000 in
theorem Agw {B:List (List Int)} {r0 r1:Int} (hB:cbQ B=true) (h4:B.length=4) (hrow:∀i,(h:i<B.length)->B[i].length=4-i) (hbd:∀a,a<=4->∀b,b<=4->0<=Gz B a b/\Gz B a b<=1000)
  (hk:nrQ (setH (List.replicate 105 AObj.none) 3 (.cells 0 [cbV B])++List.replicate 12 AObj.none) (wI cbW false) seE 15=true)
  (hbad:∀a b k,a<=k->k<b->b<=4->Xk B a b k=true->r0=0/\r1=14)
  (hgood:(∀t∈seE.filter (fun t => !Fb t),∀k,t.1.1<=k->k<t.1.2->Xk B t.1.1 t.1.2 k=false)->r0=Gz B 0 4/\r1=0) :
  Con T 100 73 [wI cbW false,cbV B] (.tuple [.int .i64 r0,.int .i64 r1]):=by
 refine Dd t73 fun n hn V hV => ?_
 obtain ⟨n,rfl⟩:∃m,n=m+1:=⟨n-1,by omega⟩
 have e0:((0:Int) != 0)=false:=rfl
 simp (disch:=first | assumption | omega) only [c73,go_sem,↓reduceIte]
 refine ⟨rfl,?_⟩
 refine Gi (Aji (n:=n) (by omega) (by kernel_rfl) hk (by decide) (by decide) (by decide) (by decide) fun h' hf g26 g104 hll => ?_)
 replace g26:Bb h' 131 = .cells 0 [wI cbW false,.omap 209 0]:=g26
 replace g104:Bb h' 209 = .map 0 15 (eK (seE.filter fun t => !Fb t)) (eV (seE.filter fun t => !Fb t)) (eB (seE.filter fun t => !Fb t)):=g104
 replace hll:210<=h'.length:=hll
 have g3:Bb h' 3 = .cells 0 [cbV B]:=hf 3 (by show 3<105; omega) 0 _ rfl
 clear hf
 have hlenB:lenA (cbV B)=some 4:=by simp [cbV,lenA,h4]
 have hlW:lenA (wI cbW false)=some 4:=rfl
 have e44:((4:Int) != 4)=false:=rfl
 have hEc:∃Z,seE.filter (fun t => !Fb t)=Z:=⟨_,rfl⟩
 obtain ⟨Z,hZ⟩:=hEc
 rw [hZ] at g104 hgood
 have hZ3:(eB Z).Nodup/\(∀t∈Z,t.2.2<15/\t.1.1<t.1.2/\t.1.2<=4)/\Z.length<=15:=by rw [<-hZ]; decide
 obtain ⟨hZn,hZb,hZl⟩:=hZ3
 refine A2j [(0,wI cbW false),(3,.optr 3 0 0),(17,.tuple [.optr 131 0 0,.int .i64 0])] (by simp only [Bz,Dc]; exact ⟨rfl,rfl,rfl,trivial⟩) fun e hE => ?_
 simp only [Bz,Dc] at hE
 obtain ⟨f0,f3,f17,-⟩:=hE
 simp (disch:=first | assumption | omega) only [go_sem,↓reduceIte,f0,f3,f17,e0,g3,hlenB,hlW,e44,Bool.false_eq_true]
 have hrw:∀i,i<4->∃l,B[i]? = some l/\l.length=4-i/\l∈B:=fun i hi=>⟨B[i],List.getElem?_eq_getElem (by omega),hrow i (by omega),List.getElem_mem _⟩
 have hcg:∀i,i<4->∀l,B[i]? = some l->(B.map fun l=>wI l false)[i]? = some (wI l false):=fun i hi l hl=>by rw [List.getElem?_map,hl]; rfl
 refine Dm (fun M st=>∃i:Nat,M=4-i/\i<=4/\At st.env [(0,wI cbW false),(3,.optr 3 0 0),(6,.optr 131 0 0),(30,cbV B),(31,.int .i64 4),(32,.int .i64 (i:Nat))]/\st.heap=h') 4 (by omega)
  ⟨0,rfl,by omega,by (simp only [go_sem,↓reduceIte,f0,f3,f17]) <;> simp,rfl⟩ ?_
 clear f0 f3 f17 e
 rintro M e h2 hM ⟨i,hMi,hi,hE,hh⟩ P hP
 obtain rfl:h2=h':=hh
 simp only [Bz,Dc] at hE
 obtain ⟨f0,f3,f6,f30,f31,f32,-⟩:=hE
 by_cases hi4:i<4
 ·obtain ⟨l,hl1,hl2,hl3⟩:=hrw i hi4
  have hlg:=hcg i hi4 l hl1
  have d1:decide ((i:Int)<4)=true:=decide_eq_true (by omega)
  have d2:decide (i<4)=true:=decide_eq_true hi4
  have hll2:lenA (wI l false)=some (4-i):=by simp [lenA,hl2]
  have d3:(((4-i:Nat):Int) != 4-(i:Int))=false:=by simp; omega
  have hl4:l.length=4-i:=hl2
  simp (disch:=first | assumption | omega) only [go_sem,↓reduceIte,f0,f3,f6,f30,f31,f32,d1,d2,cbV,hlg,hll2,hl4,hlW,d3,Bool.false_eq_true]
  exact hP (4-(i+1)) _ (by omega) ⟨i+1,rfl,by omega,by (simp only [go_sem,↓reduceIte,f0,f3,f6,f30,f31]) <;> simp [cbV],rfl⟩
 obtain rfl:i=4:=by omega
 have d1:decide ((4:Int)<4)=false:=rfl
 simp (disch:=first | assumption | omega) only [go_sem,↓reduceIte,f0,f3,f6,f30,f31,f32,d1,g3,hlenB,Bool.false_eq_true,Int.lt_irrefl,decide_false]
 refine Dm (fun M st=>∃i:Nat,M=4-i/\i<=4/\At st.env [(0,wI cbW false),(3,.optr 3 0 0),(6,.optr 131 0 0),(45,cbV B),(46,.int .i64 4),(47,.int .i64 (i:Nat))]/\st.heap=h2) 4 (by omega)
  ⟨0,rfl,by omega,by (simp only [go_sem,↓reduceIte,f0,f3,f6]) <;> simp,rfl⟩ ?_
 clear f0 f3 f6 f30 f31 f32 e hP P
 rintro M e h3 hM ⟨i,hMi,hi,hE,hh⟩ P hP
 obtain rfl:h3=h2:=hh
 simp only [Bz,Dc] at hE
 obtain ⟨f0,f3,f6,f45,f46,f47,-⟩:=hE
 by_cases hi4:i<4
 ·obtain ⟨l,hl1,hl2,hl3⟩:=hrw i hi4
  have hlg:=hcg i hi4 l hl1
  have d1:decide ((i:Int)<4)=true:=decide_eq_true (by omega)
  have d2:decide (i<4)=true:=decide_eq_true hi4
  simp (disch:=first | assumption | omega) only [go_sem,↓reduceIte,f0,f3,f6,f45,f46,f47,d1,d2,cbV,hlg]
  refine Ee (Akk hB hl3) (by omega) (by repeat (first | exact Dt _ | refine Fi _ _ _ _ ?_ | refine Fw _ _ _ ?_)) (Kb _ _) ?_
  simp (disch:=first | assumption | omega) only [go_sem,↓reduceIte,f0,f3,f6,f45,f46,f47,Bool.not_true,Bool.false_eq_true]
  exact hP (4-(i+1)) _ (by omega) ⟨i+1,rfl,by omega,by (simp only [go_sem,↓reduceIte,f0,f3,f6,f45,f46]) <;> simp [cbV],rfl⟩
 obtain rfl:i=4:=by omega
 have gN:Bb h3 h3.length = .none:=Eh _ _ (Nat.le_refl _)
 obtain ⟨I,hI⟩:∃I,h3.length=I:=⟨_,rfl⟩
 have hrg:rgA h3 (.omap 209 0) = .ret (.iter I 0,setH h3 I (.iter 0 209 0 15 [] 15)):=by
  rw [hI] at gN
  simp only [rgA,g104,hI,gN,next_none,if_true]
 simp (disch:=first | assumption | omega) only [go_sem,↓reduceIte,Bw,f0,f3,f6,f45,f46,f47,d1,g26,hrg,Bool.false_eq_true,Int.lt_irrefl,decide_false]
 rw [hI] at hll
 refine Dm (fun M st=>∃seen:List Nat,M=(Z.filter fun t => !seen.contains t.2.2).length/\At st.env [(3,.optr 3 0 0),(6,.optr 131 0 0),(12,.clo 124 [] [.optr 3 0 0]),(60,.iter I 0)]/\Bb st.heap 3 = .cells 0 [cbV B]/\Bb st.heap 131 = .cells 0 [wI cbW false,.omap 209 0]/\
   Bb st.heap 209 = .map 0 15 (eK Z) (eV Z) (eB Z)/\Bb st.heap I = .iter 0 209 0 15 seen 15/\(∀t∈Z,t.2.2∈seen->∀k,t.1.1<=k->k<t.1.2->Xk B t.1.1 t.1.2 k=false)/\I+1<=st.heap.length) Z.length (by omega)
  ⟨[],by rw [List.filter_eq_self.2 (by simp)],by (simp only [go_sem,↓reduceIte,f3,f6]) <;> simp,by simp only; rw [Ba _ _ _ _ (by omega),g3],by simp only; rw [Ba _ _ _ _ (by omega),g26],by simp only; rw [Ba _ _ _ _ (by omega),g104],by simp only [go_sem,↓reduceIte],by simp,by simp only [Bh]; omega⟩ ?_
 clear f0 f3 f6 f45 f46 f47 e hP P hrg gN hI
 rintro M e h5 hM5 ⟨seen,hMs,hE,k3,k131,k209,kI,hgd,hl5⟩ P hP
 simp only [Bz,Dc] at hE k3 k131 k209 kI hl5
 obtain ⟨f3,f6,f12,f60,-⟩:=hE
 simp (disch:=first | assumption | omega) only [go_sem,↓reduceIte,Bw,f60]
 refine Id kI k209 (fun t ht=>(hZb t ht).1) (fun hall => ?_) (fun t ht hnt => ?_)
 ·obtain ⟨rfl,rfl⟩:=hgood fun t ht=>hgd t ht (hall t ht)
  simp (disch:=first | assumption | omega) only [go_sem,↓reduceIte,Bw,f3,f6,f12,f60,k131]
  refine Ee Adm (by omega) (Dj (Eo (Db (Dv _ _ _ _ _) (Dp _ _))) (Dt _)) rfl ?_
  simp (disch:=first | assumption | omega) only [go_sem,↓reduceIte]
  refine Ee (Ru hB (a:=0) (b:=4) (by omega) (by omega)) (by omega) (A1a k3) (Gt _ _ _) ?_
  simp (disch:=first | assumption | omega) only [go_sem,↓reduceIte]
  exact hV _ _ (Ey (Bq _ _ _ _) (Bq _ _ _ _))
 ·have hen:enA (setH h5 I (.iter 0 209 0 15 (seen++[t.2.2]) 15)) (.iter I 0) = .ret (.tuple [edA t.1,.int .i64 (t.2.1:Nat)]):=
   Rc (mk:=209) (mv:=0) (since:=15) (getH_setH_self _ _ _) (by rw [Ba _ _ _ _ (by omega)]; exact k209) hZn ht
  have hml:(Z.filter fun u => !(seen++[t.2.2]).contains u.2.2).length<M:=by
   rw [hMs]
   refine Gn _ _ (fun u hu => ?_) t ?_ ?_ Z ht
   ·simp at hu ⊢
    exact hu.1
   ·simpa using hnt
   ·simp
  obtain ⟨-,hab,hb4⟩:=hZb t ht
  have hbe:=fun (u:LE) (hu:u∈Z) (he:u.2.2=t.2.2)=>Rb hZn hu ht he
  obtain ⟨⟨ta,tb⟩,tn,tbn⟩:=t
  simp only [edA] at hen
  simp only at hab hb4 hbe
  simp (disch:=first | assumption | omega) only [go_sem,↓reduceIte,Bw,f3,f6,f12,f60,hen,edA]
  have i13:(I=13)=False:=eq_false (by omega)
  simp only [i13,if_false]
  obtain ⟨v13,hv13⟩:∃v,(Bb h5 13).next=v:=⟨_,rfl⟩
  rw [hv13]
  generalize hH6:setH (setH (setH h5 I (.iter 0 209 0 15 (seen++[tbn]) 15)) 13 (.cells v13 [.int .i64 0,.int .i64 0])) 13 (.cells v13 [.int .i64 (ta:Int),.int .i64 (tb:Int)])=H6
  have q13:Bb H6 13 = .cells v13 [.int .i64 (ta:Int),.int .i64 (tb:Int)]:=by rw [<-hH6,getH_setH_self]
  have qk:∀k,k≠13->Bb H6 k=Bb (setH h5 I (.iter 0 209 0 15 (seen++[tbn]) 15)) k:=fun k hk=>by rw [<-hH6,Ba _ _ _ _ (by omega),Ba _ _ _ _ (by omega)]
  have q3:Bb H6 3 = .cells 0 [cbV B]:=by rw [qk _ (by omega),Ba _ _ _ _ (by omega),k3]
  have q131:Bb H6 131 = .cells 0 [wI cbW false,.omap 209 0]:=by rw [qk _ (by omega),Ba _ _ _ _ (by omega),k131]
  have q209:Bb H6 209 = .map 0 15 (eK Z) (eV Z) (eB Z):=by rw [qk _ (by omega),Ba _ _ _ _ (by omega),k209]
  have qI:Bb H6 I = .iter 0 209 0 15 (seen++[tbn]) 15:=by rw [qk _ (by omega),getH_setH_self]
  have hl6:I+1<=H6.length:=by rw [<-hH6]; simp only [Bh]; omega
  refine Dm (fun M st=>∃k:Nat,M=tb-k/\ta<=k/\k<=tb/\At st.env [(3,.optr 3 0 0),(6,.optr 131 0 0),(12,.clo 124 [] [.optr 3 0 0]),(13,.optr 13 v13 0),(14,.int .i64 (k:Nat)),(60,.iter I 0)]/\(∀k',ta<=k'->k'<k->Xk B ta tb k'=false)/\st.heap=H6) (tb-ta) (by omega)
   ⟨ta,rfl,Nat.le_refl _,by omega,by (simp only [go_sem,↓reduceIte,f3,f6,f12,f60]) <;> simp,fun k' h1 h2=>by omega,rfl⟩ ?_
  clear f3 f6 f12 f60 e
  rintro M2 e h7 hM2 ⟨k,hMk,hka,hkb,hE,hnv,hh7⟩ P2 hP2
  obtain rfl:h7=H6:=hh7
  simp only [Bz,Dc] at hE
  obtain ⟨f3,f6,f12,f13,f14,f60,-⟩:=hE
  by_cases hlt:k<tb
  ·have c1:decide (k<tb)=true:=decide_eq_true hlt
   have c2:decide ((k:Int)<(tb:Int))=true:=decide_eq_true (by omega)
   simp (disch:=first | assumption | omega) only [go_sem,↓reduceIte,f3,f6,f12,f13,f14,f60,q13,q131,c1,c2]
   refine Ee (Ru hB (a:=ta) (b:=tb) (by omega) hb4) (by omega) (A1a q3) (Gt _ _ _) ?_
   simp (disch:=first | assumption | omega) only [go_sem,↓reduceIte,f3,f6,f12,f13,f14,f60,q13,q131]
   refine Ee (Akj (a:=ta) (b:=tb) (by omega) hb4) (by omega) (Dj (Eo (Db (Dv _ _ _ _ _) (Dp _ _))) (Dj (Eo (Db (Bq _ _ _ _) (Db (Bq _ _ _ _) (Dp _ _)))) (Dt _))) (Gt _ _ _) ?_
   simp (disch:=first | assumption | omega) only [go_sem,↓reduceIte,f3,f6,f12,f13,f14,f60,q13,q131]
   refine Ee (Ru hB (a:=ta) (b:=k) hka (by omega)) (by omega) (A1a q3) (Gt _ _ _) ?_
   have w1:=hbd ta (by omega) tb hb4
   have w2:=hbd ta (by omega) k (by omega)
   have w3:=hbd (k+1) (by omega) tb hb4
   have w4:=Aur ta (by omega) tb hb4
   simp (disch:=first | assumption | omega) only [go_sem,↓reduceIte,f3,f6,f12,f13,f14,f60,q13,q131]
   refine Ee (Ru hB (a:=k+1) (b:=tb) (by omega) hb4) (by omega) (A1a q3) (Gt _ _ _) ?_
   have hvv:decide (Gz B ta tb>A3h ta tb+Gz B ta k+Gz B (k+1) tb)=Xk B ta tb k:=rfl
   by_cases hv:Xk B ta tb k=true
   ·obtain ⟨rfl,rfl⟩:=hbad ta tb k hka hlt hb4 hv
    rw [hv] at hvv
    simp (disch:=first | assumption | omega) only [go_sem,↓reduceIte,f3,f6,f12,f13,f14,f60,hvv]
    exact hV _ _ (Ey (Bq _ _ _ _) (Bq _ _ _ _))
   ·have hv':Xk B ta tb k=false:=by simpa using hv
    rw [hv'] at hvv
    simp (disch:=first | assumption | omega) only [go_sem,↓reduceIte,f3,f6,f12,f13,f14,f60,hvv,Bool.false_eq_true]
    refine hP2 (tb-(k+1)) _ (by omega) ⟨k+1,rfl,by omega,by omega,by (simp only [go_sem,↓reduceIte,f3,f6,f12,f13,f60]) <;> simp,fun k' h1 h2 => ?_,rfl⟩
    rcases Nat.lt_or_ge k' k with h9 | h9
    ·exact hnv k' h1 h9
    ·obtain rfl:k'=k:=by omega
     exact hv'
  ·obtain rfl:k=tb:=by omega
   have c1:decide (k<k)=false:=decide_eq_false (by omega)
   simp (disch:=first | assumption | omega) only [go_sem,↓reduceIte,f3,f6,f12,f13,f14,f60,q13,c1,Int.lt_irrefl,decide_false,Bool.false_eq_true]
   refine hP _ _ hml ⟨seen++[tbn],rfl,by simp only [go_sem,↓reduceIte,f3,f6,f12,f60],q3,q131,q209,qI,fun u hu hus => ?_,hl6⟩
   rcases List.mem_append.1 hus with h9 | h9
   ·exact hgd u hu h9
   ·obtain rfl:=hbe u hu (by simpa using h9)
    exact hnv
theorem C2x:YOk T 2000 C0h:=by
 have h:=Dz (Agw (B:=[[4,8,20,20],[2,10,16],[6,12],[3]]) (r0:=20) (r1:=0) (by kernel_rfl) rfl (by decide) (by decide) (by kernel_rfl) (fun a b k h1 h2 h3 hv=>by
  exfalso
  revert hv
  have:=(by decide:∀b,b<=4->∀k,k<b->∀a,a<=k->Xk [[4,8,20,20],[2,10,16],[6,12],[3]] a b k=false) b h3 k h2 a h1
  rw [this]; simp) (fun _=>by decide)) (Nat.le_refl _)
 exact (Es h).mono (by decide)
theorem C2z:YOk T 2000 C0j:=by
 have h:=Dz (Agw (B:=[[4,8,20,27],[2,10,16],[6,12],[3]]) (r0:=0) (r1:=14) (by kernel_rfl) rfl (by decide) (by decide) (by kernel_rfl) (fun a b k h1 h2 h3 hv=>⟨rfl,rfl⟩) (fun hg=>by
  have:=hg ((0,4),26,14) (by decide) 2 (by decide) (by decide)
  exact absurd this (by decide))) (Nat.le_refl _)
 exact (Es h).mono (by decide)
end Go.Ev.YtbgodhhdojjbmaaGreatC
