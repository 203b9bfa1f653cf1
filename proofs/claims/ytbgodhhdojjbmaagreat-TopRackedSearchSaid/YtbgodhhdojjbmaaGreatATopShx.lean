/- CheckPlan of layer 2, walked. The pauses of layer 2's bench, yielded one after another. times of layer 2's bench at the example, walked. Entries of layer 2's works that are proved by walks. No condition but those that stand in each. -/
import Derived.Test.YtbgodhhdojjbmaaGreatATopKnx
import Derived.Test.YtbgodhhdojjbmaaGreatATopShd
set_option linter.unusedSimpArgs false
set_option linter.unusedVariables false
set_option maxRecDepth 100000
namespace Go.Ev.YtbgodhhdojjbmaaGreatC
open Go Go.Proofs
def Gm (r:Int):List (Nat×Nat)->List Int->Int->Int×Int
 | [],_,n=>(n,0)
 | (w,p)::rest,on,n =>
  if (!decide (on.getD w 0>0)&&(on.sum==r)) != (p != 0) then (0,16)
  else if (!decide (on.getD w 0>0)&&(on.sum==r)) && !decide (on.getD p 0>0) then (0,18)
  else Gm r rest ((on.set p 0).set w 1) (if on=(on.set p 0).set w 1 then n else n+1)
def z9i:List Int:=[0,0,0,0,0,0,0,0,0]
theorem Ajd {q:List Int} (h:Pl q) (i:Nat) (x:Int) (hx:x=0\/x=1):Pl (q.set i x):=by
 refine ⟨by rw [List.length_set]; exact h.1,fun y hy => ?_⟩
 rcases List.mem_or_eq_of_mem_set hy with hy | rfl
 ·exact h.2 y hy
 ·exact hx
def B1e (r:Int) (l:List Nat) (h:Bc) (v:AV) (h':Bc):Prop:=
 ∃K M c,v = .tuple [.optr K 0 0,.int .i64 0]/\h.length<=K/\h.length<=M/\Bb h' K = .cells 0 (bnC r l z9 (.omap M 0))/\Bb h' M = .map 0 c (eK (paE l)) (eV (paE l)) (eB (paE l))/\(∀j,j<h.length->Bb h' j=Bb h j)
attribute [local irreducible] Res.all evC Do Dr Bv Bd Dw Bg Bj G GO GV GP GC R
theorem Ale (r:Int) (l:List Nat) (hl:l.length<=16) (hc:Con T 200 479 [.agg [.int .i64 r,By l]] (.int .i64 0)):∀n,210<=n->∀(h:Bc) (V:AV×Bc->Prop),(∀v h',B1e r l h v h'->V (v,h'))->
  G (Bg T n) h.length (Fin c417.results V) c417.body [] ⟨[.agg [.int .i64 r,By l]],h++List.replicate c417.ntmps .none⟩:=by
 intro n hn h V hV
 have cs:∀{base:Nat} {Q:EX×St->Prop} {d:Option Nat} {L:List IOper} {ks:List Kont} {e:Env} {h:Bc},GP (Bg T n) base Q d L ks e (Bg T n false (.fn 479) [.agg [.int .i64 r,By l]] h)=GO (Bg T n) base Q L ks ⟨Bk e d (.int .i64 0),h⟩:=
  Hb hc (by omega) (Dj (by repeat (first | exact Dp _ _ | exact Bq _ _ _ _ | exact Ea _ _ _ | exact Dv _ _ _ _ _ | exact Eq _ _ _ _ | exact Ex _ _ | refine Db ?_ ?_ | refine Eo ?_ | refine Ey ?_ ?_ | refine Fg ?_ ?_ ?_)) (Dt _)) (by exact Bool.or_true _)
 have e0:((0:Int) != 0)=false:=rfl
 have hn1:=Gv h 12 1
 simp (disch:=first | assumption | omega) only [c417,go_sem,↓reduceIte,cs,e0,Bool.false_eq_true,hn1]
 refine A1d (Qd (k:=3) t480 (A1b r l hl)) (by omega) fun v h' hv => ?_
 obtain ⟨rfl,h1,h2,h4,c,h3⟩:=hv
 have hL:(setH (h++List.replicate 12 AObj.none) (h.length+1) (.cells 0 [.int .i64 r,By l])).length=h.length+12:=by
  simp only [Bh,List.length_append,List.length_replicate]; omega
 rw [hL] at h1 h3
 simp (disch:=first | assumption | omega) only [go_sem,↓reduceIte]
 refine hV _ _ ⟨h.length+24,h.length+102,c,rfl,by omega,by omega,h1,h3,fun j hj => ?_⟩
 ·rw [h4 j (by simp only [Bh,List.length_append,List.length_replicate]; omega),Ba _ _ _ _ (by omega),Bi]
theorem Aij {f:AV->Res AV}:∀{a a' b b':List AV},mapR f a = .ret a'->mapR f b = .ret b'->mapR f (a++b) = .ret (a'++b')
 | [],a',b,b',h1,h2=>by
  cases h1
  exact h2
 | x::a,a',b,b',h1,h2=>by
  simp only [mapR] at h1
  cases hx:f x with
  | fail=>rw [hx] at h1; cases h1
  | choice n k=>rw [hx] at h1; cases h1
  | ret y =>
   rw [hx] at h1
   simp only [Res.bind] at h1
   cases ha:mapR f a with
   | fail=>rw [ha] at h1; cases h1
   | choice n k=>rw [ha] at h1; cases h1
   | ret a2 =>
    rw [ha] at h1
    cases h1
    simp only [List.cons_append,mapR,hx,Res.bind,Aij ha h2]
theorem Arl {h:Bc} {M c:Nat} {E:List LE} (hM:Bb h M = .map 0 c (eK E) (eV E) (eB E)) (r:Int) (l:List Nat) (q:List Int):mapR (Bj h 7) (.int .i64 r::By l::(q.map (.int .i64)++[.omap M 0])) = .ret (.int .i64 r::By l::(q.map (.int .i64)++[.fmap (eK E) (eV E)])):=by
 refine Db (Bq _ _ _ _) (Db (Dv _ _ _ _ _) (Aij (Rj fun x hx => ?_) (Db ?_ (Dp _ _))))
 ·obtain ⟨a,_,rfl⟩:=List.mem_map.1 hx
  exact Bq _ _ _ _
 ·refine Nx hM (Rj fun x hx => ?_) (Rj fun x hx => ?_)
  ·obtain ⟨t,_,rfl⟩:=List.mem_map.1 hx
   exact (by repeat (first | exact Dp _ _ | exact Bq _ _ _ _ | exact Ea _ _ _ | exact Dv _ _ _ _ _ | exact Eq _ _ _ _ | exact Ex _ _ | refine Db ?_ ?_ | refine Eo ?_ | refine Ey ?_ ?_ | refine Fg ?_ ?_ ?_))
  ·obtain ⟨t,_,rfl⟩:=List.mem_map.1 hx
   exact Bq _ _ _ _
theorem Mw (r:Int) (l ps:List Nat) (hl:l.length<=16) (hlen:ps.length=l.length) (hps:∀p∈ps,p<=8) (hls:∀w∈l,w<=8) (hc:Con T 200 479 [.agg [.int .i64 r,By l]] (.int .i64 0)) (hw:Con T 200 418 [.int .i64 0,.int .i64 8,By ps] (.bool true)) :
  Con T 220 345 [.agg [.int .i64 r,By l],By ps] (.tuple [.int .i64 (Gm r (l.zip ps) z9i 0).1,.int .i64 (Gm r (l.zip ps) z9i 0).2]):=by
 refine Dd t345 fun n hn V hV => ?_
 obtain ⟨n,rfl⟩:∃m,n=m+1:=⟨n-1,by omega⟩
 have hV':∀a b h,a=(Gm r (l.zip ps) z9i 0).1->b=(Gm r (l.zip ps) z9i 0).2->V (.tuple [.int .i64 a,.int .i64 b],h):=fun a b h e1 e2=>hV _ _ (by rw [e1,e2]; exact Ey (Bq _ _ _ _) (Bq _ _ _ _))
 clear hV
 simp (disch:=first | assumption | omega) only [c345,go_sem,↓reduceIte]
 refine A1d (Qd (k:=210) t417 (Ale r l hl hc)) (by omega) fun v h hv => ?_
 obtain ⟨K,M,c,rfl,hK,hM,gK,gM,kp⟩:=hv
 have g2:Bb h 2 = .cells 0 [.int .i64 r,By l]:=by
  rw [kp 2 (by simp only [Bh,List.length_replicate]; omega)]
  simp only [go_sem,↓reduceIte]
 have hK94:94<=K:=Nat.le_trans (by simp only [Bh,List.length_replicate]; omega) hK
 have hM94:94<=M:=Nat.le_trans (by simp only [Bh,List.length_replicate]; omega) hM
 clear hK hM kp
 have lK:=Fm gK (by simp)
 refine A2j [(1,By ps),(2,.optr 2 0 0),(15,.tuple [.optr K 0 0,.int .i64 0])] (by simp only [go_sem,↓reduceIte]) fun e hE => ?_
 simp only [Bz,Dc] at hE
 obtain ⟨f1,f2,f15,-⟩:=hE
 have e0:((0:Int) != 0)=false:=rfl
 have hln:((ps.length:Int) != (l.length:Int))=false:=by simp [hlen]
 simp (disch:=first | assumption | omega) only [go_sem,↓reduceIte,f1,f2,f15,e0,g2,hln]
 refine Ee hw (by omega) (Dj (Bq _ _ _ _) (Dj (Bq _ _ _ _) (Dj (Dv _ _ _ _ _) (Dt _)))) (Kb _ _) ?_
 simp (disch:=first | assumption | omega) only [go_sem,↓reduceIte,f2,g2]
 refine Dm (fun M' st=>∃(k:Nat) (on:List Int) (m:Int),M'=l.length-k/\k<=l.length/\At st.env [(1,By ps),(2,.optr 2 0 0),(6,.optr K 0 0),(34,By l),(35,.int .i64 l.length),(36,.int .i64 k),(8,.int .i64 m)]/\
   Bb st.heap 2 = .cells 0 [.int .i64 r,By l]/\Bb st.heap K = .cells 0 (.int .i64 r::By l::(on.map (.int .i64)++[.omap M 0]))/\Bb st.heap M = .map 0 c (eK (paE l)) (eV (paE l)) (eB (paE l))/\K<st.heap.length/\Pl on/\Gm r ((l.zip ps).drop k) on m=Gm r (l.zip ps) z9i 0/\(0<=m/\m<=k)) l.length (by omega)
  ⟨0,z9i,0,by omega,by omega,by simp only [go_sem,↓reduceIte,f1,f2],by simp only [go_sem,↓reduceIte]; exact g2,by simp only [go_sem,↓reduceIte]; exact gK,by simp only [go_sem,↓reduceIte]; exact gM,by simp only [go_sem,↓reduceIte]; exact lK,⟨rfl,by decide⟩,rfl,by omega,by omega⟩ ?_
 clear f1 f2 f15 g2 gK gM lK
 rintro M' e h2 hM' ⟨k,on,m,rfl,hk,hE,g2,gK,gM,lK,hon,hgo,hm0,hm1⟩ P hP
 simp only [Bz,Dc] at hE g2 gK gM lK
 obtain ⟨f1,f2,f6,f34,f35,f36,f8,-⟩:=hE
 have hon9:=hon.1
 by_cases hlt:k<l.length
 ·have hkz:(l.zip ps)[k]? = some (l.getD k 0,ps.getD k 0):=by
   rw [List.getElem?_zip_eq_some]
   rw [List.getD_eq_getElem?_getD,List.getD_eq_getElem?_getD,List.getElem?_eq_getElem hlt,List.getElem?_eq_getElem (by omega)]
   exact ⟨rfl,rfl⟩
  have hdr:=Hv hkz
  have hgp:(l.map fun n:Nat=>AV.int .i64 n)[k]? = some (.int .i64 (l.getD k 0:Nat)):=by
   rw [List.getElem?_map,List.getD_eq_getElem?_getD,List.getElem?_eq_getElem hlt]; rfl
  have hgp2:(ps.map fun n:Nat=>AV.int .i64 n)[k]? = some (.int .i64 (ps.getD k 0:Nat)):=by
   rw [List.getElem?_map,List.getD_eq_getElem?_getD,List.getElem?_eq_getElem (by omega)]; rfl
  have hw8:l.getD k 0<=8:=hls _ (by rw [List.getD_eq_getElem?_getD,List.getElem?_eq_getElem hlt]; exact List.getElem_mem hlt)
  have hp8:ps.getD k 0<=8:=hps _ (by rw [List.getD_eq_getElem?_getD,List.getElem?_eq_getElem (by omega)]; exact List.getElem_mem _)
  generalize l.getD k 0=w at *
  generalize ps.getD k 0=p at *
  have hkl:(k:Int)<(l.length:Int):=by omega
  have frzK:Bj h2 8 (.optr K 0 0) = .ret (.ptr (.int .i64 r::By l::(on.map (.int .i64)++[.fmap (eK (paE l)) (eV (paE l))])) 0):=Ge gK (Arl gM r l on)
  have hHw:∀{base:Nat} {Q:EX×St->Prop} {d:Option Nat} {L:List IOper} {ks:List Kont} {e:Env},GP (Bg T (n+1)) base Q d L ks e (Bg T (n+1) false (.fn 419) [.optr K 0 0,.int .i64 (w:Nat)] h2)=GO (Bg T (n+1)) base Q L ks ⟨Bk e d (.bool (decide (on.getD w 0>0))),h2⟩:=fun {base Q d L ks e} =>
   Hb (Yx (.int .i64 r) (By l) (.fmap (eK (paE l)) (eV (paE l))) on hon9 (w:=w) (by omega)) (Nat.le_add_left 1 n) (Dj frzK (Dj (Bq _ _ _ _) (Dt _))) (Kb _ _)
  have hHp:∀{base:Nat} {Q:EX×St->Prop} {d:Option Nat} {L:List IOper} {ks:List Kont} {e:Env},GP (Bg T (n+1)) base Q d L ks e (Bg T (n+1) false (.fn 419) [.optr K 0 0,.int .i64 (p:Nat)] h2)=GO (Bg T (n+1)) base Q L ks ⟨Bk e d (.bool (decide (on.getD p 0>0))),h2⟩:=fun {base Q d L ks e} =>
   Hb (Yx (.int .i64 r) (By l) (.fmap (eK (paE l)) (eV (paE l))) on hon9 (w:=p) (by omega)) (Nat.le_add_left 1 n) (Dj frzK (Dj (Bq _ _ _ _) (Dt _))) (Kb _ _)
  have hMany:∀{base:Nat} {Q:EX×St->Prop} {d:Option Nat} {L:List IOper} {ks:List Kont} {e:Env},GP (Bg T (n+1)) base Q d L ks e (Bg T (n+1) false (.fn 420) [.optr K 0 0] h2)=GO (Bg T (n+1)) base Q L ks ⟨Bk e d (.int .i64 on.sum),h2⟩:=fun {base Q d L ks e} =>
   Hb (A3u (.int .i64 r) (By l) (.fmap (eK (paE l)) (eV (paE l))) on hon) (Nat.le_add_left 1 n) (Dj frzK (Dt _)) (Gt _ _ _)
  have hons:(on.set p 0).length=9:=by rw [List.length_set,hon9]
  have honN:((on.set p 0).set w 1).length=9:=by rw [List.length_set,hons]
  have hplN:Pl ((on.set p 0).set w 1):=Ajd (Ajd hon p 0 (.inl rfl)) w 1 (.inr rfl)
  have htkO:(on.map (AV.int .i64)++[AV.omap M 0]).take 9=on.map (.int .i64):=by
   rw [List.take_append_of_le_length (by rw [List.length_map,hon9]; exact Nat.le_refl _),List.take_of_length_le (by rw [List.length_map,hon9]; exact Nat.le_refl _)]
  have htkO2:(on.map (AV.int .i64)).take 9=on.map (.int .i64):=List.take_of_length_le (by rw [List.length_map,hon9]; exact Nat.le_refl _)
  have htkN:(((on.set p 0).set w 1).map (AV.int .i64)++[AV.omap M 0]).take 9=((on.set p 0).set w 1).map (.int .i64):=by
   rw [List.take_append_of_le_length (by rw [List.length_map,honN]; exact Nat.le_refl _),List.take_of_length_le (by rw [List.length_map,honN]; exact Nat.le_refl _)]
  have honeO:=Iu .i64 on
  have hsp0:=spl0 on hon9
  have heqI:=Me .i64 on ((on.set p 0).set w 1) (by omega)
  have hb1:(false != false)=false:=rfl
  have hb2:(true != true)=false:=rfl
  have hb3:(false != true)=true:=rfl
  have hb4:(true != false)=true:=rfl
  have hc1:((false==false) != true)=false:=rfl
  have hc2:((false==true) != true)=true:=rfl
  have hc3:((true==false) != true)=true:=rfl
  have hc4:((true==true) != true)=false:=rfl
  have hpx:True:=trivial
  by_cases hhw:on.getD w 0>0
  ·have hd:decide (on.getD w 0>0)=true:=decide_eq_true hhw
   have hfl:(!decide (on.getD w 0>0)&&(on.sum==r))=false:=by rw [hd]; rfl
   by_cases hp0:p=0
   ·have hpn:(p != 0)=false:=by simp [hp0]
    have hpi:((p:Int) != 0)=false:=by simp [hp0]
    simp (disch:=first | assumption | omega) only [go_sem,↓reduceIte,f1,f2,f6,f34,f35,f36,hHw,hHp,hMany,g2,gK,hon9,htkO,htkO2,honeO,hsp0,hgp,hgp2,hkl,hd,hpi,hc1,hc2,hc3,hc4]
    refine A1c (K:=K) (ver:=0) (x:=p) (cs:=.int .i64 r::By l::(on.map (.int .i64)++[.omap M 0])) (by rw [Ba _ _ _ _ (by omega),Ba _ _ _ _ (by omega)]; exact gK) (by simp only [Bh]; omega) (by omega) (by simp [hon9]; omega) ?_
    rw [Kt _ _ _ on hon9 (by omega)]
    simp (disch:=first | assumption | omega) only [go_sem,↓reduceIte,f6]
    refine Rh (K:=K) (ver:=0) (x:=w) (getH_setH_self _ _ _) (by simp only [Bh,List.length_append]; omega) (by omega) (by simp [hon9]; omega) ?_
    rw [Kt _ _ _ (on.set p 0) hons (by omega)]
    have nK12:¬(K=12):=by omega
    have n12K:¬(12=K):=by omega
    have nMK:¬(M=K):=fun h=>by subst h; rw [gK] at gM; cases gM
    have nKM:¬(K=M):=fun h=>nMK h.symm
    have n12M:¬(12=M):=by omega
    have n2K:¬(2=K):=by omega
    have nK2:¬(K=2):=by omega
    simp (disch:=first | assumption | omega) only [go_sem,↓reduceIte,f6,htkO,htkO2,htkN,nK12,n12K,hon9,honN,heqI,hsp0,Bi,eaA]
    by_cases hch:on=(on.set p 0).set w 1
    ·have hdc:decide (on=(on.set p 0).set w 1)=true:=decide_eq_true hch
     have hbt:(true != true)=false:=rfl
     simp (disch:=first | assumption | omega) only [go_sem,↓reduceIte,hdc,hbt,f8,f36]
     refine hP (l.length-(k+1)) _ (by omega) ⟨k+1,(on.set p 0).set w 1,m,rfl,by omega,by simp only [go_sem,↓reduceIte,f1,f2,f6,f34,f35,f8],?_,?_,?_,?_,hplN,?_,by omega⟩
     ·rw [Ba _ _ _ _ nK2,Bi,Ba _ _ _ _ nK2,Bi,Ba _ _ _ _ (by omega),Ba _ _ _ _ (by omega)]; exact g2
     ·rw [getH_setH_self]
     ·rw [Ba _ _ _ _ nKM,Bi,Ba _ _ _ _ nKM,Bi,Ba _ _ _ _ n12M,Ba _ _ _ _ n12M]; exact gM
     ·simp only [Bh,List.length_append]; omega
     ·rw [<-hgo,hdr]; simp only [Gm,hfl,hpn,hb1,hb2,hb3,hb4,hpx,Bool.false_and,Bool.true_and,Bool.false_eq_true,Bool.not_true,Bool.not_false,if_false,if_true,reduceIte,if_pos hch]
    ·have hdc:decide (on=(on.set p 0).set w 1)=false:=decide_eq_false hch
     have hbt:(false != true)=true:=rfl
     simp (disch:=first | assumption | omega) only [go_sem,↓reduceIte,hdc,hbt,f8,f36]
     refine hP (l.length-(k+1)) _ (by omega) ⟨k+1,(on.set p 0).set w 1,m+1,rfl,by omega,by simp only [go_sem,↓reduceIte,f1,f2,f6,f34,f35],?_,?_,?_,?_,hplN,?_,by omega⟩
     ·rw [Ba _ _ _ _ nK2,Bi,Ba _ _ _ _ nK2,Bi,Ba _ _ _ _ (by omega),Ba _ _ _ _ (by omega)]; exact g2
     ·rw [getH_setH_self]
     ·rw [Ba _ _ _ _ nKM,Bi,Ba _ _ _ _ nKM,Bi,Ba _ _ _ _ n12M,Ba _ _ _ _ n12M]; exact gM
     ·simp only [Bh,List.length_append]; omega
     ·rw [<-hgo,hdr]; simp only [Gm,hfl,hpn,hb1,hb2,hb3,hb4,hpx,Bool.false_and,Bool.true_and,Bool.false_eq_true,Bool.not_true,Bool.not_false,if_false,if_true,reduceIte,if_neg hch]
   ·have hpn:(p != 0)=true:=by simp [hp0]
    have hpi:((p:Int) != 0)=true:=by simp; omega
    simp (disch:=first | assumption | omega) only [go_sem,↓reduceIte,f1,f2,f6,f34,f35,f36,hHw,hHp,hMany,g2,gK,hon9,hgp,hgp2,hkl,hd,hpi,hc1,hc2,hc3,hc4]
    refine hV' _ _ _ ?_ ?_ <;> (rw [<-hgo,hdr]; simp only [Gm,hfl,hpn,hb1,hb2,hb3,hb4,hpx,Bool.false_and,Bool.true_and,Bool.false_eq_true,Bool.not_true,Bool.not_false,if_false,if_true,reduceIte])
  ·have hd:decide (on.getD w 0>0)=false:=decide_eq_false hhw
   by_cases hsr:on.sum=r
   ·have hsb:(on.sum==r)=true:=by simp [hsr]
    have hfl:(!decide (on.getD w 0>0)&&(on.sum==r))=true:=by rw [hd,hsb]; rfl
    by_cases hp0:p=0
    ·have hpn:(p != 0)=false:=by simp [hp0]
     have hpi:((p:Int) != 0)=false:=by simp [hp0]
     simp (disch:=first | assumption | omega) only [go_sem,↓reduceIte,f1,f2,f6,f34,f35,f36,hHw,hHp,hMany,g2,gK,hon9,hgp,hgp2,hkl,hd,hsb,hpi,hc1,hc2,hc3,hc4]
     refine hV' _ _ _ ?_ ?_ <;> (rw [<-hgo,hdr]; simp only [Gm,hfl,hpn,hb1,hb2,hb3,hb4,hpx,Bool.false_and,Bool.true_and,Bool.false_eq_true,Bool.not_true,Bool.not_false,if_false,if_true,reduceIte])
    ·have hpn:(p != 0)=true:=by simp [hp0]
     have hpi:((p:Int) != 0)=true:=by simp; omega
     by_cases hhp:on.getD p 0>0
     ·have hpx:decide (on.getD p 0>0)=true:=decide_eq_true hhp
      simp (disch:=first | assumption | omega) only [go_sem,↓reduceIte,f1,f2,f6,f34,f35,f36,hHw,hHp,hMany,g2,gK,hon9,htkO,htkO2,honeO,hsp0,hgp,hgp2,hkl,hd,hsb,hpi,hpx,hc1,hc2,hc3,hc4]
      refine A1c (K:=K) (ver:=0) (x:=p) (cs:=.int .i64 r::By l::(on.map (.int .i64)++[.omap M 0])) (by rw [Ba _ _ _ _ (by omega),Ba _ _ _ _ (by omega)]; exact gK) (by simp only [Bh]; omega) (by omega) (by simp [hon9]; omega) ?_
      rw [Kt _ _ _ on hon9 (by omega)]
      simp (disch:=first | assumption | omega) only [go_sem,↓reduceIte,f6]
      refine Rh (K:=K) (ver:=0) (x:=w) (getH_setH_self _ _ _) (by simp only [Bh,List.length_append]; omega) (by omega) (by simp [hon9]; omega) ?_
      rw [Kt _ _ _ (on.set p 0) hons (by omega)]
      have nK12:¬(K=12):=by omega
      have n12K:¬(12=K):=by omega
      have nMK:¬(M=K):=fun h=>by subst h; rw [gK] at gM; cases gM
      have nKM:¬(K=M):=fun h=>nMK h.symm
      have n12M:¬(12=M):=by omega
      have n2K:¬(2=K):=by omega
      have nK2:¬(K=2):=by omega
      simp (disch:=first | assumption | omega) only [go_sem,↓reduceIte,f6,htkO,htkO2,htkN,nK12,n12K,hon9,honN,heqI,hsp0,Bi,eaA]
      by_cases hch:on=(on.set p 0).set w 1
      ·have hdc:decide (on=(on.set p 0).set w 1)=true:=decide_eq_true hch
       have hbt:(true != true)=false:=rfl
       simp (disch:=first | assumption | omega) only [go_sem,↓reduceIte,hdc,hbt,f8,f36]
       refine hP (l.length-(k+1)) _ (by omega) ⟨k+1,(on.set p 0).set w 1,m,rfl,by omega,by simp only [go_sem,↓reduceIte,f1,f2,f6,f34,f35,f8],?_,?_,?_,?_,hplN,?_,by omega⟩
       ·rw [Ba _ _ _ _ nK2,Bi,Ba _ _ _ _ nK2,Bi,Ba _ _ _ _ (by omega),Ba _ _ _ _ (by omega)]; exact g2
       ·rw [getH_setH_self]
       ·rw [Ba _ _ _ _ nKM,Bi,Ba _ _ _ _ nKM,Bi,Ba _ _ _ _ n12M,Ba _ _ _ _ n12M]; exact gM
       ·simp only [Bh,List.length_append]; omega
       ·rw [<-hgo,hdr]; simp only [Gm,hfl,hpn,hb1,hb2,hb3,hb4,hpx,Bool.false_and,Bool.true_and,Bool.false_eq_true,Bool.not_true,Bool.not_false,if_false,if_true,reduceIte,if_pos hch]
      ·have hdc:decide (on=(on.set p 0).set w 1)=false:=decide_eq_false hch
       have hbt:(false != true)=true:=rfl
       simp (disch:=first | assumption | omega) only [go_sem,↓reduceIte,hdc,hbt,f8,f36]
       refine hP (l.length-(k+1)) _ (by omega) ⟨k+1,(on.set p 0).set w 1,m+1,rfl,by omega,by simp only [go_sem,↓reduceIte,f1,f2,f6,f34,f35],?_,?_,?_,?_,hplN,?_,by omega⟩
       ·rw [Ba _ _ _ _ nK2,Bi,Ba _ _ _ _ nK2,Bi,Ba _ _ _ _ (by omega),Ba _ _ _ _ (by omega)]; exact g2
       ·rw [getH_setH_self]
       ·rw [Ba _ _ _ _ nKM,Bi,Ba _ _ _ _ nKM,Bi,Ba _ _ _ _ n12M,Ba _ _ _ _ n12M]; exact gM
       ·simp only [Bh,List.length_append]; omega
       ·rw [<-hgo,hdr]; simp only [Gm,hfl,hpn,hb1,hb2,hb3,hb4,hpx,Bool.false_and,Bool.true_and,Bool.false_eq_true,Bool.not_true,Bool.not_false,if_false,if_true,reduceIte,if_neg hch]
     ·have hpx:decide (on.getD p 0>0)=false:=decide_eq_false hhp
      simp (disch:=first | assumption | omega) only [go_sem,↓reduceIte,f1,f2,f6,f34,f35,f36,hHw,hHp,hMany,g2,gK,hon9,hgp,hgp2,hkl,hd,hsb,hpi,hpx,hc1,hc2,hc3,hc4]
      refine hV' _ _ _ ?_ ?_ <;> (rw [<-hgo,hdr]; simp only [Gm,hfl,hpn,hb1,hb2,hb3,hb4,hpx,Bool.false_and,Bool.true_and,Bool.false_eq_true,Bool.not_true,Bool.not_false,if_false,if_true,reduceIte])
   ·have hsb:(on.sum==r)=false:=by simp [hsr]
    have hfl:(!decide (on.getD w 0>0)&&(on.sum==r))=false:=by rw [hd,hsb]; rfl
    by_cases hp0:p=0
    ·have hpn:(p != 0)=false:=by simp [hp0]
     have hpi:((p:Int) != 0)=false:=by simp [hp0]
     simp (disch:=first | assumption | omega) only [go_sem,↓reduceIte,f1,f2,f6,f34,f35,f36,hHw,hHp,hMany,g2,gK,hon9,htkO,htkO2,honeO,hsp0,hgp,hgp2,hkl,hd,hsb,hpi,hc1,hc2,hc3,hc4]
     refine A1c (K:=K) (ver:=0) (x:=p) (cs:=.int .i64 r::By l::(on.map (.int .i64)++[.omap M 0])) (by rw [Ba _ _ _ _ (by omega),Ba _ _ _ _ (by omega)]; exact gK) (by simp only [Bh]; omega) (by omega) (by simp [hon9]; omega) ?_
     rw [Kt _ _ _ on hon9 (by omega)]
     simp (disch:=first | assumption | omega) only [go_sem,↓reduceIte,f6]
     refine Rh (K:=K) (ver:=0) (x:=w) (getH_setH_self _ _ _) (by simp only [Bh,List.length_append]; omega) (by omega) (by simp [hon9]; omega) ?_
     rw [Kt _ _ _ (on.set p 0) hons (by omega)]
     have nK12:¬(K=12):=by omega
     have n12K:¬(12=K):=by omega
     have nMK:¬(M=K):=fun h=>by subst h; rw [gK] at gM; cases gM
     have nKM:¬(K=M):=fun h=>nMK h.symm
     have n12M:¬(12=M):=by omega
     have n2K:¬(2=K):=by omega
     have nK2:¬(K=2):=by omega
     simp (disch:=first | assumption | omega) only [go_sem,↓reduceIte,f6,htkO,htkO2,htkN,nK12,n12K,hon9,honN,heqI,hsp0,Bi,eaA]
     by_cases hch:on=(on.set p 0).set w 1
     ·have hdc:decide (on=(on.set p 0).set w 1)=true:=decide_eq_true hch
      have hbt:(true != true)=false:=rfl
      simp (disch:=first | assumption | omega) only [go_sem,↓reduceIte,hdc,hbt,f8,f36]
      refine hP (l.length-(k+1)) _ (by omega) ⟨k+1,(on.set p 0).set w 1,m,rfl,by omega,by simp only [go_sem,↓reduceIte,f1,f2,f6,f34,f35,f8],?_,?_,?_,?_,hplN,?_,by omega⟩
      ·rw [Ba _ _ _ _ nK2,Bi,Ba _ _ _ _ nK2,Bi,Ba _ _ _ _ (by omega),Ba _ _ _ _ (by omega)]; exact g2
      ·rw [getH_setH_self]
      ·rw [Ba _ _ _ _ nKM,Bi,Ba _ _ _ _ nKM,Bi,Ba _ _ _ _ n12M,Ba _ _ _ _ n12M]; exact gM
      ·simp only [Bh,List.length_append]; omega
      ·rw [<-hgo,hdr]; simp only [Gm,hfl,hpn,hb1,hb2,hb3,hb4,hpx,Bool.false_and,Bool.true_and,Bool.false_eq_true,Bool.not_true,Bool.not_false,if_false,if_true,reduceIte,if_pos hch]
     ·have hdc:decide (on=(on.set p 0).set w 1)=false:=decide_eq_false hch
      have hbt:(false != true)=true:=rfl
      simp (disch:=first | assumption | omega) only [go_sem,↓reduceIte,hdc,hbt,f8,f36]
      refine hP (l.length-(k+1)) _ (by omega) ⟨k+1,(on.set p 0).set w 1,m+1,rfl,by omega,by simp only [go_sem,↓reduceIte,f1,f2,f6,f34,f35],?_,?_,?_,?_,hplN,?_,by omega⟩
      ·rw [Ba _ _ _ _ nK2,Bi,Ba _ _ _ _ nK2,Bi,Ba _ _ _ _ (by omega),Ba _ _ _ _ (by omega)]; exact g2
      ·rw [getH_setH_self]
      ·rw [Ba _ _ _ _ nKM,Bi,Ba _ _ _ _ nKM,Bi,Ba _ _ _ _ n12M,Ba _ _ _ _ n12M]; exact gM
      ·simp only [Bh,List.length_append]; omega
      ·rw [<-hgo,hdr]; simp only [Gm,hfl,hpn,hb1,hb2,hb3,hb4,hpx,Bool.false_and,Bool.true_and,Bool.false_eq_true,Bool.not_true,Bool.not_false,if_false,if_true,reduceIte,if_neg hch]
    ·have hpn:(p != 0)=true:=by simp [hp0]
     have hpi:((p:Int) != 0)=true:=by simp; omega
     simp (disch:=first | assumption | omega) only [go_sem,↓reduceIte,f1,f2,f6,f34,f35,f36,hHw,hHp,hMany,g2,gK,hon9,hgp,hgp2,hkl,hd,hsb,hpi,hc1,hc2,hc3,hc4]
     refine hV' _ _ _ ?_ ?_ <;> (rw [<-hgo,hdr]; simp only [Gm,hfl,hpn,hb1,hb2,hb3,hb4,hpx,Bool.false_and,Bool.true_and,Bool.false_eq_true,Bool.not_true,Bool.not_false,if_false,if_true,reduceIte])
 ·obtain rfl:k=l.length:=by omega
  have hz:(l.zip ps).drop l.length=[]:=List.drop_eq_nil_of_le (by rw [List.length_zip,hlen,Nat.min_self]; exact Nat.le_refl _)
  rw [hz] at hgo
  simp only [Gm] at hgo
  simp (disch:=first | assumption | omega) only [go_sem,↓reduceIte,f8,f35,f36,hlt]
  exact hV' _ _ _ (by rw [<-hgo]) (by rw [<-hgo])
end Go.Ev.YtbgodhhdojjbmaaGreatC
namespace Go.Ev.YtbgodhhdojjbmaaGreatC
open Go Go.Proofs
def Zy (E:List LE) (q:Nat×Nat):Nat:=match E.find? fun t=>t.1==q with | some t=>t.2.1 | none=>0
theorem Ary {E:List LE} (q:Nat×Nat):lkA (some 2) (.int .i64 0) false (edA q) (some (eK E,eV E)) = .ret (.int .i64 (Zy E q:Nat)):=by
 simp only [lkA,Ie,if_true]
 cases hf:E.find? fun t=>t.1==q with
 | none =>
  have hno:q∉E.map (·.1):=fun hm=>by
   obtain ⟨t,ht,he⟩:=List.mem_map.1 hm
   have:=List.find?_eq_none.1 hf t ht
   simp [he] at this
  rw [Lo q E 0 hno,Zy,hf]
  rfl
 | some t =>
  obtain ⟨hp,A,B,rfl,hA⟩:=List.find?_eq_some_iff_append.1 hf
  have hq:t.1=q:=by simpa using hp
  have hA':q∉A.map (·.1):=fun hm=>by
   obtain ⟨u,hu,he⟩:=List.mem_map.1 hm
   have:=hA u hu
   simp [he] at this
  rw [Hy q t B hq A 0 hA',Zy,hf]
  simp only [eV,List.map_append,List.map_cons,Nat.zero_add]
  rw [List.getElem?_append_right (by simp)]
  simp
def Lb (k i:Nat):List (Nat×Nat):=(List.range' i (k-i)).map fun a=>(a,k)
def Le (N:Nat):Nat->Nat->List (Nat×Nat)
 | 0,_=>[]
 | m+1,k=>Lb k 0++Le N m (k+1)
theorem Ahv {k i:Nat} (h:i<k):Lb k i=(i,k)::Lb k (i+1):=by
 obtain ⟨m,hm⟩:∃m,k-i=m+1:=⟨k-i-1,by omega⟩
 have hm2:k-(i+1)=m:=by omega
 simp only [Lb,hm,hm2,List.range'_succ,List.map_cons]
theorem Ali (k:Nat):Lb k k=[]:=by simp [Lb]
def Lv (l:List Nat) (L:List (Nat×Nat)):List (Nat×Nat):=L.filter fun q=>decide (0<Zy (paE l) q)
attribute [local irreducible] Res.all evC Do Dr Bv Bd Dw Bg Bj G GO GV GP GC R
theorem Abk (r:Int) (l:List Nat) (on:List AV) (hon:on.length=9) (hl:l.length<=16) (key ver B0:Nat) (J:List (Nat×Nat)->Bc->Prop) (hJ:∀r h h',(∀j,j<B0->Bb h' j=Bb h j)->h.length<=h'.length->J r h->J r h') {n:Nat} (hn:1<=n)
  (hy:∀d r h,B0<=h.length->J (d::r) h->(Bg T (n-1) true (.yld key ver) [edA d] h).all fun p=>p.1 = .bool true/\J r p.2/\B0<=p.2.length) (h:Bc) (hB:h.length=B0) (h0:J (Lv l (Le l.length l.length 0)) h) (V:AV×Bc->Prop) (hV:∀v h',J [] h'->V (v,h')) :
  (Bg T n true (.fn 513) [.yld key ver,.ptr [.ptr (bnC r l on (.fmap (eK (paE l)) (eV (paE l)))) 0] 0] h).all V:=by
 obtain ⟨m,rfl⟩:∃m,n=m+1:=⟨n-1,by omega⟩
 rw [Ew t513]
 have hg11:(on++[AV.fmap (eK (paE l)) (eV (paE l))])[9]? = some (.fmap (eK (paE l)) (eV (paE l))):=by
  rw [List.getElem?_append_right (by omega),hon]; rfl
 simp (disch:=first | assumption | omega) only [c513,go_sem,↓reduceIte]
 refine Dm (fun M st=>∃k:Nat,M=l.length-k/\k<=l.length/\At st.env [(0,.yld key ver),(1,.ptr [.ptr (bnC r l on (.fmap (eK (paE l)) (eV (paE l)))) 0] 0),(11,.int .i64 l.length),(12,.int .i64 k)]/\J (Lv l (Le l.length (l.length-k) k)) st.heap/\B0<=st.heap.length) l.length (by omega)
  ⟨0,by omega,by omega,by simp only [go_sem,↓reduceIte],hJ _ h _ (fun j hj=>Bi _ _ _) (by simp only [List.length_append]; omega) h0,by simp only [List.length_append]; omega⟩ ?_
 rintro M e h1 hM ⟨k,rfl,hk,hE,hJ1,hb1⟩ P hP
 simp only [Bz,Dc] at hE hJ1 hb1
 obtain ⟨f0,f1,f11,f12,-⟩:=hE
 by_cases hlt:k<l.length
 ·have hlt':(k:Int)<(l.length:Int):=by omega
  obtain ⟨s,hs⟩:∃s,l.length-k=s+1:=⟨l.length-k-1,by omega⟩
  have hs2:l.length-(k+1)=s:=by omega
  rw [hs,Le] at hJ1
  simp (disch:=first | assumption | omega) only [go_sem,↓reduceIte,f0,f1,f11,f12,hlt']
  refine Dm (fun M st=>∃i:Nat,M=k-i/\i<=k/\At st.env [(0,.yld key ver),(1,.ptr [.ptr (bnC r l on (.fmap (eK (paE l)) (eV (paE l)))) 0] 0),(3,.int .i64 k),(11,.int .i64 l.length),(12,.int .i64 k),(15,.int .i64 k),(16,.int .i64 i)]/\J (Lv l (Lb k i++Le l.length s (k+1))) st.heap/\B0<=st.heap.length) k (by omega)
   ⟨0,by omega,by omega,by simp only [go_sem,↓reduceIte,f0,f1,f11,f12],hJ1,hb1⟩ ?_
  clear f0 f1 f11 f12 hJ1 hb1
  rintro M e2 h2 hM2 ⟨i,rfl,hi,hE2,hJ2,hb2⟩ P2 hP2
  simp only [Bz,Dc] at hE2 hJ2 hb2
  obtain ⟨f0,f1,f3,f11,f12,f15,f16,-⟩:=hE2
  by_cases hik:i<k
  ·have hik':(i:Int)<(k:Int):=by omega
   have hlk:=Ary (E:=paE l) (i,k)
   simp only [edA] at hlk
   rw [Ahv hik,List.cons_append] at hJ2
   have hmo:∀hh:Bc,Gb hh (.fmap (eK (paE l)) (eV (paE l)))=some (eK (paE l),eV (paE l)):=fun hh=>rfl
   by_cases hv:0<Zy (paE l) (i,k)
   ·have hv':decide (((Zy (paE l) (i,k):Nat):Int)>0)=true:=decide_eq_true (by omega)
    have hJ3:J ((i,k)::Lv l (Lb k (i+1)++Le l.length s (k+1))) h2:=by
     have:Lv l ((i,k)::(Lb k (i+1)++Le l.length s (k+1)))=(i,k)::Lv l (Lb k (i+1)++Le l.length s (k+1)):=by
      simp only [Lv,List.filter_cons,hv,decide_true,if_true]
     rw [<-this]; exact hJ2
    simp (disch:=first | assumption | omega) only [go_sem,↓reduceIte,f0,f1,f3,f15,f16,hik',hg11,hmo,hlk,hv']
    refine Gi (Res.all_mono _ (hy (i,k) (Lv l (Lb k (i+1)++Le l.length s (k+1))) _ (by simp only [Bh]; omega) (hJ _ h2 _ (fun j hj=>by rw [Ba _ _ _ _ (by omega),Ba _ _ _ _ (by omega)]) (by simp only [Bh]; omega) hJ3)) ?_)
    rintro ⟨v,h'⟩ ⟨hv1,hJ',hb'⟩
    simp only at hv1 hJ' hb'
    subst hv1
    simp (disch:=first | assumption | omega) only [go_sem,↓reduceIte,f0,f1,f3,f15,f16]
    exact hP2 (k-(i+1)) _ (by omega) ⟨i+1,rfl,by omega,by simp only [go_sem,↓reduceIte,f0,f1,f3,f11,f12,f15],hJ',hb'⟩
   ·have hv':decide (((Zy (paE l) (i,k):Nat):Int)>0)=false:=decide_eq_false (by omega)
    have hJ3:J (Lv l (Lb k (i+1)++Le l.length s (k+1))) h2:=by
     have:Lv l ((i,k)::(Lb k (i+1)++Le l.length s (k+1)))=Lv l (Lb k (i+1)++Le l.length s (k+1)):=by
      simp only [Lv,List.filter_cons,hv,decide_false,Bool.false_eq_true,if_false]
     rw [<-this]; exact hJ2
    simp (disch:=first | assumption | omega) only [go_sem,↓reduceIte,f0,f1,f3,f15,f16,hik',hg11,hmo,hlk,hv']
    refine hP2 (k-(i+1)) _ (by omega) ⟨i+1,rfl,by omega,by simp only [go_sem,↓reduceIte,f0,f1,f3,f11,f12,f15],hJ _ h2 _ (fun j hj=>by rw [Ba _ _ _ _ (by omega),Ba _ _ _ _ (by omega)]) (by simp only [Bh]; omega) hJ3,by simp only [Bh]; omega⟩
  ·obtain rfl:i=k:=by omega
   rw [Ali,List.nil_append] at hJ2
   have hii:¬(i:Int)<(i:Int):=by omega
   simp (disch:=first | assumption | omega) only [go_sem,↓reduceIte,f12,f15,f16,hii]
   exact hP (l.length-(i+1)) _ (by omega) ⟨i+1,rfl,by omega,by simp only [go_sem,↓reduceIte,f0,f1,f11],by rw [hs2]; exact hJ2,hb2⟩
 ·obtain rfl:k=l.length:=by omega
  rw [Nat.sub_self,Le] at hJ1
  simp (disch:=first | assumption | omega) only [go_sem,↓reduceIte,f11,f12,hlt,Gf,mapR]
  exact hV _ _ hJ1
theorem Aac (cs:List AV) (hz:∀h,mapR (Bj h 4) cs = .ret cs):Con T 1 482 [.ptr cs 0] (.clo 513 [] [.ptr [.ptr cs 0] 0]):=by
 refine Dd t482 fun n hn V hV => ?_
 simp (disch:=first | assumption | omega) only [c482,go_sem,↓reduceIte]
 refine hV _ _ (Nk (Dp _ _) (Db (Ge (cs:=[.ptr cs 0]) (by simp only [go_sem,↓reduceIte]) (Db ?_ (Dp _ _))) (Dp _ _)))
 exact Eq _ _ _ _
end Go.Ev.YtbgodhhdojjbmaaGreatC
namespace Go.Ev.YtbgodhhdojjbmaaGreatC
open Go Go.Proofs
def Lq (old last:Nat) (d:Nat×Nat):Bool:=decide (old<=d.1+1)&&decide (d.2+1<=last)
abbrev DP:=List Int×List Int
def lsO (PS:List (Nat×Nat)) (last k:Nat) (s:DP):Int:=s.1.getD k 0+(PS.countP (Lq k last):Nat)+(if last<=12 then 2 else 0)
def tmO (PS:List (Nat×Nat)) (last:Nat):Nat->DP->DP
 | 0,s=>s
 | k+1,s=>if lsO PS last k (tmO PS last k s)<(tmO PS last k s).1.getD last 0 then ((tmO PS last k s).1.set last (lsO PS last k (tmO PS last k s)),(tmO PS last k s).2.set last k) else tmO PS last k s
def tmA (PS:List (Nat×Nat)):Nat->DP
 | 0=>(List.replicate 14 0,List.replicate 14 0)
 | m+1=>tmO PS (m+1) (m+1) ((tmA PS m).1.set (m+1) 1000,(tmA PS m).2)
def tmP:List (Nat×Nat):=Lv wW (Le 12 12 0)
def OkD (s:DP):Prop:=s.1.length=14/\s.2.length=14/\∀x∈s.1,0<=x/\x<=1000
theorem A2p {s:DP} (h:OkD s) {i:Nat} {x:Int} (hx:0<=x/\x<=1000):OkD (s.1.set i x,s.2):=by
 refine ⟨by rw [List.length_set]; exact h.1,h.2.1,fun y hy => ?_⟩
 rcases List.mem_or_eq_of_mem_set hy with hy | rfl
 ·exact h.2.2 y hy
 ·exact hx
theorem A2i {s:DP} (h:OkD s) (i:Nat):0<=s.1.getD i 0/\s.1.getD i 0<=1000:=by
 rw [List.getD_eq_getElem?_getD]
 by_cases hi:i<s.1.length
 ·rw [List.getElem?_eq_getElem hi]
  exact h.2.2 _ (List.getElem_mem hi)
 ·rw [List.getElem?_eq_none (by omega)]
  simp
theorem A2q (PS:List (Nat×Nat)) (last:Nat):∀(k:Nat) (s:DP),OkD s->OkD (tmO PS last k s)
 | 0,s,h=>h
 | k+1,s,h=>by
  have ih:=A2q PS last k s h
  unfold tmO
  by_cases hlt:lsO PS last k (tmO PS last k s)<(tmO PS last k s).1.getD last 0
  ·rw [if_pos hlt]
   have h1:=A2i ih k
   have h2:=A2i ih last
   have h0:0<=lsO PS last k (tmO PS last k s):=by
    unfold lsO
    split <;> omega
   have:=A2p (i:=last) ih (x:=lsO PS last k (tmO PS last k s)) (by omega)
   exact ⟨this.1,by rw [List.length_set]; exact ih.2.1,this.2.2⟩
  ·rw [if_neg hlt]
   exact ih
theorem Acq (PS:List (Nat×Nat)):∀m,OkD (tmA PS m)
 | 0=>⟨by simp [tmA],by simp [tmA],fun x hx=>by
   have:=List.eq_of_mem_replicate hx
   omega⟩
 | m+1=>A2q PS _ _ _ (A2p (Acq PS m) (by omega))
theorem Auu:tmP.length=7:=by kernel_rfl
theorem C7l:(tmA tmP 13).2[13]? = some 7/\(tmA tmP 13).2[7]? = some 0:=⟨by kernel_rfl,by kernel_rfl⟩
theorem B0g:Con T 61 484 [.slice none [.int .i64 6] false] (.tuple []):=Ep (Fy (k:=0) (n:=60) (l:=[]) (fun _ h=>by cases h) (by kernel_rfl))
theorem Agv (old last:Nat) (d:Nat×Nat) (r:List (Nat×Nat)):((d::r).countP (Lq old last):Nat)=r.countP (Lq old last)+if Lq old last d=true then 1 else 0:=by
 rw [List.countP_cons]
theorem Aeh {call:Bf} {base:Nat} {Q:EX×St->Prop} {ks:List Kont} {e:Env} {h:Bc} {l:List IOper} {d:Option Nat} (d0 n:Nat) (g:Option Nat) (z:List AV) (b:Nat) (le c:IX):GO call base Q (⟨d,.mkSliceD d0 n g z b le c,none⟩::l) ks ⟨e,h⟩=(if base+d.getD 0+n<=h.length+d0 then (match Df (le.ev e),Df (c.ev e) with
  | some n,some c=>if n<=c/\Et c b/\z.all oneB then GO call base Q l ks ⟨Bk e d (.oslice h.length (Bb h h.length).next g 0 n (some c)),setH h h.length (.cells (Bb h h.length).next (List.replicate c z).flatten)⟩ else False
  | _,_=>False) else False):=by
 rw [Ds]
 simp only [Bd,decide_eq_true_eq]
 split
 ·cases Df (le.ev e) with
  | none=>rfl
  | some n =>
   cases Df (c.ev e) with
   | none=>rfl
   | some c =>
    simp only
    split <;> rfl
 ·rfl
theorem Arm (h:Bc):mapR (Bj h 4) (.int .i64 3::By wW::(z9++[.fmap (eK (paE wW)) (eV (paE wW))])) = .ret (.int .i64 3::By wW::(z9++[.fmap (eK (paE wW)) (eV (paE wW))])):=by
 refine Rj fun x hx => ?_
 simp only [List.mem_cons,List.mem_append,List.not_mem_nil,or_false] at hx
 rcases hx with rfl | rfl | hx | rfl
 ·exact Bq _ _ _ _
 ·exact Dv _ _ _ _ _
 ·rcases hx with rfl | rfl | rfl | rfl | rfl | rfl | rfl | rfl | rfl <;> exact Bq _ _ _ _
 ·exact A7a _ _ _ _
attribute [local irreducible] Res.all evC Do Dr Bv Bd Dw Bg Bj G GO GV GP GC R
theorem Ahc:Con T 70 424 [Ks 3 wW] (.slice none [.int .i64 6] false):=by
 refine Dd t424 fun n hn V hV => ?_
 obtain ⟨n,rfl⟩:∃m,n=m+2:=⟨n-2,by omega⟩
 obtain ⟨X,hX⟩:∃X,X=z9++[.fmap (eK (paE wW)) (eV (paE wW))]:=⟨_,rfl⟩
 have hb:Ks 3 wW = .ptr (.int .i64 3::By wW::X) 0:=by rw [hX]; rfl
 have hwl:wW.length=12:=rfl
 have hr14:(List.replicate 14 [AV.int .i64 0]).flatten=(List.replicate 14 (0:Int)).map (.int .i64):=rfl
 have as14:Df (.int .i64 (12+2))=some 14:=rfl
 rw [hb]
 simp (disch:=first | assumption | omega) only [c424,go_sem,↓reduceIte,hwl,Aeh,hr14,as14]
 refine Dm (fun M st=>∃(m v6:Nat),M=13-m/\m<=13/\At st.env [(0,.ptr (.int .i64 3::By wW::X) 0),(3,.int .i64 12),(4,.oslice 113 0 none 0 14 (some 14)),(5,.oslice 23 0 none 0 14 (some 14)),(6,.optr 6 v6 0)]/\Bb st.heap 6 = .cells v6 [.int .i64 ((m:Int)+1)]/\Bb st.heap 113 = .cells 0 ((tmA tmP m).1.map (.int .i64))/\Bb st.heap 23 = .cells 0 ((tmA tmP m).2.map (.int .i64))/\114<=st.heap.length) 13 (by omega)
  ⟨0,0,by omega,by omega,by simp only [go_sem,↓reduceIte],by simp only [go_sem,↓reduceIte],by simp only [go_sem,↓reduceIte]; rfl,by simp only [go_sem,↓reduceIte]; rfl,by simp only [Bh,List.length_replicate]; omega⟩ ?_
 rintro M e h hM ⟨m,v6,rfl,hm,hE,g6,g113,g23,hln⟩ P hP
 simp only [Bz,Dc] at hE g6 g113 g23 hln
 obtain ⟨f0,f3,f4,f5,f6,-⟩:=hE
 by_cases hlt:m<13
 ·have hc1:decide ((m:Int)+1<=12+1)=true:=decide_eq_true (by omega)
  have hokA:=Acq tmP m
  have hm14:m+1<14:=by omega
  have hl113:m+1+1<=((tmA tmP m).1.map (AV.int .i64)).length:=by rw [List.length_map,hokA.1]; omega
  have hset:((tmA tmP m).1.map (AV.int .i64)).set (m+1) (.int .i64 1000)=((tmA tmP m).1.set (m+1) 1000).map (.int .i64):=by rw [List.map_set]
  have hok0:OkD ((tmA tmP m).1.set (m+1) 1000,(tmA tmP m).2):=A2p hokA (by omega)
  generalize hs0:((tmA tmP m).1.set (m+1) 1000,(tmA tmP m).2)=s0 at *
  have hs01:(tmA tmP m).1.set (m+1) 1000=s0.1:=by rw [<-hs0]
  have hs02:(tmA tmP m).2=s0.2:=by rw [<-hs0]
  have hnext:tmA tmP (m+1)=tmO tmP (m+1) (m+1) s0:=by rw [tmA,hs0]
  simp (disch:=first | assumption | omega) only [go_sem,↓reduceIte,f3,f4,f6,g6,g113,hc1,hm14,hl113,hset,hs01]
  refine ⟨by rw [hokA.1]; omega,?_⟩
  refine Dm (fun M st=>∃k:Nat,M=m+1-k/\k<=m+1/\At st.env [(0,.ptr (.int .i64 3::By wW::X) 0),(3,.int .i64 12),(4,.oslice 113 0 none 0 14 (some 14)),(5,.oslice 23 0 none 0 14 (some 14)),(6,.optr 6 v6 0),(33,.int .i64 ((m:Int)+1)),(34,.int .i64 k)]/\Bb st.heap 6 = .cells v6 [.int .i64 ((m:Int)+1)]/\Bb st.heap 113 = .cells 0 ((tmO tmP (m+1) k s0).1.map (.int .i64))/\Bb st.heap 23 = .cells 0 ((tmO tmP (m+1) k s0).2.map (.int .i64))/\114<=st.heap.length) (m+1) (by omega)
   ⟨0,by omega,by omega,by simp only [go_sem,↓reduceIte,f0,f3,f4,f5,f6],by simp only [go_sem,↓reduceIte,g6],by simp only [go_sem,↓reduceIte]; rfl,by simp only [go_sem,↓reduceIte,g23,hs02]; rfl,by simp only [Bh]; omega⟩ ?_
  clear f0 f3 f4 f5 f6 g6 g113 g23 hln
  rintro M e1 h1 hM1 ⟨k,rfl,hk,hE1,g6,g113,g23,hln⟩ P1 hP1
  simp only [Bz,Dc] at hE1 g6 g113 g23 hln
  obtain ⟨f0,f3,f4,f5,f6,f33,f34,-⟩:=hE1
  by_cases hkm:k<m+1
  ·have hkm':(k:Int)<(m:Int)+1:=by omega
   have hks:tmO tmP (m+1) (k+1) s0=if lsO tmP (m+1) k (tmO tmP (m+1) k s0)<(tmO tmP (m+1) k s0).1.getD (m+1) 0 then ((tmO tmP (m+1) k s0).1.set (m+1) (lsO tmP (m+1) k (tmO tmP (m+1) k s0)),(tmO tmP (m+1) k s0).2.set (m+1) k) else tmO tmP (m+1) k s0:=rfl
   have hok:=A2q tmP (m+1) k s0 hok0
   have hk14:k<14:=by omega
   generalize tmO tmP (m+1) k s0=sk at *
   have hgk:sk.1[k]? = some (sk.1.getD k 0):=by
    rw [List.getD_eq_getElem?_getD,List.getElem?_eq_getElem (by rw [hok.1]; omega)]; rfl
   have hgm:sk.1[m+1]? = some (sk.1.getD (m+1) 0):=by
    rw [List.getD_eq_getElem?_getD,List.getElem?_eq_getElem (by rw [hok.1]; omega)]; rfl
   have hbk:=A2i hok k
   simp (disch:=first | assumption | omega) only [go_sem,↓reduceIte,f0,f4,f33,f34,hkm',hk14,g113,hgk]
   refine Ee (Aac (.int .i64 3::By wW::X) (fun hh=>by rw [hX]; exact Arm hh)) (show 1<=n+2 by omega) (Dj (Eq _ _ _ _) (Dt _)) (by rfl) ?_
   simp (disch:=first | assumption | omega) only [go_sem,↓reduceIte]
   refine B1u (fun st=>∃v7 v8,At st.env [(0,.ptr (.int .i64 3::By wW::X) 0),(3,.int .i64 12),(4,.oslice 113 0 none 0 14 (some 14)),(5,.oslice 23 0 none 0 14 (some 14)),(6,.optr 6 v6 0),(7,.optr 7 v7 0),(8,.optr 8 v8 0),(33,.int .i64 ((m:Int)+1)),(34,.int .i64 k),(42,.clo 513 [] [.ptr [.ptr (.int .i64 3::By wW::X) 0] 0])]/\Bb st.heap 6 = .cells v6 [.int .i64 ((m:Int)+1)]/\Bb st.heap 7 = .cells v7 [.int .i64 k]/\Bb st.heap 8 = .cells v8 [.int .i64 (sk.1.getD k 0)]/\Bb st.heap 113 = .cells 0 (sk.1.map (.int .i64))/\Bb st.heap 23 = .cells 0 (sk.2.map (.int .i64))/\114<=st.heap.length)
    ⟨(Bb h1 7).next,(Bb h1 8).next,by simp only [go_sem,↓reduceIte,f0,f3,f4,f5,f6,f33,f34],by simp only [go_sem,↓reduceIte,g6],by simp only [go_sem,↓reduceIte],by simp only [go_sem,↓reduceIte],by simp only [go_sem,↓reduceIte,g113],by simp only [go_sem,↓reduceIte,g23],by simp only [Bh]; omega⟩ ?_
   clear f0 f3 f4 f5 f6 f33 f34 g6 g113 g23 hln
   rintro e2 h2 ⟨v7,v8,hE2,g6,g7,g8,g113,g23,hln⟩
   simp only [Bz,Dc] at hE2 g6 g7 g8 g113 g23 hln
   obtain ⟨f0,f3,f4,f5,f6,f7,f8,f33,f34,f42,-⟩:=hE2
   generalize hnn:h2.length=nn at *
   refine Aig (g:=513) (first:=[]) (captured:=[.ptr [.ptr (.int .i64 3::By wW::X) 0] 0]) (by simp only [go_sem,↓reduceIte,f42]) hnn fun lf l1 l2 l3 l4 l5 => ?_
   have hbe:AV.ptr (.int .i64 3::By wW::X) 0 = .ptr (bnC 3 wW z9 (.fmap (eK (paE wW)) (eV (paE wW)))) 0:=by rw [hX]
   have hcl7:(tmP.countP (Lq k (m+1)):Nat)<=7:=by rw [<-Auu]; exact List.countP_le_length
   rw [hbe]
   refine Abk 3 wW z9 rfl (by decide) nn 0 (nn+1) (fun r h'=>∃lost:Int,Bb h' nn = .loop 0 .ready none lf/\Bb h' 6 = .cells v6 [.int .i64 ((m:Int)+1)]/\Bb h' 7 = .cells v7 [.int .i64 k]/\Bb h' 8 = .cells v8 [.int .i64 lost]/\Bb h' 113 = .cells 0 (sk.1.map (.int .i64))/\Bb h' 23 = .cells 0 (sk.2.map (.int .i64))/\lost+(r.countP (Lq k (m+1)):Nat)=sk.1.getD k 0+(tmP.countP (Lq k (m+1)):Nat)/\0<=lost)
    (fun r ha hb hk1 hk2 hj => ?_) (by omega) (fun d r h' hb0 hj => ?_) _ ?_ ?_ _ (fun v h' hj => ?_)
   ·obtain ⟨lost,j1,j2,j3,j4,j5,j6,j7⟩:=hj
    exact ⟨lost,by rw [hk1 _ (by omega)]; exact j1,by rw [hk1 _ (by omega)]; exact j2,by rw [hk1 _ (by omega)]; exact j3,by rw [hk1 _ (by omega)]; exact j4,by rw [hk1 _ (by omega)]; exact j5,by rw [hk1 _ (by omega)]; exact j6,j7⟩
   ·obtain ⟨lost,j1,j2,j3,j4,j5,j6,j7,j8⟩:=hj
    obtain ⟨a,b⟩:=d
    have hcc:=Agv k (m+1) (a,b) r
    rw [hcc] at j7
    show (Bg T (n+1) true (.yld nn 0) [edA (a,b)] h').all _
    refine Asq j1 (by rw [l3]; rfl) ?_
    rw [l4]
    have n9:¬(9=nn):=by omega
    have n9':¬(nn=9):=by omega
    have n6:¬(nn=6):=by omega
    have n7:¬(nn=7):=by omega
    have n8:¬(nn=8):=by omega
    have n8':¬(8=nn):=by omega
    have n113:¬(nn=113):=by omega
    have n23:¬(nn=23):=by omega
    simp (disch:=first | assumption | omega) only [go_sem,↓reduceIte,l1,l2,l3,Mk,edA,n9,n9',j1]
    refine ⟨none,lf,rfl,?_⟩
    rw [l5]
    have dD:decide ((a:Int)>=0)=true:=decide_eq_true (by omega)
    by_cases hA:k<=a+1
    ·have dA:decide ((a:Int)>=(k:Int)-1)=true:=decide_eq_true (by omega)
     by_cases hB:b+1<=m+1
     ·have dB:decide ((b:Int)<=(m:Int)+1-1)=true:=decide_eq_true (by omega)
      have hh:Lq k (m+1) (a,b)=true:=by simp only [Lq,decide_eq_true hA,decide_eq_true hB]; rfl
      rw [if_pos hh] at j7
      by_cases hC:0<k
      ·have dC:decide ((k:Int)>0)=true:=decide_eq_true (by omega)
       simp (disch:=first | assumption | omega) only [go_sem,↓reduceIte,f6,f7,f8,j2,j3,j4,dA,dB,dC,n9,n9',n6,n7,n8,n8',n113,n23,j5,j6]
       exact ⟨_,_,lf,rfl,⟨lost+1,rfl,rfl,by omega,by omega⟩,hb0⟩
      ·have dC:decide ((k:Int)>0)=false:=decide_eq_false (by omega)
       simp (disch:=first | assumption | omega) only [go_sem,↓reduceIte,f6,f7,f8,j2,j3,j4,dA,dB,dC,dD,n9,n9',n6,n7,n8,n8',n113,n23,j5,j6]
       exact ⟨_,_,lf,rfl,⟨lost+1,rfl,rfl,by omega,by omega⟩,hb0⟩
     ·have dB:decide ((b:Int)<=(m:Int)+1-1)=false:=decide_eq_false (by omega)
      have hh:Lq k (m+1) (a,b)=false:=by simp only [Lq,decide_eq_false hB,Bool.and_false]
      rw [hh,if_neg (by decide)] at j7
      simp (disch:=first | assumption | omega) only [go_sem,↓reduceIte,f6,f7,f8,j2,j3,j4,dA,dB,n9,n9',n6,n7,n8,n8',n113,n23,j5,j6]
      exact ⟨_,_,lf,rfl,⟨lost,rfl,rfl,by omega,by omega⟩,hb0⟩
    ·have dA:decide ((a:Int)>=(k:Int)-1)=false:=decide_eq_false (by omega)
     have hh:Lq k (m+1) (a,b)=false:=by simp only [Lq,decide_eq_false hA,Bool.false_and]
     rw [hh,if_neg (by decide)] at j7
     simp (disch:=first | assumption | omega) only [go_sem,↓reduceIte,f6,f7,f8,j2,j3,j4,dA,n9,n9',n6,n7,n8,n8',n113,n23,j5,j6]
     exact ⟨_,_,lf,rfl,⟨lost,rfl,rfl,by omega,by omega⟩,hb0⟩
   ·simp only [Bh,hnn]; omega
   ·refine ⟨sk.1.getD k 0,getH_setH_self _ _ _,?_,?_,?_,?_,?_,rfl,hbk.1⟩
    ·rw [Ba _ _ _ _ (by omega)]; exact g6
    ·rw [Ba _ _ _ _ (by omega)]; exact g7
    ·rw [Ba _ _ _ _ (by omega)]; exact g8
    ·rw [Ba _ _ _ _ (by omega)]; exact g113
    ·rw [Ba _ _ _ _ (by omega)]; exact g23
   ·obtain ⟨lost,j1,j2,j3,j4,j5,j6,j7,j8⟩:=hj
    refine ⟨.ready,none,lf,j1,by simp,?_⟩
    simp only [List.countP_nil,Int.natCast_zero,Int.add_zero] at j7
    have n6:¬(nn=6):=by omega
    have n7:¬(nn=7):=by omega
    have n8:¬(nn=8):=by omega
    have n113:¬(nn=113):=by omega
    have n23:¬(nn=23):=by omega
    have m6:¬(6=nn):=by omega
    have m7:¬(7=nn):=by omega
    have m8:¬(8=nn):=by omega
    have m113:¬(113=nn):=by omega
    have m23:¬(23=nn):=by omega
    have hs1:(sk.1.map (AV.int .i64)).set (m+1) (.int .i64 (lsO tmP (m+1) k sk))=(sk.1.set (m+1) (lsO tmP (m+1) k sk)).map (.int .i64):=by rw [List.map_set]
    have hs2:(sk.2.map (AV.int .i64)).set (m+1) (.int .i64 k)=(sk.2.set (m+1) k).map (.int .i64):=by rw [List.map_set]
    have hq1:m+1+1<=sk.1.length:=by rw [hok.1]; omega
    have hq2:m+1+1<=sk.2.length:=by rw [hok.2.1]; omega
    have g21:(2:Nat)=2:=rfl
    by_cases h12:m+1<=12
    ·have d12:decide ((m:Int)+1<=12)=true:=decide_eq_true (by omega)
     have hlb:(3:Int)-1=2:=rfl
     have hlo:lsO tmP (m+1) k sk=lost+2:=by unfold lsO; rw [if_pos h12,j7]
     rw [hlo] at hs1
     by_cases hls:lsO tmP (m+1) k sk<sk.1.getD (m+1) 0
     ·have dl:decide (lost+2<sk.1.getD (m+1) 0)=true:=decide_eq_true (by rw [<-hlo]; exact hls)
      rw [if_pos hls,hlo] at hks
      simp (disch:=first | assumption | omega) only [go_sem,↓reduceIte,j2,j3,j4,j5,j6,f0,f3,f4,f5,f6,f7,f8,f33,f34,hgm,hm14,hk14,n6,n7,n8,n113,n23,m6,m7,m8,m113,m23,d12,dl,hlb,hs1,hs2,hq1,hq2,g21]
      refine hP1 (m+1-(k+1)) _ (by omega) ⟨k+1,rfl,by omega,by simp only [go_sem,↓reduceIte,f0,f3,f4,f5,f6,f33],?_,?_,?_,?_⟩
      ·simp only [go_sem,↓reduceIte,n6,n7,n8,n113,n23,m6,m7,m8,m113,m23,j2]
      ·rw [hks]; simp only [go_sem,↓reduceIte,n6,n7,n8,n113,n23,m6,m7,m8,m113,m23,j5]
      ·rw [hks]; simp only [go_sem,↓reduceIte,n6,n7,n8,n113,n23,m6,m7,m8,m113,m23,j6]
      ·have:=Fm j1 (by simp)
       simp only [Bh]; omega
     ·have dl:decide (lost+2<sk.1.getD (m+1) 0)=false:=decide_eq_false (by rw [<-hlo]; exact hls)
      rw [if_neg hls] at hks
      simp (disch:=first | assumption | omega) only [go_sem,↓reduceIte,j2,j3,j4,j5,j6,f0,f3,f4,f5,f6,f7,f8,f33,f34,hgm,hm14,hk14,n6,n7,n8,n113,n23,m6,m7,m8,m113,m23,d12,dl,hlb,g21]
      refine hP1 (m+1-(k+1)) _ (by omega) ⟨k+1,rfl,by omega,by simp only [go_sem,↓reduceIte,f0,f3,f4,f5,f6,f33],?_,?_,?_,?_⟩
      ·simp only [go_sem,↓reduceIte,n6,n7,n8,n113,n23,m6,m7,m8,m113,m23,j2]
      ·rw [hks]; simp only [go_sem,↓reduceIte,n6,n7,n8,n113,n23,m6,m7,m8,m113,m23,j5]
      ·rw [hks]; simp only [go_sem,↓reduceIte,n6,n7,n8,n113,n23,m6,m7,m8,m113,m23,j6]
      ·have:=Fm j1 (by simp)
       simp only [Bh]; omega
    ·have d12:decide ((m:Int)+1<=12)=false:=decide_eq_false (by omega)
     have hlb:True:=trivial
     have hlo:lsO tmP (m+1) k sk=lost:=by unfold lsO; rw [if_neg h12,j7,Int.add_zero]
     rw [hlo] at hs1
     by_cases hls:lsO tmP (m+1) k sk<sk.1.getD (m+1) 0
     ·have dl:decide (lost<sk.1.getD (m+1) 0)=true:=decide_eq_true (by rw [<-hlo]; exact hls)
      rw [if_pos hls,hlo] at hks
      simp (disch:=first | assumption | omega) only [go_sem,↓reduceIte,j2,j3,j4,j5,j6,f0,f3,f4,f5,f6,f7,f8,f33,f34,hgm,hm14,hk14,n6,n7,n8,n113,n23,m6,m7,m8,m113,m23,d12,dl,hlb,hs1,hs2,hq1,hq2,g21]
      refine hP1 (m+1-(k+1)) _ (by omega) ⟨k+1,rfl,by omega,by simp only [go_sem,↓reduceIte,f0,f3,f4,f5,f6,f33],?_,?_,?_,?_⟩
      ·simp only [go_sem,↓reduceIte,n6,n7,n8,n113,n23,m6,m7,m8,m113,m23,j2]
      ·rw [hks]; simp only [go_sem,↓reduceIte,n6,n7,n8,n113,n23,m6,m7,m8,m113,m23,j5]
      ·rw [hks]; simp only [go_sem,↓reduceIte,n6,n7,n8,n113,n23,m6,m7,m8,m113,m23,j6]
      ·have:=Fm j1 (by simp)
       simp only [Bh]; omega
     ·have dl:decide (lost<sk.1.getD (m+1) 0)=false:=decide_eq_false (by rw [<-hlo]; exact hls)
      rw [if_neg hls] at hks
      simp (disch:=first | assumption | omega) only [go_sem,↓reduceIte,j2,j3,j4,j5,j6,f0,f3,f4,f5,f6,f7,f8,f33,f34,hgm,hm14,hk14,n6,n7,n8,n113,n23,m6,m7,m8,m113,m23,d12,dl,hlb,g21]
      refine hP1 (m+1-(k+1)) _ (by omega) ⟨k+1,rfl,by omega,by simp only [go_sem,↓reduceIte,f0,f3,f4,f5,f6,f33],?_,?_,?_,?_⟩
      ·simp only [go_sem,↓reduceIte,n6,n7,n8,n113,n23,m6,m7,m8,m113,m23,j2]
      ·rw [hks]; simp only [go_sem,↓reduceIte,n6,n7,n8,n113,n23,m6,m7,m8,m113,m23,j5]
      ·rw [hks]; simp only [go_sem,↓reduceIte,n6,n7,n8,n113,n23,m6,m7,m8,m113,m23,j6]
      ·have:=Fm j1 (by simp)
       simp only [Bh]; omega
  ·obtain rfl:k=m+1:=by omega
   have hmm:¬((m:Int)+1<(m:Int)+1):=by omega
   simp (disch:=first | assumption | omega) only [go_sem,↓reduceIte,f6,f33,f34,hmm,g6]
   refine hP (13-(m+1)) _ (by omega) ⟨m+1,v6+1,rfl,by omega,by simp only [go_sem,↓reduceIte,f0,f3,f4,f5],by simp only [go_sem,↓reduceIte],by simp only [go_sem,↓reduceIte,hnext,g113],by simp only [go_sem,↓reduceIte,hnext,g23],by simp only [Bh]; omega⟩
 ·obtain rfl:m=13:=by omega
  have hc1:decide (((13:Nat):Int)+1<=12+1)=false:=rfl
  have hc2:decide ((13:Int)+1<=12+1)=false:=rfl
  have as13:Df (.int .i64 (12+1))=some 13:=rfl
  have as7:Df (.int .i64 7)=some 7:=rfl
  have h61:(7:Int)-1=6:=rfl
  have d70:decide ((7:Int)>0)=true:=rfl
  have d00:decide ((0:Int)>0)=false:=rfl
  obtain ⟨t13,t7⟩:=C7l
  simp (disch:=first | assumption | omega) only [go_sem,↓reduceIte,f3,f5,f6,g6,hc1,hc2,as13,g23,t13]
  refine Dm (fun M st=>(M=1/\At st.env [(5,.oslice 23 0 none 0 14 (some 14)),(10,.slice none [] true),(11,.int .i64 7)]/\Bb st.heap 23 = .cells 0 ((tmA tmP 13).2.map (.int .i64))/\114<=st.heap.length)\/(M=0/\∃x,At st.env [(10,x),(11,.int .i64 0)]/\Own 114 st.heap x .i64 [6])) 1 (by omega) (.inl ⟨rfl,by simp only [go_sem,↓reduceIte,f5],g23,hln⟩) ?_
  clear f0 f3 f4 f5 f6
  rintro M e2 h2 hM2 hI P2 hP2
  rcases hI with ⟨rfl,hE2,g23,hln⟩ | ⟨rfl,x,hE2,hO⟩
  ·simp only [Bz,Dc] at hE2 g23 hln
   obtain ⟨f5,f10,f11,-⟩:=hE2
   simp (disch:=first | assumption | omega) only [go_sem,↓reduceIte,f5,f10,f11,d70,h61]
   refine Gq (l:=[]) (a:=6) rfl (Il 114 h2 .i64) hln (by decide) fun x' h' hO' hk1 _ _ _ => ?_
   have g23':Bb h' 23 = .cells 0 ((tmA tmP 13).2.map (.int .i64)):=by rw [hk1 23 (by omega)]; exact g23
   simp (disch:=first | assumption | omega) only [go_sem,↓reduceIte,f5,f11,as7,g23',t7]
   exact hP2 0 _ (by omega) (.inr ⟨rfl,x',by simp only [go_sem,↓reduceIte],hO'⟩)
  ·simp only [Bz,Dc] at hE2 hO
   obtain ⟨f10,f11,-⟩:=hE2
   have hz:Bj h2 8 x = .ret (.slice none [.int .i64 6] false):=Xu (n:=6) hO
   simp (disch:=first | assumption | omega) only [go_sem,↓reduceIte,f10,f11,d00]
   refine Ee B0g (by omega) (Dj hz (Dt _)) (by exact Bool.or_true _) ?_
   simp (disch:=first | assumption | omega) only [go_sem,↓reduceIte,f10]
   exact hV _ _ hz
theorem Bgl:YOk T 2000 Apa:=by
 have h:=Dz Ahc (Nat.le_refl _)
 have e:AnsY.mk 424 [Ks 3 wW] (.slice none [.int .i64 6] false) false=Apa:=by kernel_rfl
 rw [<-e]
 exact (Es h).mono (by decide)
end Go.Ev.YtbgodhhdojjbmaaGreatC
namespace Go.Ev.YtbgodhhdojjbmaaGreatC
open Go Go.Proofs
theorem Aoe:Con T 200 479 [.agg [.int .i64 3,By wW]] (.int .i64 0):=Ep ((Fy (k:=0) (n:=60) (l:=[]) (fun _ h=>by cases h) (by kernel_rfl):YOk T 61 ⟨479,[.agg [.int .i64 3,By wW]],.int .i64 0,false⟩).mono (by decide))
def wP1:List Nat:=[0,0,0,3,0,0,4,0,0,2,1,0]
def wP2:List Nat:=[0,0,0,5,0,0,4,0,0,1,2,0]
def wP3:List Nat:=[0,0,0,3,1,0,4,0,0,1,2,0]
theorem C8m:Con T 200 418 [.int .i64 0,.int .i64 8,By wP1] (.bool true):=Ep ((Fy (k:=0) (n:=60) (l:=[]) (fun _ h=>by cases h) (by kernel_rfl):YOk T 61 ⟨418,[.int .i64 0,.int .i64 8,By wP1],.bool true,false⟩).mono (by decide))
theorem C8n:Con T 200 418 [.int .i64 0,.int .i64 8,By wP2] (.bool true):=Ep ((Fy (k:=0) (n:=60) (l:=[]) (fun _ h=>by cases h) (by kernel_rfl):YOk T 61 ⟨418,[.int .i64 0,.int .i64 8,By wP2],.bool true,false⟩).mono (by decide))
theorem C8o:Con T 200 418 [.int .i64 0,.int .i64 8,By wP3] (.bool true):=Ep ((Fy (k:=0) (n:=60) (l:=[]) (fun _ h=>by cases h) (by kernel_rfl):YOk T 61 ⟨418,[.int .i64 0,.int .i64 8,By wP3],.bool true,false⟩).mono (by decide))
theorem Bft:YOk T 2000 Aox:=by
 have h:=Dz (Mw 3 wW wP1 (by decide) rfl (by decide) (by decide) Aoe C8m) (Nat.le_refl _)
 have e:AnsY.mk 345 [.agg [.int .i64 3,By wW],By wP1] (.tuple [.int .i64 (Gm 3 (wW.zip wP1) z9i 0).1,.int .i64 (Gm 3 (wW.zip wP1) z9i 0).2]) false=Aox:=by kernel_rfl
 rw [<-e]
 exact (Es h).mono (by decide)
theorem Bfv:YOk T 2000 Aoy:=by
 have h:=Dz (Mw 3 wW wP2 (by decide) rfl (by decide) (by decide) Aoe C8n) (Nat.le_refl _)
 have e:AnsY.mk 345 [.agg [.int .i64 3,By wW],By wP2] (.tuple [.int .i64 (Gm 3 (wW.zip wP2) z9i 0).1,.int .i64 (Gm 3 (wW.zip wP2) z9i 0).2]) false=Aoy:=by kernel_rfl
 rw [<-e]
 exact (Es h).mono (by decide)
theorem Bfx:YOk T 2000 Aoz:=by
 have h:=Dz (Mw 3 wW wP3 (by decide) rfl (by decide) (by decide) Aoe C8o) (Nat.le_refl _)
 have e:AnsY.mk 345 [.agg [.int .i64 3,By wW],By wP3] (.tuple [.int .i64 (Gm 3 (wW.zip wP3) z9i 0).1,.int .i64 (Gm 3 (wW.zip wP3) z9i 0).2]) false=Aoz:=by kernel_rfl
 rw [<-e]
 exact (Es h).mono (by decide)
theorem Bgo:YOk T 2000 Apb:=by
 have h:=Dz Akh (Nat.le_refl _)
 have e:AnsY.mk 425 [Ks 3 wW,.int .i64 4] (.int .i64 0) false=Apb:=by kernel_rfl
 rw [<-e]
 exact (Es h).mono (by decide)
end Go.Ev.YtbgodhhdojjbmaaGreatC
