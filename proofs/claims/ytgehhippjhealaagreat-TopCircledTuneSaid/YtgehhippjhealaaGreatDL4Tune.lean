/- A part of the proof. A part of the proof. A part of the proof. A part of the proof. A part of the proof. A part of the proof. No condition but those that stand in each. -/
import Derived.Test.YtgehhippjhealaaGreatDL4Std
import Derived.Test.YtgehhippjhealaaGreatDL4M9
set_option linter.unusedSimpArgs false
set_option linter.unusedVariables false
set_option maxRecDepth 100000
namespace Go.Ev.YtgehhippjhealaaGreatC.P4
open Go.Ev
open Go Go.Proofs Go.Ev
attribute [local irreducible] Res.all evC Dd Df Br Bh Dj Bd Bi G GO GV GP GC R
def risF (below:Int):Int->List Int->Bool
 | _,[]=>true
 | next,n::r=>(decide (next<=n)&&decide (n<below))&&risF below (n+1) r
def Uu (N:Nat) (es:List Ed) (kind:Int) (l:List Int):Int:=
 if kind≠1/\kind≠2 then 2
 else if risF N 0 l=false then 3
 else if kind=1 then (if ovB (sur es) l=true then 0 else 14)
 else if apB es l=true then 0 else 14
theorem Alp {N:Int}:∀{l:List Int} {next:Int},0<=next->risF N next l=true->∀x∈l,0<=x/\x<N
 | [],_,_,_,_,h=>by cases h
 | n::r,next,h0,h,x,hx=>by
  simp only [risF,Bool.and_eq_true,decide_eq_true_eq] at h
  rcases List.mem_cons.1 hx with rfl | hx
  ·omega
  ·exact Alp (by omega) h.2 x hx
theorem Ajw (l:List Int) (below:Int) (hl:l.length<=1000) (hb:0<=below/\below<=1000):Con T 5 48 [Ej l,.int .i64 below] (.bool (risF below 0 l)):=by
 refine Bu t48 fun n hn V hV => ?_
 simp (disch:=first | assumption | omega) only [c48,go_sem,↓reduceIte,List.length_map]
 refine Da (fun M st=>∃(i:Nat) (next:Int),M=l.length-i/\i<=l.length/\At st.env [(1,.int .i64 below),(5,.int .i64 next),(8,Ej l),(9,.int .i64 l.length),(10,.int .i64 i)]/\0<=next/\risF below 0 l=risF below next (l.drop i)) l.length (by omega)
  ⟨0,0,by omega,by omega,by simp only [go_sem,↓reduceIte],by omega,rfl⟩ ?_
 rintro M e h hM ⟨i,next,rfl,hi,hE,hnx,hA⟩ P hP
 simp only [Bp,Bx] at hE hA
 obtain ⟨f1,f5,f8,f9,f10,-⟩:=hE
 by_cases hlt:i<l.length
 ·obtain ⟨y,hy⟩:=Fm hlt
  rw [Fy hy,risF] at hA
  by_cases hin:next<=y/\y<below
  ·have d1:decide (y<next)=false:=by simp; omega
   have d2:decide (y>below-1)=false:=by simp; omega
   have hr:(decide (next<=y)&&decide (y<below))=true:=by simpa using hin
   rw [hr,Bool.true_and] at hA
   simp (disch:=first | assumption | omega) only [go_sem,↓reduceIte,f1,f5,f8,f9,f10,hlt,hy,Fp,d1,d2,Bool.or_false,Bool.not_false,Bool.not_true,Bool.false_eq_true]
   exact hP (l.length-(i+1)) _ (by omega) ⟨i+1,y+1,rfl,by omega,by simp only [go_sem,↓reduceIte,f1,f8,f9],by omega,hA⟩
  ·have d1:(!(decide (y<next)||decide (y>below-1)))=false:=by simp; omega
   simp (disch:=first | assumption | omega) only [go_sem,↓reduceIte,f1,f5,f8,f9,f10,hlt,hy,Fp,d1,Bool.not_false]
   refine hV _ _ ?_
   have hr:(decide (next<=y)&&decide (y<below))=false:=by
    rw [Bool.eq_false_iff]; simpa using hin
   rw [hr,Bool.false_and] at hA
   rw [hA]
   exact Dk _ _ _
 ·simp (disch:=first | assumption | omega) only [go_sem,↓reduceIte,f1,f5,f8,f9,f10,hlt]
  refine hV _ _ ?_
  rw [hA,List.drop_eq_nil_of_le (by omega)]
  exact Dk _ _ _
theorem Oc {n base:Nat} {Q:EX×St->Prop} {d:Option Nat} {L:List IOper} {ks:List Kont} {e:Env} {h:Bc} {l:List Int} {below:Int} {x:Bool} (hn:5<=n) (hl:l.length<=1000) (hb:0<=below/\below<=1000):GP (Bd T n) base Q d L ks e (Bd T n false (.fn 48) [.slice none (l.map (.int .i64)) x,.int .i64 below] h)=GO (Bd T n) base Q L ks ⟨Bj e d (.bool (risF below 0 l)),h⟩:=
 Ey (Ajw l below hl hb) hn (by repeat (first | exact Bz _ | refine Dm _ _ _ _ ?_ | refine Fa _ _ _ ?_)) rfl
set_option maxHeartbeats 1000000 in
theorem con_CheckProof (N:Nat) (es:List Ed) (kind:Int) (l:List Int) (hk:OkB N es) (hl:l.length<=1000):Con T 11 16 [bkA (bkN N es),.int .i64 kind,Ej l] (.int .i64 (Uu N es kind l)):=by
 refine Bu t16 fun n hn V hV => ?_
 have b0:((0:Int) != 0)=false:=rfl
 have h1:=hk.n1
 have h8:=hk.n8
 have hl20:=hk.le20
 have hN:(0:Int)<=(N:Int)/\(N:Int)<=1000:=by omega
 have hs:=Amh hl20
 rw [Nu]
 by_cases g1:kind≠1/\kind≠2
 ·have d1:(!(decide (kind<1)||decide (kind>2)))=false:=by simp; omega
  simp (disch:=first | assumption | omega) only [c16,go_sem,↓reduceIte,Ib,b0,Fp,d1,Bool.not_false,Bool.false_eq_true]
  exact hV _ _ (by rw [Bl,Uu,if_pos g1])
 ·have d1:(!(decide (kind<1)||decide (kind>2)))=true:=by simp; omega
  by_cases g2:risF N 0 l=false
  ·simp (disch:=first | assumption | omega) only [c16,go_sem,↓reduceIte,Ib,b0,Fp,d1,Oc,g2,Bool.not_false,Bool.not_true,Bool.false_eq_true]
   exact hV _ _ (by rw [Bl,Uu,if_neg g1,if_pos g2])
  ·have g2':risF N 0 l=true:=by simpa using g2
   have hin:=Alp (by omega) g2'
   have hl8:∀n∈l,0<=n/\n<8:=fun n hn=>by have:=hin n hn; omega
   by_cases g3:kind=1
   ·have d3:(kind==1)=true:=by simpa using g3
    by_cases g4:ovB (sur es) l=true
    ·simp (disch:=first | assumption | omega) only [c16,go_sem,↓reduceIte,Ib,b0,Fp,d1,Oc,g2',d3,List.append_nil,List.cons_append,List.nil_append,Zy,Nn,hs,hl8,g4,Bool.not_false,Bool.not_true,Bool.false_eq_true]
     exact hV _ _ (by rw [Bl,Uu,if_neg g1,if_neg g2,if_pos g3,if_pos g4])
    ·have g4':ovB (sur es) l=false:=by simpa using g4
     simp (disch:=first | assumption | omega) only [c16,go_sem,↓reduceIte,Ib,b0,Fp,d1,Oc,g2',d3,List.append_nil,List.cons_append,List.nil_append,Zy,Nn,hs,hl8,g4',Bool.not_false,Bool.not_true,Bool.false_eq_true]
     exact hV _ _ (by rw [Bl,Uu,if_neg g1,if_neg g2,if_pos g3,if_neg g4])
   ·have d3:(kind==1)=false:=by simpa using g3
    by_cases g4:apB es l=true
    ·simp (disch:=first | assumption | omega) only [c16,go_sem,↓reduceIte,Ib,b0,Fp,d1,Oc,g2',d3,List.append_nil,List.cons_append,List.nil_append,Zy,Nn,hs,hl8,g4,Bool.not_false,Bool.not_true,Bool.false_eq_true]
     exact hV _ _ (by rw [Bl,Uu,if_neg g1,if_neg g2,if_neg g3,if_pos g4])
    ·have g4':apB es l=false:=by simpa using g4
     simp (disch:=first | assumption | omega) only [c16,go_sem,↓reduceIte,Ib,b0,Fp,d1,Oc,g2',d3,List.append_nil,List.cons_append,List.nil_append,Zy,Nn,hs,hl8,g4',Bool.not_false,Bool.not_true,Bool.false_eq_true]
     exact hV _ _ (by rw [Bl,Uu,if_neg g1,if_neg g2,if_neg g3,if_neg g4])
def srN (N:Nat) (s:Nat->Int):List Int:=(List.range N).map s
theorem srN_len (N:Nat) (s:Nat->Int):(srN N s).length=N:=by simp [srN]
end Go.Ev.YtgehhippjhealaaGreatC.P4
namespace Go.Ev.YtgehhippjhealaaGreatC.P4
open Go.Ev
open Go Go.Ev
theorem Np {l:List Nat} {x:Nat}:Es (nI4 l) x=decide (x∈l):=by
 rw [Bool.eq_iff_iff]
 simp only [Es,List.contains_iff_mem,Sw,decide_eq_true_eq]
theorem Ait {es:List Ed} (hn8:∀q∈es,q.1<8/\q.2<8) (a:Nat) {e:Ed} (he:e∈es):e.1∈ptL es a↔e.2∈ptL es a:=by
 rw [Ss,Ss,Abh he]
 have:=hn8 e he
 exact ⟨fun h=>⟨this.2,h.2⟩,fun h=>⟨this.1,h.2⟩⟩
theorem A3b {es:List Ed} (h0:es≠[]):∃e∈es,e.1=Dw es:=by
 cases es with
 | nil=>exact absurd rfl h0
 | cons q r=>exact ⟨q,List.mem_cons_self,rfl⟩
theorem A5s {es:List Ed} (h0:es≠[]) (hn8:∀q∈es,q.1<8/\q.2<8):apB es (nI4 (ptL es (Dw es)))=false↔Lf es:=by
 have hall:es.all (fun e=>Es (nI4 (ptL es (Dw es))) e.1==Es (nI4 (ptL es (Dw es))) e.2)=true:=by
  rw [List.all_eq_true]
  intro e he
  rw [Np,Np]
  simp [Ait hn8 (Dw es) he]
 obtain ⟨e0,he0,hr0⟩:=A3b h0
 have hrm:Dw es∈ptL es (Dw es):=Ss.2 ⟨by rw [<-hr0]; exact (hn8 e0 he0).1,A7s _ _⟩
 have h1:1<=es.countP fun e=>Es (nI4 (ptL es (Dw es))) e.1:=by
  rw [Nat.one_le_iff_ne_zero,<-Nat.pos_iff_ne_zero,List.countP_pos_iff]
  exact ⟨e0,he0,by rw [Np,hr0]; simpa using hrm⟩
 rw [apB,hall,Bool.true_and]
 have h2:decide (1<=es.countP fun e=>Es (nI4 (ptL es (Dw es))) e.1)=true:=by simpa using h1
 rw [h2,Bool.true_and,decide_eq_false_iff_not]
 have hle:(es.countP fun e=>Es (nI4 (ptL es (Dw es))) e.1)<=es.length:=List.countP_le_length
 constructor
 ·intro h
  have h3:∀e∈es,e.1∈ptL es (Dw es):=fun e he=>by
   have:=List.countP_eq_length.1 (show (es.countP fun e=>Es (nI4 (ptL es (Dw es))) e.1)=es.length by omega) e he
   rw [Np] at this
   simpa using this
  have h4:∀p:Nat->Bool,(∀e∈es,p e.1=p e.2)->∀e∈es,p e.1=p (Dw es):=fun p hp e he=>by
   have hx:=(Ss.1 (h3 e he)).2
   cases hr:p (Dw es) with
   | true=>exact hx p hp hr
   | false =>
    have:=hx (fun y => !p y) (fun f hf=>by rw [hp f hf]) (by rw [hr]; rfl)
    simpa using this
  intro p hp e he f hf
  rw [h4 p hp e he,h4 p hp f hf]
 ·intro hh h
  have:(es.countP fun e=>Es (nI4 (ptL es (Dw es))) e.1)=es.length:=by
   rw [List.countP_eq_length]
   intro e he
   have:=hh (fun y=>Es (nI4 (ptL es (Dw es))) y) (fun f hf=>by
    have:=List.all_eq_true.1 hall f hf
    simpa using this) e he e0 he0
   rw [this,hr0,Np]
   simpa using hrm
  omega
theorem Oy (s:Nat->Int):∀v,0<=upU s v
 | 0=>Int.le_refl _
 | v+1=>by
  have:=Oy s v
  simp only [upU]
  split <;> omega
theorem Rb {s:Nat->Int} {x:Nat}:∀{v:Nat},x<v->s x<=upU s v
 | v+1,h=>by
  have h0:=Oy s v
  simp only [upU]
  by_cases hx:x=v
  ·subst hx
   split <;> omega
  ·have:=Rb (s:=s) (show x<v by omega)
   split <;> omega
theorem A5y {s:Nat->Int}:∀{v:Nat},upU s v=1->atU s v<v/\s (atU s v)=1/\∀x,x<v->x≠atU s v->s x<=0
 | 0,h=>by simp [upU] at h
 | v+1,h=>by
  have h0:=Oy s v
  simp only [upU,atU] at h ⊢
  by_cases hv:0<s v
  ·rw [if_pos hv] at h ⊢
   refine ⟨by omega,by omega,fun x hx hne => ?_⟩
   have:=Rb (s:=s) (show x<v by omega)
   omega
  ·rw [if_neg hv,Int.add_zero] at h
   rw [if_neg hv]
   obtain ⟨i1,i2,i3⟩:=A5y h
   refine ⟨by omega,i2,fun x hx hne => ?_⟩
   by_cases hxv:x=v
   ·subst hxv; omega
   ·exact i3 x (by omega) hne
theorem A0h (s:Nat->Int):∀v,upU s v-upU (fun x => - s x) v=Bm (List.range v) s
 | 0=>rfl
 | v+1=>by
  have hs:∀(l:List Nat) (f:Nat->Int) (a:Nat),Bm (l++[a]) f=Bm l f+f a:=fun l f a=>by
   induction l with
   | nil=>simp [Bm]
   | cons b r ih=>simp only [List.cons_append,Bm,ih]; omega
  rw [List.range_succ,hs,<-A0h s v]
  simp only [upU]
  split <;> split <;> omega
theorem Amp {s:Nat->Int} {a:Nat} (h:∀x,s x<=if x=a then 1 else 0):∀v,upU s v<=if a<v then 1 else 0
 | 0=>by simp [upU]
 | v+1=>by
  have h1:=Amp h v
  have h2:=h v
  simp only [upU]
  by_cases hv:v=a
  ·subst hv
   rw [if_neg (Nat.lt_irrefl v)] at h1
   rw [if_pos rfl] at h2
   rw [if_pos (Nat.lt_succ_self v)]
   split <;> omega
  ·rw [if_neg hv] at h2
   rw [if_neg (show ¬0<s v by omega)]
   by_cases hav:a<v
   ·rw [if_pos hav] at h1
    rw [if_pos (by omega)]; omega
   ·rw [if_neg hav] at h1
    split <;> omega
theorem Mw (es:List Ed) (x:Nat):sur es x=(od es x:Int)-(idg es x:Int):=rfl
theorem A2t (f:Nat->Nat) (l:List Nat):Bm l (fun x=>(f x:Int))=((l.map f).sum:Nat):=by
 induction l with
 | nil=>rfl
 | cons a r ih=>simp only [Bm,List.map_cons,List.sum_cons,ih]; omega
theorem A5d {es:List Ed} (hn8:∀q∈es,q.1<8/\q.2<8):Bm (List.range 8) (sur es)=0:=by
 have h1:=Yj (p:=fun x=>decide (x<8)) (List.range 8) List.nodup_range (fun x=>by simp) es
 have h2:es.countP (fun e=>decide (e.1<8))=es.length:=List.countP_eq_length.2 fun e he=>by simpa using (hn8 e he).1
 have h3:es.countP (fun e=>decide (e.2<8))=es.length:=List.countP_eq_length.2 fun e he=>by simpa using (hn8 e he).2
 have h4:Bm (List.range 8) (sur es)+Bm (List.range 8) (fun x=>(idg es x:Int))=Bm (List.range 8) fun x=>(od es x:Int):=by
  rw [<-Ix]
  exact Dp fun x _=>by unfold sur; omega
 rw [A2t,A2t,<-h1.1,<-h1.2,h2,h3] at h4
 omega
theorem Agg {es:List Ed} (hn8:∀q∈es,q.1<8/\q.2<8) {x:Nat} (hx:8<=x):sur es x=0:=by
 have h1:od es x=0:=Hh.2 fun e he h=>by have:=hn8 e he; omega
 have h2:idg es x=0:=Ni.2 fun e he h=>by have:=hn8 e he; omega
 unfold sur; omega
theorem A4u {es:List Ed} (hn8:∀q∈es,q.1<8/\q.2<8) (h:upU (sur es) 8=0):Bal es:=fun x=>by
 have h1:=A0h (sur es) 8
 rw [A5d hn8] at h1
 by_cases hx:x<8
 ·have h2:=Rb (s:=sur es) hx
  have h3:=Rb (s:=fun x => - sur es x) hx
  rw [show upU (fun x => - sur es x) 8=0 by omega] at h3
  rw [h,Mw] at h2
  rw [Mw] at h3
  omega
 ·have:=Agg hn8 (show 8<=x by omega)
  rw [Mw] at this; omega
def Gf (es:List Ed):Nat:=atU (fun x => - sur es x) 8
theorem Kr {es:List Ed} (hn8:∀q∈es,q.1<8/\q.2<8) (h:upU (sur es) 8=1):atU (sur es) 8<8/\Gf es<8/\atU (sur es) 8≠Gf es/\∀x,sur es x=(if atU (sur es) 8=x then 1 else 0)-if Gf es=x then 1 else 0:=by
 have h1:=A0h (sur es) 8
 rw [A5d hn8] at h1
 obtain ⟨a1,a2,a3⟩:=A5y h
 obtain ⟨b1,b2,b3⟩:=A5y (s:=fun x => - sur es x) (v:=8) (by omega)
 have hne:atU (sur es) 8≠Gf es:=fun e=>by
  rw [e] at a2
  have:sur es (Gf es) = -1:=by unfold Gf; omega
  omega
 refine ⟨a1,b1,hne,fun x => ?_⟩
 by_cases hxa:atU (sur es) 8=x
 ·subst hxa
  rw [if_pos rfl,if_neg fun e=>hne e.symm]; omega
 ·rw [if_neg hxa]
  by_cases hxe:Gf es=x
  ·subst hxe
   rw [if_pos rfl]; unfold Gf; omega
  ·rw [if_neg hxe]
   by_cases hx:x<8
   ·have:=a3 x hx fun e=>hxa e.symm
    have:=b3 x hx fun e=>hxe e.symm
    omega
   ·rw [Agg hn8 (by omega)]; rfl
theorem A4x {es:List Ed} (hn8:∀q∈es,q.1<8/\q.2<8) (h:upU (sur es) 8=1):Bal ((Gf es,atU (sur es) 8)::es):=fun x=>by
 obtain ⟨-,-,-,h4⟩:=Kr hn8 h
 have:=h4 x
 rw [Fu,Jx]
 rw [Mw] at this
 simp only
 split at this <;> split at this <;> simp [*] at * <;> omega
theorem Abo {es:List Ed} (hh:Lf es) {e s:Nat} (hs:od es s≠0):Lf ((e,s)::es):=by
 obtain ⟨g,hg,hgs⟩:∃g∈es,g.1=s:=by
  apply Classical.byContradiction
  intro h
  exact hs (Hh.2 fun g hg h'=>h ⟨g,hg,h'⟩)
 intro p hp
 have h1:=hp (e,s) List.mem_cons_self
 simp only at h1
 have h2:∀f∈(e,s)::es,p f.1=p g.1:=fun f hf=>by
  rcases List.mem_cons.1 hf with rfl | hf
  ·rw [h1,hgs]
  ·exact hh p (fun k hk=>hp k (List.mem_cons_of_mem _ hk)) f hf g hg
 intro f hf k hk
 rw [h2 f hf,h2 k hk]
theorem A7d {R R':List Ed} (h:R.Perm R') (hh:Lf R):Lf R':=fun p hp e he f hf=>hh p (fun g hg=>hp g (h.mem_iff.1 hg)) e (h.mem_iff.2 he) f (h.mem_iff.2 hf)
def Iy (es:List Ed):Int:=(nf es:Nat)*Vd (cl es) (lap es) (cl es).length
theorem Vq {es:List Ed} (hb:Bal es) (hn8:∀e∈es,e.1<8/\e.2<8) (h0:es≠[]) (x:Nat):trl x es.length es x=(od es x:Nat)*Iy es:=by
 obtain ⟨m,hm⟩:∃m,es.length=m+1:=⟨es.length-1,by have:=List.length_pos_iff.2 h0; omega⟩
 rw [hm]
 simp only [trl]
 have h1:sp (fun g k=>if g.1=x then trl x m k g.2 else 0) es=sp (fun g _=>if g.1=x then Iy es else 0) es:=Hv fun g k hp=>by
  by_cases hg:g.1=x
  ·rw [if_pos hg,if_pos hg]
   have hkl:k.length=m:=by have:=hp.length_eq; simp at this; omega
   have:=Abr hb hn8 h0 (a:=g.1) (b:=g.2) (R':=k) hp.symm
   rw [hkl,hg] at this
   exact this
  ·rw [if_neg hg,if_neg hg]
 rw [h1,A3d,Nd]
theorem Aad {es:List Ed} (hn8:∀q∈es,q.1<8/\q.2<8) (h:upU (sur es) 8=1):trl (Gf es) es.length es (atU (sur es) 8)=Iy (es++[(Gf es,atU (sur es) 8)]):=by
 obtain ⟨h1,h2,-,-⟩:=Kr hn8 h
 have hp:((Gf es,atU (sur es) 8)::es).Perm (es++[(Gf es,atU (sur es) 8)]):=List.perm_append_comm (l₁:=[_]) 
 exact Abr (Vo hp (A4x hn8 h)) (fun e he=>by
  rcases List.mem_append.1 he with he | he
  ·exact hn8 e he
  ·obtain rfl:=List.mem_singleton.1 he
   exact ⟨h2,h1⟩) (by simp) hp.symm
theorem Abu {es:List Ed} (hn8:∀q∈es,q.1<8/\q.2<8) (h:upU (sur es) 8=1) (hh:Lf es):0<Iy (es++[(Gf es,atU (sur es) 8)]):=by
 obtain ⟨h1,h2,h3,h4⟩:=Kr hn8 h
 have hp:((Gf es,atU (sur es) 8)::es).Perm (es++[(Gf es,atU (sur es) 8)]):=List.perm_append_comm (l₁:=[_])
 have hod:od es (atU (sur es) 8)≠0:=fun h0=>by
  have:=h4 (atU (sur es) 8)
  rw [if_pos rfl,if_neg fun e=>h3 e.symm,Mw] at this
  omega
 exact A2g (Vo hp (A4x hn8 h)) (A7d hp (Abo hh hod)) (fun e he=>by
  rcases List.mem_append.1 he with he | he
  ·exact hn8 e he
  ·obtain rfl:=List.mem_singleton.1 he
   exact ⟨h2,h1⟩) (by simp)
theorem Le {V:List Nat} (hn:V.Nodup) {f:Nat->Int} {a:Nat} (ha:a∈V) (h:∀x∈V,x≠a->f x=0):Bm V f=f a:=by
 have:Bm V f=Bm V fun v=>if a=v then f a else 0:=Dp fun v hv=>by
  by_cases hva:a=v
  ·rw [if_pos hva,hva]
  ·rw [if_neg hva,h v hv fun e=>hva e.symm]
 rw [this,A2m hn ha]
theorem Je {f:Nat->Int}:∀{V:List Nat},(∀x∈V,0<=f x)->0<=Bm V f/\∀x∈V,f x<=Bm V f
 | [],_=>⟨Int.le_refl _,fun x hx=>by cases hx⟩
 | a::V,h=>by
  obtain ⟨i1,i2⟩:=Je fun x hx=>h x (List.mem_cons_of_mem _ hx)
  have h0:=h a List.mem_cons_self
  simp only [Bm]
  refine ⟨by omega,fun x hx => ?_⟩
  rcases List.mem_cons.1 hx with rfl | hx
  ·omega
  ·have:=i2 x hx; omega
theorem Yi {f:Nat->Int}:∀{V:List Nat},Bm V f≠0->∃x∈V,f x≠0
 | [],h=>absurd rfl h
 | a::V,h=>by
  by_cases ha:f a=0
  ·obtain ⟨x,hx,hf⟩:=Yi (V:=V) (f:=f) fun h2=>h (by simp only [Bm,ha,h2]; rfl)
   exact ⟨x,List.mem_cons_of_mem _ hx,hf⟩
  ·exact ⟨a,List.mem_cons_self,ha⟩
theorem A1y {es:List Ed} (hn8:∀q∈es,q.1<8/\q.2<8) (h0:es≠[]) {r a:Nat} (ha:a<8) (h:trl r es.length es a≠0):Lf es/\od es a≠0/\(∀x,sur es x=(if a=x then 1 else 0)-if r=x then 1 else 0)/\((a=r/\upU (sur es) 8=0)\/(upU (sur es) 8=1/\atU (sur es) 8=a/\Gf es=r)):=by
 obtain ⟨h1,h2⟩:=Abt _ rfl h
 have hsur:∀x,sur es x=(if a=x then 1 else 0)-if r=x then 1 else 0:=fun x=>by
  have:=h1 x
  unfold sur
  split at this <;> split at this <;> omega
 have hod:od es a≠0:=by
  obtain ⟨m,hm⟩:∃m,es.length=m+1:=⟨es.length-1,by have:=List.length_pos_iff.2 h0; omega⟩
  rw [hm] at h
  simp only [trl] at h
  obtain ⟨g,k,hp,hg⟩:=A4v h
  intro ho
  have:=Hh.1 ho g (hp.mem_iff.1 List.mem_cons_self)
  exact hg (if_neg this)
 refine ⟨fun p hp e he f hf=>by rw [h2 p hp e he,h2 p hp f hf],hod,hsur,?_⟩
 by_cases har:a=r
 ·subst har
  refine .inl ⟨rfl,?_⟩
  have h3:sur es=fun _=>0:=funext fun x=>by rw [hsur]; omega
  rw [h3]
  rfl
 ·have h3:=Amp (s:=sur es) (a:=a) (fun x=>by
   rw [hsur]
   by_cases hx:a=x
   ·rw [if_pos hx,if_pos hx.symm]; split <;> omega
   ·rw [if_neg hx,if_neg (show ¬x=a from fun e=>hx e.symm)]; split <;> omega) 8
  rw [if_pos ha] at h3
  have h4:=Rb (s:=sur es) ha
  rw [hsur a,if_pos rfl,if_neg fun e=>har e.symm] at h4
  have h5:upU (sur es) 8=1:=by omega
  obtain ⟨b1,b2,b3,b4⟩:=Kr hn8 h5
  refine .inr ⟨h5,?_,?_⟩
  ·have e1:=b4 (atU (sur es) 8)
   rw [if_pos rfl,if_neg fun e=>b3 e.symm,hsur] at e1
   apply Classical.byContradiction
   intro hne
   rw [if_neg fun e=>hne e.symm] at e1
   split at e1 <;> omega
  ·have e1:=b4 (Gf es)
   rw [if_neg b3,if_pos rfl,hsur] at e1
   apply Classical.byContradiction
   intro hne
   have e2:¬r=Gf es:=fun e=>hne e.symm
   rw [if_neg e2] at e1
   split at e1 <;> omega
theorem Ub {es:List Ed} (hn8:∀q∈es,q.1<8/\q.2<8) {a:Nat} (ha:a<8):tw es.length es a=Bm (List.range 8) fun r=>trl r es.length es a:=
 Ano List.nodup_range _ rfl (fun e he=>List.mem_range.2 (hn8 e he).2) (List.mem_range.2 ha)
theorem A1w {N:Nat} {es:List Ed} (h0:es≠[]) (hN:N<=8) (hn:∀q∈es,q.1<N/\q.2<N) {x:Nat}:x∈Fe N es↔x<8/\0<tw es.length es x:=by
 have hn8:∀q∈es,q.1<8/\q.2<8:=fun q hq=>by have:=hn q hq; omega
 have hnn:∀x<8,∀r∈List.range 8,0<=trl r es.length es x:=fun x _ r _=>Vl r _ x rfl
 constructor
 ·intro hx
  unfold Fe at hx
  split at hx
  ·cases hx
  ·next hap =>
   have hh:Lf es:=(A5s h0 hn8).1 (by simpa using hap)
   split at hx
   ·next hu =>
    obtain ⟨h1,h2⟩:=List.mem_filter.1 hx
    have hx8:x<8:=by have:=List.mem_range.1 h1; omega
    refine ⟨hx8,?_⟩
    have hb:=A4u hn8 hu
    rw [List.any_eq_true] at h2
    obtain ⟨q,hq,hqx⟩:=h2
    have hod:od es x≠0:=fun h=>Hh.1 h q hq (by simpa using hqx)
    have h3:=Vq hb hn8 h0 x
    have h4:=A2g hb hh hn8 h0
    have h5:=(Je (hnn x hx8)).2 x (List.mem_range.2 hx8)
    rw [Ub hn8 hx8]
    have:0<(od es x:Int)*Iy es:=Int.mul_pos (by omega) h4
    omega
   ·split at hx
    ·next hu =>
     obtain rfl:=List.mem_singleton.1 hx
     obtain ⟨h1,h2,-,-⟩:=Kr hn8 hu
     refine ⟨h1,?_⟩
     have h3:=Aad hn8 hu
     have h4:=Abu hn8 hu hh
     have h5:=(Je (hnn _ h1)).2 (Gf es) (List.mem_range.2 h2)
     rw [Ub hn8 h1]
     omega
    ·cases hx
 ·rintro ⟨hx8,hpos⟩
  rw [Ub hn8 hx8] at hpos
  obtain ⟨r,hr,hne⟩:=Yi (show Bm (List.range 8) (fun r=>trl r es.length es x)≠0 by omega)
  obtain ⟨hh,hod,hsur,hor⟩:=A1y hn8 h0 hx8 hne
  have hap:=(A5s h0 hn8).2 hh
  unfold Fe
  rw [if_neg (by rw [hap]; decide)]
  rcases hor with ⟨_,hu⟩ | ⟨hu,hat,_⟩
  ·rw [if_pos hu]
   have:∃q∈es,q.1=x:=by
    apply Classical.byContradiction
    intro h
    exact hod (Hh.2 fun e he h'=>h ⟨e,he,h'⟩)
   obtain ⟨q,hq,rfl⟩:=this
   exact List.mem_filter.2 ⟨List.mem_range.2 (hn q hq).1,List.any_eq_true.2 ⟨q,hq,by simp⟩⟩
  ·rw [if_neg (by omega),if_pos hu,hat]
   exact List.mem_singleton.2 rfl
def Rk (es:List Ed):Int:=Bm (List.range 8) (tw es.length es)
theorem Fw {f:Nat->Int}:∀{V:List Nat},(∀x∈V,f x=0)->Bm V f=0
 | [],_=>rfl
 | a::V,h=>by
  simp only [Bm]
  rw [h a List.mem_cons_self,Fw fun x hx=>h x (List.mem_cons_of_mem _ hx)]; rfl
theorem Alc (es:List Ed):0<=Rk es:=(Je fun x _=>(Ug _ x rfl).1).1
theorem Avw {es:List Ed} (h0:es≠[]) (hn8:∀q∈es,q.1<8/\q.2<8):Rk es<=Fs es.length:=by
 obtain ⟨m,hm⟩:∃m,es.length=m+1:=⟨es.length-1,by have:=List.length_pos_iff.2 h0; omega⟩
 have h1:Rk es=Bm (List.range 8) fun r=>sp (fun g k=>if g.1=r then tw m k g.2 else 0) es:=by
  unfold Rk
  rw [hm]; rfl
 rw [h1,A5m (fun r g k=>if g.1=r then tw m k g.2 else 0)]
 have h2:=(A2e (c:=Fs m) (Int.le_of_lt (Qw m)) (R:=es) (f:=fun x l=>Bm (List.range 8) fun r=>if x.1=r then tw m l x.2 else 0) fun x l hp=>by
  have hx:=hn8 x (hp.mem_iff.1 List.mem_cons_self)
  have hl:l.length=m:=by have:=hp.length_eq; simp at this; omega
  rw [A2m List.nodup_range (List.mem_range.2 hx.1)]
  exact Ug m x.2 hl).2
 refine Int.le_trans h2 ?_
 rw [hm]
 exact Int.le_refl _
theorem B1q {es:List Ed} (hn8:∀q∈es,q.1<8/\q.2<8):Bm (List.range 8) (fun a=>(od es a:Int))=es.length:=by
 rw [A2t]
 have h:=(Yj (p:=fun x=>decide (x<8)) (List.range 8) List.nodup_range (fun x=>by simp) es).1
 rw [<-h]
 have:es.countP (fun e=>decide (e.1<8))=es.length:=by
  rw [List.countP_eq_length]
  intro e he
  simpa using (hn8 e he).1
 rw [this]
theorem A6r (c:Int) (f:Nat->Int):∀V,Bm V (fun x=>f x*c)=Bm V f*c
 | []=>by simp [Bm]
 | a::V=>by simp only [Bm]; rw [A6r c f V,Int.add_mul]
section
variable {N:Nat} {es:List Ed}
theorem A5u (hk:OkB N es) {x:Nat} (hx:x<8) (h:x∉Fe N es):tw es.length es x=0:=by
 have h1:=(Ug es.length x rfl).1
 apply Classical.byContradiction
 intro hne
 exact h ((A1w hk.ne hk.n8 hk.lt).2 ⟨hx,by omega⟩)
theorem Arj (hk:OkB N es) (h:Fe N es=[]):Rk es=0:=Fw fun x hx=>A5u hk (List.mem_range.1 hx) (by rw [h]; simp)
theorem Abp (h:Fe N es≠[]):apB es (nI4 (ptL es (Dw es)))=false/\(upU (sur es) 8=0\/upU (sur es) 8=1):=by
 unfold Fe at h
 by_cases h1:apB es (nI4 (ptL es (Dw es)))=true
 ·rw [if_pos h1] at h; exact absurd rfl h
 ·rw [if_neg h1] at h
  refine ⟨by simpa using h1,?_⟩
  by_cases h2:upU (sur es) 8=0
  ·exact .inl h2
  ·rw [if_neg h2] at h
   by_cases h3:upU (sur es) 8=1
   ·exact .inr h3
   ·rw [if_neg h3] at h; exact absurd rfl h
theorem B0w (hk:OkB N es) (h:Fe N es≠[]) (hu:upU (sur es) 8=0) {a:Nat} (ha:a<8):tw es.length es a=(od es a:Int)*Iy es:=by
 have hn8:=hk.lt8
 rw [Ub hn8 ha,Le List.nodup_range (List.mem_range.2 ha) fun r hr hne => ?_]
 ·exact Vq (A4u hn8 hu) hn8 hk.ne a
 ·apply Classical.byContradiction
  intro hz
  obtain ⟨_,_,_,h4⟩:=A1y hn8 hk.ne ha hz
  rcases h4 with ⟨h5,_⟩ | ⟨h5,_⟩
  ·exact hne h5.symm
  ·omega
theorem Aze (hk:OkB N es) (h:Fe N es≠[]) (hu:upU (sur es) 8=0):Rk es=Iy es*es.length:=by
 have h1:Rk es=Bm (List.range 8) fun a=>(od es a:Int)*Iy es:=Dp fun a ha=>B0w hk h hu (List.mem_range.1 ha)
 rw [h1,A6r,B1q hk.lt8,Int.mul_comm]
theorem Agu (h:Fe N es≠[]) (hu:upU (sur es) 8=1):Fe N es=[atU (sur es) 8]:=by
 have:=(Abp h).1
 unfold Fe
 rw [if_neg (by rw [this]; decide),if_neg (by omega),if_pos hu]
theorem Awg (hk:OkB N es) (hu:upU (sur es) 8=1):tw es.length es (atU (sur es) 8)=Iy (es++[(Gf es,atU (sur es) 8)]):=by
 have hn8:=hk.lt8
 obtain ⟨h1,h2,h3,h4⟩:=Kr hn8 hu
 rw [Ub hn8 h1,Le List.nodup_range (List.mem_range.2 h2) fun r hr hne => ?_]
 ·exact Aad hn8 hu
 ·apply Classical.byContradiction
  intro hz
  obtain ⟨_,_,_,h4⟩:=A1y hn8 hk.ne h1 hz
  rcases h4 with ⟨h5,h6⟩ | ⟨_,_,h7⟩
  ·omega
  ·exact hne h7.symm
theorem Aqa (hk:OkB N es) (h:Fe N es≠[]) (hu:upU (sur es) 8=1):Rk es=Iy (es++[(Gf es,atU (sur es) 8)]):=by
 have h1:=(Kr hk.lt8 hu).1
 rw [<-Awg hk hu]
 exact Le List.nodup_range (List.mem_range.2 h1) fun x hx hne=>A5u hk (List.mem_range.1 hx) (by rw [Agu h hu]; simpa using hne)
end
end Go.Ev.YtgehhippjhealaaGreatC.P4
namespace Go.Ev
end Go.Ev
namespace Go.Ev.YtgehhippjhealaaGreatC.P4
open Go.Ev
open Go Go.Proofs Go.Ev
attribute [local irreducible] Res.all evC Dd Df Br Bh Dj Bd Bi G GO GV GP GC R
abbrev rwI (N:Nat) (f:Nat->Int):List AV:=(srN N f).map (.int .i64)
structure WayT (N:Nat) (es:List Ed) (S:Nat) (h:Bc) (u:Nat):Prop where
 tab:Bb h 82 = .cells 0 ((List.range S).map fun s=>if u<=s then .oslice (83+(S-1-s)) 0 none 0 N (some N) else .slice none [] true)
 row:∀s,u<=s->s<S->Bb h (83+(S-1-s)) = .cells 0 (rwI N (wB es s))
theorem WayT.other {N S u:Nat} {es:List Ed} {h h':Bc} (hw:WayT N es S h u) (hu:0<u) (hf:∀j,j<83+(S-u)->Bb h' j=Bb h j):WayT N es S h' u where
 tab:=by rw [hf 82 (by omega)]; exact hw.tab
 row:=fun s h1 h2=>by rw [hf _ (by omega)]; exact hw.row s h1 h2
def gdR (es:List Ed) (s:Nat) (a:Int) (i:Nat):Bool:=Ec s i&&((decide (a<0)||decide (((gE es i).1:Int)=a))&&decide (wB es (s ||| 2 ^ i) (gE es i).2≠0))
def tuR (es:List Ed):Nat->Nat->Int->List Nat->Option (List Nat)
 | 0,_,_,out=>some out
 | k+1,s,a,out =>
  match (List.range es.length).find? (gdR es s a) with
  | none=>none
  | some i=>tuR es k (s ||| 2 ^ i) (gE es i).2 (out++[i])
theorem A7x {p:Nat->Bool} {m i:Nat} (hi:i<m) (hp:p i=true) (hn:∀j,j<i->p j=false):(List.range m).find? p=some i:=by
 rw [List.find?_range_eq_some]
 exact ⟨hp,List.mem_range.2 hi,fun j hj=>by simp [hn j hj]⟩
theorem A7g {p:Nat->Bool} {m:Nat} (hn:∀j,j<m->p j=false):(List.range m).find? p=none:=by
 rw [List.find?_range_eq_none]
 exact fun j hj=>by simp [hn j hj]
def tuA (r:Option (List Nat)):AV:=match r with
 | none => .tuple [Ej [],.int .i64 19]
 | some l => .tuple [Ej (nI4 l),.int .i64 0]
def ldB (es:List Ed) (a:Int) (wo:List Int) (i:Nat):Bool:=(decide (a<0)||decide (((es.getD i (0,0)).1:Int)=a)) && !wo.contains (i:Int)
def ldL (es:List Ed) (a:Int) (wo:List Int) (i:Nat):List Nat:=(List.range i).filter (ldB es a wo)
theorem A2q (es:List Ed) (a:Int) (wo:List Int) (i:Nat):ldL es a wo (i+1)=ldL es a wo i++if ldB es a wo i=true then [i] else []:=by
 unfold ldL
 rw [List.range_succ,List.filter_append]
 congr 1
 by_cases hf:ldB es a wo i=true
 ·rw [if_pos hf,List.filter_cons,if_pos hf]; rfl
 ·rw [if_neg hf,List.filter_cons,if_neg hf]; rfl
theorem A6g (es:List Ed) (a:Int) (wo:List Int) (i:Nat):(ldL es a wo i).length<=i:=by
 have:=List.length_filter_le (ldB es a wo) (List.range i)
 simpa [ldL] using this
abbrev ldC (N:Int) (es:List Ed) (s:Nat->Int) (p:AV) (a:Int) (wo:List Int):List AV:=[.ptr [stA N es s p] 0,.ptr [.int .i64 a] 0,.ptr [Ej wo] 0]
theorem Afp (N:Int) (es:List Ed) (s:Nat->Int) (p:AV) (a:Int) (wo:List Int):Con T 1 105 [stA N es s p,.int .i64 a,Ej wo] (.clo 172 [] (ldC N es s p a wo)):=by
 refine Bu t105 fun n hn V hV => ?_
 simp (disch:=first | assumption | omega) only [c105,go_sem,↓reduceIte]
 exact hV _ _ (Gj (Db _ _) (Bn (Dz (cs:=[stA N es s p]) (by simp only [go_sem,↓reduceIte]) (Bn (Ih _ _ _ _ _ _) (Db _ _))) (Bn (Dz (cs:=[.int .i64 a]) (by simp only [go_sem,↓reduceIte]) (Bn (Bl _ _ _ _) (Db _ _))) (Bn (Dz (cs:=[Ej wo]) (by simp only [go_sem,↓reduceIte]) (Bn (Ds _ _ _ _ _) (Db _ _))) (Db _ _)))))
set_option maxHeartbeats 1000000 in
theorem A1h (N:Int) (es:List Ed) (s:Nat->Int) (p:AV) (a:Int) (wo:List Int) (hl:es.length<=20) (hwo:wo.length<=1000) (key ver B:Nat) (J:Nat->Bc->Prop)
  (hset:∀i h o,J i h->J i (setH h (B+6) o)) {n:Nat} (hn:4<=n)
  (hskip:∀i h,i<es.length->ldB es a wo i=false->J i h->J (i+1) h)
  (hy:∀i h,i<es.length->ldB es a wo i=true->J i h->(Bd T (n-1) true (.yld key ver) [.int .i64 (i:Int)] h).all fun p=>p.1 = .bool true/\J (i+1) p.2) (h:Bc) (hB:h.length=B) (h0:J 0 (h++List.replicate 39 .none)) (V:AV×Bc->Prop) (hV:∀v h',J es.length h'->V (v,h')) :
  (Bd T n true (.fn 172) [.yld key ver,.ptr [stA N es s p] 0,.ptr [.int .i64 a] 0,.ptr [Ej wo] 0] h).all V:=by
 obtain ⟨q,rfl⟩:∃q,n=q+1:=⟨n-1,by omega⟩
 rw [Dt t172,hB]
 simp (disch:=first | assumption | omega) only [c172,go_sem,↓reduceIte,stA,Gl,List.length_map]
 refine Da (fun M st=>∃i:Nat,M=es.length-i/\i<=es.length/\At st.env [(0,.yld key ver),(2,.ptr [.int .i64 a] 0),(3,.ptr [Ej wo] 0),(11,eds es),(12,.int .i64 es.length),(13,.int .i64 i)]/\J i st.heap) es.length (by omega)
  ⟨0,by omega,by omega,by simp only [go_sem,↓reduceIte],h0⟩ ?_
 rintro M e h hM ⟨i,rfl,hi,hE,hJ⟩ P hP
 simp only [Bp,Bx] at hE hJ
 obtain ⟨f0,f2,f3,f11,f12,f13,-⟩:=hE
 by_cases hlt:i<es.length
 ·have hg:=Jw hlt
  have hge:es.getD i (0,0)=es[i]:=by simp [List.getD,hlt]
  have hld:ldB es a wo i=((decide (a<0)||decide ((es[i].1:Int)=a)) && !wo.contains (i:Int)):=by rw [ldB,hge]
  have hJ2:∀o o',J i (setH (setH h (B+6) o) (B+6) o'):=fun o o'=>hset _ _ _ (hset _ _ _ hJ)
  have hnext:ldB es a wo i=false->∀o o',J (i+1) (setH (setH h (B+6) o) (B+6) o'):=fun hb o o'=>hskip i _ hlt hb (hJ2 o o')
  have hyy:ldB es a wo i=true->∀o o',(Bd T q true (.yld key ver) [.int .i64 (i:Int)] (setH (setH h (B+6) o) (B+6) o')).all fun p=>p.1 = .bool true/\J (i+1) p.2:=fun hb o o'=>hy i _ hlt hb (hJ2 o o')
  generalize hqd:es[i]=q0 at *
  obtain ⟨qa,qb⟩:=q0
  simp only [edA] at hg
  simp only at hld
  by_cases ha:a<0
  ·have hda:decide (a<0)=true:=by simpa using ha
   cases hc:wo.contains (i:Int) with
   | true =>
    have hb:ldB es a wo i=false:=by rw [hld,hc]; simp
    simp (disch:=first | assumption | omega) only [go_sem,↓reduceIte,f0,f2,f3,f11,f12,f13,hlt,hg,hda,Mi,hc,Bool.not_true,Bool.false_eq_true]
    exact hP (es.length-(i+1)) _ (by omega) ⟨i+1,rfl,by omega,by simp only [go_sem,↓reduceIte,f0,f2,f3,f11,f12],hnext hb _ _⟩
   | false =>
    have hb:ldB es a wo i=true:=by rw [hld,hc,hda]; rfl
    simp (disch:=first | assumption | omega) only [go_sem,↓reduceIte,f0,f2,f3,f11,f12,f13,hlt,hg,hda,Mi,hc,Bool.not_false,Bool.false_eq_true]
    refine Ex (Res.all_mono _ (hyy hb _ _) ?_)
    rintro ⟨v,h'⟩ ⟨hv,hJ'⟩
    simp only at hv hJ'
    subst hv
    simp (disch:=first | assumption | omega) only [go_sem,↓reduceIte,f0,f2,f3,f11,f12,f13,Bool.not_true,Bool.false_eq_true]
    exact hP (es.length-(i+1)) _ (by omega) ⟨i+1,rfl,by omega,by simp only [go_sem,↓reduceIte,f0,f2,f3,f11,f12],hJ'⟩
  ·have hda:decide (a<0)=false:=by simpa using ha
   by_cases hqa:(qa:Int)=a
   ·have hde:((qa:Int)==a)=true:=by simpa using hqa
    have hdd:decide ((qa:Int)=a)=true:=by simpa using hqa
    cases hc:wo.contains (i:Int) with
    | true =>
     have hb:ldB es a wo i=false:=by rw [hld,hc]; simp
     simp (disch:=first | assumption | omega) only [go_sem,↓reduceIte,f0,f2,f3,f11,f12,f13,hlt,hg,hda,hde,Mi,hc,Bool.not_true,Bool.false_eq_true]
     exact hP (es.length-(i+1)) _ (by omega) ⟨i+1,rfl,by omega,by simp only [go_sem,↓reduceIte,f0,f2,f3,f11,f12],hnext hb _ _⟩
    | false =>
     have hb:ldB es a wo i=true:=by rw [hld,hc,hdd]; simp
     simp (disch:=first | assumption | omega) only [go_sem,↓reduceIte,f0,f2,f3,f11,f12,f13,hlt,hg,hda,hde,Mi,hc,Bool.not_false,Bool.false_eq_true]
     refine Ex (Res.all_mono _ (hyy hb _ _) ?_)
     rintro ⟨v,h'⟩ ⟨hv,hJ'⟩
     simp only at hv hJ'
     subst hv
     simp (disch:=first | assumption | omega) only [go_sem,↓reduceIte,f0,f2,f3,f11,f12,f13,Bool.not_true,Bool.false_eq_true]
     exact hP (es.length-(i+1)) _ (by omega) ⟨i+1,rfl,by omega,by simp only [go_sem,↓reduceIte,f0,f2,f3,f11,f12],hJ'⟩
   ·have hde:((qa:Int)==a)=false:=by simpa using hqa
    have hdd:decide ((qa:Int)=a)=false:=by simpa using hqa
    have hb:ldB es a wo i=false:=by rw [hld,hda,hdd]; rfl
    simp (disch:=first | assumption | omega) only [go_sem,↓reduceIte,f0,f2,f3,f11,f12,f13,hlt,hg,hda,hde,Bool.not_true,Bool.false_eq_true]
    exact hP (es.length-(i+1)) _ (by omega) ⟨i+1,rfl,by omega,by simp only [go_sem,↓reduceIte,f0,f2,f3,f11,f12],hnext hb _ _⟩
 ·obtain rfl:i=es.length:=by omega
  simp (disch:=first | assumption | omega) only [go_sem,↓reduceIte,f0,f2,f3,f11,f12,f13,hlt]
  exact hV _ _ hJ
set_option maxHeartbeats 1000000 in
theorem Aee (N:Int) (es:List Ed) (s:Nat->Int) (p:AV) (a:Int) (wo:List Int) (hl:es.length<=20) (hwo:wo.length<=1000):ConF T 10 104 [.clo 172 [] (ldC N es s p a wo)] (Ej (nI4 (ldL es a wo es.length))):=by
 refine Qd t104 fun n hn V hV => ?_
 simp (disch:=first | assumption | omega) only [c104,go_sem,↓reduceIte]
 refine Ex ?_
 obtain ⟨n,rfl⟩:∃n',n=n'+1:=⟨n-1,by omega⟩
 rw [Dt t171]
 have hrep:List.replicate 5 AObj.none++List.replicate 13 AObj.none=List.replicate 18 AObj.none:=by rw [List.replicate_append_replicate]
 simp (disch:=first | assumption | omega) only [c171,go_sem,↓reduceIte,hrep]
 refine A8u (fun st=>At st.env [(2,.optr 7 0 0),(6,.clo 172 [] (ldC N es s p a wo))]/\st.heap.length=18/\Bb st.heap 7 = .cells 0 [.slice none [] true])
  ⟨by simp only [go_sem,↓reduceIte],by simp [Be],by simp only [go_sem,↓reduceIte]⟩ ?_
 rintro e h ⟨hE,hlen,g7⟩
 simp only [Bp,Bx] at hE hlen g7
 obtain ⟨f2,f6,-⟩:=hE
 refine Rq (g:=172) (first:=[]) (captured:=ldC N es s p a wo) (by simp only [go_sem,↓reduceIte,f6]) hlen fun lf l1 l2 l3 l4 l5 => ?_
 refine A1h N es s p a wo hl hwo 18 0 19 (fun i h'=>Bb h' 18 = .loop 0 .ready none lf/\58<=h'.length/\∃x,Bb h' 7 = .cells 0 [x]/\Own 58 h' x .i64 (nI4 (ldL es a wo i))) (fun i h' o hJ => ?_) (by omega) (fun i h' hi hb hJ => ?_) (fun i h' hi hb hJ => ?_) _ (by rw [Be,hlen]; rfl) ?_ _ (fun v h' hJ => ?_)
 ·obtain ⟨a1,a2,x,a3,a4⟩:=hJ
  exact ⟨by rw [Ba _ _ _ _ (by omega),a1],by rw [Be]; omega,x,by rw [Ba _ _ _ _ (by omega),a3],a4.setH (by omega)⟩
 ·obtain ⟨a1,a2,x,a3,a4⟩:=hJ
  exact ⟨a1,a2,x,a3,by rw [A2q,hb]; simpa using a4⟩
 ·obtain ⟨a1,a2,x,a3,a4⟩:=hJ
  obtain ⟨q,rfl⟩:∃q,n=q+2:=⟨n-2,by omega⟩
  have hll:=A6g es a wo i
  refine A0q a1 (by rw [l3]; rfl) ?_
  rw [l4]
  simp (disch:=first | assumption | omega) only [go_sem,↓reduceIte,l1,l2,l3,Mq]
  refine ⟨none,lf,a1,?_⟩
  rw [l5]
  simp (disch:=first | assumption | omega) only [go_sem,↓reduceIte,f2,f6,a1,a3]
  refine Is (lo:=58) (by rw [Be]; omega) (a4.setH (by omega)) (by rw [Be]; omega) (by rw [Gq]; omega) fun x' h2 hO' hF hL _ _ => ?_
  rw [Be] at hL
  have g7':Bb h2 7 = .cells 0 [x]:=by rw [hF 7 (by omega),Ba _ _ _ _ (by omega),a3]
  have g18:Bb h2 18 = .loop 0 .busy none lf:=by rw [hF 18 (by omega),getH_setH_self]
  have hls:nI4 (ldL es a wo (i+1))=nI4 (ldL es a wo i)++[(i:Int)]:=by rw [A2q,hb]; simp [nI4]
  have hcx:=hO'.cells
  have hox:=hO'.oneB
  simp (disch:=first | assumption | omega) only [go_sem,↓reduceIte,f2,f6,g7',g18,hcx,hox]
  refine ⟨.busy,none,lf,rfl,rfl,by omega,x',rfl,?_⟩
  rw [hls]
  exact (hO'.setH (by omega)).setH (by omega)
 ·refine ⟨by rw [Bg,getH_setH_self],by rw [List.length_append,Be,List.length_replicate]; omega,_,by rw [Bg,Ba _ _ _ _ (by omega),g7],Hj ..⟩
 ·obtain ⟨a1,a2,x,a3,a4⟩:=hJ
  refine ⟨.ready,none,lf,a1,by simp,?_⟩
  simp (disch:=first | assumption | omega) only [go_sem,↓reduceIte,f2,f6,a3]
  exact hV _ _ (Jd (a4.setH (by omega))) (Oa (a4.setH (by omega)))
section
variable {n base:Nat} {Q:EX×St->Prop} {d:Option Nat} {L:List IOper} {ks:List Kont} {e:Env} {h:Bc}
theorem Ajc {N:Int} {es:List Ed} {s:Nat->Int} {p:AV} {a:Int} {wo:List Int} {x:Bool} (hn:1<=n):GP (Bd T n) base Q d L ks e (Bd T n false (.fn 105) [stA N es s p,.int .i64 a,.slice none (wo.map (.int .i64)) x] h)=GO (Bd T n) base Q L ks ⟨Bj e d (.clo 172 [] (ldC N es s p a wo)),h⟩:=
 Ey (Afp N es s p a wo) hn (Bv (Ih _ _ _ _ _ _) (Fa _ _ _ (Dm _ _ _ _ (Bz _)))) rfl
end
def rsL (es:List Ed) (wo:List Int) (i:Nat):List Ed:=(ldL es (-1) wo i).map fun j=>es.getD j (0,0)
theorem Adw (es:List Ed) (wo:List Int) (i:Nat):rsL es wo (i+1)=rsL es wo i++if ldB es (-1) wo i=true then [es.getD i (0,0)] else []:=by
 unfold rsL
 rw [A2q,List.map_append]
 congr 1
 split <;> rfl
theorem Aid (es:List Ed) (wo:List Int) (i:Nat):(rsL es wo i).length<=i:=by
 unfold rsL
 rw [List.length_map]; exact A6g es (-1) wo i
theorem edCs_app (l k:List Ed):Fq (l++k)=Fq l++Fq k:=by simp [Fq]
theorem grp_ed (l:List Ed):Ee (some 2) l.length (Fq l)=l.map edA:=by
 apply List.ext_getElem?
 intro i
 simp only [Ee]
 rw [List.getElem?_map,List.getElem?_map]
 by_cases hi:i<l.length
 ·rw [List.getElem?_range hi,List.getElem?_eq_getElem hi]
  simp only [Option.map_some]
  obtain ⟨g1,g2⟩:=Abx hi
  congr 2
  apply List.ext_getElem?
  intro j
  rw [List.getElem?_take]
  by_cases hj:j<2
  ·rw [if_pos hj,List.getElem?_drop]
   have:j=0\/j=1:=by omega
   rcases this with rfl | rfl
   ·simpa using g1
   ·simpa using g2
  ·rw [if_neg hj,List.getElem?_eq_none (by simp; omega)]
 ·rw [List.getElem?_eq_none (by simp; omega),List.getElem?_eq_none (by omega)]; rfl
theorem Acy (h:Bc) (n:Nat):∀l:List Ed,mapR (Bi h (n+1)) (Fq l) = .ret (Fq l)
 | []=>rfl
 | q::r=>Bn (Bl _ _ _ _) (Bn (Bl _ _ _ _) (Acy h n r))
theorem No {lo:Nat} {h:Bc} {x:AV} {l:List Ed} (ho:OwnG lo h x (some 2) l.length (Fq l)):SlP h x l:=by
 rcases ho with ⟨h1,_,rfl⟩ | ⟨key,ver,_,rfl,hH,_⟩
 ·have:l=[]:=List.length_eq_zero_iff.1 h1
  subst this
  exact .inl ⟨true,rfl⟩
 ·exact .inr ⟨key,ver,none,rfl,hH⟩
theorem A9u {lo:Nat} {h:Bc} {x:AV} {l:List Ed} {n:Nat} (ho:OwnG lo h x (some 2) l.length (Fq l)):Bi h (n+2) x = .ret (eds l):=by
 rw [Up ho (Acy h n l),grp_ed]
theorem Qc {lo:Nat} {h:Bc} {v:AV} {g:Option Nat} {n:Nat} {cs:List AV} (ho:OwnG lo h v g n cs):∀j,Ea v=some j->j<h.length:=by
 rcases ho with ⟨_,_,rfl⟩ | ⟨key,ver,_,rfl,hH,_⟩
 ·intro j hj; simp [Ea] at hj
 ·intro j hj
  have:=El hH (by simp)
  simp [Ea] at hj; omega
theorem Aak {N:Nat} {es:List Ed} {h h':Bc} {v sv:AV} {n:Nat} (hp:Arr N sv es h v h') (hs:Bi h' (n+2) sv = .ret (eds es)):Bi h' (n+3) v = .ret (stN N es):=by
 obtain ⟨rfl,h1,h2,-,-⟩:=hp
 rw [Ahb] at h2
 exact Dz h1 (A5j _ hs (Ii h2 (by simp)))
theorem Ajq (N:Nat) (es:List Ed):(Fe N es).Nodup:=by
 unfold Fe
 split
 ·exact List.nodup_nil
 ·split
  ·exact List.Nodup.sublist List.filter_sublist List.nodup_range
  ·split
   ·simp
   ·exact List.nodup_nil
theorem Amd (s:Nat->Int):∀v,atU s v<v\/atU s v=0
 | 0 => .inr rfl
 | v+1=>by
  simp only [atU]
  split
  ·exact .inl (by omega)
  ·rcases Amd s v with h | h
   ·exact .inl (by omega)
   ·exact .inr h
theorem Azv {N:Nat} {es:List Ed} (hn8:∀q∈es,q.1<8/\q.2<8) (hN:N<=8) {x:Nat} (hx:x∈Fe N es):x<8:=by
 unfold Fe at hx
 split at hx
 ·cases hx
 ·split at hx
  ·have:=List.mem_range.1 (List.mem_filter.1 hx).1; omega
  ·split at hx
   ·obtain rfl:=List.mem_singleton.1 hx
    rcases Amd (sur es) 8 with h | h <;> omega
   ·cases hx
set_option maxHeartbeats 1000000 in
theorem Acd (N:Nat) (es:List Ed) (s:Nat->Int) (p:AV) (a:Int) (wo:List Int) (hl:es.length<=20) (hwo:wo.length<=1000) (hN:N<=8) (hn8:∀q∈es,q.1<8/\q.2<8):Con T 14 107 [stA N es s p,.int .i64 a,Ej wo] (.bool (decide (rsL es wo es.length=[])||(nI4 (Fe N (rsL es wo es.length))).contains a)):=by
 refine Bu t107 fun n hn V hV => ?_
 simp (disch:=first | assumption | omega) only [c107,go_sem,↓reduceIte,stA,Aui,Ajc]
 refine A8u (fun st=>At st.env [(1,.int .i64 a),(3,.optr 3 0 0),(7,.optr 7 0 0),(17,.clo 172 [] (ldC N es s p (-1) wo))]/\st.heap.length=43/\Bb st.heap 3 = .cells 0 [stA N es s p]/\Bb st.heap 7 = .cells 0 [.int .i64 N,.slice (some 2) [] true])
  ⟨by simp only [go_sem,↓reduceIte,stA],by simp [Be],by simp only [go_sem,↓reduceIte,stA],by simp only [go_sem,↓reduceIte]⟩ ?_
 rintro e h ⟨hE,hlen,g3,g7⟩
 simp only [Bp,Bx] at hE hlen g3 g7
 obtain ⟨f1,f3,f7,f17,-⟩:=hE
 refine Rq (g:=172) (first:=[]) (captured:=ldC N es s p (-1) wo) (by simp only [go_sem,↓reduceIte,f17]) hlen fun lf l1 l2 l3 l4 l5 => ?_
 refine A1h N es s p (-1) wo hl hwo 43 0 44 (fun i h'=>Bb h' 43 = .loop 0 .ready none lf/\83<=h'.length/\Bb h' 3 = .cells 0 [stA N es s p]/\∃x,Bb h' 7 = .cells 0 [.int .i64 N,x]/\OwnG 83 h' x (some 2) (rsL es wo i).length (Fq (rsL es wo i))) (fun i h' o hJ => ?_) (by omega) (fun i h' hi hb hJ => ?_) (fun i h' hi hb hJ => ?_) _ (by rw [Be,hlen]; rfl) ?_ _ (fun v h' hJ => ?_)
 ·obtain ⟨a1,a2,b3,x,a3,a4⟩:=hJ
  exact ⟨by rw [Ba _ _ _ _ (by omega),a1],by rw [Be]; omega,by rw [Ba _ _ _ _ (by omega),b3],x,by rw [Ba _ _ _ _ (by omega),a3],a4.setH (by omega)⟩
 ·obtain ⟨a1,a2,b3,x,a3,a4⟩:=hJ
  exact ⟨a1,a2,b3,x,a3,by rw [Adw,hb]; simpa using a4⟩
 ·obtain ⟨a1,a2,b3,x,a3,a4⟩:=hJ
  obtain ⟨q,rfl⟩:∃q,n=q+2:=⟨n-2,by omega⟩
  have hll:=Aid es wo i
  have hg:=Jw hi
  have hge:es.getD i (0,0)=es[i]:=by simp [List.getD,hi]
  have hls:rsL es wo (i+1)=rsL es wo i++[es[i]]:=by rw [Adw,hb,hge]; rfl
  generalize hqd:es[i]=q0 at *
  obtain ⟨qa,qb⟩:=q0
  simp only [edA] at hg
  refine A0q a1 (by rw [l3]; rfl) ?_
  rw [l4]
  simp (disch:=first | assumption | omega) only [go_sem,↓reduceIte,l1,l2,l3,Mq]
  refine ⟨none,lf,a1,?_⟩
  rw [l5]
  simp (disch:=first | assumption | omega) only [go_sem,↓reduceIte,f1,f3,f7,f17,a1,a3,b3,stA,Gl,hi,hg]
  refine Mh (lo:=83) (m:=1) (c2:=[.int .i64 qa,.int .i64 qb]) (by rw [Be]; omega) (a4.setH (by omega)) (by simp [Bf]) (by rw [Be]; omega) rfl rfl (by omega) (by omega) fun x' h2 hO' hF hL _ _ => ?_
  rw [Be] at hL
  have g7':Bb h2 7 = .cells 0 [.int .i64 N,x]:=by rw [hF 7 (by omega),Ba _ _ _ _ (by omega),a3]
  have g3':Bb h2 3 = .cells 0 [stA N es s p]:=by rw [hF 3 (by omega),Ba _ _ _ _ (by omega),b3]
  have g43:Bb h2 43 = .loop 0 .busy none lf:=by rw [hF 43 (by omega),getH_setH_self]
  have hO2:OwnG 83 h2 x' (some 2) (rsL es wo (i+1)).length (Fq (rsL es wo (i+1))):=by
   rw [hls,edCs_app,List.length_append]; exact hO'
  have hcx:=(No hO2).cells
  have hox:=(No hO2).one
  simp (disch:=first | assumption | omega) only [go_sem,↓reduceIte,f1,f3,f7,f17,g7',g43,hcx,hox]
  refine ⟨.busy,none,lf,rfl,rfl,by omega,g3',x',rfl,?_⟩
  exact (hO2.setH (by omega)).setH (by omega)
 ·exact ⟨by rw [Bg,getH_setH_self],by rw [List.length_append,Be,List.length_replicate]; omega,by rw [Bg,Ba _ _ _ _ (by omega),g3],_,by rw [Bg,Ba _ _ _ _ (by omega),g7],.inl ⟨rfl,rfl,rfl⟩⟩
 ·obtain ⟨a1,a2,b3,x,a3,a4⟩:=hJ
  refine ⟨.ready,none,lf,a1,by simp,?_⟩
  have hll:=Aid es wo es.length
  have hrn8:∀q∈rsL es wo es.length,q.1<8/\q.2<8:=fun q hq=>by
   obtain ⟨j,hj,rfl⟩:=List.mem_map.1 hq
   have hj2:=List.mem_range.1 (List.mem_filter.1 hj).1
   have:es.getD j (0,0)=es[j]:=by simp [List.getD,hj2]
   rw [this]
   exact hn8 _ (List.getElem_mem hj2)
  generalize rsL es wo es.length=rs at *
  have hlx:=(No a4).len
  have hcx:=(No a4).cells
  by_cases hr:rs=[]
  ·have hb:((rs.length:Int)==0)=true:=by rw [hr]; rfl
   have hdr:decide (rs=[])=true:=by simpa using hr
   simp (disch:=first | assumption | omega) only [go_sem,↓reduceIte,f1,f3,f7,f17,a3,hlx,hb]
   exact hV _ _ (by rw [Dk,hdr,Bool.true_or])
  ·have hb:((rs.length:Int)==0)=false:=by simpa using hr
   have hdr:decide (rs=[])=false:=by simpa using hr
   simp (disch:=first | assumption | omega) only [go_sem,↓reduceIte,f1,f3,f7,f17,a3,hlx,hb,Bool.false_eq_true]
   have a5:OwnG 83 (setH h' 43 (.loop 0 .exhausted none lf)) x (some 2) rs.length (Fq rs):=a4.setH (by omega)
   refine Ex (A0m N rs (by omega) hrn8 x _ (No a5) (Qc a5) n (by omega) fun v h2 hp => ?_)
   simp (disch:=first | assumption | omega) only [go_sem,↓reduceIte,f1]
   have a6:OwnG 83 h2 x (some 2) rs.length (Fq rs):=a5.other fun j hj=>hp.2.2.2.1 j (Qc a5 j hj)
   refine Ui (A1g N rs (zS rs) hr hN (by omega) hrn8) (by omega) (Bv (Aak hp (A9u a6)) (Bz _)) ?_
   have hsl:(nI4 (Fe N rs)).length<=1000:=by
    rw [Gq]
    have:=List.Nodup.length_le_of_subset (l₂:=List.range 8) (Ajq N rs) fun x hx=>List.mem_range.2 (Azv hrn8 hN hx)
    simp at this; omega
   simp (disch:=first | assumption | omega) only [go_sem,↓reduceIte,f1,Mi]
   exact hV _ _ (by rw [Dk,hdr,Bool.false_or])
noncomputable def plB (N:Nat) (es:List Ed) (a:Int) (wo:List Int):Bool:=decide (rsL es wo es.length=[])||(nI4 (Fe N (rsL es wo es.length))).contains a
theorem Aoe {l:List Int} {ex:Bool} {e:Env} {hi mx:IX} {k1 k2:IntKind} (h1:hi.ev e = .int k1 l.length) (h2:mx.ev e = .int k2 l.length):slA none e none (some hi) (some mx) (.slice none (l.map (.int .i64)) ex) = .ret (.slice none (l.map (.int .i64)) true):=by
 have:(l.map (AV.int IntKind.i64)).take l.length=l.map (.int .i64):=List.take_of_length_le (by simp)
 simp [slA,sliceB,h1,h2,Gn,Res.bind,this]
theorem Aiq {call:Bo} {base:Nat} {Q:EX×St->Prop} {d:Option Nat} {L:List IOper} {ks:List Kont} {e:Env} {h:Bc} {b kk:Nat} {k:IntKind} {l:List Int} {a:Int} {ex:Bool} (hr:(l.length+1)*b<=1099511627776):GP call base Q d L ks e (Dg kk none b (.slice none (l.map (.int k)) true) (.slice none [.int k a] ex) h)=GO call base Q L ks ⟨Bj e d (.oslice kk (Bb h kk).next none 0 (l++[a]).length none),setH h kk (.cells (Bb h kk).next ((l++[a]).map (.int k)))⟩:=by
 have hroom:=If hr
 have:Dg kk none b (.slice none (l.map (.int k)) true) (.slice none [.int k a] ex) h = .ret (.oslice kk (Bb h kk).next none 0 (l++[a]).length none,setH h kk (.cells (Bb h kk).next ((l++[a]).map (.int k)))):=by
  simp [Dg,De,Eh,hroom]
 rw [this,Gu]
set_option maxHeartbeats 1000000 in
theorem Aix (N:Nat) (es:List Ed) (s:Nat->Int) (p:AV) (i:Nat) (out:List Int) (hi:i<es.length) (hl:es.length<=20) (ho:out.length<=20) (hN:N<=8) (hn8:∀q∈es,q.1<8/\q.2<8):Con T 15 106 ([]++[.int .i64 (i:Nat)]++[.ptr [stA N es s p] 0,.ptr [Ej out] 0]) (.bool (plB N es (es.getD i (0,0)).2 (out++[(i:Int)]))):=by
 refine Bu t106 fun n hn V hV => ?_
 have hg:=Jw hi
 have hge:es.getD i (0,0)=es[i]:=by simp [List.getD,hi]
 rw [hge] at hV
 have hc:=Acd N es s p (es[i].2:Nat) (out++[(i:Int)]) hl (by simp; omega) hN hn8
 generalize hqd:es[i]=q0 at *
 obtain ⟨qa,qb⟩:=q0
 simp only [edA] at hg
 simp (disch:=first | assumption | omega) only [c106,go_sem,↓reduceIte,List.cons_append,List.nil_append,stA,Gl,hi,hg,List.length_map]
 rw [Aoe (k1:=.i64) (k2:=.i64) (by simp only [go_sem,↓reduceIte]) (by simp only [go_sem,↓reduceIte])]
 simp (disch:=first | assumption | omega) only [go_sem,↓reduceIte,Hz,Auw,Aiq,List.length_replicate,decide_true,Bool.and_true]
 refine Do hc hn (Bv (Ih _ _ _ _ _ _) (Fa _ _ _ (Bv (Ii (l:=out++[(i:Int)]) (by simp only [go_sem,↓reduceIte]) (by simp)) (Bz _)))) (Fn _ _) ?_
 simp (disch:=first | assumption | omega) only [go_sem,↓reduceIte]
 exact hV _ _ (Dk _ _ _)
noncomputable def gdP (N:Nat) (es:List Ed) (a:Int) (out:List Nat) (i:Nat):Bool:=ldB es a (nI4 out) i&&plB N es (es.getD i (0,0)).2 (nI4 out++[(i:Int)])
noncomputable def frT (N:Nat) (es:List Ed):Nat->Int->List Nat->List Nat
 | 0,_,out=>out
 | k+1,a,out=>frT N es k (es.getD (((List.range es.length).find? (gdP N es a out)).getD 0) (0,0)).2 (out++[((List.range es.length).find? (gdP N es a out)).getD 0])
theorem Aqr {k f:Nat} {first cap:List AV} {p:Int->Bool} (xs:List Int) (hl:xs.length<=1000) (hc:∀x∈xs,Con T k f (first++[.int .i64 x]++cap) (.bool (p x))) (hz:∀h x,fz h (first++[.int .i64 x]++cap) = .ret (first++[.int .i64 x]++cap)) :
  Con T (k+1) 103 [Ej xs,.clo f first cap] (.tuple [.int .i64 ((xs.find? p).getD 0),.bool (xs.find? p).isSome]):=by
 refine Bu t103 fun n hn V hV => ?_
 simp (disch:=first | assumption | omega) only [c103,go_sem,↓reduceIte,List.length_map]
 refine Da (fun M s=>∃k:Nat,M=xs.length-k/\k<=xs.length/\At s.env [(1,.clo f first cap),(9,Ej xs),(10,.int .i64 xs.length),(11,.int .i64 k)]/\xs.find? p=(xs.drop k).find? p) xs.length (by omega) ⟨0,by simp,by omega,by simp only [go_sem,↓reduceIte],rfl⟩ ?_
 rintro M e h hM ⟨k,rfl,hk,hE,hA⟩ P hP
 simp only [Bp,Bx] at hE
 obtain ⟨h1,h9,h10,h11,-⟩:=hE
 by_cases hlt:k<xs.length
 ·obtain ⟨y,hy⟩:=Fm hlt
  rw [Fy hy,List.find?_cons] at hA
  simp (disch:=first | assumption | omega) only [go_sem,↓reduceIte,h1,h9,h10,h11,hlt,hy]
  refine Do (hc y (List.mem_of_getElem? hy)) hn (hz _ _) (Fn _ _) ?_
  by_cases hp:p y=true
  ·rw [hp] at hA
   simp (disch:=first | assumption | omega) only [go_sem,↓reduceIte,h1,h9,h10,h11,hp]
   exact hV _ _ (by rw [hA]; exact Ff (Bl _ _ _ _) (Dk _ _ _))
  ·have hp':p y=false:=by simpa using hp
   rw [hp'] at hA
   simp (disch:=first | assumption | omega) only [go_sem,↓reduceIte,h1,h9,h10,h11,hp',Bool.false_eq_true]
   exact hP (xs.length-(k+1)) _ (by omega) ⟨k+1,rfl,by omega,by simp only [go_sem,↓reduceIte,h1,h9,h10],hA⟩
 ·simp (disch:=first | assumption | omega) only [go_sem,↓reduceIte,h1,h9,h10,h11,hlt]
  exact hV _ _ (by rw [hA,List.drop_eq_nil_of_le (by omega)]; exact Ff (Bl _ _ _ _) (Dk _ _ _))
theorem Ays (N:Nat) (es:List Ed) (a:Int) (out:List Nat):((nI4 (ldL es a (nI4 out) es.length)).find? fun x=>plB N es (es.getD x.toNat (0,0)).2 (nI4 out++[x])).getD 0=((((List.range es.length).find? (gdP N es a out)).getD 0:Nat):Int):=by
 have e:nI4 (ldL es a (nI4 out) es.length)=((List.range es.length).filter (ldB es a (nI4 out))).map fun n:Nat=>(n:Int):=rfl
 rw [e,List.find?_map,List.find?_filter]
 have:(fun i=>decide (ldB es a (nI4 out) i=true/\((fun x:Int=>plB N es (es.getD x.toNat (0,0)).2 (nI4 out++[x])) ∘ fun n:Nat=>(n:Int)) i=true))=gdP N es a out:=by
  funext i
  simp [gdP]
 rw [this]
 cases (List.range es.length).find? (gdP N es a out) <;> rfl
set_option maxHeartbeats 2000000 in
theorem Aio (N:Nat) (es:List Ed) (s:Nat->Int) (p:AV) (hl:es.length<=20) (hN:N<=8) (hn8:∀q∈es,q.1<8/\q.2<8) (n:Nat) (hn:17<=n) (h0:Bc) {V:AV×Bc->Prop} (hV:∀v h',Own (h0.length+40) h' v .i64 (nI4 (frT N es es.length (-1) []))->(∀j,j<h0.length->Bb h' j=Bb h0 j)->V (v,h')) :
  G (Bd T n) h0.length (Fin c45.results V) c45.body [] ⟨[stA N es s p],h0++List.replicate 40 .none⟩:=by
 have hb1:Bb (h0++List.replicate 40 AObj.none) (h0.length+1) = .none:=by rw [Bg]; exact Ef _ _ (by omega)
 have hb3:Bb (h0++List.replicate 40 AObj.none) (h0.length+3) = .none:=by rw [Bg]; exact Ef _ _ (by omega)
 simp (disch:=first | assumption | omega) only [c45,go_sem,↓reduceIte,stA,Gl,List.length_map,hb1,hb3]
 refine Da (fun M st=>∃(k:Nat) (out:List Nat) (a:Int) (x:AV),M=es.length-k/\k<=es.length/\At st.env [(1,.optr (h0.length+1) 0 0),(3,.optr (h0.length+3) 0 0),(4,.int .i64 a),(12,.int .i64 es.length),(13,.int .i64 k)]/\Bb st.heap (h0.length+1) = .cells 0 [stA N es s p]/\Bb st.heap (h0.length+3) = .cells 0 [x]/\Own (h0.length+40) st.heap x .i64 (nI4 out)/\h0.length+40<=st.heap.length/\(∀j,j<h0.length->Bb st.heap j=Bb h0 j)/\out.length=k/\frT N es es.length (-1) []=frT N es (es.length-k) a out) es.length (by omega)
  ⟨0,[],-1,_,by omega,by omega,by simp only [go_sem,↓reduceIte],by simp only [go_sem,↓reduceIte,stA],by simp only [go_sem,↓reduceIte],Hj ..,by simp only [Be,List.length_append,List.length_replicate]; omega,fun j hj=>by rw [Ba _ _ _ _ (by omega),Ba _ _ _ _ (by omega),Bg],rfl,rfl⟩ ?_
 rintro M e h hM ⟨k,out,a,x,rfl,hk,hE,g1,g3,hO,hl40,hF0,hol,hA⟩ P hP
 simp only [Bp,Bx] at hE g1 g3 hO hl40 hF0
 obtain ⟨f1,f3,f4,f12,f13,-⟩:=hE
 by_cases hlt:k<es.length
 ·simp (disch:=first | assumption | omega) only [go_sem,↓reduceIte,f1,f3,f4,f12,f13,hlt,g1,g3]
  obtain ⟨n,rfl⟩:∃n',n=n'+1:=⟨n-1,by omega⟩
  refine Ex ?_
  rw [Dt t105]
  have hn3:Bb (h++List.replicate 8 AObj.none) (h.length+3) = .none:=Lh h 8 3
  have hn4:Bb (h++List.replicate 8 AObj.none) (h.length+4) = .none:=Lh h 8 4
  have hn5:Bb (h++List.replicate 8 AObj.none) (h.length+5) = .none:=Lh h 8 5
  simp (disch:=first | assumption | omega) only [c105,go_sem,↓reduceIte,hn3,hn4,hn5,next_none]
  have hxc:=hO.cells
  rw [hxc]
  have hm:=Ays N es a out
  have hjm:((List.range es.length).find? (gdP N es a out)).getD 0<es.length:=by
   cases hf:(List.range es.length).find? (gdP N es a out) with
   | none=>simp only [Option.getD_none]; omega
   | some j=>exact List.mem_range.1 (List.mem_of_find?_eq_some hf)
  have hfr:frT N es (es.length-k) a out=frT N es (es.length-(k+1)) (es.getD (((List.range es.length).find? (gdP N es a out)).getD 0) (0,0)).2 (out++[((List.range es.length).find? (gdP N es a out)).getD 0]):=by
   rw [show es.length-k=es.length-(k+1)+1 by omega]; rfl
  generalize ((List.range es.length).find? (gdP N es a out)).getD 0=j at *
  have k3:Bb (setH (setH (setH (h++List.replicate 8 AObj.none) (h.length+3) (AObj.cells 0 [AV.ptr (stC (↑N) (eds es) s p) 0])) (h.length+4) (AObj.cells 0 [AV.int IntKind.i64 a])) (h.length+5) (AObj.cells 0 [x])) (h.length+3) = .cells 0 [stA N es s p]:=by
   rw [Ba _ _ _ _ (by omega),Ba _ _ _ _ (by omega),getH_setH_self]
  have k4:Bb (setH (setH (setH (h++List.replicate 8 AObj.none) (h.length+3) (AObj.cells 0 [AV.ptr (stC (↑N) (eds es) s p) 0])) (h.length+4) (AObj.cells 0 [AV.int IntKind.i64 a])) (h.length+5) (AObj.cells 0 [x])) (h.length+4) = .cells 0 [.int .i64 a]:=by
   rw [Ba _ _ _ _ (by omega),getH_setH_self]
  have k5:Bb (setH (setH (setH (h++List.replicate 8 AObj.none) (h.length+3) (AObj.cells 0 [AV.ptr (stC (↑N) (eds es) s p) 0])) (h.length+4) (AObj.cells 0 [AV.int IntKind.i64 a])) (h.length+5) (AObj.cells 0 [x])) (h.length+5) = .cells 0 [x]:=getH_setH_self _ _ _
  have kF:∀i,i<h.length->Bb (setH (setH (setH (h++List.replicate 8 AObj.none) (h.length+3) (AObj.cells 0 [AV.ptr (stC (↑N) (eds es) s p) 0])) (h.length+4) (AObj.cells 0 [AV.int IntKind.i64 a])) (h.length+5) (AObj.cells 0 [x])) i=Bb h i:=fun i hi=>by
   rw [Ba _ _ _ _ (by omega),Ba _ _ _ _ (by omega),Ba _ _ _ _ (by omega),Bg]
  have kL:h.length<=(setH (setH (setH (h++List.replicate 8 AObj.none) (h.length+3) (AObj.cells 0 [AV.ptr (stC (↑N) (eds es) s p) 0])) (h.length+4) (AObj.cells 0 [AV.int IntKind.i64 a])) (h.length+5) (AObj.cells 0 [x])).length:=by
   simp only [Be,List.length_append,List.length_replicate]; omega
  generalize setH (setH (setH (h++List.replicate 8 AObj.none) (h.length+3) (AObj.cells 0 [AV.ptr (stC (↑N) (eds es) s p) 0])) (h.length+4) (AObj.cells 0 [AV.int IntKind.i64 a])) (h.length+5) (AObj.cells 0 [x])=hh at *
  have hO2:Own (h0.length+40) hh x .i64 (nI4 out):=hO.other fun i hi=>kF i (hO.keyLt i hi)
  have g1':Bb hh (h0.length+1) = .cells 0 [stA N es s p]:=by rw [kF _ (by omega),g1]
  have g3':Bb hh (h0.length+3) = .cells 0 [x]:=by rw [kF _ (by omega),g3]
  have hF0':∀j,j<h0.length->Bb hh j=Bb h0 j:=fun j hj=>by rw [kF j (by omega)]; exact hF0 j hj
  have hol2:(nI4 out).length<=1000:=by rw [Gq]; omega
  refine ⟨by simp [hO.oneB],?_⟩
  refine Ui (n:=n+1) (Aee N es s p a (nI4 out) hl hol2) (by omega) (Bv (Gj (Db _ _) (Bn (Dz k3 (Bn (Ih _ _ _ _ _ _) (Db _ _))) (Bn (Dz k4 (Bn (Bl _ _ _ _) (Db _ _))) (Bn (Dz k5 (Bn (Jd hO2) (Db _ _))) (Db _ _))))) (Bz _)) ?_
  simp (disch:=first | assumption | omega) only [go_sem,↓reduceIte,f1,f3,f4,f12,f13,stA,Gl]
  have hll:=A6g es a (nI4 out) es.length
  refine Do (Aqr (k:=15) (f:=106) (first:=[]) (cap:=[.ptr [stA N es s p] 0,.ptr [Ej (nI4 out)] 0]) (p:=fun x=>plB N es (es.getD x.toNat (0,0)).2 (nI4 out++[x])) (nI4 (ldL es a (nI4 out) es.length)) (by rw [Gq]; omega) (fun y hy => ?_) (fun h y=>Fa _ _ _ (Bv (Eg _ _ _ _) (Bv (Eg _ _ _ _) (Bz _))))) (by omega) (Dm _ _ _ _ (Bv (Gj (Db _ _) (Bn (Dz g1' (Bn (Ih _ _ _ _ _ _) (Db _ _))) (Bn (Dz g3' (Bn (Jd hO2) (Db _ _))) (Db _ _)))) (Bz _))) (Ur rfl) ?_
  ·obtain ⟨i,hi,rfl⟩:=List.mem_map.1 hy
   have hi2:=List.mem_range.1 (List.mem_filter.1 hi).1
   exact Aix N es s p i (nI4 out) hi2 hl (by rw [Gq]; omega) hN hn8
  rw [hm]
  have hg:=Jw hjm
  have hgj:es.getD j (0,0)=es[j]:=by simp [List.getD,hjm]
  rw [hgj] at hfr
  simp (disch:=first | assumption | omega) only [go_sem,↓reduceIte,f1,f3,f4,f12,f13,stA,Gl,g3']
  refine Is (lo:=h0.length+40) rfl hO2 (by omega) (by rw [Gq]; omega) fun x' h2 hO' hF hL _ _ => ?_
  have g1'':Bb h2 (h0.length+1) = .cells 0 [stA N es s p]:=by rw [hF _ (by omega),g1']
  have g3'':Bb h2 (h0.length+3) = .cells 0 [x]:=by rw [hF _ (by omega),g3']
  have hcx:=hO'.cells
  have hox:=hO'.oneB
  generalize hqd:es[j]=q0 at *
  obtain ⟨qa,qb⟩:=q0
  simp only [edA] at hg
  simp (disch:=first | assumption | omega) only [go_sem,↓reduceIte,f1,f3,f4,f12,f13,stA,Gl,g3'',g1'',hcx,hox,hjm,hg]
  exact hP (es.length-(k+1)) _ (by omega) ⟨k+1,out++[j],qb,x',rfl,by omega,by simp only [go_sem,↓reduceIte,f1,f3,f12],by rw [Ba _ _ _ _ (by omega),g1''],by rw [getH_setH_self],by simpa [nI4] using hO'.setH (by omega),by rw [Be]; omega,fun j hj=>by simp only; rw [Ba _ _ _ _ (by omega),hF j (by omega)]; exact hF0' j hj,by simp [hol],by rw [hA,hfr]⟩
 ·obtain rfl:k=es.length:=by omega
  simp (disch:=first | assumption | omega) only [go_sem,↓reduceIte,f1,f3,f4,f12,f13,hlt,g3]
  refine hV _ _ ?_ hF0
  rw [hA,Nat.sub_self]
  exact hO
theorem Aok (N:Nat) (es:List Ed) (s:Nat->Int) (p:AV) (hl:es.length<=20) (hN:N<=8) (hn8:∀q∈es,q.1<8/\q.2<8) (n:Nat) (hn:18<=n) (h0:Bc) {V:AV×Bc->Prop} (hV:∀v h',Own (h0.length+40) h' v .i64 (nI4 (frT N es es.length (-1) []))->(∀j,j<h0.length->Bb h' j=Bb h0 j)->V (v,h')):(Bd T n true (.fn 45) [stA N es s p] h0).all V:=by
 obtain ⟨n,rfl⟩:∃n',n=n'+1:=⟨n-1,by omega⟩
 rw [Dt t45]
 exact Aio N es s p hl hN hn8 n (by omega) h0 hV
end Go.Ev.YtgehhippjhealaaGreatC.P4
namespace Go.Ev.YtgehhippjhealaaGreatC.P4
open Go.Ev
open Go Go.Ev
theorem Azh (es:List Ed) (wo:List Int):rsL es wo es.length=rst es (ldB es (-1) wo):=rfl
theorem Aza (es:List Ed) (wo:List Int) (i:Nat):ldB es (-1) wo i = !wo.contains (i:Int):=rfl
theorem B0y {N:Nat} {es:List Ed} (hn:∀q∈es,q.1<N/\q.2<N) (K:Nat->Bool):∀q∈rst es K,q.1<N/\q.2<N:=fun q hq=>by
 obtain ⟨j,hj,rfl⟩:=List.mem_map.1 hq
 have hj2:=List.mem_range.1 (List.mem_filter.1 hj).1
 rw [Zd hj2]
 exact hn _ (List.getElem_mem hj2)
theorem B0f {N:Nat} {es:List Ed} (hk:OkB N es) {a:Nat} (ha:a<8) (wo:List Int):plB N es a wo=decide (0<tw (rst es (ldB es (-1) wo)).length (rst es (ldB es (-1) wo)) a):=by
 unfold plB
 rw [Azh]
 have hlt:=B0y hk.lt (ldB es (-1) wo)
 generalize rst es (ldB es (-1) wo)=rs at *
 by_cases hr:rs=[]
 ·subst hr
  simp [tw]
 ·rw [show decide (rs=[])=false by simpa using hr,Bool.false_or]
  have h1:(nI4 (Fe N rs)).contains (a:Int)=decide (a∈Fe N rs):=Np
  rw [h1,Bool.eq_iff_iff,decide_eq_true_eq,decide_eq_true_eq,A1w hr hk.n8 hlt]
  exact ⟨fun h=>h.2,fun h=>⟨ha,h⟩⟩
def A3y (m s:Nat) (out:List Nat):Prop:=∀i,i<m->Ec s i = !(nI4 out).contains (i:Int)
theorem A1c {m s:Nat} {out:List Nat} (h:A3y m s out) (i:Nat):A3y m (s ||| 2 ^ i) (out++[i]):=fun j hj=>by
 rw [A0o,h j hj,Bool.eq_iff_iff]
 simp [nI4]
 omega
theorem Awy {N:Nat} {es:List Ed} (hk:OkB N es) {s:Nat} {out:List Nat} (h:A3y es.length s out) (a:Int) {i:Nat} (hi:i<es.length):gdP N es a out i=gdR es s a i:=by
 have hq:=hk.lt8 _ (List.getElem_mem hi)
 have e1:nI4 out++[(i:Int)]=nI4 (out++[i]):=by simp [nI4]
 unfold gdP gdR
 have e2:es.getD i (0,0)=gE es i:=rfl
 rw [e2,e1,B0f hk (by rw [Zd hi]; exact hq.2)]
 have e3:rst es (ldB es (-1) (nI4 (out++[i])))=rst es (Ec (s ||| 2 ^ i)):=A7a fun j hj=>by
  rw [A1c h i j hj]; exact Aza es _ j
 rw [e3]
 have e4:tw (rst es (Ec (s ||| 2 ^ i))).length (rst es (Ec (s ||| 2 ^ i))) (gE es i).2=wB es (s ||| 2 ^ i) (gE es i).2:=rfl
 rw [e4]
 have h0:=(A3f es (s ||| 2 ^ i) (gE es i).2).1
 have e5:decide (0<wB es (s ||| 2 ^ i) (gE es i).2)=decide (wB es (s ||| 2 ^ i) (gE es i).2≠0):=by
  rw [Bool.eq_iff_iff,decide_eq_true_eq,decide_eq_true_eq]; omega
 rw [e5]
 unfold ldB
 rw [h i hi,e2]
 cases (nI4 out).contains (i:Int) <;> cases decide (a<0) <;> simp
theorem Akl {p q:Nat->Bool} {m:Nat} (h:∀i,i<m->p i=q i):(List.range m).find? p=(List.range m).find? q:=by
 cases hq:(List.range m).find? q with
 | none =>
  rw [List.find?_range_eq_none] at hq ⊢
  exact fun i hi=>by rw [h i hi]; exact hq i hi
 | some i =>
  rw [List.find?_range_eq_some] at hq ⊢
  have hi:=List.mem_range.1 hq.2.1
  exact ⟨by rw [h i hi]; exact hq.1,hq.2.1,fun j hj=>by rw [h j (by omega)]; exact hq.2.2 j hj⟩
def Bwz (es:List Ed) (s:Nat) (a:Int):Prop:=∃x:Nat,(a<0\/a=(x:Int))/\0<wB es s x
theorem Ayl {es:List Ed} {s a:Nat} (hne:rst es (Ec s)≠[]) (h:0<wB es s a):∃i,i<es.length/\Ec s i=true/\(gE es i).1=a/\wB es (s ||| 2 ^ i) (gE es i).2≠0:=by
 rw [A6l a hne] at h
 obtain ⟨i,hi,hw⟩:=Yi (f:=fun i=>if (gE es i).1=a then wB es (s ||| 2 ^ i) (gE es i).2 else 0) (V:=(List.range es.length).filter (Ec s)) (fun e=>by rw [e] at h; omega)
 obtain ⟨h1,h2⟩:=List.mem_filter.1 hi
 by_cases hg:(gE es i).1=a
 ·rw [if_pos hg] at hw
  exact ⟨i,List.mem_range.1 h1,h2,hg,hw⟩
 ·exact absurd (if_neg hg) hw
theorem Bob {es:List Ed} {s i:Nat} (hi:i<es.length) (hb:Ec s i=true):wB es (s ||| 2 ^ i) (gE es i).2<=wB es s (gE es i).1:=by
 have hm:i∈(List.range es.length).filter (Ec s):=List.mem_filter.2 ⟨List.mem_range.2 hi,hb⟩
 have hne:rst es (Ec s)≠[]:=fun h0=>by
  have:=List.map_eq_nil_iff.1 h0
  rw [this] at hm; cases hm
 rw [A6l _ hne]
 have:=(Je (f:=fun j=>if (gE es j).1=(gE es i).1 then wB es (s ||| 2 ^ j) (gE es j).2 else 0) (V:=(List.range es.length).filter (Ec s)) fun j _=>by
  have:=(A3f es (s ||| 2 ^ j) (gE es j).2).1
  split <;> omega).2 i hm
 simpa using this
theorem Ast {es:List Ed} {s i:Nat} (hi:i<es.length) (hb:Ec s i=true):(rst es (Ec (s ||| 2 ^ i))).length+1=(rst es (Ec s)).length:=by
 have hnd:((List.range es.length).filter (Ec s)).Nodup:=List.Nodup.sublist List.filter_sublist List.nodup_range
 have hm:i∈(List.range es.length).filter (Ec s):=List.mem_filter.2 ⟨List.mem_range.2 hi,hb⟩
 have h1:(List.range es.length).filter (Ec (s ||| 2 ^ i))=((List.range es.length).filter (Ec s)).erase i:=by
  rw [List.Nodup.erase_eq_filter hnd,List.filter_filter]
  apply List.filter_congr
  intro j _
  rw [A0o,Bool.eq_iff_iff]
  simp [Bool.and_comm]
 unfold rst
 rw [List.length_map,List.length_map,h1,List.length_erase_of_mem hm]
 have:=List.length_pos_of_mem hm
 omega
theorem Ahc {N:Nat} {es:List Ed} (hk:OkB N es):∀(k s:Nat) (a:Int) (out:List Nat),A3y es.length s out->(rst es (Ec s)).length=k->Bwz es s a->tuR es k s a out=some (frT N es k a out)
 | 0,_,_,_,_,_,_=>rfl
 | k+1,s,a,out,hs,hl,⟨x,hx,hw⟩=>by
  have hne:rst es (Ec s)≠[]:=fun h0=>by rw [h0] at hl; simp at hl
  obtain ⟨i,hi,hb,hg,hwi⟩:=Ayl hne hw
  have hgi:gdR es s a i=true:=by
   unfold gdR
   rw [hb,hg]
   simp only [Bool.true_and,Bool.and_eq_true,Bool.or_eq_true,decide_eq_true_eq]
   exact ⟨by omega,hwi⟩
  have hf:(List.range es.length).find? (gdP N es a out)=(List.range es.length).find? (gdR es s a):=Akl fun j hj=>Awy hk hs a hj
  cases hfr:(List.range es.length).find? (gdR es s a) with
  | none =>
   rw [List.find?_range_eq_none] at hfr
   have:=hfr i hi
   rw [hgi] at this; simp at this
  | some j =>
   rw [hfr] at hf
   rw [List.find?_range_eq_some] at hfr
   have hj:=List.mem_range.1 hfr.2.1
   have hgj:=hfr.1
   simp only [gdR,Bool.and_eq_true,decide_eq_true_eq] at hgj
   have hfr2:(List.range es.length).find? (gdR es s a)=some j:=by rw [List.find?_range_eq_some]; exact hfr
   show (match (List.range es.length).find? (gdR es s a) with | none=>none | some i=>tuR es k (s ||| 2 ^ i) (gE es i).2 (out++[i]))=some (frT N es k (es.getD (((List.range es.length).find? (gdP N es a out)).getD 0) (0,0)).2 (out++[((List.range es.length).find? (gdP N es a out)).getD 0]))
   rw [hfr2,hf]
   simp only [Option.getD_some]
   refine Ahc hk k _ _ _ (A1c hs j) ?_ ?_
   ·have:=Ast hj hgj.1; omega
   ·have:=(A3f es (s ||| 2 ^ j) (gE es j).2).1
    exact ⟨(gE es j).2,.inr rfl,by have:=hgj.2.2; omega⟩
theorem Azk {N:Nat} {es:List Ed} (hk:OkB N es) (h:Fe N es≠[]):tuR es es.length 0 (-1) []=some (frT N es es.length (-1) []):=by
 have h0:rst es (Ec 0)=es:=Ahe es fun i _=>by simp [Ec]
 refine Ahc hk es.length 0 (-1) [] (fun i _=>by simp [Ec,nI4]) (by rw [h0]) ?_
 obtain ⟨x,hx⟩:=List.exists_mem_of_ne_nil _ h
 obtain ⟨h1,h2⟩:=(A1w hk.ne hk.n8 hk.lt).1 hx
 exact ⟨x,.inl (by omega),by rw [A6d]; exact h2⟩
theorem Ayq {N:Nat} {es:List Ed} (hk:OkB N es) (h:Fe N es=[]):tuR es es.length 0 (-1) []=none:=by
 obtain ⟨m,hm⟩:∃m,es.length=m+1:=⟨es.length-1,by have:=List.length_pos_iff.2 hk.ne; omega⟩
 have hn:∀i,i<es.length->gdR es 0 (-1) i=false:=fun i hi=>by
  have hq:=hk.lt8 _ (List.getElem_mem hi)
  have h1:=Bob (es:=es) (s:=0) hi (by simp [Ec])
  rw [A6d,A5u hk (by rw [Zd hi]; exact hq.1) (by rw [h]; simp)] at h1
  have h2:=(A3f es (0 ||| 2 ^ i) (gE es i).2).1
  have:wB es (0 ||| 2 ^ i) (gE es i).2=0:=by omega
  unfold gdR
  rw [this]; simp
 have hf:=A7g hn
 rw [hm]
 show (match (List.range es.length).find? (gdR es 0 (-1)) with | none=>none | some i=>tuR es m (0 ||| 2 ^ i) (gE es i).2 ([]++[i]))=none
 rw [hf]
end Go.Ev.YtgehhippjhealaaGreatC.P4
namespace Go.Ev.YtgehhippjhealaaGreatC.P4
open Go.Ev
open Go Go.Proofs Go.Ev
attribute [local irreducible] Res.all evC Dd Df Br Bh Dj Bd Bi G GO GV GP GC R
theorem Ami {N:Nat} {es:List Ed} (hk:OkB N es) (n:Nat) (hn:19<=n) (h0:Bc) {V:AV×Bc->Prop} (hV:∀v c h' l,tuA (tuR es es.length 0 (-1) []) = .tuple [Ej (nI4 l),.int .i64 c]->Own h0.length h' v .i64 (nI4 l)->(∀j,j<h0.length->Bb h' j=Bb h0 j)->V (.tuple [v,.int .i64 c],h')) :
  G (Bd T n) h0.length (Fin c12.results V) c12.body [] ⟨[.agg [.int .i64 N,eds es]],h0++List.replicate 22 .none⟩:=by
 have b0:((0:Int) != 0)=false:=rfl
 have h0':=hk.ne
 have h8:=hk.n8
 have hl20:=hk.le20
 have hn8:=hk.lt8
 have hb1:Bb (h0++List.replicate 22 AObj.none) (h0.length+1) = .none:=by rw [Bg]; exact Ef _ _ (by omega)
 by_cases hs:Fe N es=[]
 ·have hb:(((nI4 (Fe N es)).length:Int)==0)=true:=by rw [hs]; rfl
  simp (disch:=first | assumption | omega) only [c12,go_sem,↓reduceIte,Ib,b0,Om,hb,List.length_map,Bool.false_eq_true,hb1]
  rw [Ayq hk hs] at hV
  exact hV _ _ _ [] rfl (Hj ..) fun j hj=>by rw [Ba _ _ _ _ (by omega),Bg]
 ·have hb:(((nI4 (Fe N es)).length:Int)==0)=false:=by simpa [nI4] using hs
  simp (disch:=first | assumption | omega) only [c12,go_sem,↓reduceIte,Ib,b0,Om,hb,List.length_map,Bool.false_eq_true,hb1]
  rw [Azk hk hs] at hV
  refine Ex (Aok N es (sur es) (zS es) hl20 h8 hn8 n (by omega) _ fun v h' hO hF => ?_)
  simp (disch:=first | assumption | omega) only [go_sem,↓reduceIte]
  exact hV _ _ _ _ rfl (Own.low hO (by simp only [Be,List.length_append,List.length_replicate]; omega)) fun j hj=>by
   rw [hF j (by simp only [Be,List.length_append,List.length_replicate]; omega),Ba _ _ _ _ (by omega),Bg]
theorem conF_Tune (N:Nat) (es:List Ed) (hk:OkB N es):ConF T 20 12 [bkA (bkN N es)] (tuA (tuR es es.length 0 (-1) [])):=by
 rw [Nu]
 refine Qd t12 fun n hn V hV=>Ami hk n hn [] fun v c h' l hl ho _ => ?_
 rw [hl] at hV
 exact hV _ _ (Ff (Jd ho) (Bl _ _ _ _)) (Yh (Oa ho) (Zt _ _ _ _))
theorem Awe {es:List Ed} (hb:Bal es) (hn8:∀e∈es,e.1<8/\e.2<8) (h0:es≠[]) (hp:0<=Iy es) (hl:es.length<=15):Iy es<=1307674368000:=by
 obtain ⟨q,hq,hr⟩:=A3b h0
 have hod:od es (Dw es)≠0:=fun h=>Hh.1 h q hq hr
 have hx8:Dw es<8:=hr ▸ (hn8 q hq).1
 have h1:=Vq hb hn8 h0 (Dw es)
 have h2:=(Je (f:=fun r=>trl r es.length es (Dw es)) (V:=List.range 8) fun r _=>Vl r _ _ rfl).2 (Dw es) (List.mem_range.2 hx8)
 rw [<-Ub hn8 hx8] at h2
 have h3:=(Ug es.length (R:=es) (Dw es) rfl).2
 have h4:=Xx hl
 have e:Fs 15=1307674368000:=by decide
 have h5:1*Iy es<=(od es (Dw es):Int)*Iy es:=Int.mul_le_mul_of_nonneg_right (by omega) hp
 omega
theorem Nw (N:Int) (es:List Ed) (s:Nat->Int) (p:AV) (hb:Bal es) (hh:Lf es) (hn8:∀e∈es,e.1<8/\e.2<8) (h0:es≠[]) (hl:es.length<=15):Con T 3 42 [stA N es s p] (.int .i64 (Iy es)):=by
 obtain ⟨q,hq,hr⟩:=A3b h0
 have hod:od es (Dw es)≠0:=fun h=>Hh.1 h q hq hr
 have hcl:(cl es).Nodup:=List.Nodup.sublist List.filter_sublist List.nodup_range
 have hpos:=A2g hb hh hn8 h0
 have hle:=Awe hb hn8 h0 (Int.le_of_lt hpos) hl
 have hX:=B1f hb hh hl hcl (fun x hx=>by
  have:=(List.mem_filter.1 hx).2
  simp only [Bool.and_eq_true,decide_eq_true_eq] at this
  have h1:0<od es x:=this.1
  omega) (r:=Dw es) (fun hm=>by
  have:=(List.mem_filter.1 hm).2
  simp at this) hod
 exact Ado N es (sr8 s++[p]) h0 hl hn8 hX (fun a b ha hb=>Apw es (cl es) a b ha hb) (by change 0<Iy es at hpos; show _<=Iy es; omega) (by show Iy es<=_; omega)
section
variable {n base:Nat} {Q:EX×St->Prop} {d:Option Nat} {L:List IOper} {ks:List Kont} {e:Env} {h:Bc}
theorem Ajd {N:Int} {es:List Ed} {s:Nat->Int} {p:AV} (hn:3<=n) (hb:Bal es) (hh:Lf es) (hn8:∀e∈es,e.1<8/\e.2<8) (h0:es≠[]) (hl:es.length<=15):GP (Bd T n) base Q d L ks e (Bd T n false (.fn 42) [stA N es s p] h)=GO (Bd T n) base Q L ks ⟨Bj e d (.int .i64 (Iy es)),h⟩:=
 Ey (Nw N es s p hb hh hn8 h0 hl) hn (Bv (Ih _ _ _ _ _ _) (Bz _)) (Ga _ _ _)
end
theorem Uy (s t:Nat->Int):∀L:List Nat,Dy (L.map fun v => .int .i64 (s v)) (L.map fun v => .int .i64 (t v))=some (L.all fun v=>decide (s v=t v))
 | []=>rfl
 | v::L=>by
  simp only [List.map_cons,Dy,if_true,Uy s t L,List.all_cons]
  by_cases h:s v=t v
  ·rw [if_pos h,show decide (s v=t v)=true by simpa using h,Bool.true_and]
  ·rw [if_neg h,show decide (s v=t v)=false by simpa using h,Bool.false_and]
def zB (s:Nat->Int):Bool:=(List.range 8).all fun x=>decide (s x=0)
theorem A2z {s:Nat->Int}:Dy (sr8 s) [.int .i64 0,.int .i64 0,.int .i64 0,.int .i64 0,.int .i64 0,.int .i64 0,.int .i64 0,.int .i64 0]=some (zB s):=Uy s (fun _=>0) (List.range 8)
theorem Aon {l:List Ed} {ex:Bool} {e:Env} {hi mx:IX} {k1 k2:IntKind} (h1:hi.ev e = .int k1 l.length) (h2:mx.ev e = .int k2 l.length):slA (some 2) e none (some hi) (some mx) (.slice (some 2) (l.map edA) ex) = .ret (.slice (some 2) (l.map edA) true):=by
 have:(l.map edA).take l.length=l.map edA:=List.take_of_length_le (by simp)
 simp [slA,sliceB,h1,h2,Gn,Res.bind,this]
theorem Aus (l:List Ed):Eh (some 2) (l.map edA)=Fq l:=by
 induction l with
 | nil=>rfl
 | cons q r ih=>simp only [Eh,Fq,List.map_cons,List.flatMap_cons] at ih ⊢; rw [ih]; rfl
theorem Ald {call:Bo} {base:Nat} {Q:EX×St->Prop} {d:Option Nat} {L:List IOper} {ks:List Kont} {e:Env} {h:Bc} {b kk:Nat} {l:List Ed} {q1 q2:Nat} {ex:Bool} (hr:(l.length+1)*b<=1099511627776):GP call base Q d L ks e (Dg kk (some 2) b (.slice (some 2) (l.map edA) true) (.slice (some 2) [.agg [.int .i64 q1,.int .i64 q2]] ex) h)=GO call base Q L ks ⟨Bj e d (.oslice kk (Bb h kk).next (some 2) 0 (l++[(q1,q2)]).length none),setH h kk (.cells (Bb h kk).next (Fq (l++[(q1,q2)])))⟩:=by
 have hroom:=If hr
 have hf:=Aus l
 have:Dg kk (some 2) b (.slice (some 2) (l.map edA) true) (.slice (some 2) [.agg [.int .i64 q1,.int .i64 q2]] ex) h = .ret (.oslice kk (Bb h kk).next (some 2) 0 (l++[(q1,q2)]).length none,setH h kk (.cells (Bb h kk).next (Fq (l++[(q1,q2)])))):=by
  rw [edCs_app]
  simp only [Dg,De,List.length_map,List.length_cons,List.length_nil,Nat.zero_add,hroom,hf,ne_eq,not_true_eq_false,if_false,Bool.true_eq_false,or_self,List.length_append,Nat.one_ne_zero,reduceCtorEq]
  rfl
 rw [this,Gu]
theorem Apa {es:List Ed} (hn8:∀q∈es,q.1<8/\q.2<8) (hu:upU (sur es) 8=1):Hu ((List.range 8).map (sur es)) (-1)=(Gf es:Nat):=by
 obtain ⟨h1,h2,h3,h4⟩:=Kr hn8 hu
 have key:∀(k i:Nat),i+k=8->i<=Gf es->Fj (-1) ((List.range' i k).map (sur es)) i=(Gf es:Nat):=fun k=>by
  induction k with
  | zero=>intro i hi hle; omega
  | succ k ih =>
   intro i hi hle
   rw [List.range'_succ,List.map_cons,Fj]
   by_cases he:i=Gf es
   ·have:sur es i = -1:=by rw [h4,he,if_neg h3,if_pos rfl]; rfl
    rw [if_pos this,he]
   ·have:sur es i ≠ -1:=by
     rw [h4 i,if_neg (show ¬Gf es=i from fun e=>he e.symm)]
     split <;> omega
    rw [if_neg this]
    exact ih (i+1) (by omega) (by omega)
 have:=key 8 0 rfl (by omega)
 rw [<-List.range_eq_range'] at this
 exact this
set_option maxHeartbeats 1000000 in
theorem con_Count (N:Nat) (es:List Ed) (hk:OkB N es):Con T 20 11 [bkA (bkN N es)] (.tuple [.int .i64 (Rk es),.int .i64 0]):=by
 refine Bu t11 fun n hn V hV => ?_
 have b0:((0:Int) != 0)=false:=rfl
 have h0:=hk.ne
 have h8:=hk.n8
 have hl20:=hk.le20
 have hn8:=hk.lt8
 have hl15:es.length<=15:=by have:=hk.le; omega
 rw [Nu]
 by_cases hs:Fe N es=[]
 ·have hb:(((nI4 (Fe N es)).length:Int)==0)=true:=by rw [hs]; rfl
  simp (disch:=first | assumption | omega) only [c11,go_sem,↓reduceIte,Ib,b0,Om,hb,List.length_map,Bool.false_eq_true]
  rw [Arj hk hs] at hV
  exact hV _ _ (Ff (Bl _ _ _ _) (Bl _ _ _ _))
 ·have hb:(((nI4 (Fe N es)).length:Int)==0)=false:=by simpa [nI4] using hs
  obtain ⟨hap,hor⟩:=Abp hs
  have hh:=(A5s h0 hn8).1 hap
  by_cases hu:upU (sur es) 8=0
  ·have hbal:=A4u hn8 hu
   have hz:zB (sur es)=true:=by
    rw [zB,List.all_eq_true]
    exact fun x _=>by have:=hbal x; simp only [decide_eq_true_eq]; unfold sur; omega
   have bt:(true != false)=true:=rfl
   have hcb:=Aze hk hs hu
   have hc1:=Alc es
   have hc2:=Avw h0 hn8
   have hc3:=Xx hl15
   have e15:Fs 15=1307674368000:=by decide
   simp (disch:=first | assumption | omega) only [c11,go_sem,↓reduceIte,Ib,b0,Om,hb,List.length_map,stA,Ql,Zx,eaA,Ge,A2z,hz,bt,Ajd,Bool.false_eq_true]
   rw [<-hcb]
   exact hV _ _ (Ff (Bl _ _ _ _) (Bl _ _ _ _))
  ·have hu1:upU (sur es) 8=1:=by rcases hor with h | h; exact absurd h hu; exact h
   have hz:zB (sur es)=false:=by
    cases hq:zB (sur es) with
    | false=>rfl
    | true =>
     exfalso
     apply hu
     rw [zB,List.all_eq_true] at hq
     have:∀v,v<=8->upU (sur es) v=0:=fun v=>by
      induction v with
      | zero=>intro _; rfl
      | succ v ih =>
       intro hv
       have:=hq v (List.mem_range.2 (by omega))
       simp only [decide_eq_true_eq] at this
       simp only [upU]
       rw [ih (by omega),this]; rfl
     exact this 8 (Nat.le_refl _)
   have bf:(false != false)=false:=rfl
   have hst:=Agu hs hu1
   obtain ⟨hat,hen,hne,_⟩:=Kr hn8 hu1
   have hpl:=Apa hn8 hu1
   have hopen:=Aqa hk hs hu1
   generalize hAT:atU (sur es) 8=aT at *
   generalize hEN:Gf es=eN at *
   have hnst:nI4 (Fe N es)=[(aT:Int)]:=by rw [hst]; rfl
   simp (disch:=first | assumption | omega) only [c11,go_sem,↓reduceIte,Ib,b0,Om,hb,List.length_map,stA,Ql,Zx,eaA,Ge,A2z,hz,bf,A3v,Bf,Ee,Bool.false_eq_true]
   have hci:=Aif ((List.range 8).map (sur es)) (-1) (by simp)
   have e8:((List.range 8).map (sur es)).map (AV.int .i64)=sr8 (sur es):=by rw [List.map_map]; rfl
   unfold Ej at hci
   rw [hpl,e8] at hci
   refine Do hci (by omega) (Dm _ _ _ _ (Fa _ _ _ (Bz _))) (Ga _ _ _) ?_
   simp (disch:=first | assumption | omega) only [go_sem,↓reduceIte]
   rw [Aon (k1:=.i64) (k2:=.i64) (by simp only [go_sem,↓reduceIte]) (by simp only [go_sem,↓reduceIte])]
   have tk2:List.take 2 [AV.int IntKind.i64 (eN:Int),AV.int IntKind.i64 (aT:Int)]=[AV.int IntKind.i64 (eN:Int),AV.int IntKind.i64 (aT:Int)]:=rfl
   simp (disch:=first | assumption | omega) only [go_sem,↓reduceIte,hnst,List.map_cons,List.map_nil,List.length_cons,List.length_nil,List.range_zero,List.nil_append,Nat.zero_mul,List.drop_zero,tk2,Ald]
   obtain ⟨ls,hls⟩:∃ls,ls=es++[(eN,aT)]:=⟨_,rfl⟩
   have hb2:Bal ls:=by
    rw [hls,<-hEN,<-hAT]
    exact Vo (List.perm_append_comm (l₁:=[_])) (A4x hn8 hu1)
   have hod:od es aT≠0:=fun ho=>by
    have h4:=(Kr hn8 hu1).2.2.2 aT
    rw [hAT,hEN,if_pos rfl,if_neg fun e=>hne e.symm,Mw] at h4
    omega
   have hh2:Lf ls:=by
    rw [hls]
    exact A7d (List.perm_append_comm (l₁:=[_])) (Abo hh hod)
   have hn82:∀q∈ls,q.1<8/\q.2<8:=fun q hq=>by
    rw [hls] at hq
    rcases List.mem_append.1 hq with hq | hq
    ·exact hn8 q hq
    ·obtain rfl:=List.mem_singleton.1 hq
     exact ⟨hen,hat⟩
   have h02:ls≠[]:=by rw [hls]; simp
   have hl2:ls.length<=15:=by rw [hls,List.length_append,List.length_singleton]; have:=hk.le; omega
   have hll:es.length+1=ls.length:=by rw [hls]; simp
   rw [<-hls] at hopen
   simp only [<-hls,hll]
   have hOG:OwnG 0 (setH (setH (List.replicate 61 AObj.none) 1 (AObj.cells 0 [AV.int IntKind.i64 ↑N,eds es])) 61 (AObj.cells 0 (Fq ls))) (.oslice 61 0 (some 2) 0 ls.length none) (some 2) ls.length (Fq ls):=.inr ⟨61,0,by omega,rfl,getH_setH_self _ _ _,A9e ls⟩
   refine Ex (A0m N ls (by omega) hn82 _ _ (No hOG) (Qc hOG) n (by omega) fun v h' hp => ?_)
   have hO2:=hOG.other (h':=h') fun j hj=>hp.2.2.2.1 j (Qc hOG j hj)
   simp (disch:=first | assumption | omega) only [go_sem,↓reduceIte]
   refine Do (Nw N ls (sur ls) (zS ls) hb2 hh2 hn82 h02 hl2) (by omega) (Bv (Aak hp (A9u hO2)) (Bz _)) (Ga _ _ _) ?_
   simp (disch:=first | assumption | omega) only [go_sem,↓reduceIte]
   rw [<-hopen]
   exact hV _ _ (Ff (Bl _ _ _ _) (Bl _ _ _ _))
end Go.Ev.YtgehhippjhealaaGreatC.P4
