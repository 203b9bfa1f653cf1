/- Nearest ways by rounds: the rounds come to an end, and what they leave leads back. A part of the proof. A part of the proof. The code of functions that are walked, compiled for the evaluator, as text. Again of a book in which as many slurs lead to each note as from it: no plays are needed. No condition but those that stand in each. -/
import Derived.Test.YtgehhippjhealaaGreatDL4M9
import Derived.Test.YtgehhippjhealaaGreatDL4Tune
import Derived.Test.YtgehhippjhealaaGreatDTopW
set_option linter.unusedSimpArgs false
set_option linter.unusedVariables false
set_option maxRecDepth 100000
namespace Go.Ev
structure Arc where
 u:Nat
 v:Nat
 c:Int
 id:Int
def Mt (f:Nat->Int):Nat->Int
 | 0=>0
 | n+1=>Mt f n+f n
theorem Zz {f g:Nat->Int}:∀{n:Nat},(∀x,x<n->f x<=g x)->Mt f n<=Mt g n
 | 0,_=>Int.le_refl _
 | n+1,h=>by
  have h1:=Zz (n:=n) fun x hx=>h x (by omega)
  have h2:=h n (by omega)
  simp only [Mt]; omega
theorem Agi {f g:Nat->Int} {y:Nat}:∀{n:Nat},(∀x,x<n->f x<=g x)->y<n->f y<g y->Mt f n<Mt g n
 | n+1,h,hy,hl=>by
  by_cases hyn:y=n
  ·subst hyn
   have h1:=Zz (n:=y) fun x hx=>h x (by omega)
   simp only [Mt]; omega
  ·have h1:=Agi (n:=n) (fun x hx=>h x (by omega)) (by omega) hl
   have h2:=h n (by omega)
   simp only [Mt]; omega
end Go.Ev
namespace Go.Ev.YtgehhippjhealaaGreatC.P4
open Go.Ev
open Go Go.Ev
theorem Adg {es:List Ed} {i:Nat} (h:i<es.length):gE es i∈es:=by rw [Zd h]; exact List.getElem_mem h
def sP (es:List Ed) (P:Nat->Int) (x:Nat):Nat->Int
 | 0=>0
 | k+1=>sP es P x k+P k*(dl (gE es k).1 x-dl (gE es k).2 x)
def sF (es:List Ed) (P:Nat->Int) (x:Nat):Int:=sur es x+sP es P x es.length
def apA (a:Arc) (P:Nat->Int):Nat->Int:=fun j=>P j+(if a.id=(j:Int)+1 then 1 else 0)-(if a.id = -(j:Int)-1 then 1 else 0)
def run:List Arc->(Nat->Int)->Nat->Int
 | [],P=>P
 | a::l,P=>run l (apA a P)
def cnt (c:Int) (l:List Arc):Int:=(l.countP fun a=>a.id==c:Nat)
def Rch (es:List Ed) (a b:Nat):Prop:=∀p:Nat->Bool,(∀e∈es,p e.1=true->p e.2=true)->p a=true->p b=true
def Clo (es:List Ed):Prop:=∀e∈es,∀f∈es,Rch es e.1 f.1/\Rch es e.1 f.2/\Rch es e.2 f.1/\Rch es e.2 f.2
def Tch (es:List Ed) (x:Nat):Prop:=∃e∈es,e.1=x\/e.2=x
theorem Alj {es:List Ed} (P:Nat->Int) {x:Nat} (h:∀e∈es,e.1≠x/\e.2≠x):∀k,k<=es.length->sP es P x k=0
 | 0,_=>rfl
 | k+1,hk=>by
  have:=h _ (Adg (show k<es.length by omega))
  rw [sP,Alj P h k (by omega),Hf this.1,Hf this.2]; simp
theorem B3d {es:List Ed} (P:Nat->Int) {x:Nat} (h:¬Tch es x):sF es P x=0:=by
 have h':∀e∈es,e.1≠x/\e.2≠x:=fun e he=>⟨fun h1=>h ⟨e,he,.inl h1⟩,fun h1=>h ⟨e,he,.inr h1⟩⟩
 rw [sF,Alj P h' _ (Nat.le_refl _),Mw,Hh.2 fun e he=>(h' e he).1,Ni.2 fun e he=>(h' e he).2]; rfl
theorem A9j {es:List Ed} {P:Nat->Int} {x:Nat} (h:sF es P x≠0):Tch es x:=Classical.byContradiction fun hn=>h (B3d P hn)
theorem A9y {N:Nat} {es:List Ed} (hn:∀q∈es,q.1<N/\q.2<N) {x:Nat} (h:Tch es x):x<N:=by
 obtain ⟨e,he,rfl | rfl⟩:=h
 ·exact (hn e he).1
 ·exact (hn e he).2
theorem Oj (f g:Nat->Int):∀l:List Nat,Bm l (fun x=>f x+g x)=Bm l f+Bm l g
 | []=>rfl
 | a::l=>by simp only [Bm,Oj f g l]; omega
theorem Vn (c:Int) (f:Nat->Int):∀l:List Nat,Bm l (fun x=>c*f x)=c*Bm l f
 | []=>by simp [Bm]
 | a::l=>by simp only [Bm,Vn c f l,Int.mul_add]
theorem Adv (h:Nat->Int) {a N:Nat} (ha:a<N):Bm (List.range N) (fun x=>h x*dl a x)=h a:=by
 rw [Le List.nodup_range (List.mem_range.2 ha) fun x _ hx=>by rw [Hf (Ne.symm hx),Int.mul_zero],Ll,Int.mul_one]
def hP (es:List Ed) (P h:Nat->Int):Nat->Int
 | 0=>0
 | k+1=>hP es P h k+P k*(h (gE es k).1-h (gE es k).2)
theorem A9a {N:Nat} {es:List Ed} (hn:∀q∈es,q.1<N/\q.2<N) (P h:Nat->Int):∀k,k<=es.length->Bm (List.range N) (fun x=>h x*sP es P x k)=hP es P h k
 | 0,_=>by
  refine Fw fun x _ => ?_
  rw [sP,Int.mul_zero]
 | k+1,hk=>by
  have hq:=hn _ (Adg (show k<es.length by omega))
  rw [hP,<-A9a hn P h k (by omega)]
  have:(fun x=>h x*sP es P x (k+1))=fun x=>h x*sP es P x k+(P k*(h x*dl (gE es k).1 x)+(-P k)*(h x*dl (gE es k).2 x)):=funext fun x=>by
   rw [sP,Int.mul_add]
   congr 1
   rw [Int.mul_sub,Int.mul_sub,<-Int.mul_assoc,<-Int.mul_assoc,Int.mul_comm (h x) (P k),Int.mul_assoc,Int.mul_assoc,Int.neg_mul]; omega
  rw [this,Oj,Oj,Vn,Vn,Adv h hq.1,Adv h hq.2,Int.mul_sub,Int.neg_mul]; omega
def hS (N:Nat) (es:List Ed) (h:Nat->Int):Int:=Bm (List.range N) fun x=>h x*sur es x
def Adx (P:Nat->Int):Nat->Int
 | 0=>0
 | k+1=>Adx P k+P k
theorem Bia {N:Nat} {es:List Ed} (hn:∀q∈es,q.1<N/\q.2<N) {P:Nat->Int} (hz:∀x,x<N->sF es P x=0) (h:Nat->Int):hS N es h = - hP es P h es.length:=by
 have h1:Bm (List.range N) (fun x=>h x*sF es P x)=0:=Fw fun x hx=>by rw [hz x (List.mem_range.1 hx),Int.mul_zero]
 have h2:(fun x=>h x*sF es P x)=fun x=>h x*sur es x+h x*sP es P x es.length:=funext fun x=>by rw [sF,Int.mul_add]
 rw [h2,Oj,A9a hn P h _ (Nat.le_refl _)] at h1
 unfold hS; omega
theorem Aup {es:List Ed} {P h:Nat->Int} (hp:∀i,0<=P i) (hh:∀i,i<es.length->h (gE es i).2<=h (gE es i).1+1):∀k,k<=es.length->- hP es P h k<=Adx P k
 | 0,_=>by simp [hP,Adx]
 | k+1,hk=>by
  have h1:=Aup hp hh k (by omega)
  have h2:=hh k (by omega)
  have h3:P k*(h (gE es k).1-h (gE es k).2)>=P k*(-1):=Int.mul_le_mul_of_nonneg_left (by omega) (hp k)
  rw [hP,Adx]; omega
theorem weak {N:Nat} {es:List Ed} (hn:∀q∈es,q.1<N/\q.2<N) {P h:Nat->Int} (hz:∀x,x<N->sF es P x=0) (hp:∀i,0<=P i) (hh:∀e∈es,h e.2<=h e.1+1):hS N es h<=Adx P es.length:=by
 rw [Bia hn hz h]
 exact Aup hp (fun i hi=>hh _ (Adg hi)) _ (Nat.le_refl _)
theorem B2s {N:Nat} {es:List Ed} (hn8:N<=8) (hn:∀q∈es,q.1<N/\q.2<N) (P:Nat->Int):Bm (List.range 8) (sF es P)=0:=by
 have hn':∀q∈es,q.1<8/\q.2<8:=fun q hq=>by have:=hn q hq; omega
 have h1:=A5d hn'
 have h2:=A9a hn' P (fun _=>1) es.length (Nat.le_refl _)
 have h3:∀k,hP es P (fun _=>1) k=0:=fun k=>by
  induction k with
  | zero=>rfl
  | succ k ih=>rw [hP,ih]; simp
 rw [h3] at h2
 have h4:sF es P=fun x=>sur es x+1*sP es P x es.length:=funext fun x=>by rw [sF,Int.one_mul]
 rw [h4,Oj,h1,h2]; rfl
theorem Btt {N:Nat} {es:List Ed} (hn8:N<=8) (hn:∀q∈es,q.1<N/\q.2<N) {P:Nat->Int} {x:Nat} (hx:sF es P x≠0):(∃t,t<N/\0<sF es P t)/\∃r,r<N/\sF es P r<0:=by
 have hs:=B2s hn8 hn P
 have hxN:=A9y hn (A9j hx)
 have hu:=A0h (sF es P) 8
 rw [hs] at hu
 have n1:=Oy (sF es P) 8
 have key:∀(s:Nat->Int) (v:Nat),0<upU s v->∃t,t<v/\0<s t:=fun s v=>by
  induction v with
  | zero=>intro h; simp [upU] at h
  | succ v ih =>
   intro h
   simp only [upU] at h
   by_cases hv:0<s v
   ·exact ⟨v,by omega,hv⟩
   ·rw [if_neg hv,Int.add_zero] at h
    obtain ⟨t,h1,h2⟩:=ih h
    exact ⟨t,by omega,h2⟩
 have hpos:0<upU (sF es P) 8:=by
  have g1:=Rb (s:=sF es P) (show x<8 by omega)
  have g2 : - sF es P x<=upU (fun y => - sF es P y) 8:=Rb (s:=fun y => - sF es P y) (show x<8 by omega)
  omega
 obtain ⟨t,t1,t2⟩:=key _ _ hpos
 obtain ⟨r,r1,r2⟩:=key (fun y => - sF es P y) 8 (by omega)
 have r2:0 < - sF es P r:=r2
 exact ⟨⟨t,A9y hn (A9j (show sF es P t≠0 by omega)),t2⟩,r,A9y hn (A9j (show sF es P r≠0 by omega)),by omega⟩
end Go.Ev.YtgehhippjhealaaGreatC.P4
namespace Go.Ev.YtgehhippjhealaaGreatC.P4
open Go.Ev
open Go Go.Proofs Go.Ev
attribute [local irreducible] Res.all evC Dd Df Br Bh Dj Bd Bi G GO GV GP GC R
def mkF (σ:Nat->Int) (e:Ed):Nat->Int:=fun y=>if y=e.2 then (if σ e.1>σ e.2 then σ e.1 else σ e.2) else σ y
def mkL (σ:Nat->Int) (l:List Ed):Nat->Int:=l.foldl mkF σ
theorem Aab (σ:Nat->Int) (e:Ed) (y:Nat):σ y<=mkF σ e y:=by
 unfold mkF
 split
 ·next h=>subst h; split <;> omega
 ·exact Int.le_refl _
theorem A9d:∀(l:List Ed) (σ:Nat->Int) (y:Nat),σ y<=mkL σ l y
 | [],_,_=>Int.le_refl _
 | e::l,σ,y=>Int.le_trans (Aab σ e y) (A9d l (mkF σ e) y)
theorem Arq {es:List Ed} {i:Nat} (h:i<es.length) (σ:Nat->Int):mkL σ (es.take (i+1))=mkF (mkL σ (es.take i)) es[i]:=by
 unfold mkL
 rw [List.take_succ_eq_append_getElem h,List.foldl_append]; rfl
theorem Agy:∀(l:List Ed) (σ:Nat->Int),(∀e∈l,mkL σ l e.2=σ e.2)->∀e∈l,σ e.1<=σ e.2
 | [],_,_,_,h=>by cases h
 | e::l,σ,h,f,hf=>by
  have h1:mkL (mkF σ e) l e.2=σ e.2:=h e List.mem_cons_self
  have h2:=A9d l (mkF σ e) e.2
  have h3:=Aab σ e e.2
  have h4:mkF σ e e.2=σ e.2:=by omega
  have hle:σ e.1<=σ e.2:=by
   unfold mkF at h4
   rw [if_pos rfl] at h4
   split at h4 <;> omega
  have h5:mkF σ e=σ:=funext fun y=>by
   by_cases hy:y=e.2
   ·rw [hy,h4]
   ·unfold mkF; rw [if_neg hy]
  rcases List.mem_cons.1 hf with rfl | hf
  ·exact hle
  ·exact Agy l σ (fun g hg=>by
    have:=h g (List.mem_cons_of_mem _ hg)
    change mkL (mkF σ e) l g.2=σ g.2 at this
    rwa [h5] at this) f hf
structure Mks (es:List Ed) (a:Nat) (σ:Nat->Int):Prop where
 b:∀y,σ y=0\/σ y=1
 s:∀y,σ y=1->Rch es a y
 o:σ a=1
theorem Mks.push {es:List Ed} {a:Nat} {σ:Nat->Int} (h:Mks es a σ) {e:Ed} (he:e∈es):Mks es a (mkF σ e) where
 b:=fun y=>by
  have h1:=h.b e.1; have h2:=h.b e.2; have h3:=h.b y
  unfold mkF
  split
  ·split <;> omega
  ·exact h3
 s:=fun y hy=>by
  unfold mkF at hy
  split at hy
  ·next hye =>
   subst hye
   split at hy
   ·exact fun p hp ha=>hp e he (h.s e.1 hy p hp ha)
   ·exact h.s _ hy
  ·exact h.s y hy
 o:=by
  have h1:=Aab σ e a
  have h2:=h.o
  have h3:=h.b e.1; have h4:=h.b e.2; have h5:=h.b a
  unfold mkF at h1 ⊢
  split
  ·next hh=>rw [if_pos hh] at h1; split <;> split at h1 <;> omega
  ·exact h2
theorem Mks.all {es:List Ed} {a:Nat}:∀{l:List Ed} {σ:Nat->Int},Mks es a σ->(∀e∈l,e∈es)->Mks es a (mkL σ l)
 | [],_,h,_=>h
 | e::l,σ,h,hl=>Mks.all (l:=l) (h.push (hl e List.mem_cons_self)) fun f hf=>hl f (List.mem_cons_of_mem _ hf)
open Classical in
noncomputable def Sc (es:List Ed) (a b:Nat):Bool:=decide (Rch es a b)
theorem Acm {es:List Ed} {a b:Nat}:Sc es a b=true↔Rch es a b:=by simp [Sc]
theorem Mks.done {es:List Ed} {a:Nat} {σ:Nat->Int} (h:Mks es a σ) (hc:∀e∈es,σ e.1<=σ e.2) (b:Nat):decide (σ b>0)=Sc es a b:=by
 rw [Bool.eq_iff_iff,Acm,decide_eq_true_eq]
 constructor
 ·intro hb
  exact h.s b (by have:=h.b b; omega)
 ·intro hr
  have:=hr (fun x=>decide (0<σ x)) (fun e he hx=>by
   simp only [decide_eq_true_eq] at hx ⊢
   have:=hc e he; omega) (by have:=h.o; simp [this])
  simpa using this
def A1x (σ:Nat->Int):Nat:=(8-Mt σ 8).toNat
theorem Awb {σ τ:Nat->Int} {y:Nat} (hy:y<8) (hb:∀x,σ x=0\/σ x=1) (hb2:∀x,τ x=0\/τ x=1) (hle:∀x,σ x<=τ x) (hne:τ y≠σ y):A1x τ<A1x σ:=by
 have h1:=Agi (n:=8) (f:=σ) (g:=τ) (fun x _=>hle x) hy (by have:=hle y; omega)
 have h2:Mt τ 8<=8:=by
  have:=Zz (n:=8) (f:=τ) (g:=fun _=>1) fun x _=>by rcases hb2 x with h | h <;> omega
  simpa [Mt] using this
 unfold A1x; omega
theorem Afx (s:Nat->Int) {v:Nat} (h:v<8) (a:Int):(sr8 s).set v (.int .i64 a)=sr8 fun y=>if y=v then a else s y:=by
 unfold sr8
 rw [Ls]
 apply List.map_congr_left
 intro b _
 simp only
 split <;> rfl
theorem A2u (s:Nat->Int):(sr8 s).take 8=sr8 s:=List.take_of_length_le (by rw [Ge]; exact Nat.le_refl _)
theorem Avc (s:Nat->Int):(sr8 s).all oneB=true:=by
 unfold sr8; rw [List.all_map]; exact List.all_eq_true.2 fun _ _=>rfl
set_option maxHeartbeats 1000000 in
theorem Aei (N:Int) (es:List Ed) (s:Nat->Int) (p:AV) (a b:Nat) (hl:es.length<=20) (hn8:∀q∈es,q.1<8/\q.2<8) (ha:a<8) (hb:b<8):Con T 1 173 [stA N es s p,.int .i64 a,.int .i64 b] (.bool (Sc es a b)):=by
 refine Bu t173 fun n hn V hV => ?_
 have hz:[AV.int IntKind.i64 0,AV.int IntKind.i64 0,AV.int IntKind.i64 0,AV.int IntKind.i64 0,AV.int IntKind.i64 0,AV.int IntKind.i64 0,AV.int IntKind.i64 0,AV.int IntKind.i64 0].set a (.int .i64 1)=sr8 (fun y=>if y=a then 1 else 0):=Afx (fun _=>0) ha 1
 have hsp:∀σ,Dr [AV.int IntKind.i64 0,AV.int IntKind.i64 0,AV.int IntKind.i64 0,AV.int IntKind.i64 0,AV.int IntKind.i64 0,AV.int IntKind.i64 0,AV.int IntKind.i64 0,AV.int IntKind.i64 0] 0 (sr8 σ)=sr8 σ:=fun σ=>Sm _ _ (by simp [Ge])
 have hK0:Mks es a fun y=>if y=a then 1 else 0:=⟨fun y=>by
   by_cases h:y=a
   ·exact .inr (if_pos h)
   ·exact .inl (if_neg h),fun y hy=>by
   by_cases h:y=a
   ·subst h; exact fun p _ hp=>hp
   ·exact absurd hy (by rw [if_neg h]; decide),if_pos rfl⟩
 have ha7:a<=7:=by omega
 simp (disch:=first | assumption | omega) only [c173,go_sem,↓reduceIte,hz,ha,ha7]
 refine Da (fun M st=>∃σ,M=A1x σ/\Mks es a σ/\At st.env [(0,stA N es s p),(2,.int .i64 b),(7,.optr 7 0 0)]/\Bb st.heap 7 = .cells 0 (sr8 σ)) (A1x fun y=>if y=a then 1 else 0) ?_
  ⟨fun y=>if y=a then 1 else 0,rfl,hK0,by simp only [go_sem,↓reduceIte,stA],by simp only [go_sem,↓reduceIte]⟩ ?_
 ·have:Mt (fun y=>if y=a then 1 else 0) 8>=0:=by
   have:=Zz (n:=8) (f:=fun _=>0) (g:=fun y=>if y=a then 1 else 0) fun x _=>by split <;> omega
   simpa [Mt] using this
  unfold A1x; omega
 rintro M e h hM ⟨σ,rfl,hK,hE,g7⟩ P hP
 simp only [Bp,Bx] at hE g7
 obtain ⟨f0,f2,f7,-⟩:=hE
 simp (disch:=first | assumption | omega) only [go_sem,↓reduceIte,f0,f2,f7,g7,Ge,A2u,Avc,hsp,stA,Gl,Nat.le_refl]
 refine Da (fun M st=>∃(i:Nat),M=es.length-i/\i<=es.length/\At st.env [(0,stA N es s p),(2,.int .i64 b),(7,.optr 7 0 0),(8,.optr 8 (Bb h 8).next 0),(18,eds es),(19,.int .i64 es.length),(20,.int .i64 i)]/\Bb st.heap 7 = .cells 0 (sr8 (mkL σ (es.take i)))/\Bb st.heap 8 = .cells (Bb h 8).next (sr8 σ)) es.length (by omega)
  ⟨0,by omega,by omega,by simp only [go_sem,↓reduceIte,f0,f2,f7,stA],by simp only [go_sem,↓reduceIte,g7]; rfl,by simp only [go_sem,↓reduceIte]⟩ ?_
 rintro M e2 h2 hM ⟨i,rfl,hi,hE,g7,g8⟩ P2 hP2
 simp only [Bp,Bx] at hE g7 g8
 obtain ⟨f0,f2,f7,f8,f18,f19,f20,-⟩:=hE
 by_cases hlt:i<es.length
 ·have hq:=hn8 _ (List.getElem_mem hlt)
  have hg:=Jw hlt
  have hmk:=Arq hlt σ
  generalize hqd:es[i]=q at *
  obtain ⟨qa,qb⟩:=q
  simp only at hq
  simp only [edA] at hg
  obtain ⟨hq1,hq2⟩:=hq
  have hq7:qb<=7:=by omega
  simp (disch:=first | assumption | omega) only [go_sem,↓reduceIte,f0,f2,f7,f8,f18,f19,f20,g7,hlt,hg,hq1,hq2,hq7,Ge,A0i,Afx]
  refine hP2 (es.length-(i+1)) _ (by omega) ⟨i+1,rfl,by omega,by simp only [go_sem,↓reduceIte,f0,f2,f7,f8,f18,f19],?_,by simp only [go_sem,↓reduceIte,g8]⟩
  simp only [go_sem,↓reduceIte]
  rw [hmk]
  rfl
 ·obtain rfl:i=es.length:=by omega
  rw [List.take_length] at g7
  have heq:Dy (sr8 σ) (sr8 (mkL σ es))=some ((List.range 8).all fun v=>decide (σ v=mkL σ es v)):=Uy σ (mkL σ es) (List.range 8)
  obtain ⟨B,hB⟩:∃B,B=(List.range 8).all fun v=>decide (σ v=mkL σ es v):=⟨_,rfl⟩
  rw [<-hB] at heq
  cases hBv:B with
  | true =>
   rw [hBv] at heq hB
   have bt:(true != false)=true:=rfl
   have hfx:∀e∈es,σ e.1<=σ e.2:=Agy es σ fun e he=>by
    have:=List.all_eq_true.1 hB.symm e.2 (List.mem_range.2 (hn8 e he).2)
    simp only [decide_eq_true_eq] at this
    exact this.symm
   have hσb:mkL σ es b=σ b:=by
    have:=List.all_eq_true.1 hB.symm b (List.mem_range.2 hb)
    simp only [decide_eq_true_eq] at this
    exact this.symm
   have hd:=hK.done hfx b
   simp (disch:=first | assumption | omega) only [go_sem,↓reduceIte,f0,f2,f7,f8,f18,f19,f20,g7,g8,hlt,Ge,A2u,eaA,heq,bt,hb,A0i,hσb,hd,Nat.le_refl]
   exact hV _ _ (Dk _ _ _)
  | false =>
   rw [hBv] at heq hB
   have bf:(false != false)=false:=rfl
   obtain ⟨y,hy,hne⟩:=List.all_eq_false.1 hB.symm
   have hK2:=hK.all (l:=es) fun _ h=>h
   simp (disch:=first | assumption | omega) only [go_sem,↓reduceIte,f0,f2,f7,f8,f18,f19,f20,g7,g8,hlt,Ge,A2u,eaA,heq,bf,Nat.le_refl]
   refine hP (A1x (mkL σ es)) _ ?_ ⟨_,rfl,hK2,by simp only [go_sem,↓reduceIte,f0,f2,f7],by simp only [go_sem,↓reduceIte,g7]⟩
   exact Awb (List.mem_range.1 hy) hK.b hK2.b (A9d es σ) (fun h=>hne (by simpa using h.symm))
section
variable {n base:Nat} {Q:EX×St->Prop} {d:Option Nat} {L:List IOper} {ks:List Kont} {e:Env} {h:Bc}
theorem A4t {N:Int} {es:List Ed} {s:Nat->Int} {p:AV} {a b:Nat} (hn:1<=n) (hl:es.length<=20) (hn8:∀q∈es,q.1<8/\q.2<8) (ha:a<8) (hb:b<8):GP (Bd T n) base Q d L ks e (Bd T n false (.fn 173) [stA N es s p,.int .i64 a,.int .i64 b] h)=GO (Bd T n) base Q L ks ⟨Bj e d (.bool (Sc es a b)),h⟩:=
 Ey (Aei N es s p a b hl hn8 ha hb) hn (Bv (Ih _ _ _ _ _ _) (Fa _ _ _ (Fa _ _ _ (Bz _)))) (Fn _ _)
end
def pr4 (e f:Ed):List Ed:=[(e.1,f.1),(e.1,f.2),(e.2,f.1),(e.2,f.2)]
noncomputable def cl4 (es:List Ed) (e f:Ed):Bool:=(pr4 e f).all fun q=>Sc es q.1 q.2
noncomputable def Ou (es:List Ed):Bool:=es.all fun e=>es.all fun f=>cl4 es e f
theorem Adj {es:List Ed}:Ou es=true↔Clo es:=by
 simp only [Ou,cl4,pr4,List.all_eq_true,Clo,List.mem_cons,List.not_mem_nil,or_false,forall_eq_or_imp,forall_eq,Acm]
set_option maxHeartbeats 2000000 in
theorem Akm (N:Int) (es:List Ed) (s:Nat->Int) (p:AV) (hl:es.length<=20) (hn8:∀q∈es,q.1<8/\q.2<8):Con T 2 108 [stA N es s p] (.bool (Ou es)):=by
 refine Bu t108 fun n hn V hV => ?_
 have hVf:∀(i k:Nat) (hi:i<es.length) (hk:k<es.length),cl4 es es[i] es[k]=false->∀h,V (.bool false,h):=fun i k hi hk hc h=>hV _ _ (by
  have:Ou es=false:=by
   rw [Ou,List.all_eq_false]
   refine ⟨es[i],List.getElem_mem hi,?_⟩
   rw [Bool.not_eq_true,List.all_eq_false]
   exact ⟨es[k],List.getElem_mem hk,by rw [hc]; decide⟩
  rw [this]; exact Dk _ _ _)
 simp (disch:=first | assumption | omega) only [c108,stA,go_sem,↓reduceIte,Gl]
 refine Da (fun M st=>∃i:Nat,M=es.length-i/\i<=es.length/\At st.env [(0,stA N es s p),(13,eds es),(14,.int .i64 es.length),(15,.int .i64 i)]/\(es.take i).all (fun e=>es.all fun f=>cl4 es e f)=true) es.length (by omega)
  ⟨0,by omega,by omega,by simp only [go_sem,↓reduceIte,stA,List.length_map],rfl⟩ ?_
 rintro M e h hM ⟨i,rfl,hi,hE,hA⟩ P hP
 simp only [Bp,Bx] at hE
 obtain ⟨f0,f13,f14,f15,-⟩:=hE
 by_cases hlt:i<es.length
 ·have hg:=Jw hlt
  have hat:=Rs (p:=fun e=>es.all fun f=>cl4 es e f) hlt
  have hq:=hn8 _ (List.getElem_mem hlt)
  have hVi:=fun k hk=>hVf i k hlt hk
  rw [hA,Bool.true_and] at hat
  generalize hqd:es[i]=q at *
  obtain ⟨qa,qb⟩:=q
  simp only at hq
  simp only [edA] at hg
  obtain ⟨hq1,hq2⟩:=hq
  simp (disch:=first | assumption | omega) only [go_sem,↓reduceIte,f0,f13,f14,f15,hlt,hg,stA,Gl]
  refine Da (fun M st=>∃k:Nat,M=es.length-k/\k<=es.length/\At st.env [(0,stA N es s p),(4,.optr 4 (Bb h 4).next 0),(13,eds es),(14,.int .i64 es.length),(15,.int .i64 i),(23,eds es),(24,.int .i64 es.length),(25,.int .i64 k)]/\Bb st.heap 4 = .cells (Bb h 4).next [.int .i64 qa,.int .i64 qb]/\(es.take k).all (fun f=>cl4 es (qa,qb) f)=true) es.length (by omega)
   ⟨0,by omega,by omega,by simp only [go_sem,↓reduceIte,f0,f13,f14,f15,stA,List.length_map],by simp only [go_sem,↓reduceIte],rfl⟩ ?_
  rintro M e2 h2 hM ⟨k,rfl,hk,hE,g4,hA2⟩ P2 hP2
  simp only [Bp,Bx] at hE g4
  obtain ⟨f0,f4,f13,f14,f15,f23,f24,f25,-⟩:=hE
  by_cases hlt2:k<es.length
  ·have hg2:=Jw hlt2
   have hat2:=Rs (p:=fun f=>cl4 es (qa,qb) f) hlt2
   have hr:=hn8 _ (List.getElem_mem hlt2)
   have hVk:=hVi k hlt2
   rw [hA2,Bool.true_and] at hat2
   generalize hrd:es[k]=r at *
   obtain ⟨ra,rb⟩:=r
   simp only at hr
   simp only [edA] at hg2
   obtain ⟨hr1,hr2⟩:=hr
   have hp8:∀q∈pr4 (qa,qb) (ra,rb),q.1<8/\q.2<8:=by
    simp only [pr4,List.mem_cons,List.not_mem_nil,or_false,forall_eq_or_imp,forall_eq]
    exact ⟨⟨hq1,hr1⟩,⟨hq1,hr2⟩,⟨hq2,hr1⟩,hq2,hr2⟩
   have hlen:(pr4 (qa,qb) (ra,rb)).length=4:=rfl
   have hdiv:8/2=4:=rfl
   simp (config:={ maxSteps:=3000000 }) (disch:=first | assumption | omega) only [go_sem,↓reduceIte,f0,f4,f13,f14,f15,f23,f24,f25,g4,hlt2,hg2,Rt,hdiv]
   refine Da (fun M st=>∃j:Nat,M=4-j/\j<=4/\At st.env [(0,stA N es s p),(4,.optr 4 (Bb h 4).next 0),(13,eds es),(14,.int .i64 es.length),(15,.int .i64 i),(23,eds es),(24,.int .i64 es.length),(25,.int .i64 k),(49,.slice (some 2) ((pr4 (qa,qb) (ra,rb)).map edA) true),(50,.int .i64 4),(51,.int .i64 j)]/\Bb st.heap 4 = .cells (Bb h 4).next [.int .i64 qa,.int .i64 qb]/\((pr4 (qa,qb) (ra,rb)).take j).all (fun q=>Sc es q.1 q.2)=true) 4 (by omega)
    ⟨0,by omega,by omega,by simp only [go_sem,↓reduceIte,f0,f4,f13,f14,f15,f23,f24,f25,stA]; exact ⟨rfl,rfl⟩,by simp only [go_sem,↓reduceIte,g4],rfl⟩ ?_
   rintro M e3 h3 hM ⟨j,rfl,hj,hE,g4,hA3⟩ P3 hP3
   simp only [Bp,Bx] at hE g4
   obtain ⟨f0,f4,f13,f14,f15,f23,f24,f25,f49,f50,f51,-⟩:=hE
   by_cases hlt3:j<4
   ·have hd3:decide ((j:Int)<4)=true:=by simp; omega
    have hg3:=Jw (es:=pr4 (qa,qb) (ra,rb)) (i:=j) (by rw [hlen]; exact hlt3)
    have hat3:=Rs (es:=pr4 (qa,qb) (ra,rb)) (p:=fun q=>Sc es q.1 q.2) (i:=j) (by rw [hlen]; exact hlt3)
    have hu8:=hp8 _ (List.getElem_mem (l:=pr4 (qa,qb) (ra,rb)) (n:=j) (by rw [hlen]; exact hlt3))
    have hbad:Sc es ((pr4 (qa,qb) (ra,rb))[j]'(by rw [hlen]; exact hlt3)).1 ((pr4 (qa,qb) (ra,rb))[j]'(by rw [hlen]; exact hlt3)).2=false->cl4 es (qa,qb) (ra,rb)=false:=fun hb=>by
     rw [cl4,List.all_eq_false]
     exact ⟨_,List.getElem_mem (l:=pr4 (qa,qb) (ra,rb)) (n:=j) (by rw [hlen]; exact hlt3),by rw [hb]; decide⟩
    rw [hA3,Bool.true_and] at hat3
    generalize hud:(pr4 (qa,qb) (ra,rb))[j]'(by rw [hlen]; exact hlt3)=u at *
    obtain ⟨ua,ub⟩:=u
    simp only at hu8 hbad hat3
    obtain ⟨hu1,hu2⟩:=hu8
    generalize pr4 (qa,qb) (ra,rb)=L4 at *
    simp only [edA] at hg3
    cases hr:Sc es ua ub with
    | true =>
     simp (config:={ maxSteps:=3000000 }) (disch:=first | assumption | omega) only [go_sem,↓reduceIte,f0,f4,f13,f14,f15,f23,f24,f25,f49,f50,f51,g4,hd3,hg3,Rt,A4t,hr]
     exact hP3 (4-(j+1)) _ (by omega) ⟨j+1,rfl,by omega,by simp only [go_sem,↓reduceIte,f0,f4,f13,f14,f15,f23,f24,f25,f49,f50],by simp only [go_sem,↓reduceIte,g4],by rw [hat3,hr]⟩
    | false =>
     simp (config:={ maxSteps:=3000000 }) (disch:=first | assumption | omega) only [go_sem,↓reduceIte,f0,f4,f13,f14,f15,f23,f24,f25,f49,f50,f51,g4,hd3,hg3,Rt,A4t,hr]
     exact hVk (hbad hr) _
   ·obtain rfl:j=4:=by omega
    have hd3:decide ((4:Int)<4)=false:=by decide
    rw [List.take_of_length_le (by rw [hlen]; exact Nat.le_refl _)] at hA3
    simp (disch:=first | assumption | omega) only [go_sem,↓reduceIte,f0,f4,f13,f14,f15,f23,f24,f25,f49,f50,f51,hd3]
    exact hP2 (es.length-(k+1)) _ (by omega) ⟨k+1,rfl,by omega,by simp only [go_sem,↓reduceIte,f0,f4,f13,f14,f15,f23,f24],by simp only [go_sem,↓reduceIte,g4],by rw [hat2]; exact hA3⟩
  ·obtain rfl:k=es.length:=by omega
   rw [List.take_length] at hA2
   simp (disch:=first | assumption | omega) only [go_sem,↓reduceIte,f0,f13,f14,f15,f23,f24,f25,hlt2]
   exact hP (es.length-(i+1)) _ (by omega) ⟨i+1,rfl,by omega,by simp only [go_sem,↓reduceIte,f0,f13,f14],by rw [hat]; exact hA2⟩
 ·obtain rfl:i=es.length:=by omega
  rw [List.take_length] at hA
  simp (disch:=first | assumption | omega) only [go_sem,↓reduceIte,f0,f13,f14,f15,hlt]
  refine hV _ _ ?_
  rw [Ou,hA]
  exact Dk _ _ _
end Go.Ev.YtgehhippjhealaaGreatC.P4
namespace Go.Ev.YtgehhippjhealaaGreatC
open Go.Proofs
def c109:IFunc:=⟨121,[],.block 0 (.loop (.seq (sO [mV 11 0,dO 12 (.nilCheck (tM 11)),dO 13 (.fieldAddr 2 (tM 12)),dO 14 (.load (some 8) (tM 13)),dO 15 (.build [.int .i64 0,.int .i64 0,.int .i64 0,.int .i64 0,.int .i64 0,.int .i64 0,.int .i64 0,.int .i64 0] []),dO 16 (.eqAgg 8 true (tM 14) (tM 15))] (.cond (tM 16) .skip (.exit 0))) (.block 1 (sO [mV 17 0,dO 18 (.nilCheck (tM 17)),dO 19 (.fieldAddr 0 (tM 18)),dO 20 (.fieldAddr 0 (tM 19)),lD 21 20,dO 22 (.mkSlice none [.int .i64 0] 8 (tM 21) (tM 21)),mV 2 22] (.seq (sO [mV 23 2,lN 24 23,dO 25 (.mv (cI 0))] (.block 2 (.loop (sO [bB 26 .lss 25 24] (.seq (.cond (tM 26) .skip (.exit 2)) (.seq (.block 3 (sO [mV 27 25,mV 3 27] (sO [mV 28 0,mV 29 3,dO 30 (.nilCheck (tM 28)),dO 31 (.fieldAddr 2 (tM 30)),dO 32 (.indexAddrA 8 1 (tM 31) (tM 29)),lD 33 32,bC 34 .geq 33 0] (.cond (tM 34) (.ops [mV 35 2,mV 36 3,iA 37 35 36,eO (.store 1 (tM 37) (cI 1000))]) .skip)))) (.ops [bC 38 .add 25 1,mV 25 38]))))))) (sO [mV 40 0,mV 41 2,dO 42 (.callF false 174 [tM 40,tM 41]),mV 39 42,xT 43 39 0,xT 44 39 1,mV 4 43,mV 5 44] (sO [dO 6 (.mv (cI 0)),dO 7 (.mv (cI 1000))] (.seq (sO [mV 45 4,lN 46 45,dO 47 (.mv (cI 0))] (.block 4 (.loop (sO [bB 48 .lss 47 46] (.seq (.cond (tM 48) .skip (.exit 4)) (.seq (.block 5 (sO [mV 49 47,iA 50 45 47,lD 51 50,mV 8 49,mV 9 51] (sO [mV 52 0,mV 53 8,dO 54 (.nilCheck (tM 52)),dO 55 (.fieldAddr 2 (tM 54)),dO 56 (.indexAddrA 8 1 (tM 55) (tM 53)),lD 57 56,bC 58 .gtr 57 0,mV 59 58,gV 60 9 59 true,gV 61 7 59 true,gO 62 (.bin .lss (tM 60) (tM 61)) 59 true,dO 63 (.pick (tM 59) (tM 62) (cB false))] (.cond (tM 63) (.ops [mV 64 8,mV 65 9,mV 6 64,mV 7 65]) .skip)))) (.ops [bC 66 .add 47 1,mV 47 66]))))))) (sO [mV 67 0,dO 68 (.mkFunc 175 [tM 67] []),mV 10 68] (.block 6 (.loop (.seq (sO [mV 69 5,mV 70 6,iA 71 69 70,lD 72 71,bC 73 .neq 72 0] (.cond (tM 73) .skip (.exit 6))) (.block 7 (.seq (sO [mV 74 5,mV 75 6,iA 76 74 75,lD 77 76,bC 78 .gtr 77 0] (.cond (tM 78) (sO [mV 79 10,mV 80 5,mV 81 6,iA 82 80 81,lD 83 82,bC 84 .sub 83 1,dO 85 (.call true (tM 79) [tM 84,cI 1])] (sO [mV 86 0,dO 87 (.nilCheck (tM 86)),dO 88 (.fieldAddr 0 (tM 87)),dO 89 (.fieldAddr 1 (tM 88)),lD 90 89,mV 91 5,mV 92 6,iA 93 91 92,lD 94 93,bC 95 .sub 94 1,dO 96 (.indexAddr 2 (tM 90) (tM 95)),dO 97 (.indexAddrA 2 1 (tM 96) (cI 0)),lD 98 97,mV 6 98] (.exit 7))) .skip)) (sO [mV 99 10,mV 100 5,mV 101 6,iA 102 100 101,lD 103 102,dO 104 (.un .neg (tM 103)),bC 105 .sub 104 1,dO 106 (.call true (tM 99) [tM 105,cI (-1)])] (.ops [mV 107 0,dO 108 (.nilCheck (tM 107)),dO 109 (.fieldAddr 0 (tM 108)),dO 110 (.fieldAddr 1 (tM 109)),lD 111 110,mV 112 5,mV 113 6,iA 114 112 113,lD 115 114,dO 116 (.un .neg (tM 115)),bC 117 .sub 116 1,dO 118 (.indexAddr 2 (tM 111) (tM 117)),dO 119 (.indexAddrA 2 1 (tM 118) (cI 1)),lD 120 119,mV 6 120]))))))))))))))))⟩
theorem k109:(Bt Tryz.prog byr).fns 109=some c109:=by kernel_rfl
theorem t109:T.fns 109=some c109:=Bw k109 (by decide) (by decide)
end Go.Ev.YtgehhippjhealaaGreatC
namespace Go.Ev.YtgehhippjhealaaGreatC.P4
open Go Go.Proofs Go.Ev
attribute [local irreducible] Res.all evC Dd Df Br Bh Dj Bd Bi G GO GV GP GC R
theorem B0d (N:Int) (sv:AV) (s:Nat->Int) (p:AV):(stC N sv s p)[10]? = some p:=by
 unfold stC
 rw [List.getElem?_cons_succ,List.getElem?_cons_succ,List.getElem?_append_right (by rw [Ge]; exact Nat.le_refl _),Ge]; rfl
theorem Awc (m:Nat):zer m=rwI m fun _=>0:=by
 unfold rwI srN zer
 rw [List.map_map]
 apply List.ext_getElem <;> simp
theorem Aps {N:Nat} {es:List Ed} (hk:OkB N es) {h0:Bc} (n:Nat) (hn:10<=n) {V:AV×Bc->Prop}
  (hV:∀h' ks kp c,Bb h' ks = .cells 0 (stC N (eds es) (sur es) (.oslice kp 0 none 0 es.length c))->Bb h' kp = .cells 0 (rwI es.length fun _=>0)->ks≠kp->h0.length<=ks->h0.length<=kp->(∀j,j<h0.length->Bb h' j=Bb h0 j)->V (.tuple [.optr ks 0 0,.int .i64 0],h')) :
  (Bd T n true (.fn 40) [.agg [.int .i64 N,eds es]] h0).all V:=by
 obtain ⟨n,rfl⟩:∃n',n=n'+1:=⟨n-1,by omega⟩
 rw [Dt t40]
 have b0:((0:Int) != 0)=false:=rfl
 have hck:∀{base:Nat} {Q:EX×St->Prop} {d:Option Nat} {L:List IOper} {ks:List Kont} {e:Env} {h:Bc},GP (Bd T n) base Q d L ks e (Bd T n false (.fn 98) [.agg [.int .i64 N,.slice (some 2) (es.map edA) false]] h)=GO (Bd T n) base Q L ks ⟨Bj e d (.int .i64 0),h⟩:=fun {base Q d L ks e h}=>by
  have:=Wm (bkN N es) (by have:=hk.le; simp [bkN]; omega)
  rw [Nu,Alr hk] at this
  exact Ey this (by omega) (Bv (Fv (Bn (Bl _ _ _ _) (Bn (Ds _ _ _ _ _) (Db _ _)))) (Bz _)) (Ga _ _ _)
 simp (disch:=first | assumption | omega) only [c40,go_sem,↓reduceIte,hck,b0]
 refine Ex (A0m N es (by have:=hk.le; omega) hk.lt8 (eds es) _ (.inl ⟨_,rfl⟩) (fun j hj=>by simp [Ea] at hj) n (by omega) fun v h' hp => ?_)
 obtain ⟨rfl,p1,p2,p3,p4⟩:=hp
 simp (disch:=first | assumption | omega) only [go_sem,↓reduceIte]
 have hll:∀o:AObj,(setH (h0++List.replicate 12 AObj.none) (h0.length+1) o).length=h0.length+12:=fun o=>by rw [Be,List.length_append,List.length_replicate]; omega
 rw [hll] at p1 p2 p3
 exact hV _ _ _ _ p1 (by rw [p2,Awc]) (by omega) (by omega) (by omega) fun j hj=>by
  rw [p3 j (by omega),Ba _ _ _ _ (by omega),Bg]
theorem Akk {N:Nat} {es:List Ed} {ks kp:Nat} {c:Option Nat} {h0:Bc} (hs:∀x,sur es x=0) (h1:Bb h0 ks = .cells 0 (stC N (eds es) (sur es) (.oslice kp 0 none 0 es.length c))) (h2:Bb h0 kp = .cells 0 (rwI es.length fun _=>0)) (n:Nat) (hn:1<=n) {V:AV×Bc->Prop}
  (hV:∀h',Bb h' ks = .cells 0 (stC N (eds es) (sur es) (.oslice kp 0 none 0 es.length c))->Bb h' kp = .cells 0 (rwI es.length fun _=>0)->V (.tuple [],h')) :
  (Bd T n true (.fn 109) [.optr ks 0 0] h0).all V:=by
 obtain ⟨n,rfl⟩:∃n',n=n'+1:=⟨n-1,by omega⟩
 rw [Dt t109]
 have hzb:zB (sur es)=true:=by
  rw [zB,List.all_eq_true]
  exact fun x _=>by simpa using hs x
 have bt:(true != true)=false:=rfl
 have g1:Bb (h0++List.replicate c109.ntmps .none) ks = .cells 0 (stC N (eds es) (sur es) (.oslice kp 0 none 0 es.length c)):=by rw [Bg,h1]
 have g2:Bb (h0++List.replicate c109.ntmps .none) kp = .cells 0 (rwI es.length fun _=>0):=by rw [Bg,h2]
 generalize h0++List.replicate c109.ntmps .none=h at *
 simp (disch:=first | assumption | omega) only [c109,go_sem,↓reduceIte]
 refine Kf fun _ => ?_
 simp (disch:=first | assumption | omega) only [go_sem,↓reduceIte,g1,Ql,Zx,eaA,Ge,A2z,hzb,bt,Gs,mapR]
 exact hV _ g1 g2
theorem B1i {h:Bc} {n ks kp:Nat} {c:Option Nat} {N:Int} {es:List Ed} {s P:Nat->Int} (g1:Bb h ks = .cells 0 (stC N (eds es) s (.oslice kp 0 none 0 es.length c))) (g2:Bb h kp = .cells 0 (rwI es.length P)):Bi h (n+3) (.optr ks 0 0) = .ret (stA N es s (Ej (srN es.length P))):=
 Dz g1 (A5j _ (Ds _ _ _ _ _) (Ii (l:=srN es.length P) g2 (by rw [srN_len])))
theorem Aip {N:Nat} {es:List Ed} (hk:OkB N es) (hs:∀x,sur es x=0) {h0:Bc} (n:Nat) (hn:12<=n) {V:AV×Bc->Prop}
  (hV1:Ou es=true->∀h' ks kp c,Bb h' ks = .cells 0 (stC N (eds es) (sur es) (.oslice kp 0 none 0 es.length c))->Bb h' kp = .cells 0 (rwI es.length fun _=>0)->V (.tuple [.optr ks 0 0,.int .i64 0],h')) (hV2:Ou es=false->∀h',V (.tuple [.nilptr,.int .i64 19],h')) :
  (Bd T n true (.fn 46) [.agg [.int .i64 N,eds es]] h0).all V:=by
 obtain ⟨n,rfl⟩:∃n',n=n'+1:=⟨n-1,by omega⟩
 rw [Dt t46]
 have b0:((0:Int) != 0)=false:=rfl
 simp (disch:=first | assumption | omega) only [c46,go_sem,↓reduceIte]
 refine Ex (Aps hk n (by omega) fun h' ks kp c g1 g2 hne _ _ _ => ?_)
 simp (disch:=first | assumption | omega) only [go_sem,↓reduceIte,b0]
 refine Do (Akm N es (sur es) (Ej (srN es.length fun _=>0)) hk.le20 hk.lt8) (by omega) (Bv (B1i g1 g2) (Bz _)) (Fn _ _) ?_
 cases hcl:Ou es with
 | true =>
  simp (disch:=first | assumption | omega) only [go_sem,↓reduceIte]
  refine Ex (Akk hs g1 g2 n (by omega) fun h2 q1 q2 => ?_)
  simp (disch:=first | assumption | omega) only [go_sem,↓reduceIte,Gs,mapR]
  exact hV1 hcl _ _ _ _ q1 q2
 | false =>
  simp (disch:=first | assumption | omega) only [go_sem,↓reduceIte,Gs,mapR]
  exact hV2 hcl _
theorem conF_Again0 {N:Nat} {es:List Ed} (hk:OkB N es) (hs:∀x,sur es x=0):ConF T 13 13 [bkA (bkN N es)] (if Ou es=true then .tuple [Ej (srN es.length fun _=>0),.int .i64 0] else .tuple [Ej [],.int .i64 19]):=by
 rw [Nu]
 refine Qd t13 fun n hn V hV => ?_
 have b0:((0:Int) != 0)=false:=rfl
 have b19:((19:Int) != 0)=true:=rfl
 simp (disch:=first | assumption | omega) only [c13,go_sem,↓reduceIte]
 refine Ex (Aip hk hs n (by omega) (fun hcl h' ks kp c g1 g2 => ?_) fun hcl h' => ?_)
 ·rw [if_pos hcl] at hV
  simp (disch:=first | assumption | omega) only [go_sem,↓reduceIte,b0,g1,B0d]
  exact hV _ _ (Ff (Ii (l:=srN es.length fun _=>0) g2 (by rw [srN_len])) (Bl _ _ _ _)) (Yh (Xt (l:=srN es.length fun _=>0) g2) (Zt _ _ _ _))
 ·rw [if_neg (by rw [hcl]; decide)] at hV
  simp (disch:=first | assumption | omega) only [go_sem,↓reduceIte,b19]
  exact hV _ _ (Ff (Ds _ _ _ _ _) (Bl _ _ _ _)) (Yh rfl (Zt _ _ _ _))
end Go.Ev.YtgehhippjhealaaGreatC.P4
