/- Determinants of tables of whole numbers, by the first column: sums, exchanges, equal rows and columns, rows that stand alone. A part of the proof. No condition but those that stand in each. -/
import Derived.Test.YtgehhippjhealaaGreatDTopCix
set_option linter.unusedSimpArgs false
set_option linter.unusedVariables false
namespace Go.Ev
abbrev Rw:=Nat->Int
def exD (φ:Rw->Int) (g:List Rw->Int):List Rw->Int
 | []=>0
 | r::rs=>φ r*g rs-exD φ (fun l=>g (r::l)) rs
def det:List Nat->List Rw->Int
 | []=>fun _=>1
 | c::cs=>exD (fun r=>r c) (det cs)
theorem Lm {φ:Rw->Int}:∀{rs:List Rw} {g g':List Rw->Int},(∀l,l.length+1=rs.length->g l=g' l)->exD φ g rs=exD φ g' rs
 | [],_,_,_=>rfl
 | r::rs,g,g',h=>by
  simp only [exD]
  rw [h rs rfl,Lm (rs:=rs) (g:=fun l=>g (r::l)) (g':=fun l=>g' (r::l)) fun l hl=>h (r::l) (by simp [hl])]
theorem Ahr {φ ψ:Rw->Int}:∀{rs:List Rw} {g:List Rw->Int},(∀r∈rs,φ r=ψ r)->exD φ g rs=exD ψ g rs
 | [],_,_=>rfl
 | r::rs,g,h=>by
  simp only [exD]
  rw [h r List.mem_cons_self,Ahr fun x hx=>h x (List.mem_cons_of_mem _ hx)]
theorem Ju {φ:Rw->Int}:∀{rs:List Rw} {g:List Rw->Int},(∀r∈rs,φ r=0)->exD φ g rs=0
 | [],_,_=>rfl
 | r::rs,g,h=>by
  simp only [exD]
  rw [h r List.mem_cons_self,Ju fun x hx=>h x (List.mem_cons_of_mem _ hx)]
  simp
theorem Kb {φ:Rw->Int}:∀(rs:List Rw),exD φ (fun _=>0) rs=0
 | []=>rfl
 | r::rs=>by simp only [exD]; rw [Kb rs]; simp
theorem A0z {φ ψ:Rw->Int}:∀{rs:List Rw} {g:List Rw->Int},exD (fun r=>φ r+ψ r) g rs=exD φ g rs+exD ψ g rs
 | [],_=>rfl
 | r::rs,g=>by simp only [exD]; rw [A0z,Int.add_mul]; omega
theorem Zc {φ:Rw->Int} {a:Int}:∀{rs:List Rw} {g:List Rw->Int},exD (fun r=>a*φ r) g rs=a*exD φ g rs
 | [],_=>by simp [exD]
 | r::rs,g=>by simp only [exD]; rw [Zc,Int.mul_sub,Int.mul_assoc]
theorem Za {φ:Rw->Int}:∀{rs:List Rw} {g g':List Rw->Int},exD φ (fun l=>g l-g' l) rs=exD φ g rs-exD φ g' rs
 | [],_,_=>rfl
 | r::rs,g,g'=>by simp only [exD]; rw [Za (g:=fun l=>g (r::l)),Int.mul_sub]; omega
theorem Xp {φ:Rw->Int}:∀{rs:List Rw} {g g':List Rw->Int},exD φ (fun l=>g l+g' l) rs=exD φ g rs+exD φ g' rs
 | [],_,_=>rfl
 | r::rs,g,g'=>by simp only [exD]; rw [Xp (g:=fun l=>g (r::l)),Int.mul_add]; omega
theorem Mk {φ:Rw->Int} {a:Int}:∀{rs:List Rw} {g:List Rw->Int},exD φ (fun l=>a*g l) rs=a*exD φ g rs
 | [],_=>by simp [exD]
 | r::rs,g=>by simp only [exD]; rw [Mk (g:=fun l=>g (r::l)),Int.mul_sub,Int.mul_left_comm]
theorem Acc (φ ψ:Rw->Int):∀(rs:List Rw) (g:List Rw->Int),exD φ (exD ψ g) rs+exD ψ (exD φ g) rs=0
 | [],_=>rfl
 | r::rs,g=>by
  have ih:=Acc φ ψ rs fun l=>g (r::l)
  have e1:exD φ (fun l=>exD ψ g (r::l)) rs=ψ r*exD φ g rs-exD φ (exD ψ fun l=>g (r::l)) rs:=by
   simp only [exD]
   rw [Za (g:=fun l=>ψ r*g l),Mk]
  have e2:exD ψ (fun l=>exD φ g (r::l)) rs=φ r*exD ψ g rs-exD ψ (exD φ fun l=>g (r::l)) rs:=by
   simp only [exD]
   rw [Za (g:=fun l=>φ r*g l),Mk]
  have e3:exD φ (exD ψ g) (r::rs)=φ r*exD ψ g rs-exD φ (fun l=>exD ψ g (r::l)) rs:=rfl
  have e4:exD ψ (exD φ g) (r::rs)=ψ r*exD φ g rs-exD ψ (fun l=>exD φ g (r::l)) rs:=rfl
  rw [e3,e4,e1,e2]
  omega
theorem Rr (c d:Nat) (cs:List Nat) (rs:List Rw):det (c::d::cs) rs = - det (d::c::cs) rs:=by
 have:=Acc (fun r=>r c) (fun r=>r d) rs (det cs)
 simp only [det]
 omega
theorem Qt (j:Nat):∀(cs:List Nat),j∈cs->∀rs,det (j::cs) rs=0
 | d::cs,h,rs=>by
  by_cases hd:j=d
  ·subst hd
   have:=Rr j j cs rs
   omega
  ·have hj:j∈cs:=by simpa [hd] using h
   rw [Rr]
   have h0:det (j::cs)=fun _=>0:=funext fun rs=>Qt j cs hj rs
   simp only [det] at h0 ⊢
   rw [h0,Kb]
   rfl
def sgn:Nat->Int
 | 0=>1
 | n+1 => - sgn n
theorem Yd:∀n,sgn n*sgn n=1
 | 0=>rfl
 | n+1=>by simp only [sgn]; rw [Int.neg_mul_neg]; exact Yd n
theorem Ia (c:Nat) (post:List Nat):∀(pre:List Nat) (rs:List Rw),det (pre++c::post) rs=sgn pre.length*det (c::(pre++post)) rs
 | [],rs=>by simp [sgn]
 | d::pre,rs=>by
  have h0:det (pre++c::post)=fun rs=>sgn pre.length*det (c::(pre++post)) rs:=funext fun rs=>Ia c post pre rs
  have h1:det (d::(pre++c::post)) rs=exD (fun r=>r d) (det (pre++c::post)) rs:=rfl
  rw [List.cons_append,h1,h0,Mk]
  have h2:exD (fun r=>r d) (fun rs=>det (c::(pre++post)) rs) rs=det (d::c::(pre++post)) rs:=rfl
  rw [h2,Rr]
  simp only [List.length_cons,sgn,List.cons_append]
  rw [Int.neg_mul,Int.mul_neg]
theorem A3p {φ:Rw->Int} {a:Int} {x y z:Rw} (hφ:φ z=φ x+a*φ y):∀(pre post:List Rw) (g:List Rw->Int),
  (∀pre' post',pre'.length+post'.length+1=pre.length+post.length->g (pre'++z::post')=g (pre'++x::post')+a*g (pre'++y::post'))->
  exD φ g (pre++z::post)=exD φ g (pre++x::post)+a*exD φ g (pre++y::post)
 | [],post,g,hg=>by
  simp only [List.nil_append,exD]
  have h1:exD φ (fun l=>g (z::l)) post=exD φ (fun l=>g (x::l)+a*g (y::l)) post:=Lm fun l hl=>by
   have:=hg [] l (by simp; omega)
   simpa using this
  rw [h1,Xp (g:=fun l=>g (x::l)),Mk (g:=fun l=>g (y::l)),hφ,Int.add_mul,Int.mul_sub,Int.mul_assoc]
  omega
 | p::pre,post,g,hg=>by
  simp only [List.cons_append,exD]
  have ih:=A3p hφ pre post (fun l=>g (p::l)) fun pre' post' h=>by
   have:=hg (p::pre') post' (by simp only [List.length_cons]; omega)
   simpa using this
  rw [ih,hg pre post (by simp only [List.length_cons]; omega),Int.mul_add,Int.mul_sub,Int.mul_left_comm]
  omega
theorem Mu (a:Int) (x y z:Rw):∀(cs:List Nat) (pre post:List Rw),(∀c∈cs,z c=x c+a*y c)->pre.length+post.length+1=cs.length->det cs (pre++z::post)=det cs (pre++x::post)+a*det cs (pre++y::post)
 | [],pre,post,_,hl=>by simp at hl
 | c::cs,pre,post,hz,hl=>by
  simp only [det]
  refine A3p (hz c List.mem_cons_self) pre post (det cs) fun pre' post' h => ?_
  exact Mu a x y z cs pre' post' (fun c hc=>hz c (List.mem_cons_of_mem _ hc)) (by simp only [List.length_cons] at hl; omega)
theorem Ik {x:Rw} {cs:List Nat} {pre post:List Rw} (hx:∀c∈cs,x c=0) (hl:pre.length+post.length+1=cs.length):det cs (pre++x::post)=0:=by
 have:=Mu 1 x x x cs pre post (fun c hc=>by rw [hx c hc]; rfl) hl
 omega
theorem A8l {x y:Rw} {cs:List Nat} {pre post:List Rw} (hx:∀c∈cs,x c=y c) (hl:pre.length+post.length+1=cs.length):det cs (pre++x::post)=det cs (pre++y::post):=by
 have h1:=Mu 0 y y x cs pre post (fun c hc=>by rw [hx c hc]; omega) hl
 omega
theorem A1d {φ:Rw->Int} {x y:Rw}:∀(pre post:List Rw) (g:List Rw->Int),
  (∀pre' post',pre'.length+post'.length+1=pre.length+post.length->g (pre'++x::y::post')+g (pre'++y::x::post')=0)->
  exD φ g (pre++x::y::post)+exD φ g (pre++y::x::post)=0
 | [],post,g,hg=>by
  simp only [List.nil_append,exD]
  have h1:exD φ (fun l=>g (x::y::l)+g (y::x::l)) post=exD φ (fun _=>0) post:=Lm fun l hl=>by
   have:=hg [] l (by simp; omega)
   simpa using this
  rw [Xp (g:=fun l=>g (x::y::l)),Kb] at h1
  omega
 | p::pre,post,g,hg=>by
  simp only [List.cons_append,exD]
  have ih:=A1d (φ:=φ) pre post (fun l=>g (p::l)) fun pre' post' h=>by
   have:=hg (p::pre') post' (by simp only [List.length_cons]; omega)
   simpa using this
  have h2:=hg pre post (by simp only [List.length_cons]; omega)
  have h3:φ p*g (pre++x::y::post)+φ p*g (pre++y::x::post)=0:=by rw [<-Int.mul_add,h2,Int.mul_zero]
  omega
theorem Nt (x y:Rw):∀(cs:List Nat) (pre post:List Rw),pre.length+post.length+2=cs.length->det cs (pre++x::y::post)+det cs (pre++y::x::post)=0
 | [],pre,post,hl=>by simp at hl
 | c::cs,pre,post,hl=>by
  simp only [det]
  refine A1d pre post (det cs) fun pre' post' h => ?_
  simp only [List.length_cons] at hl
  exact Nt x y cs pre' post' (by omega)
theorem Ie (x:Rw) (cs:List Nat):∀(mid pre post:List Rw),pre.length+mid.length+post.length+2=cs.length->det cs (pre++x::(mid++x::post))=0
 | [],pre,post,hl=>by
  have:=Nt x x cs pre post (by simp at hl; omega)
  simp only [List.nil_append]
  omega
 | m::mid,pre,post,hl=>by
  simp only [List.length_cons] at hl
  have h1:=Nt x m cs pre (mid++x::post) (by simp; omega)
  have h2:=Ie x cs mid (pre++[m]) post (by simp; omega)
  simp only [List.append_assoc,List.singleton_append,List.cons_append,List.nil_append] at h2 ⊢
  omega
theorem Sb (x:Rw) (cs:List Nat):∀(pre acc post:List Rw),acc.length+pre.length+post.length+1=cs.length->det cs (acc++(pre++x::post))=sgn pre.length*det cs (acc++x::(pre++post))
 | [],acc,post,_=>by simp [sgn]
 | p::pre,acc,post,hl=>by
  simp only [List.length_cons] at hl
  have h1:=Nt p x cs acc (pre++post) (by simp; omega)
  have h2:=Sb x cs pre (acc++[p]) post (by simp; omega)
  simp only [List.append_assoc,List.singleton_append] at h2
  simp only [List.cons_append,List.length_cons,sgn]
  rw [h2,Int.neg_mul,<-Int.mul_neg]
  congr 1
  omega
theorem Ra (x:Rw) (cs:List Nat) (pre post:List Rw) (hl:pre.length+post.length+1=cs.length):det cs (pre++x::post)=sgn pre.length*det cs (x::(pre++post)):=
 Sb x cs pre [] post (by simp; omega)
theorem Abv {cs:List Nat} {c:Nat} (hc:c∈cs) {rs:List Rw} (h:∀r∈rs,r c=0):det cs rs=0:=by
 obtain ⟨pre,post,rfl⟩:=List.append_of_mem hc
 rw [Ia]
 simp only [det]
 rw [Ju h,Int.mul_zero]
theorem Xv {c:Nat} {pc qc:List Nat} {x:Rw} {pr qr:List Rw} (hl:pr.length=pc.length) (hl2:qr.length=qc.length) (h:∀r∈pr++qr,r c=0):det (pc++c::qc) (pr++x::qr)=x c*det (pc++qc) (pr++qr):=by
 rw [Ia,Ra _ _ _ _ (by simp; omega),<-Int.mul_assoc,hl,Yd,Int.one_mul]
 have:det (c::(pc++qc)) (x::(pr++qr))=x c*det (pc++qc) (pr++qr)-exD (fun r=>r c) (fun l=>det (pc++qc) (x::l)) (pr++qr):=rfl
 rw [this,Ju h]
 omega
abbrev Ed:=Nat×Nat
def sp (f:Ed->List Ed->Int):List Ed->Int
 | []=>0
 | x::l=>f x l+sp (fun y k=>f y (x::k)) l
theorem Hv:∀{R:List Ed} {f g:Ed->List Ed->Int},(∀x l,(x::l).Perm R->f x l=g x l)->sp f R=sp g R
 | [],_,_,_=>rfl
 | z::R,f,g,h=>by
  simp only [sp]
  rw [h z R (.refl _),Hv (R:=R) (f:=fun y k=>f y (z::k)) (g:=fun y k=>g y (z::k)) fun y k hk=>h y (z::k) ((List.Perm.swap z y k).trans (hk.cons z))]
theorem Yn:∀{R:List Ed} {f g:Ed->List Ed->Int},sp (fun x l=>f x l+g x l) R=sp f R+sp g R
 | [],_,_=>rfl
 | z::R,f,g=>by simp only [sp]; rw [Yn (R:=R) (f:=fun y k=>f y (z::k))]; omega
theorem Ua:∀(R:List Ed),sp (fun _ _=>0) R=0
 | []=>rfl
 | z::R=>by simp only [sp]; rw [Ua R]; rfl
theorem Agx:∀(R:List Ed) (h:Ed->Ed->List Ed->Int),sp (fun x l=>sp (fun y k=>h x y k) l) R=sp (fun y l=>sp (fun x k=>h x y k) l) R
 | [],_=>rfl
 | z::R,h=>by
  have ih:=Agx R fun x y k=>h x y (z::k)
  have e1:sp (fun x l=>sp (fun y k=>h x y k) (z::l)) R=sp (fun x l=>h x z l) R+sp (fun x l=>sp (fun y k=>h x y (z::k)) l) R:=by
   rw [<-Yn]; rfl
  have e2:sp (fun y l=>sp (fun x k=>h x y k) (z::l)) R=sp (fun y l=>h z y l) R+sp (fun y l=>sp (fun x k=>h x y (z::k)) l) R:=by
   rw [<-Yn]; rfl
  have e3:sp (fun x l=>sp (fun y k=>h x y k) l) (z::R)=sp (fun y k=>h z y k) R+sp (fun x l=>sp (fun y k=>h x y k) (z::l)) R:=rfl
  have e4:sp (fun y l=>sp (fun x k=>h x y k) l) (z::R)=sp (fun x k=>h x z k) R+sp (fun y l=>sp (fun x k=>h x y k) (z::l)) R:=rfl
  rw [e3,e4,e1,e2,ih]
  omega
theorem Axs {R R':List Ed} (hp:R.Perm R'):∀{f:Ed->List Ed->Int},(∀x l l',l.Perm l'->f x l=f x l')->sp f R=sp f R':=by
 induction hp with
 | nil=>intro f _; rfl
 | cons x h ih =>
  intro f hf
  simp only [sp]
  rw [hf x _ _ h,ih fun y l l' hl=>hf y _ _ (hl.cons x)]
 | swap x y l =>
  intro f hf
  simp only [sp]
  have:sp (fun z k=>f z (y::x::k)) l=sp (fun z k=>f z (x::y::k)) l:=Hv fun z k _=>hf z _ _ (List.Perm.swap x y k)
  rw [this]
  omega
 | trans _ _ ih1 ih2=>intro f hf; rw [ih1 hf,ih2 hf]
def trl (r:Nat):Nat->List Ed->Nat->Int
 | 0,_,a=>if a=r then 1 else 0
 | n+1,R,a=>sp (fun g k=>if g.1=a then trl r n k g.2 else 0) R
theorem Abq (r:Nat):∀(n:Nat) {R R':List Ed} (a:Nat),R.Perm R'->trl r n R a=trl r n R' a
 | 0,_,_,_,_=>rfl
 | n+1,R,R',a,hp=>by
  simp only [trl]
  refine Axs hp fun x l l' hl => ?_
  split
  ·exact Abq r n _ hl
  ·rfl
theorem A8g {r u v:Nat} (hv:v≠r):∀(n:Nat) (R:List Ed) (a:Nat),R.length=n->trl r (n+1) ((u,v)::R) a=sp (fun f k=>if f.1=v then trl r n ((u,f.2)::k) a else 0) R
 | 0,R,a,hl=>by
  obtain rfl:R=[]:=List.length_eq_zero_iff.1 hl
  simp only [trl,sp]
  split <;> simp [hv]
 | n+1,R,a,hl=>by
  have h1:trl r (n+1+1) ((u,v)::R) a=(if u=a then trl r (n+1) R v else 0)+sp (fun g k=>if g.1=a then trl r (n+1) ((u,v)::k) g.2 else 0) R:=rfl
  have h2:sp (fun g k=>if g.1=a then trl r (n+1) ((u,v)::k) g.2 else 0) R=sp (fun g k=>sp (fun f k'=>if g.1=a then (if f.1=v then trl r n ((u,f.2)::k') g.2 else 0) else 0) k) R:=Hv fun g k hk=>by
   have hkl:k.length=n:=by have:=hk.length_eq; simp at this; omega
   split
   ·rw [A8g hv n k g.2 hkl]
   ·rw [Ua]
  have h3:sp (fun f k=>if f.1=v then trl r (n+1) ((u,f.2)::k) a else 0) R=sp (fun f k=>(if u=a then (if f.1=v then trl r n k f.2 else 0) else 0)+sp (fun g k'=>if g.1=a then (if f.1=v then trl r n ((u,f.2)::k') g.2 else 0) else 0) k) R:=Hv fun f k _=>by
   by_cases hf:f.1=v
   ·simp only [if_pos hf]
    have:trl r (n+1) ((u,f.2)::k) a=(if u=a then trl r n k f.2 else 0)+sp (fun g k'=>if g.1=a then trl r n ((u,f.2)::k') g.2 else 0) k:=rfl
    rw [this]
   ·simp only [if_neg hf]
    have:sp (fun g k'=>if g.1=a then (0:Int) else 0) k=sp (fun _ _=>0) k:=Hv fun _ _ _=>by split <;> rfl
    rw [this,Ua]
    split <;> rfl
  rw [h1,h2,h3,Yn,Agx R fun g f k'=>if g.1=a then (if f.1=v then trl r n ((u,f.2)::k') g.2 else 0) else 0]
  congr 1
  by_cases hu:u=a
  ·simp only [if_pos hu]
   rfl
  ·simp only [if_neg hu]
   rw [Ua]
def od (R:List Ed) (v:Nat):Nat:=R.countP fun e=>e.1==v
def idg (R:List Ed) (v:Nat):Nat:=R.countP fun e=>e.2==v
def dl (a c:Nat):Int:=if a=c then 1 else 0
def lap:List Ed->Nat->Rw
 | [],_=>fun _=>0
 | e::R,v=>fun c=>(if e.1=v then dl v c-dl e.2 c else 0)+lap R v c
def aR (R:List Ed) (v:Nat):Rw:=fun c=>lap R v c+if od R v=0 then dl v c else 0
theorem Jg {R R':List Ed} (h:R.Perm R') (v:Nat):od R v=od R' v:=h.countP_eq _
theorem Nc {R R':List Ed} (h:R.Perm R') (v:Nat):idg R v=idg R' v:=h.countP_eq _
theorem A2x {R R':List Ed} (h:R.Perm R') (v c:Nat):lap R v c=lap R' v c:=by
 induction h with
 | nil=>rfl
 | cons x _ ih=>simp only [lap,ih]
 | swap x y l=>simp only [lap]; omega
 | trans _ _ ih1 ih2=>rw [ih1,ih2]
theorem Ayi {R R':List Ed} (h:R.Perm R') (v:Nat):aR R v=aR R' v:=by
 funext c
 simp only [aR,A2x h,Jg h]
theorem Fu (e:Ed) (R:List Ed) (v:Nat):od (e::R) v=od R v+if e.1=v then 1 else 0:=by
 simp only [od,List.countP_cons,beq_iff_eq]
theorem Jx (e:Ed) (R:List Ed) (v:Nat):idg (e::R) v=idg R v+if e.2=v then 1 else 0:=by
 simp only [idg,List.countP_cons,beq_iff_eq]
def dV (V:List Nat) (A:Nat->Rw):Int:=det V (V.map A)
def upd (A:Nat->Rw) (v:Nat) (x:Rw):Nat->Rw:=fun y=>if y=v then x else A y
theorem A0e {V:List Nat} {A:Nat->Rw} {v:Nat} {x:Rw} (h:v∉V):V.map (upd A v x)=V.map A:=by
 apply List.map_congr_left
 intro y hy
 unfold upd
 exact if_neg fun (e:y=v)=>h (by rw [<-e]; exact hy)
theorem A2a {V:List Nat} (hn:V.Nodup) {v:Nat} (hv:v∈V) (A:Nat->Rw):∃pre post,V=pre++v::post/\∀x,dV V (upd A v x)=det V (pre.map A++x::post.map A):=by
 obtain ⟨pre,post,rfl⟩:=List.append_of_mem hv
 rw [List.nodup_append] at hn
 obtain ⟨_,n2,n3⟩:=hn
 refine ⟨pre,post,rfl,fun x => ?_⟩
 unfold dV
 rw [List.map_append,List.map_cons,A0e (fun h=>n3 _ h _ List.mem_cons_self rfl),A0e (List.nodup_cons.1 n2).1]
 simp [upd]
theorem Uc {V:List Nat} (hn:V.Nodup) {v:Nat} (hv:v∈V) (A:Nat->Rw) (a:Int) {x y z:Rw} (h:∀c∈V,z c=x c+a*y c):dV V (upd A v z)=dV V (upd A v x)+a*dV V (upd A v y):=by
 obtain ⟨pre,post,hV,h1⟩:=A2a hn hv A
 rw [h1,h1,h1]
 refine Mu a x y z V _ _ h ?_
 rw [hV]; simp; omega
theorem A4b {A B:Nat->Rw} (cs:List Nat):∀(l:List Nat) (pre:List Rw),pre.length+l.length=cs.length->(∀x∈l,∀c∈cs,A x c=B x c)->det cs (pre++l.map A)=det cs (pre++l.map B)
 | [],_,_,_=>rfl
 | x::l,pre,hl,h=>by
  simp only [List.length_cons] at hl
  rw [List.map_cons,List.map_cons,A8l (h x List.mem_cons_self) (by simp; omega)]
  have:=A4b cs l (pre++[B x]) (by simp; omega) fun y hy=>h y (List.mem_cons_of_mem _ hy)
  simpa using this
theorem Er {V:List Nat} {A B:Nat->Rw} (h:∀x∈V,∀c∈V,A x c=B x c):dV V A=dV V B:=A4b V V [] (by simp) h
theorem Agt {V:List Nat} (hn:V.Nodup) {u v:Nat} (hu:u∈V) (hv:v∈V) (huv:u≠v) {A:Nat->Rw} (h:∀c∈V,A u c=A v c):dV V A=0:=by
 have h0:dV V A=dV V (upd A v (A u)):=Er fun x _ c hc=>by
  unfold upd
  split
  ·next he=>rw [he,h c hc]
  ·rfl
 rw [h0]
 obtain ⟨pre,post,hV,h1⟩:=A2a hn hv A
 rw [h1]
 have hmem:u∈pre\/u∈post:=by
  rw [hV] at hu
  simpa [huv] using hu
 rcases hmem with hm | hm
 ·obtain ⟨p1,p2,rfl⟩:=List.append_of_mem hm
  have:=Ie (A u) V (p2.map A) (p1.map A) (post.map A) (by rw [hV]; simp; omega)
  simpa using this
 ·obtain ⟨p1,p2,rfl⟩:=List.append_of_mem hm
  have:=Ie (A u) V (p1.map A) (pre.map A) (p2.map A) (by rw [hV]; simp; omega)
  simpa using this
theorem Afo {V:List Nat} (hn:V.Nodup) {v:Nat} (hv:v∈V) {A:Nat->Rw} (h:∀c∈V,A v c=0):dV V A=0:=by
 have h0:dV V A=dV V (upd A v (A v)):=Er fun x _ c _=>by
  unfold upd
  split
  ·next he=>rw [he]
  ·rfl
 obtain ⟨pre,post,hV,h1⟩:=A2a hn hv A
 rw [h0,h1]
 exact Ik h (by rw [hV]; simp; omega)
theorem A1b {V:List Nat} {v:Nat} (hv:v∈V) {A:Nat->Rw} (h:∀x∈V,A x v=0):dV V A=0:=Abv hv fun r hr=>by
 obtain ⟨x,hx,rfl⟩:=List.mem_map.1 hr
 exact h x hx
def Fs:Nat->Int
 | 0=>1
 | n+1=>(n+1:Nat)*Fs n
def Ep (R:List Ed):List Nat->Int
 | []=>1
 | v::V=>Fs (od R v-1)*Ep R V
def fF (a:Nat) (V:List Nat) (R:List Ed):Int:=Fs (od R a-1)*Ep R V*dV V (aR R)
theorem Sa {R R':List Ed}:∀{V:List Nat},(∀x∈V,od R x=od R' x)->Ep R V=Ep R' V
 | [],_=>rfl
 | v::V,h=>by simp only [Ep]; rw [h v List.mem_cons_self,Sa fun x hx=>h x (List.mem_cons_of_mem _ hx)]
theorem A5k {a:Nat} {V:List Nat} {R R':List Ed} (h:R.Perm R'):fF a V R=fF a V R':=by
 unfold fF
 rw [Jg h,Sa fun x _=>Jg h x,Er fun x _ c _=>by rw [Ayi h]]
theorem Acj {R R':List Ed} {v:Nat} (hv:od R v=od R' v+1) (ho:∀x,x≠v->od R x=od R' x):∀{V:List Nat},V.Nodup->v∈V->(od R' v=0->Ep R V=Ep R' V)/\(0<od R' v->Ep R V=(od R' v:Nat)*Ep R' V)
 | x::V,hn,hm=>by
  rw [List.nodup_cons] at hn
  simp only [Ep]
  by_cases hx:x=v
  ·subst hx
   have h1:Ep R V=Ep R' V:=Sa fun y hy=>ho y fun e=>hn.1 (e ▸ hy)
   rw [h1,hv]
   refine ⟨fun h0=>by rw [h0],fun h0 => ?_⟩
   obtain ⟨k,hk⟩:∃k,od R' x=k+1:=⟨od R' x-1,by omega⟩
   rw [hk]
   simp only [Nat.add_sub_cancel,Fs]
   rw [Int.mul_assoc]
  ·have hm':v∈V:=(List.mem_cons.1 hm).resolve_left fun e=>hx e.symm
   have ih:=Acj hv ho hn.2 hm'
   rw [ho x hx]
   refine ⟨fun h0=>by rw [ih.1 h0],fun h0=>by rw [ih.2 h0,Int.mul_left_comm]⟩
def Fi:List Ed->(Ed->Int)->Int
 | [],_=>0
 | e::R,f=>f e+Fi R f
theorem A3d (h:Ed->Int):∀R:List Ed,sp (fun f _=>h f) R=Fi R h
 | []=>rfl
 | z::R=>by simp only [sp,Fi]; rw [A3d h R]
theorem A4f {R:List Ed} {f g:Ed->Int} (h:∀e∈R,f e=g e):Fi R f=Fi R g:=by
 induction R with
 | nil=>rfl
 | cons a r ih=>simp only [Fi,h a List.mem_cons_self,ih fun t ht=>h t (List.mem_cons_of_mem _ ht)]
theorem A9z (c:Int) (f:Ed->Int):∀R,Fi R (fun e=>c*f e)=c*Fi R f
 | []=>by simp [Fi]
 | e::R=>by simp only [Fi]; rw [A9z c f R,Int.mul_add]
theorem Nd (c:Int) (v:Nat):∀R,Fi R (fun e=>if e.1=v then c else 0)=(od R v:Nat)*c
 | []=>by simp [Fi,od]
 | e::R=>by
  simp only [Fi]
  rw [Nd c v R,Fu]
  split
  ·rw [Int.natCast_add,Int.add_mul]; simp; omega
  ·simp
theorem A3c {V:List Nat} (Tm:Rw->Int) (h0:Tm (fun _=>0)=0) (ha:∀x y z:Rw,(∀c∈V,z c=x c+y c)->Tm z=Tm x+Tm y) (v:Nat):∀R:List Ed,Fi R (fun e=>if e.1=v then Tm (fun c=>dl v c-dl e.2 c) else 0)=Tm (lap R v)
 | []=>by simp only [Fi,lap]; exact h0.symm
 | e::R=>by
  simp only [Fi]
  rw [A3c Tm h0 ha v R]
  by_cases he:e.1=v
  ·rw [if_pos he]
   exact (ha _ _ _ fun c _=>by simp only [lap,if_pos he]).symm
  ·rw [if_neg he,Int.zero_add]
   have:=ha (lap R v) (fun _=>0) (lap (e::R) v) fun c _=>by simp only [lap,if_neg he]; omega
   rw [this,h0,Int.add_zero]
theorem Ll (a:Nat):dl a a=1:=if_pos rfl
theorem Hf {a b:Nat} (h:a≠b):dl a b=0:=if_neg h
theorem Zv {v x:Nat} (hx:x≠v):∀R:List Ed,(∀e∈R,e.1=x->e.2≠v)->lap R x v=0
 | [],_=>rfl
 | e::R,h=>by
  simp only [lap]
  rw [Zv hx R fun f hf=>h f (List.mem_cons_of_mem _ hf)]
  split
  ·next he=>rw [Hf hx,Hf (h e List.mem_cons_self he)]; rfl
  ·rfl
theorem Jo {v:Nat}:∀{R:List Ed},od R v=0->∀c,lap R v c=0
 | [],_,_=>rfl
 | e::R,h,c=>by
  rw [Fu] at h
  by_cases he:e.1=v
  ·rw [if_pos he] at h; omega
  ·rw [if_neg he] at h
   simp only [lap,if_neg he]
   rw [Jo (by omega)]; rfl
theorem A4w {u v w:Nat} {Q k:List Ed} (hp:((v,w)::k).Perm Q) (x:Nat):od ((u,v)::Q) x=od ((u,w)::k) x+if v=x then 1 else 0:=by
 rw [Fu,Fu,<-Jg hp x,Fu]
 simp only
 omega
theorem Aqj {u v w:Nat} {Q k:List Ed} (hp:((v,w)::k).Perm Q) (x c:Nat):lap ((u,w)::k) x c=lap ((u,v)::Q) x c-(if v=x then dl v c-dl w c else 0)+(if u=x then dl v c-dl w c else 0):=by
 have h:lap Q x c=(if v=x then dl x c-dl w c else 0)+lap k x c:=by rw [<-A2x hp x c]; rfl
 simp only [lap]
 rw [h]
 by_cases h1:u=x
 ·subst h1
  by_cases h2:v=u
  ·subst h2; simp
  ·simp [h2]; omega
 ·by_cases h2:v=x
  ·subst h2; simp [h1]; omega
  ·simp [h1,h2]
def D2 (V:List Nat) (A:Nat->Rw) (v u:Nat) (x y:Rw):Int:=dV V (upd (upd A v x) u y)
theorem Kh {V:List Nat} (hn:V.Nodup) {u v:Nat} (hu:u∈V) (A:Nat->Rw) (x:Rw) (a:Int) {y y' z:Rw} (h:∀c∈V,z c=y c+a*y' c):D2 V A v u x z=D2 V A v u x y+a*D2 V A v u x y':=Uc hn hu (upd A v x) a h
theorem A5b {V:List Nat} {u v:Nat} (huv:u≠v) (A:Nat->Rw) (x y:Rw):D2 V A v u x y=dV V (upd (upd A u y) v x):=Er fun z _ c _=>by
 unfold upd
 by_cases h1:z=u
 ·subst h1; simp [huv]
 ·simp [h1]
theorem Nk {V:List Nat} (hn:V.Nodup) {u v:Nat} (hv:v∈V) (huv:u≠v) (A:Nat->Rw) (y:Rw) (a:Int) {x x' z:Rw} (h:∀c∈V,z c=x c+a*x' c):D2 V A v u z y=D2 V A v u x y+a*D2 V A v u x' y:=by
 rw [A5b huv,A5b huv,A5b huv]
 exact Uc hn hv (upd A u y) a h
theorem Qi {V:List Nat} (hn:V.Nodup) {u v:Nat} (hu:u∈V) (hv:v∈V) (huv:u≠v) (A:Nat->Rw) (x:Rw):D2 V A v u x x=0:=Agt hn hu hv huv fun c _=>by
 unfold upd
 rw [if_pos rfl,if_neg (fun e=>huv e.symm),if_pos rfl]
theorem A5c (V:List Nat) (u v:Nat) (A:Nat->Rw):D2 V A v u (A v) (A u)=dV V A:=Er fun z _ c _=>by
 unfold upd
 split
 ·next h=>rw [h]
 ·split
  ·next h=>rw [h]
  ·rfl
theorem Axr {V:List Nat} (hn:V.Nodup) {u v:Nat} (hu:u∈V) (hv:v∈V) (huv:u≠v) (A:Nat->Rw) (δ:Rw):D2 V A v u (fun c=>A v c-δ c) (fun c=>A u c+δ c)=dV V A+(D2 V A v u (A v) δ-D2 V A v u δ (A u)):=by
 have h1:=Kh (v:=v) hn hu A (fun c=>A v c-δ c) 1 (y:=A u) (y':=δ) (z:=fun c=>A u c+δ c) fun c _=>by omega
 have h2:=Nk hn hv huv A (A u) (-1) (x:=A v) (x':=δ) (z:=fun c=>A v c-δ c) fun c _=>by omega
 have h3:=Nk hn hv huv A δ (-1) (x:=A v) (x':=δ) (z:=fun c=>A v c-δ c) fun c _=>by omega
 have h4:=Qi hn hu hv huv A δ
 have h5:=A5c V u v A
 omega
theorem B3b {V:List Nat} (hn:V.Nodup) {u v:Nat} (hu:u∈V) (hv:v∈V) (huv:u≠v) (A:Nat->Rw) (Q:List Ed):Fi Q (fun f=>if f.1=v then D2 V A v u (fun c=>A v c-(dl v c-dl f.2 c)) (fun c=>A u c+(dl v c-dl f.2 c)) else 0) =
  (od Q v:Nat)*dV V A+(D2 V A v u (A v) (lap Q v)-D2 V A v u (lap Q v) (A u)):=by
 have h1:Fi Q (fun f=>if f.1=v then D2 V A v u (fun c=>A v c-(dl v c-dl f.2 c)) (fun c=>A u c+(dl v c-dl f.2 c)) else 0)=Fi Q (fun f=>(if f.1=v then dV V A else 0)+if f.1=v then (fun δ=>D2 V A v u (A v) δ-D2 V A v u δ (A u)) (fun c=>dl v c-dl f.2 c) else 0):=A4f fun f _=>by
  split
  ·exact Axr hn hu hv huv A fun c=>dl v c-dl f.2 c
  ·rfl
 have hadd:∀(f g:Ed->Int) (R:List Ed),Fi R (fun e=>f e+g e)=Fi R f+Fi R g:=fun f g R=>by
  induction R with
  | nil=>rfl
  | cons e r ih=>simp only [Fi,ih]; omega
 rw [h1,hadd,Nd]
 congr 1
 refine A3c (V:=V) (fun δ=>D2 V A v u (A v) δ-D2 V A v u δ (A u)) ?_ (fun x y z h => ?_) v Q
 ·have h2:=Kh (v:=v) hn hu A (A v) 1 (y:=fun _=>0) (y':=fun _=>0) (z:=fun _=>0) fun c _=>by omega
  have h3:=Nk hn hv huv A (A u) 1 (x:=fun _=>0) (x':=fun _=>0) (z:=fun _=>0) fun c _=>by omega
  omega
 ·have h2:=Kh (v:=v) hn hu A (A v) 1 (y:=x) (y':=y) (z:=z) fun c hc=>by rw [h c hc]; omega
  have h3:=Nk hn hv huv A (A u) 1 (x:=x) (x':=y) (z:=z) fun c hc=>by rw [h c hc]; omega
  omega
theorem Awo (V:List Nat) (v:Nat) (A:Nat->Rw):dV V (upd A v (A v))=dV V A:=Er fun z _ c _=>by
 unfold upd
 split
 ·next h=>rw [h]
 ·rfl
theorem B2n {V:List Nat} (hn:V.Nodup) {v:Nat} (hv:v∈V) (A:Nat->Rw) (Q:List Ed):Fi Q (fun f=>if f.1=v then dV V (upd A v (fun c=>A v c-(dl v c-dl f.2 c))) else 0)=(od Q v:Nat)*dV V A-dV V (upd A v (lap Q v)):=by
 have h1:Fi Q (fun f=>if f.1=v then dV V (upd A v (fun c=>A v c-(dl v c-dl f.2 c))) else 0)=Fi Q (fun f=>(if f.1=v then dV V A else 0)+if f.1=v then (fun δ => - dV V (upd A v δ)) (fun c=>dl v c-dl f.2 c) else 0):=A4f fun f _=>by
  split
  ·have h2:=Uc hn hv A (-1) (x:=A v) (y:=fun c=>dl v c-dl f.2 c) (z:=fun c=>A v c-(dl v c-dl f.2 c)) fun c _=>by omega
   have h3:=Awo V v A
   simp only
   omega
  ·rfl
 have hadd:∀(f g:Ed->Int) (R:List Ed),Fi R (fun e=>f e+g e)=Fi R f+Fi R g:=fun f g R=>by
  induction R with
  | nil=>rfl
  | cons e r ih=>simp only [Fi,ih]; omega
 rw [h1,hadd,Nd]
 have:=A3c (V:=V) (fun δ => - dV V (upd A v δ)) (by
  have h2:=Uc hn hv A 1 (x:=fun _=>0) (y:=fun _=>0) (z:=fun _=>0) fun c _=>by omega
  omega) (fun x y z h=>by
  have h2:=Uc hn hv A 1 (x:=x) (y:=y) (z:=z) fun c hc=>by rw [h c hc]; omega
  omega) v Q
 rw [this]
 omega
theorem A4n {h:Ed->Int} {f:Ed->List Ed->Int} {Q:List Ed} (hh:∀x l,(x::l).Perm Q->f x l=h x):sp f Q=Fi Q h:=by
 rw [<-A3d]
 exact Hv hh
theorem B3w {R:List Ed} {e:Ed} (he:e∈R):0<od R e.1:=List.countP_pos_iff.2 ⟨e,he,by simp⟩
theorem Aha {R:List Ed} {e:Ed} (he:e∈R):0<idg R e.2:=List.countP_pos_iff.2 ⟨e,he,by simp⟩
set_option maxHeartbeats 1000000 in
theorem Ace {a:Nat} {V:List Nat} (hn:V.Nodup) (haV:a∉V) {u v:Nat} (hv:v∈V) (hu:u∈V\/u=a) {Q:List Ed} (hbal:od ((u,v)::Q) v=idg ((u,v)::Q) v) :
  fF a V ((u,v)::Q)=sp (fun f k=>if f.1=v then fF a V ((u,f.2)::k) else 0) Q:=by
 have hva:v≠a:=fun e=>haV (e ▸ hv)
 have hov:0<od ((u,v)::Q) v:=by rw [hbal]; exact Aha (e:=(u,v)) List.mem_cons_self
 generalize hR:((u,v)::Q:List Ed)=R at *
 -- what each joining makes
 have jo:∀w k,((v,w)::k).Perm Q->∀x,od R x=od ((u,w)::k) x+if v=x then 1 else 0:=fun w k hp x=>by rw [<-hR]; exact A4w hp x
 have jl:∀w k,((v,w)::k).Perm Q->∀x c,lap ((u,w)::k) x c=lap R x c-(if v=x then dl v c-dl w c else 0)+(if u=x then dl v c-dl w c else 0):=fun w k hp x c=>by rw [<-hR]; exact Aqj hp x c
 have ja:∀w k,((v,w)::k).Perm Q->fF a V ((u,w)::k)=Fs (od R a-1)*Ep ((u,w)::k) V*dV V (aR ((u,w)::k)):=fun w k hp=>by
  unfold fF
  have:=jo w k hp a
  rw [if_neg hva,Nat.add_zero] at this
  rw [this]
 have jp:∀w k,((v,w)::k).Perm Q->(od ((u,w)::k) v=0->Ep R V=Ep ((u,w)::k) V)/\(0<od ((u,w)::k) v->Ep R V=(od ((u,w)::k) v:Nat)*Ep ((u,w)::k) V):=fun w k hp =>
  Acj (by rw [jo w k hp v,if_pos rfl]) (fun x hx=>by rw [jo w k hp x,if_neg (fun e=>hx e.symm)]; rfl) hn hv
 by_cases h1:od R v=1
 ·by_cases huv:u=v
  ·subst huv
   have hq0:od Q u=0:=by rw [<-hR,Fu] at h1; simp at h1; exact h1
   have hl0:fF a V R=0:=by
    unfold fF
    rw [Afo hn hv fun c _ => ?_,Int.mul_zero]
    unfold aR
    rw [if_neg (by omega),<-hR]
    simp only [lap,if_true]
    rw [Jo hq0]
    omega
   rw [hl0]
   symm
   rw [A4n (h:=fun f=>if f.1=u then 0 else 0) fun f k hp => ?_]
   ·rw [Nd]; simp
   ·have:od Q f.1>0:=by rw [<-Jg hp]; exact B3w List.mem_cons_self
    by_cases hf:f.1=u
    ·rw [hf] at this; omega
    ·rw [if_neg hf,if_neg hf]
  ·have hq1:od Q v=1:=by rw [<-hR,Fu] at h1; simp [huv] at h1; exact h1
   have hi0:idg Q v=0:=by rw [h1,<-hR,Jx] at hbal; simp at hbal; omega
   have hno:∀e∈Q,e.2≠v:=fun e he h=>by
    have:=Aha he
    rw [h] at this; omega
   rw [A4n (h:=fun f=>if f.1=v then fF a V R else 0) fun f k hp => ?_,Nd,hq1]
   ·simp
   ·by_cases hf:f.1=v
    ·rw [if_pos hf,if_pos hf]
     obtain ⟨f1,w⟩:=f
     simp only at hf
     subst hf
     have hwv:w≠f1:=hno _ (hp.mem_iff.1 List.mem_cons_self)
     have ho0:od ((u,w)::k) f1=0:=by have:=jo w k hp f1; rw [if_pos rfl] at this; omega
     rw [ja w k hp]
     unfold fF
     rw [(jp w k hp).1 ho0]
     congr 1
     -- the determinants
     have hk0:od k f1=0:=by rw [Fu] at ho0; omega
     have hlQ:∀c,lap Q f1 c=dl f1 c-dl w c:=fun c=>by
      rw [<-A2x hp f1 c]
      simp only [lap,if_true]
      rw [Jo hk0]; omega
     have hAv:∀c,aR R f1 c=dl f1 c-dl w c:=fun c=>by
      unfold aR
      rw [if_neg (by omega),<-hR]
      simp only [lap]
      rw [if_neg huv,hlQ]
      omega
     have hBv:∀c,aR ((u,w)::k) f1 c=dl f1 c:=fun c=>by
      unfold aR
      rw [if_pos ho0,Jo ho0]; omega
     have hcol:∀x,x≠f1->x≠u->aR R x f1=0:=fun x hx hxu=>by
      unfold aR
      have:lap R x f1=0:=by
       rw [<-hR]
       simp only [lap]
       rw [if_neg (fun e=>hxu e.symm),Zv hx Q fun e he _=>hno e he]; rfl
      rw [this]
      split
      ·rw [Hf hx]; rfl
      ·rfl
     have hBx:∀x,x≠f1->∀c,aR ((u,w)::k) x c=aR R x c+if u=x then dl f1 c-dl w c else 0:=fun x hx c=>by
      have e1:=jo w k hp x
      have e2:=jl w k hp x c
      rw [if_neg (fun e=>hx e.symm)] at e1 e2
      unfold aR
      rw [e2,e1]
      simp only [Nat.add_zero]
      omega
     rcases hu with huV | rfl
     ·have hou:od R u≠0:=by rw [<-hR,Fu]; simp
      have hAu:aR R u f1 = -1:=by
       unfold aR
       rw [if_neg hou,<-hR]
       simp only [lap,if_true]
       rw [Zv huv Q fun e he _=>hno e he,Hf huv,Ll]; rfl
      have e1:dV V (aR ((u,w)::k))=D2 V (aR R) f1 u (dl f1) (fun c=>aR R u c+(dl f1 c-dl w c)):=Er fun x _ c _=>by
       unfold upd
       by_cases hx:x=u
       ·subst hx
        rw [if_pos rfl,hBx x huv c,if_pos rfl]
       ·rw [if_neg hx]
        by_cases hx2:x=f1
        ·subst hx2; rw [if_pos rfl,hBv]
        ·rw [if_neg hx2,hBx x hx2 c,if_neg (fun e=>hx e.symm)]; omega
      have e2:dV V (aR R)=D2 V (aR R) f1 u (fun c=>dl f1 c-dl w c) (aR R u):=by
       rw [<-A5c V u f1 (aR R)]
       exact Er fun x _ c _=>by
        unfold upd
        split
        ·rfl
        ·split
         ·rw [hAv]
         ·rfl
      have e3:=Kh (v:=f1) hn huV (aR R) (fun c=>dl f1 c-dl w c) 1 (y:=aR R u) (y':=fun c=>dl f1 c-dl w c) (z:=fun c=>aR R u c+(dl f1 c-dl w c)) fun c _=>by omega
      have e4:=Qi hn huV hv huv (aR R) (fun c=>dl f1 c-dl w c)
      have e5:=Nk hn hv huv (aR R) (fun c=>aR R u c+(dl f1 c-dl w c)) (-1) (x:=dl f1) (x':=dl w) (z:=fun c=>dl f1 c-dl w c) fun c _=>by omega
      have e6:D2 V (aR R) f1 u (dl w) (fun c=>aR R u c+(dl f1 c-dl w c))=0:=A1b hv fun x _=>by
       unfold upd
       by_cases hx:x=u
       ·subst hx
        rw [if_pos rfl,hAu,Ll,Hf hwv]; rfl
       ·rw [if_neg hx]
        by_cases hx2:x=f1
        ·subst hx2; rw [if_pos rfl,Hf hwv]
        ·rw [if_neg hx2]; exact hcol x hx2 hx
      omega
     ·have e1:dV V (aR ((u,w)::k))=dV V (upd (aR R) f1 (dl f1)):=Er fun x hxV c _=>by
       unfold upd
       have hxu:x≠u:=fun e=>haV (e ▸ hxV)
       by_cases hx2:x=f1
       ·subst hx2; rw [if_pos rfl,hBv]
       ·rw [if_neg hx2,hBx x hx2 c,if_neg (fun e=>hxu e.symm)]; omega
      have e2:dV V (aR R)=dV V (upd (aR R) f1 (fun c=>dl f1 c-dl w c)):=Er fun x _ c _=>by
       unfold upd
       split
       ·next h=>rw [h,hAv]
       ·rfl
      have e5:=Uc hn hv (aR R) (-1) (x:=dl f1) (y:=dl w) (z:=fun c=>dl f1 c-dl w c) fun c _=>by omega
      have e6:dV V (upd (aR R) f1 (dl w))=0:=A1b hv fun x hxV=>by
       unfold upd
       have hxu:x≠u:=fun e=>haV (e ▸ hxV)
       by_cases hx2:x=f1
       ·subst hx2; rw [if_pos rfl,Hf hwv]
       ·rw [if_neg hx2]; exact hcol x hx2 hxu
      omega
    ·rw [if_neg hf,if_neg hf]
 ·-- two slurs or more from v
  obtain ⟨d,hd⟩:∃d,od R v=d+1:=⟨od R v-1,by omega⟩
  have hd0:0<d:=by omega
  have hof:∀w k,((v,w)::k).Perm Q->od ((u,w)::k) v=d:=fun w k hp=>by have:=jo w k hp v; rw [if_pos rfl] at this; omega
  have hz:∀w k,((v,w)::k).Perm Q->∀x c,aR ((u,w)::k) x c=aR R x c-(if v=x then dl v c-dl w c else 0)+(if u=x then dl v c-dl w c else 0):=fun w k hp x c=>by
   have e1:=jo w k hp x
   have e2:=jl w k hp x c
   unfold aR
   rw [e2]
   by_cases hx:v=x
   ·subst hx
    have z1:¬od ((u,w)::k) v=0:=by rw [hof w k hp]; omega
    have z2:¬od R v=0:=by omega
    rw [if_neg z1,if_neg z2]
    omega
   ·rw [if_neg hx] at e1
    rw [e1]
    simp only [Nat.add_zero]
    omega
  have hAQ:u≠v->∀c,aR R v c=lap Q v c:=fun huv c=>by
   unfold aR
   rw [if_neg (by omega),<-hR]
   simp only [lap]
   rw [if_neg huv]
   omega
  have hsum:∃h:Ed->Int,(∀f k,(f::k).Perm Q->f.1=v->dV V (aR ((u,f.2)::k))=h f)/\Fi Q (fun f=>if f.1=v then h f else 0)=(d:Nat)*dV V (aR R):=by
   by_cases huv:u=v
   ·subst huv
    refine ⟨fun _=>dV V (aR R),fun f k hp hf=>Er fun x _ c _ => ?_,?_⟩
    ·obtain ⟨f1,w⟩:=f
     simp only at hf
     subst hf
     rw [hz w k hp]; omega
    ·rw [Nd]
     congr 1
     rw [<-hR,Fu] at hd
     simp at hd
     omega
   ·have hoq:od Q v=d+1:=by rw [<-hR,Fu] at hd; simp [huv] at hd; exact hd
    rcases hu with huV | rfl
    ·refine ⟨fun f=>D2 V (aR R) v u (fun c=>aR R v c-(dl v c-dl f.2 c)) (fun c=>aR R u c+(dl v c-dl f.2 c)),fun f k hp hf=>Er fun x _ c _ => ?_,?_⟩
     ·obtain ⟨f1,w⟩:=f
      simp only at hf
      subst hf
      dsimp only
      rw [hz w k hp]
      unfold upd
      by_cases hx:x=u
      ·subst hx
       rw [if_pos rfl,if_pos rfl,if_neg (fun e=>huv e.symm)]; omega
      ·rw [if_neg hx]
       by_cases hx2:x=f1
       ·subst hx2
        rw [if_pos rfl,if_pos rfl,if_neg (fun e=>huv e)]; omega
       ·rw [if_neg hx2,if_neg (fun e=>hx2 e.symm),if_neg (fun e=>hx e.symm)]; omega
     ·rw [B3b hn huV hv huv (aR R) Q,hoq]
      have e1:D2 V (aR R) v u (aR R v) (lap Q v)=0:=by
       have:D2 V (aR R) v u (aR R v) (lap Q v)=D2 V (aR R) v u (aR R v) (aR R v):=Er fun x _ c _=>by
        unfold upd
        split
        ·exact (hAQ huv c).symm
        ·rfl
       rw [this]
       exact Qi hn huV hv huv (aR R) _
      have e2:D2 V (aR R) v u (lap Q v) (aR R u)=dV V (aR R):=by
       rw [<-A5c V u v (aR R)]
       exact Er fun x _ c _=>by
        unfold upd
        split
        ·rfl
        ·split
         ·exact (hAQ huv c).symm
         ·rfl
      rw [e1,e2,Int.natCast_add,Int.add_mul]
      simp
      omega
    ·refine ⟨fun f=>dV V (upd (aR R) v (fun c=>aR R v c-(dl v c-dl f.2 c))),fun f k hp hf=>Er fun x hxV c _ => ?_,?_⟩
     ·obtain ⟨f1,w⟩:=f
      simp only at hf
      subst hf
      dsimp only
      have hxu:x≠u:=fun e=>haV (e ▸ hxV)
      rw [hz w k hp]
      unfold upd
      by_cases hx2:x=f1
      ·subst hx2
       rw [if_pos rfl,if_pos rfl,if_neg (fun e=>huv e)]; omega
      ·rw [if_neg hx2,if_neg (fun e=>hx2 e.symm),if_neg (fun e=>hxu e.symm)]; omega
     ·rw [B2n hn hv (aR R) Q,hoq]
      have e2:dV V (upd (aR R) v (lap Q v))=dV V (aR R):=Er fun x _ c _=>by
       unfold upd
       split
       ·next h=>rw [h]; exact (hAQ huv c).symm
       ·rfl
      rw [e2,Int.natCast_add,Int.add_mul]
      simp
  obtain ⟨h,hh1,hh2⟩:=hsum
  have key:(d:Int)*sp (fun f k=>if f.1=v then fF a V ((u,f.2)::k) else 0) Q=(d:Int)*fF a V R:=by
   have hmul:∀(c:Int) (f:Ed->List Ed->Int) (Q:List Ed),c*sp f Q=sp (fun x l=>c*f x l) Q:=fun c f Q=>by
    induction Q generalizing f with
    | nil=>simp [sp]
    | cons z r ih=>simp only [sp]; rw [Int.mul_add,ih]
   rw [hmul,A4n (h:=fun f=>Fs (od R a-1)*Ep R V*(if f.1=v then h f else 0)) fun f k hp => ?_,A9z,hh2]
   ·unfold fF
    rw [<-Int.mul_assoc,Int.mul_comm (Fs (od R a-1)*Ep R V) (d:Int),Int.mul_assoc]
   ·by_cases hf:f.1=v
    ·rw [if_pos hf,if_pos hf,<-hh1 f k hp hf]
     obtain ⟨f1,w⟩:=f
     simp only at hf
     subst hf
     rw [ja w k hp,(jp w k hp).2 (by rw [hof w k hp]; exact hd0),hof w k hp]
     simp only [Int.mul_assoc,Int.mul_left_comm]
    ·rw [if_neg hf,if_neg hf]; simp
  exact (Int.eq_of_mul_eq_mul_left (by omega) key).symm
theorem A3k (c:Int):∀R:List Ed,Fi R (fun _=>c)=(R.length:Nat)*c
 | []=>by simp [Fi]
 | e::R=>by simp only [Fi]; rw [A3k c R,List.length_cons,Int.natCast_add,Int.add_mul]; simp; omega
theorem A7w (a:Nat):∀(n:Nat) (R:List Ed),R.length=n->(∀e∈R,e=(a,a))->trl a n R a=Fs n
 | 0,_,_,_=>by simp [trl,Fs]
 | n+1,R,hl,h=>by
  simp only [trl]
  rw [A4n (h:=fun _=>Fs n) fun f k hp => ?_,A3k,hl]
  ·rfl
  ·have hf:=h f (hp.mem_iff.1 List.mem_cons_self)
   subst hf
   rw [if_pos rfl]
   exact A7w a n k (by have:=hp.length_eq; simp at this; omega) fun e he=>h e (hp.mem_iff.1 (List.mem_cons_of_mem _ he))
theorem Adb:∀{V:List Nat},V.Nodup->dV V dl=1
 | [],_=>rfl
 | v::V,hn=>by
  rw [List.nodup_cons] at hn
  have h1:=Xv (c:=v) (pc:=[]) (qc:=V) (x:=dl v) (pr:=[]) (qr:=V.map dl) rfl (by simp) fun r hr=>by
   simp only [List.nil_append] at hr
   obtain ⟨x,hx,rfl⟩:=List.mem_map.1 hr
   exact Hf fun e=>hn.1 (e ▸ hx)
  simp only [List.nil_append] at h1
  unfold dV
  rw [List.map_cons,h1,Ll,Int.one_mul]
  exact Adb hn.2
theorem Hh {R:List Ed} {v:Nat}:od R v=0↔∀e∈R,e.1≠v:=by
 unfold od
 rw [List.countP_eq_zero]
 simp
theorem Ni {R:List Ed} {v:Nat}:idg R v=0↔∀e∈R,e.2≠v:=by
 unfold idg
 rw [List.countP_eq_zero]
 simp
theorem Acr {u v w:Nat} {Q k:List Ed} (hp:((v,w)::k).Perm Q) (x:Nat):idg ((u,v)::Q) x=idg ((u,w)::k) x+if v=x then 1 else 0:=by
 rw [Jx,Jx,<-Nc hp x,Jx]
theorem Bug {a:Nat} {V:List Nat} (hn:V.Nodup) (haV:a∉V):∀(n:Nat) (R':List Ed) (b:Nat),R'.length=n->(∀x,od ((a,b)::R') x=idg ((a,b)::R') x)->(∀e∈(a,b)::R',e.1∈a::V/\e.2∈a::V)->trl a n R' b=fF a V ((a,b)::R'):=by
 intro n
 induction n with
 | zero =>
  intro R' b hl hbal hin
  obtain rfl:R'=[]:=List.length_eq_zero_iff.1 hl
  have hba:b=a:=by
   apply Classical.byContradiction
   intro h
   have:=hbal b
   simp [od,idg,h] at this
   exact h this.symm
  subst hba
  have ho:∀v∈V,od [(b,b)] v=0:=fun v hv=>Hh.2 fun e he h=>haV (by
   simp at he
   subst he
   simp only at h
   rw [h]; exact hv)
  have h1:Ep [(b,b)] V=1:=by
   have:∀W:List Nat,(∀v∈W,od [(b,b)] v=0)->Ep [(b,b)] W=1:=fun W=>by
    induction W with
    | nil=>intro _; rfl
    | cons w W ih=>intro h; simp only [Ep]; rw [h w List.mem_cons_self,ih fun v hv=>h v (List.mem_cons_of_mem _ hv)]; rfl
   exact this V ho
  have h2:dV V (aR [(b,b)])=1:=by
   rw [<-Adb hn]
   exact Er fun v hv c _=>by
    unfold aR
    rw [if_pos (ho v hv),Jo (ho v hv)]; omega
  unfold fF
  rw [h1,h2]
  simp [trl,od,Fs]
 | succ n ih =>
  intro R' b hl hbal hin
  by_cases hall:∀v∈V,od ((a,b)::R') v=0
  ·-- loops alone
   have hloop:∀e∈(a,b)::R',e=(a,a):=fun e he=>by
    obtain ⟨h1,h2⟩:=hin e he
    have e1:e.1=a:=by
     rcases List.mem_cons.1 h1 with h | h
     ·exact h
     ·have:=Hh.1 (hall _ h) e he; exact absurd rfl this
    have e2:e.2=a:=by
     rcases List.mem_cons.1 h2 with h | h
     ·exact h
     ·have h3:=hbal e.2
      rw [hall _ h] at h3
      exact absurd rfl (Ni.1 h3.symm e he)
    exact Prod.ext e1 e2
   have hba:b=a:=by have:=hloop _ List.mem_cons_self; simpa using this
   subst hba
   rw [A7w b (n+1) R' hl fun e he=>hloop e (List.mem_cons_of_mem _ he)]
   have h1:Ep ((b,b)::R') V=1:=by
    have:∀W:List Nat,(∀v∈W,od ((b,b)::R') v=0)->Ep ((b,b)::R') W=1:=fun W=>by
     induction W with
     | nil=>intro _; rfl
     | cons w W ih=>intro h; simp only [Ep]; rw [h w List.mem_cons_self,ih fun v hv=>h v (List.mem_cons_of_mem _ hv)]; rfl
    exact this V hall
   have h2:dV V (aR ((b,b)::R'))=1:=by
    rw [<-Adb hn]
    exact Er fun v hv c _=>by
     unfold aR
     rw [if_pos (hall v hv),Jo (hall v hv)]; omega
   have h3:od ((b,b)::R') b=n+2:=by
    have:od ((b,b)::R') b=((b,b)::R').length:=by
     unfold od
     rw [List.countP_eq_length]
     intro e he
     rw [hloop e he]; simp
    rw [this,List.length_cons,hl]
   unfold fF
   rw [h1,h2,h3]
   simp
  ·-- a slur leads to a note that is not the end
   obtain ⟨v,hv⟩:=Classical.not_forall.1 hall
   obtain ⟨hvV,hov⟩:=Classical.not_imp.1 hv
   have hva:v≠a:=fun e=>haV (e ▸ hvV)
   by_cases hbv:b=v
   ·subst hbv
    have h1:trl a (n+1) R' b=sp (fun f k=>if f.1=b then trl a n k f.2 else 0) R':=rfl
    rw [h1,Ace hn haV hvV (.inr rfl) (hbal b)]
    refine Hv fun f k hp => ?_
    by_cases hf:f.1=b
    ·rw [if_pos hf,if_pos hf]
     obtain ⟨f1,w⟩:=f
     simp only at hf
     subst hf
     refine ih k w (by have:=hp.length_eq; simp at this; omega) (fun x => ?_) fun e he => ?_
     ·have e1:=A4w (u:=a) hp x
      have e2:=Acr (u:=a) hp x
      have:=hbal x
      omega
     ·rcases List.mem_cons.1 he with rfl | he
      ·exact ⟨List.mem_cons_self,(hin (f1,w) (List.mem_cons_of_mem _ (hp.mem_iff.1 List.mem_cons_self))).2⟩
      ·exact hin e (List.mem_cons_of_mem _ (hp.mem_iff.1 (List.mem_cons_of_mem _ he)))
    ·rw [if_neg hf,if_neg hf]
   ·have hiv:idg ((a,b)::R') v≠0:=by rw [<-hbal]; exact hov
    obtain ⟨e,he,hev⟩:∃e∈R',e.2=v:=by
     apply Classical.byContradiction
     intro hno
     refine hiv (Ni.2 fun e he h => ?_)
     rcases List.mem_cons.1 he with rfl | he
     ·exact hbv h
     ·exact hno ⟨e,he,h⟩
    obtain ⟨u,v'⟩:=e
    simp only at hev
    subst hev
    have hp0:R'.Perm ((u,v')::R'.erase (u,v')):=List.perm_cons_erase he
    generalize R'.erase (u,v')=R2 at hp0
    have hl2:R2.length=n:=by have:=hp0.length_eq; simp at this; omega
    have hP:((a,b)::R').Perm ((u,v')::(a,b)::R2):=(hp0.cons (a,b)).trans (List.Perm.swap _ _ _)
    have huV:u∈V\/u=a:=by
     rcases List.mem_cons.1 (hin (u,v') (List.mem_cons_of_mem _ he)).1 with h | h
     ·exact .inr h
     ·exact .inl h
    rw [Abq a (n+1) b hp0,A8g hva n R2 b hl2,A5k hP,Ace hn haV hvV huV (by rw [<-Jg hP,<-Nc hP]; exact hbal v')]
    simp only [sp]
    rw [if_neg (fun e=>hva e.symm),Int.zero_add]
    refine Hv fun f k hp => ?_
    by_cases hf:f.1=v'
    ·rw [if_pos hf,if_pos hf]
     obtain ⟨f1,w⟩:=f
     simp only at hf
     subst hf
     have hp':((f1,w)::(a,b)::k).Perm ((a,b)::R2):=(List.Perm.swap _ _ _).trans (hp.cons (a,b))
     rw [A5k (List.Perm.swap (a,b) (u,w) k)]
     refine ih ((u,w)::k) b (by have:=hp.length_eq; simp at this ⊢; omega) (fun x => ?_) fun e he => ?_
     ·have e1:=A4w (u:=u) hp' x
      have e2:=Acr (u:=u) hp' x
      have e3:=hbal x
      rw [Jg hP,Nc hP] at e3
      rw [Jg (List.Perm.swap (u,w) (a,b) k),Nc (List.Perm.swap (u,w) (a,b) k)]
      omega
     ·have hm:∀e∈k,e∈R':=fun e he=>hp0.mem_iff.2 (List.mem_cons_of_mem _ (hp.mem_iff.1 (List.mem_cons_of_mem _ he)))
      have hm2:(f1,w)∈R':=hp0.mem_iff.2 (List.mem_cons_of_mem _ (hp.mem_iff.1 List.mem_cons_self))
      rcases List.mem_cons.1 he with rfl | he
      ·exact hin _ List.mem_cons_self
      ·rcases List.mem_cons.1 he with rfl | he
       ·exact ⟨(hin (u,f1) (List.mem_cons_of_mem _ ‹(u,f1)∈R'›)).1,(hin _ (List.mem_cons_of_mem _ hm2)).2⟩
       ·exact hin e (List.mem_cons_of_mem _ (hm e he))
    ·rw [if_neg hf,if_neg hf]
def Bm:List Nat->(Nat->Int)->Int
 | [],_=>0
 | c::cs,f=>f c+Bm cs f
theorem Dp {f g:Nat->Int}:∀{cs:List Nat},(∀c∈cs,f c=g c)->Bm cs f=Bm cs g
 | [],_=>rfl
 | c::cs,h=>by simp only [Bm,h c List.mem_cons_self,Dp fun d hd=>h d (List.mem_cons_of_mem _ hd)]
theorem Ix (f g:Nat->Int):∀cs,Bm cs (fun c=>f c+g c)=Bm cs f+Bm cs g
 | []=>rfl
 | c::cs=>by simp only [Bm]; rw [Ix f g cs]; omega
theorem Fw:∀cs:List Nat,Bm cs (fun _=>0)=0
 | []=>rfl
 | c::cs=>by simp only [Bm]; rw [Fw cs]; rfl
theorem Kj {a:Nat}:∀{cs:List Nat},cs.Nodup->a∈cs->Bm cs (dl a)=1
 | c::cs,hn,h=>by
  rw [List.nodup_cons] at hn
  simp only [Bm]
  by_cases hc:a=c
  ·subst hc
   have:Bm cs (dl a)=Bm cs fun _=>0:=Dp fun d hd=>Hf fun e=>hn.1 (e ▸ hd)
   rw [this,Fw,Ll]; rfl
  ·rw [Hf hc,Kj hn.2 ((List.mem_cons.1 h).resolve_left hc)]; rfl
theorem Wj {c:Nat} {pc qc:List Nat} {x:Rw} {pr qr:List Rw} (hl:pr.length=pc.length) (hl2:qr.length=qc.length) (h:∀d∈pc++qc,x d=0):det (pc++c::qc) (pr++x::qr)=x c*det (pc++qc) (pr++qr):=by
 rw [Ia,Ra _ _ _ _ (by simp; omega),<-Int.mul_assoc,hl,Yd,Int.one_mul]
 have h1:det (c::(pc++qc)) (x::(pr++qr))=x c*det (pc++qc) (pr++qr)-exD (fun r=>r c) (fun l=>det (pc++qc) (x::l)) (pr++qr):=rfl
 have h2:exD (fun r=>r c) (fun l=>det (pc++qc) (x::l)) (pr++qr)=exD (fun r=>r c) (fun _=>0) (pr++qr):=Lm fun l hl'=>by
  have:=Ik (x:=x) (cs:=pc++qc) (pre:=[]) (post:=l) h (by simp at hl' ⊢; omega)
  simpa using this
 rw [h1,h2,Kb]
 omega
theorem Aij {c:Nat} {cs:List Nat} {rs:List Rw} (h:∀r∈rs,Bm (c::cs) r=0):det (c::cs) rs=0:=by
 have h1:∀ds:List Nat,(∀d∈ds,d∈cs)->exD (fun r=>Bm ds r) (det cs) rs=0:=fun ds=>by
  induction ds with
  | nil=>intro _; exact Ju fun r _=>rfl
  | cons d ds ih =>
   intro hd
   have e1:exD (fun r=>Bm (d::ds) r) (det cs) rs=exD (fun r=>r d) (det cs) rs+exD (fun r=>Bm ds r) (det cs) rs:=A0z
   have e2:=Qt d cs (hd d List.mem_cons_self) rs
   simp only [det] at e2
   rw [e1,ih fun x hx=>hd x (List.mem_cons_of_mem _ hx),e2]; rfl
 have h2:det (c::cs) rs=exD (fun r=>(-1)*Bm cs r) (det cs) rs:=by
  simp only [det]
  refine Ahr fun r hr => ?_
  have:=h r hr
  simp only [Bm] at this
  omega
 rw [h2,Zc,h1 cs fun _ hd=>hd]
 rfl
theorem Aow {V:List Nat} {A:Nat->Rw} (hne:V≠[]) (h:∀x∈V,Bm V (A x)=0):dV V A=0:=by
 cases V with
 | nil=>exact absurd rfl hne
 | cons c cs =>
  refine Aij fun r hr => ?_
  obtain ⟨x,hx,rfl⟩:=List.mem_map.1 hr
  exact h x hx
theorem A0d {x d:Nat} {ds:List Nat} (h:x≠d) (t:Int):(if x∈d::ds then t else 0)=if x∈ds then t else 0:=by simp [h]
theorem Acg {W:List Nat} (hn:W.Nodup) {a:Nat} (ha:a∈W) (A:Nat->Rw):dV W (upd A a (dl a))=dV (W.erase a) A:=by
 obtain ⟨pre,post,rfl⟩:=List.append_of_mem ha
 rw [List.nodup_append] at hn
 obtain ⟨n1,n2,n3⟩:=hn
 have hp:a∉pre:=fun h=>n3 _ h _ List.mem_cons_self rfl
 have hq:a∉post:=(List.nodup_cons.1 n2).1
 have he:(pre++a::post).erase a=pre++post:=by
  rw [List.erase_append_right _ hp,List.erase_cons_head]
 rw [he]
 unfold dV
 rw [List.map_append,List.map_cons,A0e hp,A0e hq]
 have h1:upd A a (dl a) a=dl a:=if_pos rfl
 rw [h1,Wj (by simp) (by simp) fun d hd=>Hf fun e => ?_,Ll,Int.one_mul,List.map_append]
 subst e
 rcases List.mem_append.1 hd with h | h
 ·exact hp h
 ·exact hq h
theorem Ayx {W:List Nat} (hn:W.Nodup) {A:Nat->Rw} (hrow:∀x∈W,Bm W (A x)=0) (hcol:∀c∈W,Bm W (fun v=>A v c)=0) {a r:Nat} (ha:a∈W) (hr:r∈W):dV (W.erase a) A=dV (W.erase r) A:=by
 by_cases har:a=r
 ·rw [har]
 have hra:r≠a:=fun e=>har e.symm
 rw [<-Acg hn ha,<-Acg hn hr]
 have e1:dV W (upd A a (dl a))=D2 W A a r (dl a) (A r):=Er fun x _ c _=>by
  unfold upd
  by_cases hx:x=a
  ·simp [hx,har]
  ·by_cases hx2:x=r
   ·simp [hx2,hra]
   ·simp [hx,hx2]
 have e2:dV W (upd A r (dl r))=D2 W A a r (A a) (dl r):=Er fun x _ c _=>by
  unfold upd
  by_cases hx:x=r
  ·simp [hx]
  ·by_cases hx2:x=a
   ·simp [hx2,har]
   ·simp [hx,hx2]
 -- row r is minus the sum of all others
 have e3:D2 W A a r (dl a) (fun c=>Bm W fun v=>A v c)=0:=by
  have:D2 W A a r (dl a) (fun c=>Bm W fun v=>A v c)=D2 W A a r (dl a) (fun _=>0):=Er fun x _ c hc=>by
   unfold upd
   split
   ·exact hcol c hc
   ·rfl
  rw [this]
  have h2:=Kh (v:=a) hn hr A (dl a) 1 (y:=fun _=>0) (y':=fun _=>0) (z:=fun _=>0) fun c _=>by omega
  omega
 have e4:∀ds:List Nat,ds.Nodup->(∀d∈ds,d∈W)->D2 W A a r (dl a) (fun c=>Bm ds fun v=>A v c)=(if a∈ds then D2 W A a r (dl a) (A a) else 0)+(if r∈ds then D2 W A a r (dl a) (A r) else 0):=fun ds=>by
  induction ds with
  | nil =>
   intro _ _
   have h2:=Kh (v:=a) hn hr A (dl a) 1 (y:=fun _=>0) (y':=fun _=>0) (z:=fun _=>0) fun c _=>by omega
   simp only [Bm]
   simp
   omega
  | cons d ds ih =>
   intro hnd hd
   rw [List.nodup_cons] at hnd
   have ih:=ih hnd.2 fun x hx=>hd x (List.mem_cons_of_mem _ hx)
   have h1:=Kh (v:=a) hn hr A (dl a) 1 (y:=A d) (y':=fun c=>Bm ds fun v=>A v c) (z:=fun c=>Bm (d::ds) fun v=>A v c) fun c _=>by simp only [Bm]; omega
   rw [h1,ih]
   by_cases hda:d=a
   ·subst hda
    rw [if_neg hnd.1,if_pos List.mem_cons_self,A0d hra]
    omega
   ·by_cases hdr:d=r
    ·subst hdr
     rw [if_neg (c:=d∈ds) hnd.1,if_pos (c:=d∈d::ds) List.mem_cons_self,A0d har]
     omega
    ·have h0:D2 W A a r (dl a) (A d)=0:=Agt hn (hd d List.mem_cons_self) hr hdr fun c _=>by
      unfold upd
      rw [if_neg hdr,if_neg hda,if_pos rfl]
     rw [h0,A0d (fun e=>hda e.symm),A0d (fun e=>hdr e.symm)]
     omega
 have e5:=e4 W hn fun _ h=>h
 rw [e3,if_pos ha,if_pos hr] at e5
 -- the two rows in the other order
 have e6:D2 W A a r (dl a) (A a)+D2 W A a r (A a) (dl a)=0:=by
  have s0:=Qi hn hr ha hra A (fun c=>dl a c+A a c)
  have s1:=Kh (v:=a) hn hr A (fun c=>dl a c+A a c) 1 (y:=dl a) (y':=A a) (z:=fun c=>dl a c+A a c) fun c _=>by omega
  have s2:=Nk hn ha hra A (dl a) 1 (x:=dl a) (x':=A a) (z:=fun c=>dl a c+A a c) fun c _=>by omega
  have s3:=Nk hn ha hra A (A a) 1 (x:=dl a) (x':=A a) (z:=fun c=>dl a c+A a c) fun c _=>by omega
  have s4:=Qi hn hr ha hra A (dl a)
  have s5:=Qi hn hr ha hra A (A a)
  omega
 have e7:D2 W A a r (A a) (fun c=>dl r c-dl a c)=0:=Aow (fun h=>by rw [h] at ha; cases ha) fun x hx=>by
  unfold upd
  by_cases hx1:x=r
  ·rw [if_pos hx1]
   have h1:=Ix (fun c=>dl r c-dl a c) (dl a) W
   have h2:Bm W (fun c=>dl r c-dl a c+dl a c)=Bm W (dl r):=Dp fun c _=>by omega
   rw [h2,Kj hn hr,Kj hn ha] at h1
   omega
  ·rw [if_neg hx1]
   by_cases hx2:x=a
   ·rw [if_pos hx2]; exact hrow a ha
   ·rw [if_neg hx2]; exact hrow x hx
 have e8:=Kh (v:=a) hn hr A (A a) (-1) (y:=dl r) (y':=dl a) (z:=fun c=>dl r c-dl a c) fun c _=>by omega
 rw [e1,e2]
 omega
theorem Xm (p:Nat->Bool) (A:Nat->Rw):∀(V pre:List Nat),(∀v∈V,p v=false->A v v=1/\∀x∈pre++V,x≠v->A x v=0)->(pre++V).Nodup->dV (pre++V) A=dV (pre++V.filter p) A
 | [],pre,_,_=>rfl
 | v::V,pre,h,hn=>by
  by_cases hp:p v=true
  ·rw [List.filter_cons,if_pos hp]
   have:=Xm p A V (pre++[v]) (fun x hx hpx=>by
    have h1:=h x (List.mem_cons_of_mem _ hx) hpx
    simpa using h1) (by simpa using hn)
   simpa using this
  ·have hp':p v=false:=by simpa using hp
   rw [List.filter_cons,if_neg hp]
   obtain ⟨h1,h2⟩:=h v List.mem_cons_self hp'
   have hn':=hn
   rw [List.nodup_append] at hn'
   obtain ⟨n1,n2,n3⟩:=hn'
   have h3:dV (pre++v::V) A=dV (pre++V) A:=by
    unfold dV
    rw [List.map_append,List.map_cons,Xv (by simp) (by simp) fun r hr => ?_,h1,Int.one_mul,List.map_append]
    rw [<-List.map_append] at hr
    obtain ⟨x,hx,rfl⟩:=List.mem_map.1 hr
    refine h2 x ?_ fun e => ?_
    ·rcases List.mem_append.1 hx with h | h
     ·exact List.mem_append_left _ h
     ·exact List.mem_append_right _ (List.mem_cons_of_mem _ h)
    ·subst e
     rcases List.mem_append.1 hx with h | h
     ·exact n3 _ h _ List.mem_cons_self rfl
     ·exact (List.nodup_cons.1 n2).1 h
   rw [h3]
   refine Xm p A V pre (fun x hx hpx => ?_) ?_
   ·obtain ⟨g1,g2⟩:=h x (List.mem_cons_of_mem _ hx) hpx
    refine ⟨g1,fun y hy=>g2 y ?_⟩
    rcases List.mem_append.1 hy with h | h
    ·exact List.mem_append_left _ h
    ·exact List.mem_append_right _ (List.mem_cons_of_mem _ h)
   ·rw [List.nodup_append]
    exact ⟨n1,(List.nodup_cons.1 n2).2,fun x hx y hy=>n3 x hx y (List.mem_cons_of_mem _ hy)⟩
structure Zm (l:List Nat) (M:Nat->Rw):Prop where
 off:∀x∈l,∀y∈l,x≠y->M x y<=0
 row:∀x∈l,0<=Bm l (M x)
 leak:∀S:List Nat,S.Sublist l->S≠[]->∃x∈S,0<Bm S (M x)
theorem Arb {x:Nat} {f:Nat->Int} {S l:List Nat} (hs:S.Sublist l) (hx:x∈S) (hn:l.Nodup) (h:∀y∈l,y≠x->f y<=0):Bm l f<=Bm S f:=by
 induction hs with
 | slnil=>exact Int.le_refl _
 | @cons S l a hs ih =>
  rw [List.nodup_cons] at hn
  have h1:=ih hx hn.2 fun y hy=>h y (List.mem_cons_of_mem _ hy)
  have h2:=h a List.mem_cons_self fun e=>hn.1 (e ▸ hs.subset hx)
  simp only [Bm]; omega
 | @cons_cons S l a hs ih =>
  rw [List.nodup_cons] at hn
  simp only [Bm]
  by_cases hxS:x∈S
  ·have h1:=ih hxS hn.2 fun y hy=>h y (List.mem_cons_of_mem _ hy)
   omega
  ·have hxa:x=a:=(List.mem_cons.1 hx).resolve_right hxS
   have hle:Bm l f<=Bm S f:=by
    clear ih
    have hneg:∀y∈l,f y<=0:=fun y hy=>h y (List.mem_cons_of_mem _ hy) fun e=>hn.1 (by rw [<-hxa,<-e]; exact hy)
    clear h hx hxS hn
    induction hs with
    | slnil=>exact Int.le_refl _
    | cons b _ ih=>have:=hneg b List.mem_cons_self; have:=ih fun y hy=>hneg y (List.mem_cons_of_mem _ hy); simp only [Bm]; omega
    | cons_cons b _ ih=>have:=ih fun y hy=>hneg y (List.mem_cons_of_mem _ hy); simp only [Bm]; omega
   omega
theorem Zm.sub {l:List Nat} {M:Nat->Rw} (hz:Zm l M) (hn:l.Nodup) {S:List Nat} (hs:S.Sublist l):Zm S M where
 off:=fun x hx y hy h=>hz.off x (hs.subset hx) y (hs.subset hy) h
 row:=fun x hx=>Int.le_trans (hz.row x (hs.subset hx)) (Arb hs hx hn fun y hy h=>hz.off x (hs.subset hx) y hy fun e=>h e.symm)
 leak:=fun S' hs' hne=>hz.leak S' (hs'.trans hs) hne
theorem Rn (a:Int) (f:Nat->Int):∀cs,Bm cs (fun c=>a*f c)=a*Bm cs f
 | []=>by simp [Bm]
 | c::cs=>by simp only [Bm]; rw [Rn a f cs,Int.mul_add]
def Nj (M:Nat->Rw) (v:Nat):Nat->Rw:=fun x c=>M v v*M x c-M x v*M v c
theorem A0b (M:Nat->Rw) (v x:Nat) (S:List Nat):Bm S (Nj M v x)=M v v*Bm (v::S) (M x)-M x v*Bm (v::S) (M v):=by
 have h1:Bm S (Nj M v x)=Bm S (fun c=>M v v*M x c)+Bm S (fun c=>(- M x v)*M v c):=by
  rw [<-Ix]
  exact Dp fun c _=>by
   simp only [Nj]
   rw [Int.neg_mul]; omega
 rw [h1,Rn,Rn]
 simp only [Bm]
 rw [Int.mul_add,Int.mul_add,Int.neg_mul,Int.mul_comm (M x v) (M v v)]
 omega
theorem Zm.out {v:Nat} {l:List Nat} {M:Nat->Rw} (hz:Zm (v::l) M) (hn:(v::l).Nodup) (hv:0<M v v):Zm l (Nj M v):=by
 have hne:∀x∈l,x≠v:=fun x hx e=>(List.nodup_cons.1 hn).1 (e ▸ hx)
 have hxv:∀x∈l,0 <= - M x v:=fun x hx=>by have:=hz.off x (List.mem_cons_of_mem _ hx) v List.mem_cons_self (hne x hx); omega
 have hs:∀S:List Nat,S.Sublist l->∀y∈v::S,0<=Bm (v::S) (M y):=fun S hS y hy=>(hz.sub hn (hS.cons_cons v)).row y hy
 refine ⟨fun x hx y hy hxy => ?_,fun x hx => ?_,fun S hS hne' => ?_⟩
 ·simp only [Nj]
  have h1:=hz.off x (List.mem_cons_of_mem _ hx) y (List.mem_cons_of_mem _ hy) hxy
  have h2:=hz.off v List.mem_cons_self y (List.mem_cons_of_mem _ hy) fun e=>hne y hy e.symm
  have h3:=Int.mul_nonneg (Int.le_of_lt hv) (show 0 <= - M x y by omega)
  have h4:=Int.mul_nonneg (hxv x hx) (show 0 <= - M v y by omega)
  rw [Int.mul_neg] at h3
  rw [Int.neg_mul_neg] at h4
  omega
 ·rw [A0b]
  have h1:=Int.mul_nonneg (Int.le_of_lt hv) (hs l (.refl _) x (List.mem_cons_of_mem _ hx))
  have h2:=Int.mul_nonneg (hxv x hx) (hs l (.refl _) v List.mem_cons_self)
  rw [Int.neg_mul] at h2
  omega
 ·have part:∀x∈S,0<=M v v*Bm (v::S) (M x)/\0<=(- M x v)*Bm (v::S) (M v):=fun x hx =>
   ⟨Int.mul_nonneg (Int.le_of_lt hv) (hs S hS x (List.mem_cons_of_mem _ hx)),Int.mul_nonneg (hxv x (hS.subset hx)) (hs S hS v List.mem_cons_self)⟩
  obtain ⟨y,hy,hy0⟩:=hz.leak (v::S) (hS.cons_cons v) (by simp)
  rcases List.mem_cons.1 hy with rfl | hyS
  ·obtain ⟨x,hx,hx0⟩:=hz.leak S (hS.cons y) hne'
   by_cases hx1:0<Bm (y::S) (M x)
   ·refine ⟨x,hx,?_⟩
    rw [A0b]
    have h1:=Int.mul_pos hv hx1
    have h2:=(part x hx).2
    rw [Int.neg_mul] at h2
    omega
   ·refine ⟨x,hx,?_⟩
    rw [A0b]
    have h3:0 < - M x y:=by simp only [Bm] at hx1; omega
    have h4:=Int.mul_pos h3 hy0
    have h1:=(part x hx).1
    rw [Int.neg_mul] at h4
    omega
  ·refine ⟨y,hyS,?_⟩
   rw [A0b]
   have h1:=Int.mul_pos hv hy0
   have h2:=(part y hyS).2
   rw [Int.neg_mul] at h2
   omega
theorem A7b {cs:List Nat} {pre post:List Rw} {x:Rw} (a:Int) (hl:pre.length+post.length+1=cs.length):det cs (pre++(fun c=>a*x c)::post)=a*det cs (pre++x::post):=by
 have h1:=Mu a (fun _=>0) x (fun c=>a*x c) cs pre post (fun c _=>by omega) hl
 have h2:det cs (pre++(fun _=>0)::post)=0:=Ik (fun _ _=>rfl) hl
 omega
def pw (a:Int):Nat->Int
 | 0=>1
 | n+1=>a*pw a n
theorem Alh {a:Int} (h:0<a):∀n,0<pw a n
 | 0=>Int.zero_lt_one
 | n+1=>Int.mul_pos h (Alh h n)
theorem Aas (M:Nat->Rw) (v:Nat) (cs:List Nat):∀(l:List Nat) (pre:List Rw),pre.length+l.length+1=cs.length->det cs (M v::(pre++l.map (Nj M v)))=pw (M v v) l.length*det cs (M v::(pre++l.map M))
 | [],pre,_=>by simp [pw]
 | x::l,pre,hl=>by
  simp only [List.length_cons] at hl
  have h1:=Mu (- M x v) (fun c=>M v v*M x c) (M v) (Nj M v x) cs (M v::pre) (l.map (Nj M v)) (fun c _=>by simp only [Nj]; rw [Int.neg_mul]; omega) (by simp; omega)
  have h2:=Ie (M v) cs pre [] (l.map (Nj M v)) (by simp; omega)
  have h3:=A7b (cs:=cs) (pre:=M v::pre) (post:=l.map (Nj M v)) (x:=M x) (M v v) (by simp; omega)
  have ih:=Aas M v cs l (pre++[M x]) (by simp; omega)
  simp only [List.nil_append,List.append_assoc,List.singleton_append] at h2 ih
  simp only [List.cons_append] at h1 h3
  simp only [List.map_cons,List.length_cons,pw]
  rw [h1,h2,h3,ih,Int.mul_assoc]
  omega
theorem Zm.pos:∀{l:List Nat} {M:Nat->Rw},Zm l M->l.Nodup->0<dV l M
 | [],_,_,_=>Int.zero_lt_one
 | v::l,M,hz,hn=>by
  have hv:0<M v v:=by
   obtain ⟨x,hx,h⟩:=hz.leak [v] (List.Sublist.cons_cons v (List.nil_sublist l)) (by simp)
   obtain rfl:x=v:=by simpa using hx
   simpa [Bm] using h
  have ih:=(hz.out hn hv).pos (List.nodup_cons.1 hn).2
  have h1:=Aas M v (v::l) l [] (by simp)
  have h2:=Xv (c:=v) (pc:=[]) (qc:=l) (x:=M v) (pr:=[]) (qr:=l.map (Nj M v)) rfl (by simp) fun r hr=>by
   simp only [List.nil_append] at hr
   obtain ⟨x,_,rfl⟩:=List.mem_map.1 hr
   simp only [Nj]
   rw [Int.mul_comm]; omega
  simp only [List.nil_append] at h1 h2
  rw [h2] at h1
  have h3:dV (v::l) M=det (v::l) (M v::l.map M):=rfl
  rw [h3]
  apply Classical.byContradiction
  intro hc
  have h4:=Int.mul_nonneg (Int.le_of_lt (Alh hv l.length)) (show 0 <= - det (v::l) (M v::l.map M) by omega)
  rw [Int.mul_neg,<-h1] at h4
  have h5:=Int.mul_pos hv ih
  unfold dV at h5
  omega
theorem Aul {Tm:Rw->Int} (h0:Tm (fun _=>0)=0) (hl:∀(a b:Int) (x y:Rw),Tm (fun c=>a*x c+b*y c)=a*Tm x+b*Tm y):∀(rs:List Rw) (g:List Rw->Int),Tm (fun j=>exD (fun r=>r j) g rs)=exD Tm g rs
 | [],_=>h0
 | r::rs,g=>by
  have h1:=hl (g rs) (-1) r (fun j=>exD (fun r=>r j) (fun l=>g (r::l)) rs)
  have h2:=Aul h0 hl rs fun l=>g (r::l)
  have h3:(fun j=>exD (fun r=>r j) g (r::rs))=fun c=>g rs*r c+(-1)*exD (fun r=>r c) (fun l=>g (r::l)) rs:=by
   funext c
   simp only [exD]
   rw [Int.mul_comm]; omega
  rw [h3,h1,h2]
  simp only [exD]
  rw [Int.mul_comm]; omega
def yR (A:Nat->Rw) (P:List Nat) (r:Rw):Rw:=fun j=>det (j::P) (r::P.map A)
theorem Axk (A:Nat->Rw) {P:List Nat} (r:Rw) {j:Nat} (h:j∈P):yR A P r j=0:=Qt j P h _
theorem Anv {A:Nat->Rw} {P:List Nat} {Tm:Rw->Int} (h0:Tm (fun _=>0)=0) (hl:∀(a b:Int) (x y:Rw),Tm (fun c=>a*x c+b*y c)=a*Tm x+b*Tm y) (hA:∀p∈P,Tm (A p)=0) (r:Rw):Tm (yR A P r)=dV P A*Tm r:=by
 have h1:yR A P r=fun c=>dV P A*r c+(-1)*(fun j=>exD (fun r'=>r' j) (fun l=>det P (r::l)) (P.map A)) c:=by
  funext j
  have:yR A P r j=r j*det P (P.map A)-exD (fun r'=>r' j) (fun l=>det P (r::l)) (P.map A):=rfl
  rw [this]
  unfold dV
  rw [Int.mul_comm]
  dsimp only
  omega
 have h2:=hl (dV P A) (-1) r (fun j=>exD (fun r'=>r' j) (fun l=>det P (r::l)) (P.map A))
 rw [h1,h2,Aul h0 hl,Ju fun x hx => ?_]
 ·omega
 ·obtain ⟨p,hp,rfl⟩:=List.mem_map.1 hx
  exact hA p hp
theorem B0i {cs:List Nat} {pre post:List Rw} (hl:pre.length+post.length+1=cs.length):det cs (pre++(fun _=>0)::post)=0/\∀(a b:Int) (x y:Rw),det cs (pre++(fun c=>a*x c+b*y c)::post)=a*det cs (pre++x::post)+b*det cs (pre++y::post):=by
 refine ⟨Ik (fun _ _=>rfl) hl,fun a b x y => ?_⟩
 rw [Mu b (fun c=>a*x c) y _ cs pre post (fun _ _=>rfl) hl,A7b a hl]
theorem Adc {c:Nat} {P:List Nat} {r1 r2:Rw} (h1:∀p∈P,r1 p=0) (h2:∀p∈P,r2 p=0) {l:List Rw} (hl:l.length+1=P.length):det (c::P) (r1::r2::l)=0:=by
 have e1:det (c::P) (r1::r2::l)=r1 c*det P (r2::l)-exD (fun r=>r c) (fun l'=>det P (r1::l')) (r2::l):=rfl
 have e2:det P (r2::l)=0:=Ik (pre:=[]) (post:=l) h2 (by simp; omega)
 have e3:exD (fun r=>r c) (fun l'=>det P (r1::l')) (r2::l)=exD (fun r=>r c) (fun _=>0) (r2::l):=Lm fun l' hl'=>Ik (pre:=[]) (post:=l') h1 (by simp at hl' ⊢; omega)
 rw [e1,e2,e3,Kb]
 omega
theorem Apo {A:Nat->Rw} {P:List Nat} (hD:dV P A≠0) (a:Rw) (c j:Nat):dV P A*det (j::(P++[c])) (a::(P++[c]).map A)=yR A P a j*yR A P (A c) c-yR A P a c*yR A P (A c) j:=by
 -- the last column and the last row come forward
 have hW:det (j::(P++[c])) (a::(P++[c]).map A)=det (j::c::P) (a::A c::P.map A):=by
  have e1:=Ia c [] (j::P) (a::(P++[c]).map A)
  have e2:=Rr j c P (a::(P++[c]).map A)
  have e3:=Sb (A c) (j::c::P) (P.map A) [a] [] (by simp; omega)
  simp only [List.append_nil,List.cons_append,List.nil_append,List.length_cons,sgn,List.length_map] at e1 e3
  have e4:det (j::c::P) (a::(P++[c]).map A)=sgn P.length*det (j::c::P) (a::A c::P.map A):=by
   rw [List.map_append]; exact e3
  rw [e1,Int.neg_mul,<-Int.mul_neg,<-e2,e4,<-Int.mul_assoc,Yd,Int.one_mul]
 rw [hW]
 have hdup:∀p∈P,∃A1 A2,P.map A=A1++A p::A2:=fun p hp=>by
  obtain ⟨p1,p2,rfl⟩:=List.append_of_mem hp
  exact ⟨p1.map A,p2.map A,by simp⟩
 -- Btt rows are cleared
 have t1:det (j::c::P) (yR A P a::yR A P (A c)::P.map A)=dV P A*det (j::c::P) (a::yR A P (A c)::P.map A):=by
  have hT:=B0i (cs:=j::c::P) (pre:=[]) (post:=yR A P (A c)::P.map A) (by simp)
  exact Anv (Tm:=fun x=>det (j::c::P) (x::yR A P (A c)::P.map A)) hT.1 hT.2 (fun p hp=>by
   obtain ⟨A1,A2,h⟩:=hdup p hp
   have hlen:P.length=A1.length+A2.length+1:=by have:=congrArg List.length h; simp at this; omega
   have:=Ie (A p) (j::c::P) (yR A P (A c)::A1) [] A2 (by simp; omega)
   simp only [List.nil_append,List.cons_append] at this
   rw [h]; exact this) a
 have t2:det (j::c::P) (a::yR A P (A c)::P.map A)=dV P A*det (j::c::P) (a::A c::P.map A):=by
  have hT:=B0i (cs:=j::c::P) (pre:=[a]) (post:=P.map A) (by simp; omega)
  exact Anv (Tm:=fun x=>det (j::c::P) (a::x::P.map A)) hT.1 hT.2 (fun p hp=>by
   obtain ⟨A1,A2,h⟩:=hdup p hp
   have hlen:P.length=A1.length+A2.length+1:=by have:=congrArg List.length h; simp at this; omega
   have:=Ie (A p) (j::c::P) A1 [a] A2 (by simp; omega)
   simp only [List.singleton_append] at this
   rw [h]; exact this) (A c)
 -- and stand alone
 have hz:∀r:Rw,∀p∈P,yR A P r p=0:=fun r p hp=>Axk A r hp
 have alone:∀r:Rw,(∀p∈P,r p=0)->det (c::P) (r::P.map A)=r c*dV P A:=fun r hr=>by
  have:=Wj (c:=c) (pc:=[]) (qc:=P) (x:=r) (pr:=[]) (qr:=P.map A) rfl (by simp) hr
  exact this
 have t3:det (j::c::P) (yR A P a::yR A P (A c)::P.map A)=(yR A P a j*yR A P (A c) c-yR A P a c*yR A P (A c) j)*dV P A:=by
  have e1:det (j::c::P) (yR A P a::yR A P (A c)::P.map A)=yR A P a j*det (c::P) (yR A P (A c)::P.map A)-(yR A P (A c) j*det (c::P) (yR A P a::P.map A)-exD (fun r=>r j) (fun l=>det (c::P) (yR A P a::yR A P (A c)::l)) (P.map A)):=rfl
  have e2:exD (fun r=>r j) (fun l=>det (c::P) (yR A P a::yR A P (A c)::l)) (P.map A)=exD (fun r=>r j) (fun _=>0) (P.map A):=Lm fun l hl=>Adc (hz a) (hz (A c)) (by simpa using hl)
  rw [e1,e2,Kb,alone _ (hz (A c)),alone _ (hz a),Int.sub_mul]
  rw [Int.mul_assoc,Int.mul_comm (yR A P a c) (yR A P (A c) j),Int.mul_assoc]
  omega
 rw [t2] at t1
 have h9:dV P A*(dV P A*det (j::c::P) (a::A c::P.map A))=dV P A*(yR A P a j*yR A P (A c) c-yR A P a c*yR A P (A c) j):=by rw [<-t1,t3,Int.mul_comm]
 exact Int.eq_of_mul_eq_mul_left hD h9
def Gv (cs:List Nat) (r:Rw):Nat:=match cs with
 | []=>0
 | c::cs=>(r c).natAbs+Gv cs r
def Fz (q:Rw->Nat):List Rw->Nat
 | []=>1
 | r::rs=>q r*Fz q rs
theorem A9l {p q:Rw->Nat} (h:∀r,q r<=p r):∀rs,Fz q rs<=Fz p rs
 | []=>Nat.le_refl _
 | r::rs=>Nat.mul_le_mul (h r) (A9l h rs)
theorem Agq {φ:Rw->Int} {q:Rw->Nat}:∀(rs:List Rw) (K:Nat) (g:List Rw->Int),(∀l,l.length+1=rs.length->(g l).natAbs<=K*Fz q l)->(exD φ g rs).natAbs+K*Fz q rs<=K*Fz (fun r=>(φ r).natAbs+q r) rs
 | [],K,g,_=>by simp [exD,Fz]
 | r::rs,K,g,hg=>by
  have ih:=Agq (φ:=φ) rs (K*q r) (fun l=>g (r::l)) fun l hl=>by
   have:=hg (r::l) (by simp; omega)
   simp only [Fz] at this
   rw [Nat.mul_assoc]; exact this
  have h1:=hg rs rfl
  have h2:(φ r*g rs).natAbs<=(φ r).natAbs*(K*Fz q rs):=by
   rw [Int.natAbs_mul]
   exact Nat.mul_le_mul_left _ h1
  have h3:Fz q rs<=Fz (fun r=>(φ r).natAbs+q r) rs:=A9l (fun r=>Nat.le_add_left _ _) rs
  have h4:(φ r).natAbs*(K*Fz q rs)<=(φ r).natAbs*(K*Fz (fun r=>(φ r).natAbs+q r) rs):=Nat.mul_le_mul_left _ (Nat.mul_le_mul_left _ h3)
  have h5:(exD φ g (r::rs)).natAbs<=(φ r*g rs).natAbs+(exD φ (fun l=>g (r::l)) rs).natAbs:=by
   simp only [exD]
   omega
  simp only [Fz]
  have h6:K*(((φ r).natAbs+q r)*Fz (fun r=>(φ r).natAbs+q r) rs)=(φ r).natAbs*(K*Fz (fun r=>(φ r).natAbs+q r) rs)+K*q r*Fz (fun r=>(φ r).natAbs+q r) rs:=by
   rw [Nat.add_mul,Nat.mul_add,Nat.mul_left_comm,Nat.mul_assoc]
  have h7:K*(q r*Fz q rs)=K*q r*Fz q rs:=by rw [Nat.mul_assoc]
  rw [h6,h7]
  omega
theorem Agm:∀(cs:List Nat) (rs:List Rw),cs.length=rs.length->(det cs rs).natAbs<=Fz (Gv cs) rs
 | [],rs,h=>by
  obtain rfl:rs=[]:=List.length_eq_zero_iff.1 h.symm
  simp [det,Fz]
 | c::cs,rs,h=>by
  simp only [List.length_cons] at h
  have h1:=Agq (φ:=fun r=>r c) (q:=Gv cs) rs 1 (det cs) fun l hl=>by
   have:=Agm cs l (by omega)
   omega
  have h2:(det (c::cs) rs).natAbs<=1*Fz (fun r=>(r c).natAbs+Gv cs r) rs:=by
   simp only [det]
   omega
  rw [Nat.one_mul] at h2
  exact h2
def Bal (R:List Ed):Prop:=∀x,od R x=idg R x
def Lf (R:List Ed):Prop:=∀p:Nat->Bool,(∀e∈R,p e.1=p e.2)->∀e∈R,∀f∈R,p e.1=p f.1
theorem Yj {p:Nat->Bool}:∀(S:List Nat),S.Nodup->(∀x,p x=true↔x∈S)->∀R:List Ed,R.countP (fun e=>p e.1)=(S.map fun x=>od R x).sum/\R.countP (fun e=>p e.2)=(S.map fun x=>idg R x).sum
 | S,hn,hp,[]=>by
  have h1:∀l:List Nat,(l.map fun x=>od [] x).sum=0:=fun l=>by
   induction l with
   | nil=>rfl
   | cons a r ih=>simp only [List.map_cons,List.sum_cons,ih]; rfl
  have h2:∀l:List Nat,(l.map fun x=>idg [] x).sum=0:=fun l=>by
   induction l with
   | nil=>rfl
   | cons a r ih=>simp only [List.map_cons,List.sum_cons,ih]; rfl
  exact ⟨(h1 S).symm,(h2 S).symm⟩
 | S,hn,hp,e::R=>by
  obtain ⟨i1,i2⟩:=Yj S hn hp R
  have one:∀(a:Nat) (l:List Nat),l.Nodup->(l.map fun x=>if a=x then 1 else 0).sum=if a∈l then 1 else 0:=fun a l=>by
   induction l with
   | nil=>intro _; rfl
   | cons b r ih =>
    intro hnd
    rw [List.nodup_cons] at hnd
    simp only [List.map_cons,List.sum_cons,ih hnd.2]
    by_cases hab:a=b
    ·subst hab; simp [hnd.1]
    ·simp [hab]
  have add:∀(f g:Nat->Nat) (l:List Nat),(l.map fun x=>f x+g x).sum=(l.map f).sum+(l.map g).sum:=fun f g l=>by
   induction l with
   | nil=>rfl
   | cons b r ih=>simp only [List.map_cons,List.sum_cons,ih]; omega
  refine ⟨?_,?_⟩
  ·have h1:(S.map fun x=>od (e::R) x)=S.map fun x=>od R x+if e.1=x then 1 else 0:=List.map_congr_left fun x _=>Fu e R x
   rw [List.countP_cons,i1,h1,add,one _ _ hn]
   congr 1
   by_cases h:e.1∈S
   ·rw [if_pos h,if_pos ((hp _).2 h)]
   ·rw [if_neg h,if_neg fun h'=>h ((hp _).1 h')]
  ·have h1:(S.map fun x=>idg (e::R) x)=S.map fun x=>idg R x+if e.2=x then 1 else 0:=List.map_congr_left fun x _=>Jx e R x
   rw [List.countP_cons,i2,h1,add,one _ _ hn]
   congr 1
   by_cases h:e.2∈S
   ·rw [if_pos h,if_pos ((hp _).2 h)]
   ·rw [if_neg h,if_neg fun h'=>h ((hp _).1 h')]
theorem A4c {p:Nat->Bool}:∀{R:List Ed},(∀e∈R,p e.1=true->p e.2=true)->R.countP (fun e=>p e.1)<=R.countP (fun e=>p e.2)/\(R.countP (fun e=>p e.1)=R.countP (fun e=>p e.2)->∀e∈R,p e.2=true->p e.1=true)
 | [],_=>⟨Nat.le_refl _,fun _ e he=>by cases he⟩
 | e::R,h=>by
  obtain ⟨i1,i2⟩:=A4c fun f hf=>h f (List.mem_cons_of_mem _ hf)
  have h0:=h e List.mem_cons_self
  rw [List.countP_cons,List.countP_cons]
  by_cases h1:p e.1=true
  ·rw [if_pos h1,if_pos (h0 h1)]
   refine ⟨by omega,fun hc f hf hp2 => ?_⟩
   rcases List.mem_cons.1 hf with rfl | hf
   ·exact h1
   ·exact i2 (by omega) f hf hp2
  ·rw [if_neg h1]
   by_cases h2:p e.2=true
   ·rw [if_pos h2]
    exact ⟨by omega,fun hc=>by omega⟩
   ·rw [if_neg h2]
    refine ⟨i1,fun hc f hf hp2 => ?_⟩
    rcases List.mem_cons.1 hf with rfl | hf
    ·exact absurd hp2 h2
    ·exact i2 hc f hf hp2
theorem Ani {R:List Ed} (hb:Bal R) (hh:Lf R) {S:List Nat} (hn:S.Nodup) {x:Nat} (hx:x∈S) (hox:od R x≠0) {r:Nat} (hr:r∉S) (hor:od R r≠0):∃e∈R,e.1∈S/\e.2∉S:=by
 apply Classical.byContradiction
 intro hno
 have h1:∀e∈R,decide (e.1∈S)=true->decide (e.2∈S)=true:=fun e he h=>by
  apply Classical.byContradiction
  intro h2
  exact hno ⟨e,he,by simpa using h,by simpa using h2⟩
 obtain ⟨c1,c2⟩:=Yj (p:=fun y=>decide (y∈S)) S hn (fun y=>by simp) R
 have hc:R.countP (fun e=>decide (e.1∈S))=R.countP (fun e=>decide (e.2∈S)):=by
  rw [c1,c2]
  congr 1
  exact List.map_congr_left fun y _=>hb y
 have h2:=(A4c (p:=fun y=>decide (y∈S)) h1).2 hc
 have h3:∀e∈R,(fun y=>decide (y∈S)) e.1=(fun y=>decide (y∈S)) e.2:=fun e he=>by
  simp only
  by_cases h:e.1∈S
  ·have:=h1 e he (by simpa using h)
   simp [h] at this ⊢
   exact this
  ·have:¬e.2∈S:=fun h'=>by
    have:=h2 e he (by simpa using h')
    simp at this
    exact h this
   simp [h,this]
 have get:∀y,od R y≠0->∃e∈R,e.1=y:=fun y hy=>by
  apply Classical.byContradiction
  intro h
  exact hy (Hh.2 fun e he h'=>h ⟨e,he,h'⟩)
 obtain ⟨e,he,rfl⟩:=get x hox
 obtain ⟨f,hf,rfl⟩:=get r hor
 have:=hh (fun y=>decide (y∈S)) h3 e he f hf
 simp [hx,hr] at this
theorem A6f (S:List Nat) (hn:S.Nodup) (x:Nat) (hx:x∈S):∀R:List Ed,0<=Bm S (lap R x)/\((∃e∈R,e.1=x/\e.2∉S)->0<Bm S (lap R x))
 | []=>⟨by
   have:Bm S (lap [] x)=0:=by
    have:Bm S (lap [] x)=Bm S fun _=>0:=Dp fun _ _=>rfl
    rw [this,Fw]
   omega,fun ⟨e,he,_⟩=>by cases he⟩
 | e::R=>by
  obtain ⟨i1,i2⟩:=A6f S hn x hx R
  have dl0:∀a,a∉S->Bm S (dl a)=0:=fun a ha=>by
   have:Bm S (dl a)=Bm S fun _=>0:=Dp fun c hc=>Hf fun e=>ha (e ▸ hc)
   rw [this,Fw]
  by_cases he:e.1=x
  ·have h1:Bm S (lap (e::R) x)+Bm S (dl e.2)=Bm S (dl x)+Bm S (lap R x):=by
    rw [<-Ix,<-Ix]
    exact Dp fun c _=>by simp only [lap,if_pos he]; omega
   rw [Kj hn hx] at h1
   by_cases h2:e.2∈S
   ·rw [Kj hn h2] at h1
    refine ⟨by omega,fun ⟨f,hf,hf1,hf2⟩ => ?_⟩
    rcases List.mem_cons.1 hf with rfl | hf
    ·exact absurd h2 hf2
    ·have:=i2 ⟨f,hf,hf1,hf2⟩; omega
   ·rw [dl0 _ h2] at h1
    exact ⟨by omega,fun _=>by omega⟩
  ·have h1:Bm S (lap (e::R) x)=Bm S (lap R x):=Dp fun c _=>by simp only [lap,if_neg he]; omega
   rw [h1]
   refine ⟨i1,fun ⟨f,hf,hf1,hf2⟩ => ?_⟩
   rcases List.mem_cons.1 hf with rfl | hf
   ·exact absurd hf1 he
   ·exact i2 ⟨f,hf,hf1,hf2⟩
theorem Agc {x y:Nat} (h:x≠y):∀R:List Ed,lap R x y<=0
 | []=>Int.le_refl _
 | e::R=>by
  have:=Agc h R
  have h1:dl x y=0:=Hf h
  have h2:0<=dl e.2 y:=by unfold dl; split <;> decide
  simp only [lap]
  split <;> omega
theorem Amu {R:List Ed} (hb:Bal R) (hh:Lf R) {l:List Nat} (hn:l.Nodup) (hl:∀x∈l,od R x≠0) {r:Nat} (hr:r∉l) (hor:od R r≠0):Zm l (lap R) where
 off:=fun x _ y _ h=>Agc h R
 row:=fun x hx=>(A6f l hn x hx R).1
 leak:=fun S hS hne=>by
  obtain ⟨x,hx⟩:=List.exists_mem_of_ne_nil S hne
  have hnS:S.Nodup:=List.Nodup.sublist hS hn
  obtain ⟨e,he,h1,h2⟩:=Ani hb hh hnS hx (hl x (hS.subset hx)) (fun h=>hr (hS.subset h)) hor
  exact ⟨e.1,h1,(A6f S hnS e.1 h1 R).2 ⟨e,he,rfl,h2⟩⟩
theorem A2v (f g:Rw):∀cs,Gv cs (fun c=>f c+g c)<=Gv cs f+Gv cs g
 | []=>Nat.le_refl _
 | c::cs=>by
  have:=A2v f g cs
  simp only [Gv]
  have:=Int.natAbs_add_le (f c) (g c)
  omega
theorem A6p (a:Nat):∀{cs:List Nat},cs.Nodup->Gv cs (dl a)<=1/\(a∉cs->Gv cs (dl a)=0)
 | [],_=>⟨by simp [Gv],fun _=>rfl⟩
 | c::cs,hn=>by
  rw [List.nodup_cons] at hn
  obtain ⟨i1,i2⟩:=A6p a hn.2
  simp only [Gv]
  by_cases hc:a=c
  ·subst hc
   rw [i2 hn.1,Ll]
   exact ⟨by decide,fun h=>absurd List.mem_cons_self h⟩
  ·rw [Hf hc]
   exact ⟨by simp; exact i1,fun h=>by rw [i2 fun h'=>h (List.mem_cons_of_mem _ h')]; rfl⟩
theorem Acf {cs:List Nat} (hn:cs.Nodup) (x:Nat):∀R:List Ed,Gv cs (lap R x)<=2*od R x
 | []=>by
  have:∀cs:List Nat,Gv cs (lap [] x)=0:=fun cs=>by
   induction cs with
   | nil=>rfl
   | cons c cs ih =>
    show Int.natAbs 0+Gv cs (lap [] x)=0
    rw [ih]; rfl
  rw [this]; omega
 | e::R=>by
  have ih:=Acf hn x R
  rw [Fu]
  by_cases he:e.1=x
  ·rw [if_pos he]
   have h0:∀cs:List Nat,Gv cs (lap (e::R) x)=Gv cs fun c=>(dl x c+(- dl e.2 c))+lap R x c:=fun cs=>by
    induction cs with
    | nil=>rfl
    | cons c cs ih=>simp only [Gv,ih,lap,if_pos he]; rfl
   have h1:=A2v (fun c=>dl x c+(- dl e.2 c)) (lap R x) cs
   have h2:=A2v (dl x) (fun c => - dl e.2 c) cs
   have h3:∀cs:List Nat,Gv cs (fun c => - dl e.2 c)=Gv cs (dl e.2):=fun cs=>by
    induction cs with
    | nil=>rfl
    | cons c cs ih=>simp only [Gv,ih,Int.natAbs_neg]
   have h4:=(A6p x hn).1
   have h5:=(A6p e.2 hn).1
   rw [h3] at h2
   rw [h0]
   omega
  ·rw [if_neg he]
   have h0:∀cs:List Nat,Gv cs (lap (e::R) x)=Gv cs (lap R x):=fun cs=>by
    induction cs with
    | nil=>rfl
    | cons c cs ih=>simp only [Gv,ih,lap,if_neg he,Int.zero_add]
   rw [h0]
   omega
theorem Avs {n:Nat} (h:0<n):2*n<=2 ^ n:=by
 induction n with
 | zero=>omega
 | succ n ih =>
  by_cases h0:n=0
  ·subst h0; decide
  ·have:=ih (by omega)
   have h1:n+1<=2 ^ n:=by omega
   rw [Nat.pow_succ]
   omega
theorem A9p {R:List Ed} {q:Rw->Nat} (hq:∀x,od R x≠0->q (lap R x)<=2 ^ od R x):∀ns:List Nat,(∀x∈ns,od R x≠0)->Fz q (ns.map (lap R))<=2 ^ (ns.map fun x=>od R x).sum
 | [],_=>Nat.le_refl _
 | x::ns,h=>by
  simp only [List.map_cons,Fz,List.sum_cons]
  rw [Nat.pow_add]
  exact Nat.mul_le_mul (hq x (h x List.mem_cons_self)) (A9p hq ns fun y hy=>h y (List.mem_cons_of_mem _ hy))
theorem Aoi (R:List Ed) {ns:List Nat} (hn:ns.Nodup):(ns.map fun x=>od R x).sum<=R.length:=by
 rw [<-(Yj (p:=fun y=>decide (y∈ns)) ns hn (fun y=>by simp) R).1]
 exact List.countP_le_length
theorem Axv {R:List Ed} {cs ns:List Nat} (hc:cs.Nodup) (hn:ns.Nodup) (hl:cs.length=ns.length) (ho:∀x∈ns,od R x≠0):(det cs (ns.map (lap R))).natAbs<=2 ^ R.length:=by
 refine Nat.le_trans (Agm cs _ (by simp [hl])) (Nat.le_trans (A9p (fun x hx => ?_) ns ho) (Nat.pow_le_pow_right (by omega) (Aoi R hn)))
 exact Nat.le_trans (Acf hc x R) (Avs (by omega))
def tw:Nat->List Ed->Nat->Int
 | 0,_,_=>1
 | n+1,R,a=>sp (fun g k=>if g.1=a then tw n k g.2 else 0) R
theorem A2e {c:Int} (hc:0<=c):∀{R:List Ed} {f:Ed->List Ed->Int},(∀x l,(x::l).Perm R->0<=f x l/\f x l<=c)->0<=sp f R/\sp f R<=R.length*c
 | [],_,_=>by simp [sp]
 | z::R,f,h=>by
  have h1:=h z R (.refl _)
  have h2:=A2e hc (R:=R) (f:=fun y k=>f y (z::k)) fun y k hk=>h y (z::k) ((List.Perm.swap z y k).trans (hk.cons z))
  simp only [sp]
  have e1:(((z::R).length:Nat):Int)*c=(R.length:Int)*c+c:=by
   rw [List.length_cons,Int.natCast_add,Int.add_mul]; simp
  omega
theorem Qw:∀n,0<Fs n
 | 0=>Int.zero_lt_one
 | n+1=>Int.mul_pos (by omega) (Qw n)
theorem Ug:∀(n:Nat) {R:List Ed} (a:Nat),R.length=n->0<=tw n R a/\tw n R a<=Fs n
 | 0,_,_,_=>⟨Int.le_of_lt Int.zero_lt_one,Int.le_refl _⟩
 | n+1,R,a,hl=>by
  have:=A2e (c:=Fs n) (Int.le_of_lt (Qw n)) (R:=R) (f:=fun g k=>if g.1=a then tw n k g.2 else 0) fun x l hp=>by
   have hll:l.length=n:=by have:=hp.length_eq; simp at this; omega
   have:=Ug n x.2 hll
   have:=Qw n
   split <;> omega
  rw [hl] at this
  exact this
theorem Vl (r:Nat):∀(n:Nat) {R:List Ed} (a:Nat),R.length=n->0<=trl r n R a
 | 0,_,_,_=>by simp only [trl]; split <;> decide
 | n+1,R,a,hl=>by
  have hpos:∀{R:List Ed} {f:Ed->List Ed->Int},(∀x l,(x::l).Perm R->0<=f x l)->0<=sp f R:=fun {R}=>by
   induction R with
   | nil=>intro f _; exact Int.le_refl _
   | cons z R ih =>
    intro f h
    have h1:=h z R (.refl _)
    have h2:=ih (f:=fun y k=>f y (z::k)) fun y k hk=>h y (z::k) ((List.Perm.swap z y k).trans (hk.cons z))
    simp only [sp]; omega
  refine hpos fun x l hp => ?_
  have hll:l.length=n:=by have:=hp.length_eq; simp at this; omega
  have:=Vl r n x.2 hll
  split <;> omega
theorem A4v:∀{R:List Ed} {f:Ed->List Ed->Int},sp f R≠0->∃x l,(x::l).Perm R/\f x l≠0
 | [],_,h=>absurd rfl h
 | z::R,f,h=>by
  by_cases h1:f z R=0
  ·have h2:sp (fun y k=>f y (z::k)) R≠0:=fun h2=>h (by simp only [sp,h1,h2]; rfl)
   obtain ⟨x,l,hp,hf⟩:=A4v h2
   exact ⟨x,z::l,(List.Perm.swap z x l).trans (hp.cons z),hf⟩
  ·exact ⟨z,R,.refl _,h1⟩
theorem A5m (F:Nat->Ed->List Ed->Int) (R:List Ed):∀V:List Nat,Bm V (fun r=>sp (F r) R)=sp (fun x l=>Bm V fun r=>F r x l) R
 | []=>(Ua R).symm
 | v::V=>by simp only [Bm]; rw [A5m F R V,<-Yn]
theorem Ano {V:List Nat} (hn:V.Nodup):∀(n:Nat) {R:List Ed} {a:Nat},R.length=n->(∀e∈R,e.2∈V)->a∈V->tw n R a=Bm V fun r=>trl r n R a
 | 0,R,a,_,_,ha=>by
  have h1:Bm V (fun r=>trl r 0 R a)=Bm V (dl a):=Dp fun r _=>rfl
  rw [h1,Kj hn ha]; rfl
 | n+1,R,a,hl,hR,ha=>by
  simp only [trl]
  rw [A5m]
  simp only [tw]
  refine Hv fun x l hp => ?_
  have hll:l.length=n:=by have:=hp.length_eq; simp at this; omega
  have hx:x∈R:=hp.mem_iff.1 List.mem_cons_self
  by_cases hxa:x.1=a
  ·have h1:Bm V (fun r=>if x.1=a then trl r n l x.2 else 0)=Bm V fun r=>trl r n l x.2:=Dp fun r _=>if_pos hxa
   rw [if_pos hxa,h1]
   exact Ano hn n hll (fun e he=>hR e (hp.mem_iff.1 (List.mem_cons_of_mem _ he))) (hR x hx)
  ·have h1:Bm V (fun r=>if x.1=a then trl r n l x.2 else 0)=Bm V fun _=>0:=Dp fun r _=>if_neg hxa
   rw [if_neg hxa,h1,Fw]
theorem Abt {r:Nat}:∀(n:Nat) {R:List Ed} {a:Nat},R.length=n->trl r n R a≠0->(∀x,od R x+(if r=x then 1 else 0)=idg R x+if a=x then 1 else 0)/\∀p:Nat->Bool,(∀e∈R,p e.1=p e.2)->∀e∈R,p e.1=p a
 | 0,R,a,hl,h=>by
  obtain rfl:R=[]:=List.length_eq_zero_iff.1 hl
  simp only [trl] at h
  have hra:a=r:=by
   apply Classical.byContradiction
   intro hne
   exact h (if_neg hne)
  subst hra
  exact ⟨fun x=>rfl,fun p _ e he=>by cases he⟩
 | n+1,R,a,hl,h=>by
  simp only [trl] at h
  obtain ⟨g,k,hp,hg⟩:=A4v h
  have hkl:k.length=n:=by have:=hp.length_eq; simp at this; omega
  by_cases hga:g.1=a
  ·rw [if_pos hga] at hg
   obtain ⟨i1,i2⟩:=Abt n hkl hg
   refine ⟨fun x => ?_,fun p hpc e he => ?_⟩
   ·have:=i1 x
    rw [<-Jg hp,<-Nc hp,Fu,Jx,hga]
    omega
   ·have hgR:g∈R:=hp.mem_iff.1 List.mem_cons_self
    have h2:=hpc g hgR
    rcases List.mem_cons.1 (hp.mem_iff.2 he) with rfl | he'
    ·rw [hga]
    ·rw [i2 p (fun f hf=>hpc f (hp.mem_iff.1 (List.mem_cons_of_mem _ hf))) e he',<-h2,hga]
  ·exact absurd (if_neg hga) hg
def gE (es:List Ed) (i:Nat):Ed:=es.getD i (0,0)
def rst (es:List Ed) (K:Nat->Bool):List Ed:=((List.range es.length).filter K).map (gE es)
theorem Zd {es:List Ed} {i:Nat} (h:i<es.length):gE es i=es[i]:=by simp [gE,List.getD,h]
theorem Anz {g:Nat->Ed}:∀(L:List Nat) (f:Ed->List Ed->Int),L.Nodup->sp f (L.map g)=Bm L fun i=>f (g i) ((L.filter fun j=>decide (j≠i)).map g)
 | [],_,_=>rfl
 | x::L,f,hn=>by
  rw [List.nodup_cons] at hn
  simp only [List.map_cons,sp,Bm]
  rw [Anz L (fun y k=>f y (g x::k)) hn.2]
  have h1:((x::L).filter fun j=>decide (j≠x))=L:=by
   rw [List.filter_cons,if_neg (by simp),List.filter_eq_self]
   intro y hy
   simp only [ne_eq,decide_not,Bool.not_eq_true',decide_eq_false_iff_not]
   exact fun e=>hn.1 (e ▸ hy)
  have h2:Bm L (fun i=>f (g i) (g x::(L.filter fun j=>decide (j≠i)).map g))=Bm L fun i=>f (g i) (((x::L).filter fun j=>decide (j≠i)).map g):=Dp fun i hi=>by
   rw [List.filter_cons,if_pos (by simp only [ne_eq,decide_not,Bool.not_eq_true',decide_eq_false_iff_not]; exact fun e=>hn.1 (e ▸ hi)),List.map_cons]
  rw [h1,h2]
theorem A7a {es:List Ed} {K K':Nat->Bool} (h:∀i,i<es.length->K i=K' i):rst es K=rst es K':=by
 unfold rst
 rw [List.filter_congr fun i hi=>h i (List.mem_range.1 hi)]
theorem B0h {es:List Ed} {K:Nat->Bool} (a:Nat) (hne:rst es K≠[]):tw (rst es K).length (rst es K) a=Bm ((List.range es.length).filter K) fun i=>if (gE es i).1=a then tw (rst es fun j=>K j&&decide (j≠i)).length (rst es fun j=>K j&&decide (j≠i)) (gE es i).2 else 0:=by
 have hnd:((List.range es.length).filter K).Nodup:=List.Nodup.sublist List.filter_sublist List.nodup_range
 obtain ⟨n,hn⟩:∃n,(rst es K).length=n+1:=⟨(rst es K).length-1,by have:=List.length_pos_iff.2 hne; omega⟩
 have hr:∀i,rst es (fun j=>K j&&decide (j≠i))=(((List.range es.length).filter K).filter fun j=>decide (j≠i)).map (gE es):=fun i=>by
  unfold rst
  rw [List.filter_filter]
  congr 1
  apply List.filter_congr
  intro j _
  exact Bool.and_comm _ _
 rw [hn]
 have h1:tw (n+1) (rst es K) a=sp (fun g k=>if g.1=a then tw n k g.2 else 0) (((List.range es.length).filter K).map (gE es)):=rfl
 rw [h1,Anz _ _ hnd]
 refine Dp fun i hi => ?_
 have hl:(rst es fun j=>K j&&decide (j≠i)).length=n:=by
  rw [hr,List.length_map]
  have h2:(rst es K).length=((List.range es.length).filter K).length:=by unfold rst; rw [List.length_map]
  rw [h2] at hn
  have h3:(((List.range es.length).filter K).filter fun j=>decide (j≠i))=((List.range es.length).filter K).erase i:=by
   rw [List.Nodup.erase_eq_filter hnd]
   apply List.filter_congr
   intro j _
   rw [Bool.eq_iff_iff]; simp
  rw [h3,List.length_erase_of_mem hi]; omega
 rw [<-hr,hl]
theorem Auu (es:List Ed) (K:Nat->Bool):(rst es K).length<=es.length:=by
 unfold rst
 rw [List.length_map]
 have:=List.length_filter_le K (List.range es.length)
 simpa using this
theorem Ahe (es:List Ed) {K:Nat->Bool} (h:∀i,i<es.length->K i=true):rst es K=es:=by
 unfold rst
 rw [List.filter_eq_self.2 fun i hi=>h i (List.mem_range.1 hi)]
 apply List.ext_getElem?
 intro i
 rw [List.getElem?_map]
 by_cases hi:i<es.length
 ·rw [List.getElem?_range hi,Option.map_some,Zd hi,List.getElem?_eq_getElem hi]
 ·rw [List.getElem?_eq_none (by simp; omega),List.getElem?_eq_none (by omega)]; rfl
theorem Awk {es:List Ed} {K:Nat->Bool} (h:∀i,i<es.length->K i=false):rst es K=[]:=by
 unfold rst
 rw [List.filter_eq_nil_iff.2 fun i hi=>by rw [h i (List.mem_range.1 hi)]; decide]
 rfl
def Ec (s:Nat) (i:Nat):Bool:=!s.testBit i
def wB (es:List Ed) (s a:Nat):Int:=tw (rst es (Ec s)).length (rst es (Ec s)) a
theorem A0o (s i j:Nat):Ec (s ||| 2 ^ i) j=(Ec s j&&decide (j≠i)):=by
 unfold Ec
 rw [Nat.testBit_or,Nat.testBit_two_pow,Bool.not_or]
 congr 1
 rw [Bool.eq_iff_iff]
 simp
 omega
theorem A6l {es:List Ed} {s:Nat} (a:Nat) (hne:rst es (Ec s)≠[]):wB es s a=Bm ((List.range es.length).filter (Ec s)) fun i=>if (gE es i).1=a then wB es (s ||| 2 ^ i) (gE es i).2 else 0:=by
 unfold wB
 rw [B0h a hne]
 refine Dp fun i _ => ?_
 rw [A7a (K:=Ec (s ||| 2 ^ i)) (K':=fun j=>Ec s j&&decide (j≠i)) fun j _=>A0o s i j]
theorem Xx:∀{a b:Nat},a<=b->Fs a<=Fs b:=fun {a b} h=>by
 induction h with
 | refl=>exact Int.le_refl _
 | @step m _ ih =>
  have:=Qw m
  have h2:Fs (m+1)=((m+1:Nat):Int)*Fs m:=rfl
  have h3:1*Fs m<=((m+1:Nat):Int)*Fs m:=Int.mul_le_mul_of_nonneg_right (by omega) (by omega)
  show Fs a<=Fs (m+1)
  omega
theorem A3f (es:List Ed) (s a:Nat):0<=wB es s a/\wB es s a<=Fs es.length:=by
 have h1:=Ug _ (R:=rst es (Ec s)) a rfl
 have h2:=Xx (Auu es (Ec s))
 unfold wB
 omega
theorem A6d (es:List Ed) (a:Nat):wB es 0 a=tw es.length es a:=by
 unfold wB
 rw [Ahe es fun i _=>by simp [Ec]]
theorem Aut {es:List Ed} (a:Nat) {s:Nat} (h:∀i,i<es.length->Ec s i=false):wB es s a=1:=by
 unfold wB
 rw [Awk h]; rfl
theorem Abg (f:Nat->Int):∀(l k:List Nat),Bm (l++k) f=Bm l f+Bm k f
 | [],k=>by simp [Bm]
 | a::l,k=>by simp only [List.cons_append,Bm]; rw [Abg f l k]; omega
end Go.Ev
namespace Go.Ev.YtgehhippjhealaaGreatC.P4
open Go.Ev
open Go Go.Ev
def chi (l:List Nat) (A:Nat->Rw) (k i j:Nat):Int:=if k<=i/\i<l.length/\k<=j/\j<l.length then yR A (l.take k) (A (l.getD i 0)) (l.getD j 0) else 0
def Vd (l:List Nat) (A:Nat->Rw) (k:Nat):Int:=dV (l.take k) A
theorem A2r {l:List Nat} {i:Nat} (h:i<l.length):l.getD i 0=l[i]:=by simp [List.getD,h]
theorem A3l {l:List Nat} (hn:l.Nodup) {k j:Nat} (hj:j<l.length) (h:k<=j):l.getD j 0∉l.take k:=by
 rw [A2r hj]
 intro hm
 obtain ⟨i,hi,he⟩:=List.mem_iff_getElem.1 hm
 rw [List.getElem_take] at he
 have hik:i<k:=by rw [List.length_take] at hi; omega
 exact List.pairwise_iff_getElem.1 hn i j (by omega) hj (by omega) he
theorem Asb {l:List Nat} {i:Nat} (h:i<l.length):l.getD i 0∈l:=by rw [A2r h]; exact List.getElem_mem h
theorem B1f {es:List Ed} (hb:Bal es) (hh:Lf es) (hlen:es.length<=15) {l:List Nat} (hn:l.Nodup) (hl:∀x∈l,od es x≠0) {r:Nat} (hr:r∉l) (hor:od es r≠0):Bar l.length (chi l (lap es)) (Vd l (lap es)):=by
 have hz:=Amu hb hh hn hl hr hor
 have hpos:∀k,Vd l (lap es) k≠0:=fun k=>by
  have:=(hz.sub hn (List.take_sublist k l)).pos (List.Nodup.sublist (List.take_sublist k l) hn)
  unfold Vd; omega
 have htk:∀k,k<l.length->l.take (k+1)=l.take k++[l.getD k 0]:=fun k hk=>by rw [A2r hk]; exact List.take_succ_eq_append_getElem hk
 have box:∀k i j,(chi l (lap es) k i j).natAbs<=2 ^ es.length:=fun k i j=>by
  unfold chi
  split
  ·next h =>
   obtain ⟨h1,h2,h3,h4⟩:=h
   have hnt:=List.Nodup.sublist (List.take_sublist k l) hn
   exact Axv (cs:=l.getD j 0::l.take k) (ns:=l.getD i 0::l.take k) (List.nodup_cons.2 ⟨A3l hn h4 h3,hnt⟩) (List.nodup_cons.2 ⟨A3l hn h2 h1,hnt⟩) (by simp) fun x hx=>by
    rcases List.mem_cons.1 hx with rfl | hx
    ·exact hl _ (Asb h2)
    ·exact hl _ (List.mem_of_mem_take hx)
  ·simp
 have hpow:2 ^ es.length<=2 ^ 15:=Nat.pow_le_pow_right (by omega) hlen
 refine ⟨rfl,fun k hk => ?_,fun k _=>hpos k,fun k i j h1 h2 h3 h4 => ?_,fun k i j => ?_,fun k i j => ?_⟩
 ·have h0:chi l (lap es) k k k=yR (lap es) (l.take k) (lap es (l.getD k 0)) (l.getD k 0):=if_pos ⟨by omega,hk,by omega,hk⟩
  rw [h0]
  unfold Vd yR dV
  rw [htk k hk,List.map_append,Ia,List.map_cons,List.map_nil,Ra _ _ _ _ (by simp),<-Int.mul_assoc,List.length_map,Yd,Int.one_mul,List.append_nil,List.append_nil]
 ·have e0:chi l (lap es) (k+1) i j=yR (lap es) (l.take (k+1)) (lap es (l.getD i 0)) (l.getD j 0):=if_pos ⟨by omega,h2,by omega,h4⟩
  have e1:chi l (lap es) k i j=yR (lap es) (l.take k) (lap es (l.getD i 0)) (l.getD j 0):=if_pos ⟨by omega,h2,by omega,h4⟩
  have e2:chi l (lap es) k k k=yR (lap es) (l.take k) (lap es (l.getD k 0)) (l.getD k 0):=if_pos ⟨by omega,by omega,by omega,by omega⟩
  have e3:chi l (lap es) k i k=yR (lap es) (l.take k) (lap es (l.getD i 0)) (l.getD k 0):=if_pos ⟨by omega,by omega,by omega,by omega⟩
  have e4:chi l (lap es) k k j=yR (lap es) (l.take k) (lap es (l.getD k 0)) (l.getD j 0):=if_pos ⟨by omega,by omega,by omega,by omega⟩
  have h5:=Apo (A:=lap es) (P:=l.take k) (hpos k) (lap es (l.getD i 0)) (l.getD k 0) (l.getD j 0)
  rw [e0,e1,e2,e3,e4,<-h5,<-htk k (by omega)]
  exact (Int.mul_tdiv_cancel_left _ (hpos k)).symm
 ·have:=box k i j; omega
 ·have:=box k i j; omega
theorem Aos (x y:Nat):∀es:List Ed,lap es x y=tbE es x y
 | []=>by simp [lap,tbE,Gi]
 | (a,b)::es=>by
  have ih:=Aos x y es
  simp only [lap,ih]
  unfold tbE Gi dl
  simp only [List.filter_cons]
  by_cases hab:a=b
  ·subst hab
   simp only [beq_self_eq_true,Bool.not_true,Bool.false_eq_true,if_false]
   by_cases hax:a=x
   ·subst hax; simp only [if_true]; omega
   ·simp only [if_neg hax]; omega
  ·have hb:(!(a==b))=true:=by simpa using hab
   simp only [hb,if_true,List.countP_cons,List.count_cons,beq_iff_eq,Prod.mk.injEq]
   by_cases hax:a=x
   ·subst hax
    by_cases hby:b=y
    ·subst hby
     simp only [if_neg hab,and_self,if_true]; omega
    ·have:¬(True/\b=y):=fun h=>hby h.2
     simp only [if_neg hby,if_neg this,if_true]
     split <;> omega
   ·have:¬(a=x/\b=y):=fun h=>hax h.1
    simp only [if_neg hax,if_neg this]
    split <;> omega
theorem Apw (es:List Ed) (l:List Nat) (a b:Nat) (ha:a<l.length) (hb:b<l.length):chi l (lap es) 0 a b=tbE es (l.getD a 0) (l.getD b 0):=by
 have h0:chi l (lap es) 0 a b=yR (lap es) (l.take 0) (lap es (l.getD a 0)) (l.getD b 0):=if_pos ⟨by omega,ha,by omega,hb⟩
 rw [h0,<-Aos]
 simp [yR,det,exD]
theorem Jo {R:List Ed} {v:Nat} (h:od R v=0) (c:Nat):lap R v c=0:=by
 induction R with
 | nil=>rfl
 | cons e R ih =>
  rw [Fu] at h
  have:e.1≠v:=fun he=>by rw [if_pos he] at h; omega
  simp only [lap,if_neg this,ih (by omega)]
  rfl
theorem B1k {R:List Ed} {v:Nat} (h:idg R v=0) {x:Nat} (hx:x≠v):lap R x v=0:=Zv hx R fun e he _ hv=>Ni.1 h e he hv
theorem A9c {W:List Nat} (hn:W.Nodup):∀{R:List Ed},(∀e∈R,e.1∈W/\e.2∈W)->∀x,Bm W (lap R x)=0
 | [],_,x=>by
  have:Bm W (lap [] x)=Bm W fun _=>0:=Dp fun _ _=>rfl
  rw [this,Fw]
 | e::R,h,x=>by
  have ih:=A9c hn (fun f hf=>h f (List.mem_cons_of_mem _ hf)) x
  obtain ⟨h1,h2⟩:=h e List.mem_cons_self
  by_cases he:e.1=x
  ·have h3:Bm W (lap (e::R) x)+Bm W (dl e.2)=Bm W (dl x)+Bm W (lap R x):=by
    rw [<-Ix,<-Ix]
    exact Dp fun c _=>by simp only [lap,if_pos he]; omega
   rw [Kj hn (a:=e.2) h2,Kj hn (a:=x) (by rw [<-he]; exact h1)] at h3
   omega
  ·have h3:Bm W (lap (e::R) x)=Bm W (lap R x):=Dp fun c _=>by simp only [lap,if_neg he]; omega
   rw [h3,ih]
theorem A2m {W:List Nat} (hn:W.Nodup) {a:Nat} (ha:a∈W) (t:Int):Bm W (fun v=>if a=v then t else 0)=t:=by
 have h1:Bm W (fun v=>if a=v then t else 0)=Bm W fun v=>t*dl a v:=Dp fun v _=>by unfold dl; split <;> omega
 rw [h1,Rn,Kj hn ha]; omega
theorem A9b {W:List Nat} (hn:W.Nodup) (c:Nat):∀{R:List Ed},(∀e∈R,e.1∈W)->Bm W (fun v=>lap R v c)=(od R c:Nat)-(idg R c:Nat)
 | [],_=>by
  have:Bm W (fun v=>lap [] v c)=Bm W fun _=>0:=Dp fun _ _=>rfl
  rw [this,Fw]; rfl
 | e::R,h=>by
  have ih:=A9b hn c (R:=R) fun f hf=>h f (List.mem_cons_of_mem _ hf)
  have h1:=h e List.mem_cons_self
  have h2:Bm W (fun v=>lap (e::R) v c)=Bm W (fun v=>if e.1=v then dl e.1 c-dl e.2 c else 0)+Bm W fun v=>lap R v c:=by
   rw [<-Ix]
   exact Dp fun v _=>by
    simp only [lap]
    by_cases he:e.1=v
    ·rw [if_pos he,if_pos he,he]
    ·rw [if_neg he,if_neg he]
  rw [h2,A2m hn h1,ih,Fu,Jx]
  unfold dl
  split <;> split <;> omega
theorem A6u (R:List Ed):∀(p q:List Nat),Ep R (p++q)=Ep R p*Ep R q
 | [],q=>by simp [Ep]
 | x::p,q=>by simp only [List.cons_append,Ep]; rw [A6u R p q,Int.mul_assoc]
theorem Ahy:∀n,Fs n=(fct n:Nat)
 | 0=>rfl
 | n+1=>by simp only [Fs,fct]; rw [Ahy n]; omega
theorem Ame (es:List Ed):∀v,(nfU es v:Nat)=Ep es (List.range v)
 | 0=>rfl
 | v+1=>by
  rw [List.range_succ,A6u,<-Ame es v]
  simp only [nfU,Ep,Ahy]
  show _=_*(((fct (Iz es v-1):Nat):Int)*1)
  rw [Int.mul_one,Int.natCast_mul]
theorem Afu (R:List Ed) {a:Nat} {V:List Nat} (h:a∈V):Fs (od R a-1)*Ep R (V.erase a)=Ep R V:=by
 induction V with
 | nil=>cases h
 | cons x V ih =>
  by_cases hx:x=a
  ·subst hx; simp [Ep]
  ·have:(x::V).erase a=x::V.erase a:=by rw [List.erase_cons_tail]; simpa using hx
   rw [this]
   simp only [Ep]
   rw [Int.mul_left_comm,ih ((List.mem_cons.1 h).resolve_left fun e=>hx e.symm)]
def Gd (es:List Ed):List Nat:=(List.range 8).filter fun v=>decide (0<od es v)
theorem Hi (es:List Ed):(Gd es).Nodup:=List.Nodup.sublist List.filter_sublist List.nodup_range
theorem Ji {es:List Ed} {x:Nat}:x∈Gd es↔x<8/\0<od es x:=by simp [Gd]
theorem Mo {es:List Ed} (hb:Bal es) (hn8:∀e∈es,e.1<8/\e.2<8):∀e∈es,e.1∈Gd es/\e.2∈Gd es:=fun e he=>by
 refine ⟨Ji.2 ⟨(hn8 e he).1,?_⟩,Ji.2 ⟨(hn8 e he).2,?_⟩⟩
 ·exact Nat.pos_of_ne_zero fun h=>Hh.1 h e he rfl
 ·rw [hb]; exact Nat.pos_of_ne_zero fun h=>Ni.1 h e he rfl
theorem A1u (es:List Ed):cl es=(Gd es).erase (Dw es):=by
 rw [List.Nodup.erase_eq_filter (Hi es)]
 unfold cl Gd
 rw [List.filter_filter]
 apply List.filter_congr
 intro x _
 rw [Bool.and_comm]
 rfl
theorem Ayk {es:List Ed} (hb:Bal es) (hn8:∀e∈es,e.1<8/\e.2<8) {a:Nat} (ha:a∈Gd es) {r:Nat} (hr:r∈Gd es):fF a ((List.range 8).erase a) es=(nf es:Nat)*dV ((Gd es).erase r) (lap es):=by
 have ha8:=(Ji.1 ha).1
 have h1:Fs (od es a-1)*Ep es ((List.range 8).erase a)=(nf es:Nat):=by
  rw [Afu es (List.mem_range.2 ha8)]
  exact (Ame es 8).symm
 have hV:((List.range 8).erase a).Nodup:=List.Nodup.erase a List.nodup_range
 have h2:dV ((List.range 8).erase a) (aR es)=dV (((List.range 8).erase a).filter fun v=>decide (0<od es v)) (aR es):=by
  have:=Xm (fun v=>decide (0<od es v)) (aR es) ((List.range 8).erase a) [] (fun v hv hp=>by
   have h0:od es v=0:=by simpa using hp
   have h0':idg es v=0:=by rw [<-hb]; exact h0
   refine ⟨?_,fun x _ hx => ?_⟩
   ·simp only [aR,Jo h0,if_pos h0,Ll]; rfl
   ·simp only [aR,B1k h0' hx]
    split
    ·rw [Hf hx]; rfl
    ·rfl) (by simpa using hV)
  simpa using this
 have h3:((List.range 8).erase a).filter (fun v=>decide (0<od es v))=(Gd es).erase a:=by
  rw [List.Nodup.erase_eq_filter (Hi es),List.Nodup.erase_eq_filter List.nodup_range]
  unfold Gd
  rw [List.filter_filter,List.filter_filter]
  apply List.filter_congr
  intro x _
  rw [Bool.and_comm]
 have h4:dV ((Gd es).erase a) (aR es)=dV ((Gd es).erase a) (lap es):=Er fun x hx c _=>by
  have:=(Ji.1 (List.mem_of_mem_erase hx)).2
  simp only [aR]
  rw [if_neg (by omega)]; omega
 have hte:=Mo hb hn8
 have h5:=Ayx (Hi es) (A:=lap es) (fun x _=>A9c (Hi es) hte x) (fun c _=>by
  rw [A9b (Hi es) c fun e he=>(hte e he).1,hb c]; omega) ha hr
 unfold fF
 rw [h1,h2,h3,h4,h5]
theorem Vo {R R':List Ed} (h:R.Perm R') (hb:Bal R):Bal R':=fun x=>by rw [<-Jg h,<-Nc h]; exact hb x
theorem Abr {es:List Ed} (hb:Bal es) (hn8:∀e∈es,e.1<8/\e.2<8) (h0:es≠[]) {a b:Nat} {R':List Ed} (hp:es.Perm ((a,b)::R')):trl a R'.length R' b=(nf es:Nat)*Vd (cl es) (lap es) (cl es).length:=by
 have hb':=Vo hp hb
 have hn8':∀e∈(a,b)::R',e.1<8/\e.2<8:=fun e he=>hn8 e (hp.mem_iff.2 he)
 have hmem:(a,b)∈es:=hp.mem_iff.2 List.mem_cons_self
 have ha:=(Mo hb hn8 _ hmem).1
 have h1:=Bug (a:=a) (V:=(List.range 8).erase a) (List.Nodup.erase a List.nodup_range) (fun h=>(List.Nodup.mem_erase_iff List.nodup_range).1 h |>.1 rfl) R'.length R' b rfl hb' fun e he=>by
  have h8:=hn8' e he
  have:∀x,x<8->x∈a::(List.range 8).erase a:=fun x hx=>by
   by_cases hxa:x=a
   ·exact hxa ▸ List.mem_cons_self
   ·exact List.mem_cons_of_mem _ ((List.Nodup.mem_erase_iff List.nodup_range).2 ⟨hxa,List.mem_range.2 hx⟩)
  exact ⟨this _ h8.1,this _ h8.2⟩
 have hroot:Dw es∈Gd es:=by
  cases es with
  | nil=>exact absurd rfl h0
  | cons q es=>exact (Mo hb hn8 q List.mem_cons_self).1
 rw [h1,<-A5k hp,Ayk hb hn8 ha hroot]
 unfold Vd
 rw [List.take_length,A1u]
theorem A2g {es:List Ed} (hb:Bal es) (hh:Lf es) (hn8:∀e∈es,e.1<8/\e.2<8) (h0:es≠[]):0<(nf es:Nat)*Vd (cl es) (lap es) (cl es).length:=by
 have hroot:Dw es∈Gd es:=by
  cases es with
  | nil=>exact absurd rfl h0
  | cons q es=>exact (Mo hb hn8 q List.mem_cons_self).1
 have hz:=Amu hb hh (l:=cl es) (List.Nodup.sublist List.filter_sublist List.nodup_range) (fun x hx=>by
  rw [A1u] at hx
  have:=(Ji.1 (List.mem_of_mem_erase hx)).2
  omega) (r:=Dw es) (fun h=>by
  rw [A1u] at h
  exact (List.Nodup.mem_erase_iff (Hi es)).1 h |>.1 rfl) (by have:=(Ji.1 hroot).2; omega)
 have h1:=hz.pos (List.Nodup.sublist List.filter_sublist List.nodup_range)
 have h2:0<(nf es:Int):=by
  have:∀v,0<nfU es v:=fun v=>by
   induction v with
   | zero=>exact Nat.zero_lt_one
   | succ v ih=>exact Nat.mul_pos ih (A5z _)
  have:=this 8
  unfold nf; omega
 unfold Vd
 rw [List.take_length]
 exact Int.mul_pos h2 h1
end Go.Ev.YtgehhippjhealaaGreatC.P4
