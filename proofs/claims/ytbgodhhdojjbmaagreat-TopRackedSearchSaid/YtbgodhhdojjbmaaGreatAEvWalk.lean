/- Calls of functions: the evaluator's answer is what every run of the model hands back. A table of compiled functions in the place of the compiler; a law's own function entered from outside. Walking the evaluator by rewriting: one rule for each operation and each form of code, in the form '.. No condition but those that stand in each. -/
import Derived.Test.YtbgodhhdojjbmaaGreatAEvSound
set_option linter.unusedSimpArgs false
set_option linter.unusedVariables false
namespace Go.Ev
open Go
variable {P:Program} {M:Mem} {L:Lay} {w:World} {a:Act}
theorem Res.bind_ret {α β:Type} {x:Res α} {f:α->Res β} {b:β} (h:x.bind f = .ret b):∃a,x = .ret a/\f a = .ret b:=by
 cases x with
 | fail=>cases h
 | ret a=>exact ⟨a,rfl,h⟩
 | choice n k=>cases h
def Det {α:Type} (x:Res α):Prop:=x = .fail\/∃a,x = .ret a
theorem Det.bind {α β:Type} {x:Res α} {f:α->Res β} (hx:Det x) (hf:∀a,Det (f a)):Det (x.bind f):=by
 rcases hx with rfl | ⟨a,rfl⟩
 ·exact .inl rfl
 ·exact hf a
theorem Det.mapR {α β:Type} {f:α->Res β}:∀(l:List α),(∀x∈l,Det (f x))->Det (Ev.mapR f l)
 | [],_ => .inr ⟨[],rfl⟩
 | x::l,hf=>(hf x List.mem_cons_self).bind fun _=>(Det.mapR l fun y hy=>hf y (List.mem_cons_of_mem _ hy)).bind fun _ => .inr ⟨_,rfl⟩
theorem Det.all {α:Type} {x:Res α} (hx:Det x) {R:α->Prop} (h:x.all R):∃a,x = .ret a/\R a:=by
 rcases hx with rfl | ⟨a,rfl⟩
 ·exact h.elim
 ·exact ⟨a,rfl,h⟩
theorem Ez {α β:Type} {f:α->Res β}:∀(l:List α) (r:List β),mapR f l = .ret r->r.length=l.length/\∀(i:Nat) x y,l[i]? = some x->r[i]? = some y->f x = .ret y
 | [],r,h=>by cases h; exact ⟨rfl,fun i x y hx=>by simp at hx⟩
 | x::l,r,h=>by
  obtain ⟨b,hb,h⟩:=Res.bind_ret h
  obtain ⟨bs,hbs,h⟩:=Res.bind_ret h
  cases h
  obtain ⟨h1,h2⟩:=Ez l bs hbs
  refine ⟨by simp [h1],fun i u v hu hv => ?_⟩
  cases i with
  | zero=>simp at hu hv; subst hu hv; exact hb
  | succ i=>simp at hu hv; exact h2 i u v hu hv
theorem Jj (h:Bc):∀(n:Nat) (v:AV),Det (Bj h n v)
 | 0,_ => .inl rfl
 | n+1,v=>by
  have ih:=Jj h n
  have hm:∀l,Det (mapR (Bj h n) l):=fun l=>Det.mapR l fun x _=>ih x
  cases v <;> simp only [Bj] <;> first
   | exact .inr ⟨_,rfl⟩
   | exact .inl rfl
   | exact (hm _).bind fun _ => .inr ⟨_,rfl⟩
   | exact (hm _).bind fun _=>(hm _).bind fun _ => .inr ⟨_,rfl⟩
   | (split
      ·split
       ·first | exact (hm _).bind fun _ => .inr ⟨_,rfl⟩ | exact (hm _).bind fun _=>(hm _).bind fun _ => .inr ⟨_,rfl⟩
       ·exact .inl rfl
      ·exact .inl rfl)
open Classical in
noncomputable def frz (M:Mem) (L:Lay) (w:World) (h:Bc):Mem:=fun b=>if Im h L b then w.heap[b]? else M b
theorem A0y {h:Bc} {b:Nat} (hi:Im h L b):frz M L w h b=w.heap[b]?:=by unfold frz; rw [if_pos hi]
open Classical in
noncomputable def Rr (h:Bc) (L:Lay) (M2:Mem):Mem:=fun b=>if Im h L b then none else M2 b
theorem Ux {h:Bc} {M2:Mem} {b:Nat} (hi:Im h L b):Rr h L M2 b=none:=by unfold Rr; rw [if_pos hi]
theorem Io {h:Bc} {M2:Mem} {b:Nat} (hi:¬Im h L b):Rr h L M2 b=M2 b:=by unfold Rr; rw [if_neg hi]
theorem A0z {h:Bc} (hr:HR P M L w h):Mem.le M (frz M L w h):=fun b o hb=>by
 unfold frz
 split
 ·exact hr.mem b o hb
 ·exact hb
theorem A1r {h:Bc} (hr:HR P M L w h) {n:Nat} (ih:∀x fx v,Bj h n x = .ret fx->VR M L x v->FR (frz M L w h) fx v) {cs cs':List AV} {c:Array Value} (hrow:Row M L cs c) {off len:Nat}
  (hf:mapR (Bj h n) ((cs.drop off).take len) = .ret cs'):∀(i:Nat) (x:AV),cs'[i]? = some x->∃v,c[off+i]? = some v/\v.oneCell'=true/\FR (frz M L w h) x v:=by
 intro i x hx
 obtain ⟨h1,h2⟩:=Ez _ _ hf
 have hi:i<((cs.drop off).take len).length:=by rw [<-h1]; exact (List.getElem?_eq_some_iff.1 hx).1
 have hy:=List.getElem?_eq_getElem hi
 have hfz:=h2 i _ x hy hx
 rw [List.getElem?_take,List.getElem?_drop] at hy
 split at hy
 ·obtain ⟨v,e1,e2,e3⟩:=hrow _ _ hy
  exact ⟨v,e1,e2,ih _ _ _ hfz e3⟩
 ·cases hy
theorem Wi {h:Bc} (hr:HR P M L w h):∀(n:Nat) (v fv:AV) (cv:Value),Bj h n v = .ret fv->VR M L v cv->FR (frz M L w h) fv cv
 | 0,_,_,_,hf,_=>by cases hf
 | n+1,v,fv,cv,hf,hv=>by
  have ih:=Wi hr n
  have hle:=A0z hr
  cases hv with
  | undef=>cases hf; exact .undef
  | skip=>cases hf; exact .undef
  | bool=>cases hf; exact .bool
  | int=>cases hf; exact .int
  | @agg cs vs hl hh =>
   obtain ⟨cs',h1,h2⟩:=Res.bind_ret hf
   cases h2
   obtain ⟨g1,g2⟩:=Ez _ _ h1
   refine .agg (by omega) fun i c v hc hv => ?_
   have hi:i<cs.length:=by rw [<-g1]; exact (List.getElem?_eq_some_iff.1 hc).1
   have hx:=List.getElem?_eq_getElem hi
   exact ih _ _ _ (g2 i _ c hx hc) (hh i _ v hx hv)
  | @tuple cs vs hl hh =>
   obtain ⟨cs',h1,h2⟩:=Res.bind_ret hf
   cases h2
   obtain ⟨g1,g2⟩:=Ez _ _ h1
   refine .tuple (by omega) fun i c v hc hv => ?_
   have hi:i<cs.length:=by rw [<-g1]; exact (List.getElem?_eq_some_iff.1 hc).1
   have hx:=List.getElem?_eq_getElem hi
   exact ih _ _ _ (g2 i _ c hx hc) (hh i _ v hx hv)
  | empty hh=>cases hf; exact .empty fun h=>by cases h
  | slice hm hc hcp hfi hvv ho hrr=>cases hf; exact .slice (hle _ _ hm) (fun h=>by cases h) hcp hfi hvv ho fun i c hi=>(hrr i c hi).mono hle
  | ptr hm hvv ho hrr=>cases hf; exact .ptr (hle _ _ hm) hvv ho fun i c hi=>(hrr i c hi).mono hle
  | nilptr=>cases hf; exact .nilptr
  | @clo f first cap vf vc hl hk hh1 hh2 =>
   obtain ⟨as,h1,h2⟩:=Res.bind_ret hf
   obtain ⟨bs,h3,h4⟩:=Res.bind_ret h2
   cases h4
   obtain ⟨g1,g2⟩:=Ez _ _ h1
   obtain ⟨k1,k2⟩:=Ez _ _ h3
   refine .clo (by omega) (by omega) (fun i c v hc hv => ?_) (fun i c v hc hv => ?_)
   ·have hi:i<first.length:=by rw [<-g1]; exact (List.getElem?_eq_some_iff.1 hc).1
    have hx:=List.getElem?_eq_getElem hi
    exact ih _ _ _ (g2 i _ c hx hc) (hh1 i _ v hx hv)
   ·have hi:i<cap.length:=by rw [<-k1]; exact (List.getElem?_eq_some_iff.1 hc).1
    have hx:=List.getElem?_eq_getElem hi
    exact ih _ _ _ (k2 i _ c hx hc) (hh2 i _ v hx hv)
  | nilfn=>cases hf; exact .nilfn
  | nilmap=>cases hf; exact .nilmap
  | fmap hm hk hvv hh1 hh2=>cases hf; exact .fmap (hle _ _ hm) hk hvv (fun i c e x y=>(hh1 i c e x y).mono hle) (fun i c e x y=>(hh2 i c e x y).mono hle)
  | @optr k ver off info hl =>
   simp only [Bj] at hf
   split at hf
   ·next v cs hob =>
    split at hf
    ·next hver =>
     subst hver
     obtain ⟨cs',h1,h2⟩:=Res.bind_ret hf
     cases h2
     obtain ⟨hmb,c,t,hb,hn0,hsz,hle0,hrow⟩:=Fh hr hob hl
     have him:Im h L info.blk:=⟨k,info,by rw [hob]; simp,by rw [hob]; exact hl,rfl⟩
     have hM:frz M L w h info.blk=some (.cells c t (0,0)):=by rw [A0y him]; exact hb
     have hrf:=A1r (off:=0) (len:=cs.length) hr ih hrow (by rw [List.drop_zero,List.take_length]; exact h1)
     have key:=@FR.ptr (frz M L w h) cs' off info.blk 0 c t (0,0) (fun i=>c.getD i undef) hM
     rw [Nat.zero_add] at key
     have hg:∀(i:Nat) (x:AV),cs'[i]? = some x->c[0+i]? = some (c.getD i undef)/\(c.getD i undef).oneCell'=true/\FR (frz M L w h) x (c.getD i undef):=fun i x hx=>by
      obtain ⟨v,e1,e2,e3⟩:=hrf i x hx
      rw [Nat.zero_add] at e1
      have:c.getD i undef=v:=by simp [Array.getD_eq_getD_getElem?,e1]
      rw [this,Nat.zero_add]; exact ⟨e1,e2,e3⟩
     exact key (fun i x hx=>(hg i x hx).1) (fun i x hx=>(hg i x hx).2.1) (fun i x hx=>(hg i x hx).2.2)
    ·cases hf
   ·cases hf
  | @oslice k ver g off len cap info c o hl b1 b2 b3 b4 b5 b6 =>
   simp only [Bj] at hf
   split at hf
   ·next v cs hob =>
    split at hf
    ·next hcond =>
     obtain ⟨hver,hlen⟩:=hcond
     subst hver
     obtain ⟨cs',h1,h2⟩:=Res.bind_ret hf
     cases h2
     obtain ⟨hmb,c0,t,hb,hn0,hsz,hle0,hrow⟩:=Fh hr hob hl
     have him:Im h L info.blk:=⟨k,info,by rw [hob]; simp,by rw [hob]; exact hl,rfl⟩
     have hM:frz M L w h info.blk=some (.cells c0 t (0,0)):=by rw [A0y him]; exact hb
     have hcl:cs'.length=len*Be g:=by
      rw [(Ez _ _ h1).1]; simp; omega
     by_cases h0:len=0
     ·subst h0
      have:cs'=[]:=List.eq_nil_of_length_eq_zero (by simpa using hcl)
      subst this
      rw [Nz]
      exact .empty fun h=>by cases h
     ·have hoo:o=off:=b3 (by omega)
      subst hoo
      exact Lj hM (fun h=>by cases h) b6 hcl (A1r hr ih hrow h1)
    ·cases hf
   ·cases hf
  | @omap k ver info hl =>
   simp only [Bj] at hf
   split at hf
   ·next v cl ks vs bs hob =>
    split at hf
    ·next hver =>
     subst hver
     obtain ⟨ks',h1,h2⟩:=Res.bind_ret hf
     obtain ⟨vs',h3,h4⟩:=Res.bind_ret h2
     cases h4
     obtain ⟨i',e1,e2,e3⟩:=hr.cur k (by rw [hob]; simp)
     rw [hob] at e1 e3
     simp only [AObj.ver] at e1
     rw [hl] at e1; cases e1
     obtain ⟨es,f1,f2,f3,f3',f4,f5,_⟩:=e3
     have him:Im h L info.blk:=⟨k,info,by rw [hob]; simp,by rw [hob]; exact hl,rfl⟩
     obtain ⟨g1,g2⟩:=Ez _ _ h1
     obtain ⟨k1,k2⟩:=Ez _ _ h3
     refine .fmap (by rw [A0y him]; exact f1) (by omega) (by omega) (fun i c e hc he => ?_) (fun i c e hc he => ?_)
     ·have hi:i<ks.length:=by rw [<-g1]; exact (List.getElem?_eq_some_iff.1 hc).1
      have hx:=List.getElem?_eq_getElem hi
      exact ih _ _ _ (g2 i _ c hx hc) (f4 i _ e hx he)
     ·have hi:i<vs.length:=by rw [<-k1]; exact (List.getElem?_eq_some_iff.1 hc).1
      have hx:=List.getElem?_eq_getElem hi
      exact ih _ _ _ (k2 i _ c hx hc) (f5 i _ e hx he)
    ·cases hf
   ·cases hf
  | iter hl=>cases hf
  | yld hl=>cases hf
open Classical in
noncomputable def Qo (L:Lay) (w:World) (h:Bc):Mem:=fun b=>if Im h L b then w.heap[b]? else none
theorem Xz {h:Bc} {b:Nat} (hi:Im h L b):Qo L w h b=w.heap[b]?:=by unfold Qo; rw [if_pos hi]
theorem A4v {h:Bc} {n:Nat} (ih:∀x fx v,Er h n x=true->Bj h n x = .ret fx->VR M L x v->FR (Qo L w h) fx v) {cs cs':List AV} {c:Array Value} (hall:cs.all (Er h n)=true) (hrow:Row M L cs c) {off len:Nat}
  (hf:mapR (Bj h n) ((cs.drop off).take len) = .ret cs'):∀(i:Nat) (x:AV),cs'[i]? = some x->∃v,c[off+i]? = some v/\v.oneCell'=true/\FR (Qo L w h) x v:=by
 intro i x hx
 obtain ⟨h1,h2⟩:=Ez _ _ hf
 have hi:i<((cs.drop off).take len).length:=by rw [<-h1]; exact (List.getElem?_eq_some_iff.1 hx).1
 have hy:=List.getElem?_eq_getElem hi
 have hfz:=h2 i _ x hy hx
 rw [List.getElem?_take,List.getElem?_drop] at hy
 split at hy
 ·obtain ⟨v,e1,e2,e3⟩:=hrow _ _ hy
  exact ⟨v,e1,e2,ih _ _ _ (List.all_eq_true.1 hall _ (List.mem_of_getElem? hy)) hfz e3⟩
 ·cases hy
theorem A6x {h:Bc} (hr:HR P M L w h):∀(n:Nat) (v fv:AV) (cv:Value),Er h n v=true->Bj h n v = .ret fv->VR M L v cv->FR (Qo L w h) fv cv
 | 0,_,_,_,_,hf,_=>by cases hf
 | n+1,v,fv,cv,hb,hf,hv=>by
  have ih:=A6x hr n
  cases hv with
  | undef=>cases hf; exact .undef
  | skip=>cases hf; exact .undef
  | bool=>cases hf; exact .bool
  | int=>cases hf; exact .int
  | @agg cs vs hl hh =>
   simp only [Er] at hb
   obtain ⟨cs',h1,h2⟩:=Res.bind_ret hf
   cases h2
   obtain ⟨g1,g2⟩:=Ez _ _ h1
   refine .agg (by omega) fun i c v hc hv => ?_
   have hi:i<cs.length:=by rw [<-g1]; exact (List.getElem?_eq_some_iff.1 hc).1
   have hx:=List.getElem?_eq_getElem hi
   exact ih _ _ _ (List.all_eq_true.1 hb _ (List.mem_of_getElem? hx)) (g2 i _ c hx hc) (hh i _ v hx hv)
  | @tuple cs vs hl hh =>
   simp only [Er] at hb
   obtain ⟨cs',h1,h2⟩:=Res.bind_ret hf
   cases h2
   obtain ⟨g1,g2⟩:=Ez _ _ h1
   refine .tuple (by omega) fun i c v hc hv => ?_
   have hi:i<cs.length:=by rw [<-g1]; exact (List.getElem?_eq_some_iff.1 hc).1
   have hx:=List.getElem?_eq_getElem hi
   exact ih _ _ _ (List.all_eq_true.1 hb _ (List.mem_of_getElem? hx)) (g2 i _ c hx hc) (hh i _ v hx hv)
  | empty hh=>cases hf; exact .empty fun h=>by cases h
  | @slice g xs ex b off cap cs t fz f hm hc hcp hfi hvv ho hrr =>
   simp only [Er,List.isEmpty_iff] at hb
   subst hb
   cases hf
   exact .empty fun h=>by cases h
  | ptr hm hvv ho hrr=>cases hb
  | nilptr=>cases hf; exact .nilptr
  | clo hl hk hh1 hh2=>cases hb
  | nilfn=>cases hf; exact .nilfn
  | nilmap=>cases hb
  | fmap hm hk hvv hh1 hh2=>cases hb
  | @optr k ver off info hl =>
   simp only [Er] at hb
   simp only [Bj] at hf
   split at hf
   ·next v cs hob =>
    rw [hob] at hb
    simp only at hb
    split at hf
    ·next hver =>
     subst hver
     obtain ⟨cs',h1,h2⟩:=Res.bind_ret hf
     cases h2
     obtain ⟨hmb,c,t,hbb,hn0,hsz,hle0,hrow⟩:=Fh hr hob hl
     have him:Im h L info.blk:=⟨k,info,by rw [hob]; simp,by rw [hob]; exact hl,rfl⟩
     have hM:Qo L w h info.blk=some (.cells c t (0,0)):=by rw [Xz him]; exact hbb
     have hrf:=A4v (w:=w) (off:=0) (len:=cs.length) ih hb hrow (by rw [List.drop_zero,List.take_length]; exact h1)
     have key:=@FR.ptr (Qo L w h) cs' off info.blk 0 c t (0,0) (fun i=>c.getD i undef) hM
     rw [Nat.zero_add] at key
     have hg:∀(i:Nat) (x:AV),cs'[i]? = some x->c[0+i]? = some (c.getD i undef)/\(c.getD i undef).oneCell'=true/\FR (Qo L w h) x (c.getD i undef):=fun i x hx=>by
      obtain ⟨v,e1,e2,e3⟩:=hrf i x hx
      rw [Nat.zero_add] at e1
      have:c.getD i undef=v:=by simp [Array.getD_eq_getD_getElem?,e1]
      rw [this,Nat.zero_add]; exact ⟨e1,e2,e3⟩
     exact key (fun i x hx=>(hg i x hx).1) (fun i x hx=>(hg i x hx).2.1) (fun i x hx=>(hg i x hx).2.2)
    ·cases hf
   ·cases hf
  | @oslice k ver g off len cap info c o hl b1 b2 b3 b4 b5 b6 =>
   simp only [Er] at hb
   simp only [Bj] at hf
   split at hf
   ·next v cs hob =>
    rw [hob] at hb
    simp only at hb
    split at hf
    ·next hcond =>
     obtain ⟨hver,hlen⟩:=hcond
     subst hver
     obtain ⟨cs',h1,h2⟩:=Res.bind_ret hf
     cases h2
     obtain ⟨hmb,c0,t,hbb,hn0,hsz,hle0,hrow⟩:=Fh hr hob hl
     have him:Im h L info.blk:=⟨k,info,by rw [hob]; simp,by rw [hob]; exact hl,rfl⟩
     have hM:Qo L w h info.blk=some (.cells c0 t (0,0)):=by rw [Xz him]; exact hbb
     have hcl:cs'.length=len*Be g:=by
      rw [(Ez _ _ h1).1]; simp; omega
     by_cases h0:len=0
     ·subst h0
      have:cs'=[]:=List.eq_nil_of_length_eq_zero (by simpa using hcl)
      subst this
      rw [Nz]
      exact .empty fun h=>by cases h
     ·have hoo:o=off:=b3 (by omega)
      subst hoo
      exact Lj hM (fun h=>by cases h) b6 hcl (A4v ih hb hrow h1)
    ·cases hf
   ·cases hf
  | @omap k ver info hl =>
   simp only [Er] at hb
   simp only [Bj] at hf
   split at hf
   ·next v cl ks vs bs hob =>
    rw [hob] at hb
    simp only [Bool.and_eq_true] at hb
    split at hf
    ·next hver =>
     subst hver
     obtain ⟨ks',h1,h2⟩:=Res.bind_ret hf
     obtain ⟨vs',h3,h4⟩:=Res.bind_ret h2
     cases h4
     obtain ⟨i',e1,e2,e3⟩:=hr.cur k (by rw [hob]; simp)
     rw [hob] at e1 e3
     simp only [AObj.ver] at e1
     rw [hl] at e1; cases e1
     obtain ⟨es,f1,f2,f3,f3',f4,f5,_⟩:=e3
     have him:Im h L info.blk:=⟨k,info,by rw [hob]; simp,by rw [hob]; exact hl,rfl⟩
     obtain ⟨g1,g2⟩:=Ez _ _ h1
     obtain ⟨k1,k2⟩:=Ez _ _ h3
     refine .fmap (by rw [Xz him]; exact f1) (by omega) (by omega) (fun i c e hc he => ?_) (fun i c e hc he => ?_)
     ·have hi:i<ks.length:=by rw [<-g1]; exact (List.getElem?_eq_some_iff.1 hc).1
      have hx:=List.getElem?_eq_getElem hi
      exact ih _ _ _ (List.all_eq_true.1 hb.1 _ (List.mem_of_getElem? hx)) (g2 i _ c hx hc) (f4 i _ e hx he)
     ·have hi:i<vs.length:=by rw [<-k1]; exact (List.getElem?_eq_some_iff.1 hc).1
      have hx:=List.getElem?_eq_getElem hi
      exact ih _ _ _ (List.all_eq_true.1 hb.2 _ (List.mem_of_getElem? hx)) (k2 i _ c hx hc) (f5 i _ e hx he)
    ·cases hf
   ·cases hf
  | iter hl=>cases hf
  | yld hl=>cases hf
theorem Abz {h:Bc}:∀(n:Nat) (v fv:AV) (cv:Value),Dy n v=true->Bj h n v = .ret fv->VR M L v cv->FR M fv cv
 | 0,_,_,_,hb,_,_=>by cases hb
 | n+1,v,fv,cv,hb,hf,hv=>by
  have ih:=@Abz h n
  cases hv with
  | undef=>cases hf; exact .undef
  | skip=>cases hf; exact .undef
  | bool=>cases hf; exact .bool
  | int=>cases hf; exact .int
  | @agg cs vs hl hh =>
   simp only [Dy] at hb
   obtain ⟨cs',h1,h2⟩:=Res.bind_ret hf
   cases h2
   obtain ⟨g1,g2⟩:=Ez _ _ h1
   refine .agg (by omega) fun i c v hc hv => ?_
   have hi:i<cs.length:=by rw [<-g1]; exact (List.getElem?_eq_some_iff.1 hc).1
   have hx:=List.getElem?_eq_getElem hi
   exact ih _ _ _ (List.all_eq_true.1 hb _ (List.mem_of_getElem? hx)) (g2 i _ c hx hc) (hh i _ v hx hv)
  | @tuple cs vs hl hh =>
   simp only [Dy] at hb
   obtain ⟨cs',h1,h2⟩:=Res.bind_ret hf
   cases h2
   obtain ⟨g1,g2⟩:=Ez _ _ h1
   refine .tuple (by omega) fun i c v hc hv => ?_
   have hi:i<cs.length:=by rw [<-g1]; exact (List.getElem?_eq_some_iff.1 hc).1
   have hx:=List.getElem?_eq_getElem hi
   exact ih _ _ _ (List.all_eq_true.1 hb _ (List.mem_of_getElem? hx)) (g2 i _ c hx hc) (hh i _ v hx hv)
  | empty hh=>cases hf; exact .empty fun h=>by cases h
  | slice hm hc hcp hfi hvv ho hrr=>cases hf; exact .slice hm (fun h=>by cases h) hcp hfi hvv ho hrr
  | ptr hm hvv ho hrr=>cases hf; exact .ptr hm hvv ho hrr
  | nilptr=>cases hf; exact .nilptr
  | @clo f first cap vf vc hl hk hh1 hh2 =>
   simp only [Dy,Bool.and_eq_true] at hb
   obtain ⟨as,h1,h2⟩:=Res.bind_ret hf
   obtain ⟨bs,h3,h4⟩:=Res.bind_ret h2
   cases h4
   obtain ⟨g1,g2⟩:=Ez _ _ h1
   obtain ⟨k1,k2⟩:=Ez _ _ h3
   refine .clo (by omega) (by omega) (fun i c v hc hv => ?_) (fun i c v hc hv => ?_)
   ·have hi:i<first.length:=by rw [<-g1]; exact (List.getElem?_eq_some_iff.1 hc).1
    have hx:=List.getElem?_eq_getElem hi
    exact ih _ _ _ (List.all_eq_true.1 hb.1 _ (List.mem_of_getElem? hx)) (g2 i _ c hx hc) (hh1 i _ v hx hv)
   ·have hi:i<cap.length:=by rw [<-k1]; exact (List.getElem?_eq_some_iff.1 hc).1
    have hx:=List.getElem?_eq_getElem hi
    exact ih _ _ _ (List.all_eq_true.1 hb.2 _ (List.mem_of_getElem? hx)) (k2 i _ c hx hc) (hh2 i _ v hx hv)
  | nilfn=>cases hf; exact .nilfn
  | nilmap=>cases hf; exact .nilmap
  | fmap hm hk hvv hh1 hh2=>cases hf; exact .fmap hm hk hvv hh1 hh2
  | optr hl=>simp [Dy] at hb
  | oslice hl b1 b2 b3 b4 b5 b6=>simp [Dy] at hb
  | omap hl=>simp [Dy] at hb
  | iter hl=>simp [Dy] at hb
  | yld hl=>simp [Dy] at hb
theorem A8l {M':Mem}:∀(n:Nat) (v:AV) (cv:Value),En n v=true->FR M v cv->FR M' v cv
 | 0,_,_,hb,_=>by cases hb
 | n+1,v,cv,hb,hv=>by
  have ih:=@A8l M' n
  cases hv with
  | undef=>exact .undef
  | bool=>exact .bool
  | int=>exact .int
  | @agg cs vs hl hh =>
   simp only [En] at hb
   exact .agg hl fun i c v hc hv=>ih _ _ (List.all_eq_true.1 hb _ (List.mem_of_getElem? hc)) (hh i c v hc hv)
  | @tuple cs vs hl hh =>
   simp only [En] at hb
   exact .tuple hl fun i c v hc hv=>ih _ _ (List.all_eq_true.1 hb _ (List.mem_of_getElem? hc)) (hh i c v hc hv)
  | empty hh=>exact .empty hh
  | @slice g xs ex b off cap cs t fz f hm hc hcp hfi hvv ho hrr =>
   cases xs with
   | nil=>exact .empty fun h=>hc h
   | cons x xs=>simp [En] at hb
  | ptr hm hvv ho hrr=>simp [En] at hb
  | nilptr=>exact .nilptr
  | clo hl hk hh1 hh2=>simp [En] at hb
  | nilfn=>exact .nilfn
  | nilmap=>simp [En] at hb
  | fmap hm hk hvv hh1 hh2=>simp [En] at hb
theorem A7t {fn:Func} {Q:AV×Bc->Prop} {tmps:Array Value} {w0:World} {h0 h':Bc} {L0 L':Lay} {M0 M':Mem} {b0:Nat} (hb0:b0=w0.heap.size) :
  ∀(rs:List Nat) (w':World),HR P M' L' w' h'->Fr w0 h0 L0 M0 w' h' L' M'->rs.Nodup->(∀r∈rs,b0<=r/\w'.heap[r]? = some (.deferred (some []))/\¬Im h' L' r/\M' r=none)->
   (∀w2:World,HR P M' L' w2 h'->Fr w0 h0 L0 M0 w2 h' L' M'->∃v,(results fn tmps).run P w2 = .ok v w2/\∃cv,Ending.returned v = .returned cv/\Good P M0 L0 w0 h0 Q w2 cv)->
   LeavesInM (W none) 0 P fn tmps (fun en w'=>∃cv,en = .returned cv/\Good P M0 L0 w0 h0 Q w' cv) (rs.map fun r=>{ target:=.collected r,args:=#[] }) .returning w'
 | [],w',hr,hf,_,_,fin=>fin w' hr hf
 | r::rs,w',hr,hf,hn,hm,fin=>by
  obtain ⟨g1,g2,g3,g4⟩:=hm r List.mem_cons_self
  have hlt:r<w'.heap.size:=(Array.getElem?_eq_some_iff.1 g2).1
  obtain ⟨hnr,hn'⟩:=List.nodup_cons.1 hn
  obtain ⟨w1,hw1⟩:∃w1:World,w1={ w' with heap:=w'.heap.setIfInBounds r (.deferred none) }:=⟨_,rfl⟩
  have hget:∀b,b≠r->w1.heap[b]? = w'.heap[b]?:=fun b hb=>by
   rw [hw1]
   simp only
   rw [Array.getElem?_setIfInBounds,if_neg (fun h=>hb h.symm)]
  have hsz:w1.heap.size=w'.heap.size:=by rw [hw1]; simp
  have hr1:HR P M' L' w1 h':=⟨fun b o hb=>by
    rw [hget b (fun h=>by rw [h,g4] at hb; cases hb)]; exact hr.mem b o hb,fun k hk=>by
    obtain ⟨info,e1,e2,e3⟩:=hr.cur k hk
    exact ⟨info,e1,e2,e3.mono (fun _ _ h=>h) (fun _ _ _ h=>h) (hget _ fun h=>g3 ⟨k,info,hk,e1,h⟩)⟩,hr.ver,hr.inj⟩
  have hf1:Fr w0 h0 L0 M0 w1 h' L' M':=⟨by rw [hsz]; exact hf.size,fun b hb hni=>by
    rw [hget b (by omega)]; exact hf.kept b hb hni,hf.im,hf.mem,hf.memNew,hf.lay,hf.out.trans (by rw [hw1]; exact ⟨rfl,rfl,rfl⟩)⟩
  refine ⟨by simp,.inl ⟨r,w1,rfl,?_,?_⟩⟩
  ·rw [hw1]
   simp [Instr.takeDeferred,getObj,setObj,Sem.run,g2]
  ·exact A7t hb0 rs w1 hr1 hf1 hn' (fun r' hr'=>by
    obtain ⟨k1,k2,k3,k4⟩:=hm r' (List.mem_cons_of_mem _ hr')
    exact ⟨k1,by rw [hget r' (fun h=>hnr (h ▸ hr'))]; exact k2,k3,k4⟩) fin
theorem A2d {call:Bf} (hcall:CallOk P call) (hcalm:Calm call) {byr:FuncId->Bool} (hm:P.follows .mixedOrders=true) {f:FuncId} {fn:Func} {ifn:IFunc} (hf:P.funcs[f]? = some fn)
  (hc:Xn P byr fn=some ifn) {h:Bc} (hr:HR P M L w h) {as:List AV} {vs:Array Value} (hv:VRs M L as vs) {Q:AV×Bc->Prop} (hq:(Dw call ifn as h).all Q) :
  Calls P f vs w fun en w'=>∃cv,en = .returned cv/\Good P M L w h Q w' cv:=by
 unfold Xn at hc
 split at hc
 ·cases hc
 ·next c hbody =>
  simp only [Option.map_eq_some_iff] at hc
  obtain ⟨rs,hrs,rfl⟩:=hc
  obtain ⟨hrl,hrel0⟩:=Lt _ _ hrs
  have hrel:∀(i:Nat) ir rv,rs[i]? = some ir->fn.results[i]? = some rv->Rl P ir rv:=fun i ir rv h1 h2=>by
   have:=hrel0 i rv ir (by rw [Array.getElem?_toList]; exact h2) h1
   cases rv with
   | tmp t=>simp at this; subst this; rfl
   | cell t ty =>
    simp only [Option.map_eq_some_iff] at this
    obtain ⟨g,hg,rfl⟩:=this
    exact ⟨rfl,hg⟩
  unfold Dw at hq
  rw [Res.all_bind] at hq
  have hH:∀k,Bb (h++List.replicate fn.ntmps .none) k=Bb h k:=fun k=>Bi h _ k
  have hs:SR P M L w fn.ntmps w.heap.size ⟨as,h++List.replicate fn.ntmps .none⟩ { tmps:=vs++Array.replicate (fn.ntmps-vs.size) undef,defers:=[] }:=by
   refine ⟨hr.congr hH,fun t => ?_,.nil,by simp; omega⟩
   have hge:∀(l:List AV) (t:Nat),Bs l t=l.getD t .undef:=by
    intro l
    induction l with
    | nil=>intro t; cases t <;> rfl
    | cons x l ih=>intro t; cases t with
     | zero=>rfl
     | succ t=>exact ih t
   show VR M L (Bs as t) _
   rw [hge]
   by_cases ht:t<as.length
   ·have h1:as[t]? = some as[t]:=List.getElem?_eq_getElem ht
    have h2:vs[t]? = some (vs[t]'(by rw [<-hv.1]; exact ht)):=Array.getElem?_eq_getElem _
    have h3:(vs++Array.replicate (fn.ntmps-vs.size) undef).getD t undef=vs[t]'(by rw [<-hv.1]; exact ht):=by
     rw [Array.getD_eq_getD_getElem?,Array.getElem?_append_left (by rw [<-hv.1]; exact ht),h2]; rfl
    simp only
    rw [h3,List.getD_eq_getElem?_getD,h1]
    exact hv.2 t _ _ h1 h2
   ·rw [List.getD_eq_getElem?_getD,List.getElem?_eq_none (by omega)]
    exact .undef
  refine Vv.1 (callsIn_of_wp_marks (F:=W none) (n:=0) hf hbody trivial (wpIn_mono (A2a hcall hcalm hm (nest:=false) (fun _=>rfl) c M L w _ _ _ hs (Nat.le_refl _) hq) ?_))
  rintro ex a' w' ⟨x',s',M',L',hx,hR,hs',hfr⟩
  have hfr':Fr w h L M w' s'.heap L' M':=hfr.congr_left hH
  have fin:(mapR (Fe s') rs).all (fun vs=>Q (Gf vs,s'.heap))->LeavesInM (W none) 0 P fn a'.tmps (fun en w'=>∃cv,en = .returned cv/\Good P M L w h Q w' cv) a'.defers .returning w':=fun hq'=>by
   obtain ⟨ms,e1,e2,e3⟩:=hs'.df
   rw [e1]
   refine A7t rfl ms w' hs'.hr hfr' e2 e3 fun w2 hr2 hf2 => ?_
   have hs2:SR P M' L' w2 fn.ntmps 0 s' { a' with defers:=[] }:=⟨hr2,hs'.he,.nil,hs'.sz⟩
   obtain ⟨rvs,h1,cv,h2,h3⟩:=Aft hs2 (by rw [hrl]; simp) hrel hq'
   exact ⟨cv,h2,cv,rfl,_,_,M',L',h1,hs2.hr,hf2,h3⟩
  cases ex with
  | normal =>
   cases x' <;> simp only [Gh] at hx
   simp only [Res.all_bind] at hR
   exact fin hR
  | ret =>
   cases x' <;> simp only [Gh] at hx
   simp only [Res.all_bind] at hR
   exact fin hR
  | exit id=>cases x' <;> simp only [Gh] at hx; exact hR.elim
  | goto l=>cases x' <;> exact hx.elim
  | panic ch=>cases x' <;> exact hx.elim
  | outgrown=>cases x' <;> exact hx.elim
theorem A9d {n:Nat} {e:Env} {tmps:Array Value} (he:∀t,VR M L (Bs e t) (tmps.getD t undef)) (hn:n<=tmps.size):∀(ps:List Nat) (as:List AV) (us:List Value) (e:Env) (tmps:Array Value),
  (∀t,VR M L (Bs e t) (tmps.getD t undef))->n<=tmps.size->(∀p∈ps,p<n)->as.length=ps.length->us.length=ps.length->(∀(i:Nat) x v,as[i]? = some x->us[i]? = some v->VR M L x v)->
  n<=((ps.zip us).foldl (fun tmps (p:Nat×Value)=>tmps.setIfInBounds p.1 p.2) tmps).size/\
   ∀t,VR M L (Bs (Mk e ps as) t) (((ps.zip us).foldl (fun tmps (p:Nat×Value)=>tmps.setIfInBounds p.1 p.2) tmps).getD t undef)
 | [],as,us,e,tmps,he,hn,_,_,_,_=>by
  cases as <;> exact ⟨hn,he⟩
 | p::ps,[],us,e,tmps,_,_,_,hl,_,_=>by simp at hl
 | p::ps,_::_,[],e,tmps,_,_,_,_,hl,_=>by simp at hl
 | p::ps,x::as,u::us,e,tmps,he',hn',hp,hl1,hl2,hh=>by
  simp only [List.zip_cons_cons,List.foldl_cons,Mk]
  have hpn:p<tmps.size:=Nat.lt_of_lt_of_le (hp p List.mem_cons_self) hn'
  refine A9d (n:=n) he hn ps as us (Gk e p x) (tmps.setIfInBounds p u) (fun t => ?_) (by simpa using hn') (fun q hq=>hp q (List.mem_cons_of_mem _ hq)) (by simpa using hl1) (by simpa using hl2) (fun i y v a b=>hh (i+1) y v a b)
  rw [Oz]
  by_cases h:p=t
  ·subst h
   rw [if_pos rfl]
   simp [Array.getD_eq_getD_getElem?,hpn]
   exact hh 0 x u rfl rfl
  ·rw [if_neg h]
   have:(tmps.setIfInBounds p u).getD t undef=tmps.getD t undef:=by
    simp [Array.getD_eq_getD_getElem?,h]
   rw [this]
   exact he' t
theorem Zj {h:Bc} (hr:HR P M L w h) {k ver:Nat} {st:LoopState} {pend:Option EX} {lf:LoopF} {info:Info} (ho:Bb h k = .loop ver st pend lf) (hl:L k ver=some info) :
  ∃lr:Loop,w.heap[info.blk]? = some (.loop lr)/\lr.state=st/\Ya pend lr.pending/\LoopR P M L lf lr:=by
 obtain ⟨i2,h1,h2,h3⟩:=hr.cur k (by rw [ho]; simp)
 rw [ho] at h1 h3
 have:info=i2:=by
  have h1':L k ver=some i2:=h1
  rw [hl] at h1'; cases h1'; rfl
 subst this
 exact h3
theorem LoopR.state {lf:LoopF} {lr:Loop} {st:LoopState} {p:Option Code} (h:LoopR P M L lf lr):LoopR P M L lf { lr with state:=st,pending:=p }:=h
theorem Anu {call:Bf} (hcall:CallOk P call) (hcalm:Calm call) (hm:P.follows .mixedOrders=true) {key ver:Nat} {as:List AV} {h:Bc} {Q:AV×Bc->Prop} (hq:(Ht call key ver as h).all Q)
  {vs:Array Value} {info:Info} (hr:HR P M L w h) (hv:VRs M L as vs) (hl:L key ver=some info) :
  ∃lr:Loop,w.heap[info.blk]? = some (.loop lr)/\vs.size=lr.params.size/\
    RoundIn Fence.wide 0 P info.blk lr.fn ((lr.params.zip vs).foldl (fun tmps (t,a)=>tmps.setIfInBounds t a) lr.tmps) lr.assign lr.body w
     fun en w'=>∃cv,en = .returned cv/\Good P M L w h Q w' cv:=by
 unfold Ht at hq
 split at hq
 ·next u st0 pend0 lf hob =>
  split at hq
  ·next hcond =>
   obtain ⟨hu,hlen⟩:=hcond
   subst hu
   obtain ⟨lr,k1,k2,k3,n,byr,c1,c2,c3,c4,c5,c6⟩:=Zj hr hob hl
   refine ⟨lr,k1,by rw [<-hv.1,hlen,<-c3]; simp,?_⟩
   rw [Res.all_bind] at hq
   rw [<-c1] at hq
   have hfold:(lr.params.zip vs).foldl (fun tmps (t,a)=>tmps.setIfInBounds t a) lr.tmps=(lf.params.zip vs.toList).foldl (fun tmps (p:Nat×Value)=>tmps.setIfInBounds p.1 p.2) lr.tmps:=by
    rw [<-Array.foldl_toList,Array.toList_zip,c3]
   rw [hfold]
   obtain ⟨s1,s2⟩:=A9d (n:=n) c6 c5 lf.params as vs.toList lf.env lr.tmps c6 c5 c4 hlen (by rw [Array.length_toList,<-hv.1,hlen]) (fun i x v a b=>hv.2 i x v a (by simpa using b))
   generalize (lf.params.zip vs.toList).foldl (fun tmps (p:Nat×Value)=>tmps.setIfInBounds p.1 p.2) lr.tmps=tmps at s1 s2
   have hs:SR P M L w n 0 ⟨Mk lf.env lf.params as,h⟩ { tmps,defers:=[] }:=⟨hr,s2,.nil,s1⟩
   refine roundIn_of_wpIn (F:=Fence.wide) trivial (wpIn_mono (A2a (r:=some info.blk) (b0:=0) hcall hcalm hm (nest:=true) (fun h=>by cases h) lr.assign M L w _ _ _ hs (Nat.zero_le _) hq) ?_)
   rintro ex a1 w1 ⟨x1,t1,M1,L1,hx1,hR1,hs1,hf1⟩
   have hl1:=hf1.lay _ _ _ hl
   cases ex with
   | normal =>
    cases x1 <;> simp only [Gh] at hx1
    simp only at hR1
    split at hR1
    ·next u2 pend2 lf2 _ hob1 =>
     split at hR1
     ·next hu2 =>
      subst hu2
      obtain ⟨lr1,e1,e2,e3,e4⟩:=Zj hs1.hr hob1 hl1
      have hn1:Bb t1.heap key ≠ .none:=by rw [hob1]; simp
      obtain ⟨w2,hw2⟩:∃w2:World,w2={ w1 with heap:=w1.heap.setIfInBounds info.blk (.loop { lr1 with state:=.busy }) }:=⟨_,rfl⟩
      have hbegin:(Instr.beginRound info.blk).run P w1 = .ok () w2:=by
       rw [hw2]
       simp [Instr.beginRound,Instr.getLoop,getObj,setObj,Sem.run,e1,e2]
      obtain ⟨hr2,hf2⟩:=hs1.hr.set_obj (o:=.loop u2 .busy pend2 lf2) (.loop { lr1 with state:=.busy }) hn1 (by rw [hob1]; exact hl1) (by simp) (by rw [hob1]; rfl)
       (fun w' hw'=>⟨_,hw',rfl,e3,e4⟩) w2 (by rw [hw2]) (by rw [hw2]; exact ⟨rfl,rfl,rfl⟩)
      have hs2:SR P M1 L1 w2 n 0 ⟨t1.env,setH t1.heap key (.loop u2 .busy pend2 lf2)⟩ a1:=⟨hr2,hs1.he,hs1.df.mono hf2,hs1.sz⟩
      rw [Res.all_bind,<-c2] at hR1
      refine ⟨w2,hbegin,wpIn_mono (A2a (r:=some info.blk) (b0:=0) hcall hcalm hm (nest:=true) (fun h=>by cases h) lr.body M1 L1 w2 _ _ _ hs2 (Nat.zero_le _) hR1) ?_⟩
      rintro ex2 a3 w3 ⟨x3,t3,M3,L3,hx3,hR3,hs3,hf3⟩
      have hl3:=hf3.lay _ _ _ hl1
      simp only at hR3
      split at hR3
      ·next u3 st3 pend3 lf3 hob3 =>
       split at hR3
       ·next hu3 =>
        subst hu3
        obtain ⟨lr3,g1,g2,g3,g4⟩:=Zj hs3.hr hob3 hl3
        have hn3:Bb t3.heap key ≠ .none:=by rw [hob3]; simp
        have finish:∀(jump:Option Code) (pd:Option EX),Ya pd jump->Q (.bool jump.isNone,setH t3.heap key (.loop u3 (if jump.isNone then .ready else .done) pd lf3))->
          ∃v w',(Instr.endRound info.blk jump).run P w3 = .ok v w'/\∃cv,Ending.returned v = .returned cv/\Good P M L w h Q w' cv:=fun jump pd hj hQ=>by
         obtain ⟨w4,hw4⟩:∃w4:World,w4={ w3 with heap:=w3.heap.setIfInBounds info.blk (.loop { lr3 with state:=if jump.isNone then .ready else .done,pending:=jump }) }:=⟨_,rfl⟩
         obtain ⟨hr4,hf4⟩:=hs3.hr.set_obj (o:=.loop u3 (if jump.isNone then .ready else .done) pd lf3) (.loop { lr3 with state:=if jump.isNone then .ready else .done,pending:=jump }) hn3 (by rw [hob3]; exact hl3) (by simp) (by rw [hob3]; rfl)
          (fun w' hw'=>⟨_,hw',rfl,hj,g4⟩) w4 (by rw [hw4]) (by rw [hw4]; exact ⟨rfl,rfl,rfl⟩)
         refine ⟨.bool jump.isNone,w4,?_,_,rfl,_,_,M3,L3,hQ,hr4,((hf1.trans hf2).trans hf3).trans hf4,.bool⟩
         rw [hw4]
         simp [Instr.endRound,Instr.getLoop,getObj,setObj,Sem.run,g1]
        cases ex2 with
        | normal =>
         cases x3 <;> simp only [Gh] at hx3
         exact finish none none trivial hR3
        | exit id =>
         cases x3 <;> simp only [Gh] at hx3
         subst hx3
         exact finish (some (.exit _)) (some (.exit _)) rfl hR3
        | ret =>
         cases x3 <;> simp only [Gh] at hx3
         exact finish (some .ret) (some .ret) trivial hR3
        | goto l=>cases x3 <;> exact hx3.elim
        | panic ch=>cases x3 <;> exact hx3.elim
        | outgrown=>cases x3 <;> exact hx3.elim
       ·exact hR3.elim
      ·exact hR3.elim
     ·exact hR1.elim
    ·exact hR1.elim
   | exit id =>
    cases x1 <;> simp only [Gh] at hx1
    exact hR1.elim
   | ret =>
    cases x1 <;> simp only [Gh] at hx1
    exact hR1.elim
   | goto l=>cases x1 <;> exact hx1.elim
   | panic ch=>cases x1 <;> exact hx1.elim
   | outgrown=>cases x1 <;> exact hx1.elim
  ·exact hq.elim
 ·exact hq.elim
structure SortOk (P:Program) (f:FuncId):Prop where
 fn : ∃ fn, P.funcs[f]? = some fn ∧ (fn.name == "runtime.NumGoroutine") = false ∧ fn.body.isNone = false
 calls:∀(blk off cap:Nat) (zs:List Int) (w:World) (c:Array Value) (t:TypeId),w.heap[blk]? = some (.cells c t (0,0))->(∀j z,zs[j]? = some z->c[off+j]? = some (.int .i64 z))->zs.length<4611686018427387904->
  Calls P f #[.slice (some ⟨blk,off,none⟩) zs.length cap] w fun en w'=>en = .returned (.tuple #[])/\SameOut w w'/\w.heap.size<=w'.heap.size/\(∀b,b<w.heap.size->b≠blk->w'.heap[b]? = w.heap[b]?)/\
   ∃c',w'.heap[blk]? = some (.cells c' t (0,0))/\c'.size=c.size/\(∀j z,(Fa zs)[j]? = some z->c'[off+j]? = some (.int .i64 z))/\∀i,i<off\/off+zs.length<=i->c'[i]? = c[i]?
def Hk:IFunc:=⟨1,[],.sortA⟩
def A6a (cfg:Cfg):Prop:=∀f,cfg.clones f=true->cfg.fns f=some Jg
def A5n (P : Program) (cfg : Cfg) : Prop := A6a cfg ∧ ∀ f ifn, cfg.fns f = some ifn → (∃ fn, P.funcs[f]? = some fn ∧ (fn.name == "runtime.NumGoroutine") = false ∧ ∃ byr, Xn P byr fn = some ifn) ∨ (ifn = Hk ∧ SortOk P f)
theorem Yp (a:Int):∀l:List Int,(Sh a l).length=l.length+1
 | []=>rfl
 | b::r=>by unfold Sh; split <;> simp [Yp a r]
theorem Ob:∀l:List Int,(Fa l).length=l.length
 | []=>rfl
 | a::r=>by rw [Fa,Yp,Ob r]; rfl
theorem A4i:∀(cs:List AV) (l:List Int),Oa cs=some l->cs=l.map (.int .i64)
 | [],l,h=>by cases h; rfl
 | .int .i64 n::r,l,h=>by
  simp only [Oa,Option.map_eq_some_iff] at h
  obtain ⟨m,h1,rfl⟩:=h
  rw [List.map_cons,<-A4i r m h1]
theorem A9g (call:Bf) (as:List AV) (h:Bc) {Q:AV×Bc->Prop} (hq:(Dw call Hk as h).all Q):∃k ver off len cap cs l,as=[.oslice k ver none off len cap]/\Bb h k = .cells ver cs/\off+len<=cs.length/\0<len/\len<1099511627776/\
  (cs.drop off).take len=l.map (.int .i64)/\Q (.tuple [],setH (h++[.none]) k (.cells ver (Dk cs off ((Fa l).map (.int .i64))))):=by
 have hg:∀k,Bb (h++[AObj.none]) k=Bb h k:=fun k=>Bi h 1 k
 simp only [Dw,Hk,evC,List.replicate,Res.all_bind] at hq
 unfold Vz at hq
 split at hq
 ·next k ver off len cap =>
  rw [hg] at hq
  cases hh:Bb h k with
  | cells v cs =>
   rw [hh] at hq
   simp only at hq
   split at hq
   ·next hc =>
    obtain ⟨rfl,h1,h2,h3⟩:=hc
    cases hi:Oa ((cs.drop off).take len) with
    | none=>rw [hi] at hq; exact hq.elim
    | some l =>
     rw [hi] at hq
     exact ⟨k,v,off,len,cap,cs,l,rfl,hh,h1,h2,h3,A4i _ _ hi,hq⟩
   ·exact hq.elim
  | _=>rw [hh] at hq; exact hq.elim
 ·exact hq.elim
theorem Ib (h:Bc) (k:Nat):Bb (h++[AObj.none]) k=Bb h k:=Bi h 1 k
theorem HR.pad {M:Mem} {L:Lay} {w:World} {h:Bc} (hr:HR P M L w h):HR P M L w (h++[.none]) where
 mem:=hr.mem
 cur:=fun k hk=>by rw [Ib] at hk ⊢; exact hr.cur k hk
 ver:=fun k v i hi=>by rw [Ib]; exact hr.ver k v i hi
 inj:=fun k k' i i' a b c d e=>by rw [Ib] at a c; rw [Ib] at b d; exact hr.inj k k' i i' a b c d e
theorem Agl {h:Bc} {L:Lay} {b:Nat}:Im (h++[.none]) L b↔Im h L b:=by
 unfold Im
 constructor <;> rintro ⟨k,i,h1,h2,h3⟩
 ·rw [Ib] at h1 h2; exact ⟨k,i,h1,h2,h3⟩
 ·exact ⟨k,i,by rw [Ib]; exact h1,by rw [Ib]; exact h2,h3⟩
theorem Auq {call:Bf} {f:FuncId} (hs:SortOk P f) {M:Mem} {L:Lay} {w:World} {h:Bc} {as:List AV} {vs:Array Value} {Q:AV×Bc->Prop} (hr:HR P M L w h) (hv:VRs M L as vs) (hq:(Dw call Hk as h).all Q) :
  Calls P f vs w fun en w'=>∃cv,en = .returned cv/\Good P M L w h Q w' cv:=by
 obtain ⟨k,ver,off,len,cap,cs,l,ha,hh,hle,hlen,hbig0,hcs,hQ⟩:=A9g call as h hq
 ·subst ha
  have hsz:vs.size=1:=by rw [<-hv.1]; rfl
  have h0:=hv.2 0 _ (vs[0]'(by omega)) rfl (Array.getElem?_eq_getElem (by omega))
  obtain ⟨v,rfl⟩:∃v,vs = #[v]:=by
   refine ⟨vs[0]'(by omega),?_⟩
   apply Array.ext
   ·simp [hsz]
   ·intro i h1 h2
    have:i=0:=by omega
    subst this
    rfl
  simp only [List.getElem_toArray,List.getElem_cons_zero] at h0
  cases h0 with
  | @oslice _ _ _ _ _ _ info c o hl b1 b2 b3 b4 b5 b6 =>
   have hoo:o=off:=b3 (by omega)
   subst hoo
   obtain ⟨hmb,c0,t0,hb0,hn0,hs0,hle0,hrow⟩:=Fh hr hh hl
   have hll:l.length=len:=by
    have:=congrArg List.length hcs
    simp at this
    omega
   subst hll
   have hcell:∀j z,l[j]? = some z->cs[o+j]? = some (.int .i64 z):=fun j z hj=>by
    have e1:=congrArg (fun q:List AV=>q[j]?) hcs
    have hj':j<l.length:=(List.getElem?_eq_some_iff.1 hj).1
    simp only [List.getElem?_map,hj,Option.map_some] at e1
    rw [List.getElem?_take_of_lt hj',List.getElem?_drop] at e1
    exact e1
   have hc0:∀j z,l[j]? = some z->c0[o+j]? = some (.int .i64 z):=fun j z hj=>by
    obtain ⟨v,g1,_,g2⟩:=hrow _ _ (hcell j z hj)
    cases g2
    exact g1
   have hbig:l.length<4611686018427387904:=by omega
   refine (hs.calls info.blk o c l w c0 t0 hb0 hc0 hbig).mono ?_
   rintro en w' ⟨rfl,hso,hszw,hoth,c',e1,e2,e3,e4⟩
   have hr':=hr.pad
   have hne:Bb (h++[.none]) k ≠ .none:=by rw [Ib,hh]; simp
   have hver:(Bb (h++[.none]) k).ver=ver:=by rw [Ib,hh]; rfl
   have hup:L.upd k ver info=L:=Lay.upd_same hl
   have key:=hr'.put k ver info (.cells ver (Dk cs o ((Fa l).map (.int .i64)))) w' (by simp) rfl (.inr hl) (fun _=>by omega) hmb (.inr ⟨info,hne,by rw [hver]; exact hl,rfl⟩) hszw hoth ?_ hso
   ·rw [hup] at key
    refine ⟨_,rfl,.tuple [],_,M,L,hQ,key.1,⟨key.2.size,?_,?_,key.2.mem,key.2.memNew,key.2.lay,key.2.out⟩,.tuple rfl fun i c v hc=>by simp at hc⟩
    ·intro b hb hn
     exact key.2.kept b hb fun hi=>hn (Agl.1 hi)
    ·intro b hb
     exact (key.2.im b hb).imp_left Agl.1
   ·rw [hup]
    refine ⟨c',t0,e1,by rw [Ik]; exact hn0,by rw [e2]; exact hs0,hle0,?_⟩
    intro i x hx
    rw [Ir] at hx
    have hil:((Fa l).map (AV.int .i64)).length=l.length:=by rw [List.length_map,Ob]
    split at hx
    ·next hc =>
     rw [List.getElem?_map,Option.map_eq_some_iff] at hx
     obtain ⟨z,hz,rfl⟩:=hx
     have:=e3 _ z hz
     rw [show o+(i-o)=i by omega] at this
     exact ⟨_,this,rfl,.int⟩
    ·next hc =>
     have hi:i<cs.length:=(List.getElem?_eq_some_iff.1 hx).1
     rw [e4 i (by omega)]
     exact hrow i x hx
theorem A6f (cfg:Cfg):∀n f as h,(Bg cfg n false f as h).each fun p=>p.2=h
 | 0=>fun f as h=>trivial
 | n+1=>fun f as h=>by
  cases f with
  | yld k v=>exact trivial
  | clone f=>exact trivial
  | fn f =>
  simp only [Bg]
  split
  ·trivial
  ·simp only [Bool.false_eq_true,if_false]
   rw [Res.each_bind]
   refine Res.each_true (fun args' => ?_) _
   rw [Res.each_bind]
   refine Res.each_true (fun p => ?_) _
   rw [Res.each_bind]
   refine Res.each_true (fun r => ?_) _
   split
   ·rfl
   ·trivial
theorem Yn (h h':Bc):∀(n:Nat) (v:AV),Dy n v=true->Bj h n v=Bj h' n v
 | 0,_,hb=>by cases hb
 | n+1,v,hb=>by
  have ih:=Yn h h' n
  have hm:∀l:List AV,l.all (Dy n)=true->mapR (Bj h n) l=mapR (Bj h' n) l:=by
   intro l
   induction l with
   | nil=>intro _; rfl
   | cons a r ihl =>
    intro hl
    simp only [List.all_cons,Bool.and_eq_true] at hl
    simp only [mapR,ih a hl.1,ihl hl.2]
  cases v <;> simp only [Dy,Bool.and_eq_true,reduceCtorEq,Bool.false_eq_true] at hb <;> simp only [Bj] <;> first
   | rw [hm _ hb]
   | rw [hm _ hb.1,hm _ hb.2]
theorem Res.bind_assoc {α β γ:Type} (x:Res α) (f:α->Res β) (g:β->Res γ):(x.bind f).bind g=x.bind fun a=>(f a).bind g:=by
 induction x with
 | fail=>rfl
 | ret a=>rfl
 | choice n k ih=>simp only [Res.bind]; congr 1; funext i; exact ih i
theorem Akx (F:Res (List AV)) (G:List AV->Res (AV×Bc)) (Z:Bc->AV->Res AV) (c:AV->Bc->AV->Bool) (h:Bc) :
  (F.bind fun args'=>(G args').bind fun (r,h')=>(Z h' r).bind fun fr=>if c r h' fr then .ret (fr,h) else .fail)=(F.bind fun args'=>(G args').bind fun (r,h')=>(Z h' r).bind fun fr=>if c r h' fr then .ret fr else .fail).bind fun v=>(.ret (v,h):Res (AV×Bc)):=by
 rw [Res.bind_assoc]
 congr 1; funext args'
 rw [Res.bind_assoc]
 congr 1; funext p
 obtain ⟨r,h'⟩:=p
 simp only
 rw [Res.bind_assoc]
 congr 1; funext fr
 by_cases hc:c r h' fr=true
 ·rw [if_pos hc,if_pos hc]; rfl
 ·rw [if_neg hc,if_neg hc]; rfl
theorem Aag {cfg:Cfg} {f:FuncId} {fn:IFunc} (hf:cfg.fns f=some fn) (n:Nat) (as:List AV) (h:Bc):Bg cfg (n+1) false (.fn f) as h=(mapR (Bj h depth) as).bind fun args'=>(Dw (Bg cfg n) fn args' []).bind fun (r,h')=>(Bj h' depth r).bind fun fr=>if as.all (Dy depth)||En depth fr||Er h' depth r then .ret (fr,h) else .fail:=by
 simp only [Bg,hf,Bool.false_eq_true,if_false]
theorem Aaf {cfg:Cfg} {f:FuncId} (hf:cfg.fns f=none) (n:Nat) (as:List AV) (h:Bc):Bg cfg (n+1) false (.fn f) as h = .fail:=by
 simp only [Bg,hf]
theorem Adp (cfg:Cfg) (k v n:Nat) (as:List AV) (h:Bc):Bg cfg (n+1) false (.yld k v) as h = .fail:=by
 simp only [Bg,Bool.false_eq_true,if_false]
theorem Aah (cfg:Cfg) (f:Tgt) (as:List AV) (h:Bc):Bg cfg 0 false f as h = .fail:=by
 simp only [Bg]
theorem Ox (f:AV->Res (AV×Bc)):(Res.fail:Res AV).bind f = .fail:=rfl
theorem A4f (d:Nat):∀(as:List AV),as.all (Dy d)=true->∀h,mapR (Bj h d) as=mapR (Bj [] d) as
 | [],_,_=>rfl
 | a::r,hl,h=>by
  simp only [List.all_cons,Bool.and_eq_true] at hl
  simp only [mapR,Yn h [] d a hl.1,A4f d r hl.2 h]
theorem Aam (cfg:Cfg) (n:Nat) (f:Tgt) (as:List AV) (hfree:as.all (Dy depth)=true):∃r:Res AV,∀h,Bg cfg n false f as h=r.bind fun v => .ret (v,h):=by
 cases n with
 | zero=>exact ⟨.fail,fun h=>by rw [Aah,Ox]⟩
 | succ n =>
  cases f with
  | yld k v=>exact ⟨.fail,fun h=>by rw [Adp,Ox]⟩
  | clone f=>exact ⟨.fail,fun h=>by rw [show Bg cfg (n+1) false (.clone f) as h = .fail from rfl,Ox]⟩
  | fn f =>
   cases hf:cfg.fns f with
   | none=>exact ⟨.fail,fun h=>by rw [Aaf hf,Ox]⟩
   | some fn=>exact ⟨_,fun h=>by rw [Aag hf,A4f depth as hfree h]; exact Akx (mapR (Bj [] depth) as) (fun args'=>Dw (Bg cfg n) fn args' []) (fun h' r=>Bj h' depth r) (fun r h' fr=>as.all (Dy depth)||En depth fr||Er h' depth r) h⟩
theorem Adq {call:Bf} {as:List AV} {h:Bc} {Q:AV×Bc->Prop} (hq:(Ga as h).all Q):(Dw call Jg as h).all Q:=by
 unfold Ga at hq
 split at hq
 ·next hh k ver off len cap =>
  cases hH:Bb h k with
  | cells v cs =>
   rw [hH] at hq
   simp only at hq
   split at hq
   ·next hc =>
    obtain ⟨hv,hle,hr⟩:=hc
    have hl:(h++List.replicate 8 AObj.none).length=h.length+8:=by simp
    have hn:Bb (h++List.replicate 8 AObj.none) (h.length+8) = .none:=Eh _ _ (by rw [hl]; exact Nat.le_refl _)
    have hk:Bb (h++List.replicate 8 AObj.none) k = .cells v cs:=by rw [Bi]; exact hH
    have hz:Et (0+(len+1)) 8=true:=by rw [Nat.zero_add]; exact hr
    simp only [Dw,Jg,evC,Dr,Bv,Bd,IX.ev,Res.bind,Bk,Gk,Bs,Dh,De,Eg,List.all_nil,if_true,Ej,List.length_cons,List.length_nil,Ek,hl,hn,hk,hv,Be,Nat.mul_one,hle,and_self,AObj.next,Nat.zero_div,reduceCtorEq,if_false,not_true,ne_eq,hz,hr,not_true_eq_false,false_or,mapR,Fe,Gf,Nat.zero_add,Nat.succ_ne_zero,Nat.add_eq_zero_iff,List.nil_append,Res.all,Bool.true_eq_false,or_self,Nat.add_one_ne_zero,Bool.false_eq_true]
    exact hq
   ·exact hq.elim
  | _=>rw [hH] at hq; exact hq.elim
 ·next hh a r ex =>
  split at hq
  ·next hr =>
   have hl:(h++List.replicate 8 AObj.none).length=h.length+8:=by simp
   have hn:Bb (h++List.replicate 8 AObj.none) (h.length+8) = .none:=Eh _ _ (by rw [hl]; exact Nat.le_refl _)
   have hz:Et (0+(r.length+1)) 8=true:=by rw [Nat.zero_add]; exact hr
   simp only [Dw,Jg,evC,Dr,Bv,Bd,IX.ev,Res.bind,Bk,Gk,Bs,Dh,De,Eg,List.all_nil,if_true,Ej,List.length_cons,List.length_nil,Ek,hl,hn,AObj.next,Nat.zero_div,reduceCtorEq,if_false,not_true,ne_eq,hz,hr,not_true_eq_false,false_or,mapR,Fe,Gf,Nat.zero_add,Nat.succ_ne_zero,Nat.add_eq_zero_iff,List.nil_append,Res.all,Bool.true_eq_false,or_self,Nat.add_one_ne_zero,Bool.false_eq_true]
   exact hq
  ·exact hq.elim
 ·exact hq.elim
theorem Yj {cfg:Cfg} (hcl:A6a cfg) (n:Nat):Calm (Bg cfg n):=by
 refine ⟨fun f => ?_,fun f as h Q hq => ?_,A6f cfg n,fun f as hfree=>Aam cfg n f as hfree⟩
 ·cases n with
  | zero=>exact .inl fun as h=>rfl
  | succ n =>
   by_cases hc:cfg.clones f=true
   ·exact .inr fun as h=>by simp only [Bg,hc,Bool.and_self,if_true]
   ·exact .inl fun as h=>by simp only [Bg,hc,Bool.true_and,Bool.false_eq_true,if_false]
 ·cases n with
  | zero=>exact hq.elim
  | succ n =>
   by_cases hc:cfg.clones f=true
   ·simp only [Bg,hc,Bool.and_self,if_true] at hq
    simp only [Bg,hcl f hc,if_true]
    exact Adq hq
   ·simp only [Bg,hc,Bool.true_and,Bool.false_eq_true,if_false] at hq
    exact hq.elim
theorem Alw (b:Nat):¬Im ([]:Bc) (fun _ _=>none) b:=by
 rintro ⟨k,i,h1,_⟩
 rw [Ho] at h1
 exact h1 rfl
theorem HR.empty {M:Mem} (hm:∀b o,M b=some o->w.heap[b]? = some o):HR P M (fun _ _=>none) w [] where
 mem:=hm
 cur:=fun k hk=>by rw [Ho] at hk; exact (hk rfl).elim
 ver:=fun k v i hi=>by cases hi
 inj:=fun k k' i i' a=>by rw [Ho] at a; exact (a rfl).elim
theorem Acb {h:Bc} (hr:HR P M L w h):∀b o,frz M L w h b=some o->w.heap[b]? = some o:=fun b o hb=>by
 unfold frz at hb
 split at hb
 ·exact hb
 ·exact hr.mem b o hb
theorem Abo {call:Bf} {as args':List AV} {h:Bc} {Q:AV×Bc->Prop} (hargs:mapR (Bj h depth) as = .ret args') (hq:(Dw call Hk args' []).all Q):False:=by
 obtain ⟨k,ver,off,len,cap,cs,l,ha,hh,_⟩:=A9g call args' [] hq
 rw [Ho] at hh
 cases hh
theorem Uy {cfg:Cfg} (hcfg:A5n P cfg) (hm:P.follows .mixedOrders=true):∀n,CallOk P (Bg cfg n)
 | 0=>⟨fun raw f as h Q hq=>hq.elim,fun raw k v as h Q hq=>hq.elim⟩
 | n+1=>by
  have ih:=Uy hcfg hm n
  have hcalm:=Yj hcfg.1 n
  refine ⟨fun raw f as h Q hq => ?_,fun raw k v as h Q hq M L w vs info hr hv hl => ?_⟩
  rotate_left
  ·simp only [Bg] at hq
   split at hq
   ·exact Anu ih hcalm hm hq hr hv hl
   ·exact hq.elim
  simp only [Bg] at hq
  split at hq
  ·exact hq.elim
  ·next ifn hifn =>
   rcases hcfg.2 f ifn hifn with ⟨fn,hf,hname,byr,hcf⟩ | ⟨rfl,hsort⟩
   rotate_left
   ·refine ⟨hsort.fn,fun M L w vs hr hv => ?_⟩
    split at hq
    ·exact Auq hsort hr hv hq
    ·rw [Res.all_bind] at hq
     obtain ⟨args',hargs,hq⟩:=(Det.mapR as fun x _=>Jj h depth x).all hq
     rw [Res.all_bind] at hq
     exact (Abo hargs hq).elim
   have hbody:fn.body.isNone=false:=by
    unfold Xn at hcf
    split at hcf
    ·cases hcf
    ·next c hb=>rw [hb]; rfl
   refine ⟨⟨fn,hf,hname,hbody⟩,fun M L w vs hr hv => ?_⟩
   split at hq
   ·exact A2d ih hcalm hm hf hcf hr hv hq
   ·rw [Res.all_bind] at hq
    obtain ⟨args',hargs,hq⟩:=(Det.mapR as fun x _=>Jj h depth x).all hq
    rw [Res.all_bind] at hq
    obtain ⟨gl,gx⟩:=Ez _ _ hargs
    -- the callee's memory: what is written here,or nothing of it
    have main:∀(Mc:Mem),(∀b o,Mc b=some o->w.heap[b]? = some o)->Mem.le M Mc->(∀b o,Mc b=some o->M b=some o\/Im h L b)->VRs Mc (fun _ _=>none) args' vs->
      (∀(r:AV) (M2 M3:Mem) (cv:Value),(as.all (Dy depth)||En depth r)=true->FR M2 r cv->(∀b o,M2 b=some o->Mc b=some o\/w.heap.size<=b)->(∀b o,M2 b=some o->M3 b=some o\/Im h L b)->FR M3 r cv)->
      Calls P f vs w fun en w'=>∃cv,en = .returned cv/\Good P M L w h Q w' cv:=by
     intro Mc hmem hle hsub hvs hres
     refine (A2d ih hcalm hm hf hcf (HR.empty hmem) hvs hq).mono ?_
     rintro en w1 ⟨cv,rfl,r,h1,M1,L1,hQ,hr1,hf1,hv1⟩
     simp only [Res.all_bind] at hQ
     obtain ⟨fr,hfr0,hQ⟩:=(Jj h1 depth r).all hQ
     split at hQ
     ·next hplain =>
      have hFR:=Wi hr1 depth r fr cv hfr0 hv1
      have him1:∀b,Im h1 L1 b->w.heap.size<=b:=fun b hb=>(hf1.im b hb).resolve_left (Alw b)
      have hkept:∀b,b<w.heap.size->w1.heap[b]? = w.heap[b]?:=fun b hb=>hf1.kept b hb (Alw b)
      have hblk:∀b,Im h L b->b<w.heap.size/\M b=none:=by
       rintro b ⟨k,info,e1,e2,rfl⟩
       obtain ⟨i',g1,g2,g3⟩:=hr.cur k e1
       rw [e2] at g1; cases g1
       exact ⟨g3.blk_lt e1,g2⟩
      have hM2:∀b o,frz M1 L1 w1 h1 b=some o->Mc b=some o\/w.heap.size<=b:=fun b o hb=>by
       by_cases hi:Im h1 L1 b
       ·exact .inr (him1 b hi)
       ·unfold frz at hb
        rw [if_neg hi] at hb
        exact hf1.memNew b o hb
      refine ⟨cv,rfl,fr,h,Rr h L (frz M1 L1 w1 h1),L,hQ,⟨?_,?_,hr.ver,hr.inj⟩,⟨hf1.size,fun b hb _=>hkept b hb,fun b hb => .inl hb,?_,?_,fun _ _ _ h=>h,hf1.out⟩,?_⟩
      ·intro b o hb
       by_cases hi:Im h L b
       ·rw [Ux hi] at hb; cases hb
       ·rw [Io hi] at hb; exact Acb hr1 b o hb
      ·intro k hk
       obtain ⟨info,g1,g2,g3⟩:=hr.cur k hk
       have him:Im h L info.blk:=⟨k,info,hk,g1,rfl⟩
       refine ⟨info,g1,Ux him,g3.mono ?_ (fun _ _ _ h=>h) (hkept _ (g3.blk_lt hk))⟩
       intro b o hb
       have:¬Im h L b:=fun hi=>by rw [(hblk b hi).2] at hb; cases hb
       rw [Io this]
       exact A0z hr1 b o (hf1.mem b o (hle b o hb))
      ·intro b o hb
       have:¬Im h L b:=fun hi=>by rw [(hblk b hi).2] at hb; cases hb
       rw [Io this]
       exact A0z hr1 b o (hf1.mem b o (hle b o hb))
      ·intro b o hb
       by_cases hni:Im h L b
       ·rw [Ux hni] at hb; cases hb
       ·rw [Io hni] at hb
        rcases hM2 b o hb with hb | hb
        ·exact (hsub b o hb).imp_right fun hi=>(hni hi).elim
        ·exact .inr hb
      ·by_cases hfr:Er h1 depth r=true
       ·refine FR.toVR ((A6x hr1 depth r fr cv hfr hfr0 hv1).mono fun b o hb => ?_)
        by_cases hi1:Im h1 L1 b
        ·rw [Xz hi1] at hb
         have hnot:¬Im h L b:=fun hi=>by have:=(hblk b hi).1; have:=him1 b hi1; omega
         rw [Io hnot,A0y hi1]; exact hb
        ·unfold Qo at hb
         rw [if_neg hi1] at hb
         cases hb
       have hplain:(as.all (Dy depth)||En depth fr)=true:=by
        rcases Bool.or_eq_true _ _ ▸ hplain with h' | h'
        ·exact h'
        ·exact (hfr h').elim
       refine FR.toVR (hres fr _ _ cv hplain hFR hM2 fun b o hb => ?_)
       by_cases hi:Im h L b
       ·exact .inr hi
       ·left
        rw [Io hi]; exact hb
     ·exact hQ.elim
    by_cases hfree:as.all (Dy depth)=true
    ·refine main M hr.mem (fun _ _ h=>h) (fun b o hb => .inl hb) ⟨by rw [gl]; exact hv.1,fun i x v hx hv' => ?_⟩ ?_
     ·have hi:i<as.length:=by rw [<-gl]; exact (List.getElem?_eq_some_iff.1 hx).1
      have hy:=List.getElem?_eq_getElem hi
      exact (Abz depth _ _ _ (List.all_eq_true.1 hfree _ (List.mem_of_getElem? hy)) (gx i _ x hy hx) (hv.2 i _ v hy hv')).toVR
     ·intro r M2 M3 cv _ hFR hM2 hM3
      refine hFR.mono fun b o hb => ?_
      rcases hM3 b o hb with h3 | hi
      ·exact h3
      ·exfalso
       obtain ⟨k,info,e1,e2,rfl⟩:=hi
       obtain ⟨i',g1,g2,g3⟩:=hr.cur k e1
       rw [e2] at g1; cases g1
       rcases hM2 _ o hb with h2 | h2
       ·rw [g2] at h2; cases h2
       ·have:=g3.blk_lt e1; omega
    ·refine main (frz M L w h) (Acb hr) (A0z hr) (fun b o hb => ?_) ⟨by rw [gl]; exact hv.1,fun i x v hx hv' => ?_⟩ ?_
     ·unfold frz at hb
      split at hb
      ·next hi=>exact .inr hi
      ·exact .inl hb
     ·have hi:i<as.length:=by rw [<-gl]; exact (List.getElem?_eq_some_iff.1 hx).1
      have hy:=List.getElem?_eq_getElem hi
      exact (Wi hr depth _ _ _ (gx i _ x hy hx) (hv.2 i _ v hy hv')).toVR
     ·intro r M2 M3 cv hpl hFR _ _
      have:En depth r=true:=by
       rcases Bool.or_eq_true _ _ ▸ hpl with h | h
       ·exact (hfree h).elim
       ·exact h
      exact A8l depth r cv this hFR
def Bm (P:Program) (byr:FuncId->FuncId->Bool):Cfg where
 fns := fun f => (P.funcs[f]?).bind fun fn => if (fn.name == "runtime.NumGoroutine") then none else Xn P (byr f) fn
theorem A6i (P : Program) (byr : FuncId → FuncId → Bool) {f : FuncId} {ifn : IFunc} (h : (Bm P byr).fns f = some ifn) : ∃ fn, P.funcs[f]? = some fn ∧ (fn.name == "runtime.NumGoroutine") = false ∧ ∃ byr, Xn P byr fn = some ifn := by
 simp only [Bm,Option.bind_eq_some_iff] at h
 obtain ⟨fn,hf,h⟩:=h
 split at h
 ·cases h
 ·next hn=>exact ⟨fn,hf,by simpa using hn,_,h⟩
variable {P:Program}
theorem Akt {cfg:Cfg} (hcfg:A5n P cfg) {byr:FuncId->FuncId->Bool} (hm:P.follows .mixedOrders=true) (n:Nat) {f:FuncId} {ifn:IFunc} (hf:(Bm P byr).fns f=some ifn) (as:List AV) (vs:Array Value) (w:World) {R:AV->Prop} (hl:as.length=vs.size)
  (hv:∀(i:Nat) x v,as[i]? = some x->vs[i]? = some v->FR (fun b=>w.heap[b]?) x v) (hq:(Dw (Bg cfg n) ifn as []).all fun p=>R p.1) :
  Calls P f vs w fun en w'=>∃cv v,en = .returned cv/\R v/\SameOut w w'/\w.heap.size<=w'.heap.size/\(∀b,b<w.heap.size->w'.heap[b]? = w.heap[b]?)/\∃M' L',VR M' L' v cv:=by
 obtain ⟨fn,h1,h2,byr',h3⟩:=A6i P byr hf
 refine (A2d (Q:=fun p=>R p.1) (Uy hcfg hm n) (Yj hcfg.1 n) hm h1 h3 (HR.empty (M:=fun b=>w.heap[b]?) fun b o h=>h) (M:=fun b=>w.heap[b]?) ⟨hl,fun i x v h1 h2=>(hv i x v h1 h2).toVR⟩ hq).mono ?_
 rintro en w' ⟨cv,rfl,v,h',M',L',h1,h2,h3,h4⟩
 exact ⟨cv,v,rfl,h1,h3.out,h3.size,fun b hb=>h3.kept b hb (Alw b),M',L',h4⟩
section
variable {Q:EX×St->Prop} {K:St->Prop} {V:AV×Bc->Prop} {call:Bf} {base:Nat} {e:Env} {h:Bc}
theorem Fj {α:Type} (a:α) (Q:α->Prop):(Res.ret a).all Q=Q a:=rfl
theorem all_bind {α β:Type} (x:Res α) (f:α->Res β) (Q:β->Prop):(x.bind f).all Q=x.all fun a=>(f a).all Q:=propext (Res.all_bind ..)
theorem Aqp {α:Type} (c:Prop) [Decidable c] (x y:Res α) (Q:α->Prop):(if c then x else y).all Q=if c then x.all Q else y.all Q:=by split <;> rfl
theorem all_some {α:Type} (a:α) (Q:α->Prop):(Res.ofOpt (some a)).all Q=Q a:=rfl
def after (Q:EX×St->Prop) (f:St->Prop):EX×St->Prop:=fun p =>
 match p.1 with
 | .normal=>f p.2
 | _=>Q p
def A5s (id:Nat) (Q:EX×St->Prop):EX×St->Prop:=fun p =>
 match p.1 with
 | .exit id'=>if id'=id then Q (.normal,p.2) else Q p
 | _=>Q p
theorem C4w (a b:IC) (s:St):(evC call base (.seq a b) s).all Q=(evC call base a s).all (after Q fun s=>(evC call base b s).all Q):=by
 simp only [evC,all_bind]
 congr 1
 funext p
 obtain ⟨x,s⟩:=p
 cases x <;> rfl
theorem Avg (id:Nat) (c:IC) (s:St):(evC call base (.block id c) s).all Q=(evC call base c s).all (A5s id Q):=by
 simp only [evC,all_bind]
 congr 1
 funext p
 obtain ⟨x,s⟩:=p
 cases x <;> simp only [A5s,Fj,Aqp]
theorem C4v (l:List IOper) (s:St):(evC call base (.ops l) s).all Q=(Dr call base l s).all fun s=>Q (.normal,s):=by
 simp only [evC,all_bind,Fj]
theorem B0x (o:IOper) (l:List IOper) (s:St):(Dr call base (o::l) s).all K=(Bv call base o s).all fun s=>(Dr call base l s).all K:=by
 simp only [Dr,all_bind]
theorem B1a (dst:Option Nat) (op:IOp) (e:Env) (h:Bc):(Bv call base ⟨dst,op,none⟩ ⟨e,h⟩).all K=(Bd call (base+dst.getD 0) op e h).all fun p=>K ⟨Bk e dst p.1,p.2⟩:=by
 simp only [Bv,all_bind,Fj]
theorem B0w (c:IX) (a b:IC) (e:Env) (h:Bc):(evC call base (.cond c a b) ⟨e,h⟩).all Q=(match c.ev e with | .bool t=>if t then (evC call base a ⟨e,h⟩).all Q else (evC call base b ⟨e,h⟩).all Q | _=>False):=by
 simp only [evC]
 cases c.ev e with
 | bool t=>cases t <;> rfl
 | _=>rfl
theorem Avk (dst:Option Nat) (op:IOp) (t:Nat) (want:Bool) (e:Env) (h:Bc):(Bv call base ⟨dst,op,some (t,want)⟩ ⟨e,h⟩).all K=(match Bs e t with
  | .bool b=>if b=want then (Bd call (base+dst.getD 0) op e h).all fun p=>K ⟨Bk e dst p.1,p.2⟩ else K ⟨Bk e dst .skip,h⟩
  | .skip=>K ⟨Bk e dst .skip,h⟩
  | _=>False):=by
 simp only [Bv]
 cases Bs e t with
 | bool b =>
  simp only
  split
  ·simp only [all_bind,Fj]
  ·rfl
 | _=>rfl
end
theorem Axd (t:Nat) (e:Env):(IX.tmp t).ev e=Bs e t:=rfl
theorem Alk (v:AV) (e:Env):(IX.const v).ev e=v:=rfl
theorem Akm (d:Nat) (v:AV) (e:Env):Bk e (some d) v=Gk e d v:=rfl
theorem Akl (v:AV) (e:Env):Bk e none v=e:=rfl
section ops
variable {V:AV×Bc->Prop} {call:Bf} {key:Nat} {e:Env} {h:Bc}
theorem Cdq (x:IX):(Bd call key (.mv x) e h).all V=V (x.ev e,h):=rfl
theorem C4q (op:BinOp) (x y:IX):(Bd call key (.bin op x y) e h).all V=(Ef op (x.ev e) (y.ev e)).all fun v=>V (v,h):=by
 simp only [Bd,all_bind,Fj]
theorem Cdr (op:UnOp) (x:IX):(Bd call key (.un op x) e h).all V=(unA op (x.ev e)).all fun v=>V (v,h):=by
 simp only [Bd,all_bind,Fj]
theorem B1g (k:IntKind) (a b:Int):Ef .add (.int k a) (.int k b) = .ret (.int k (k.wrap (a+b))):=by simp [Ef,Kg]
theorem B1o (k:IntKind) (a b:Int):Ef .sub (.int k a) (.int k b) = .ret (.int k (k.wrap (a-b))):=by simp [Ef,Kg]
theorem B1m (k:IntKind) (a b:Int):Ef .mul (.int k a) (.int k b) = .ret (.int k (k.wrap (a*b))):=by simp [Ef,Kg]
theorem B1h (k:IntKind) (a b:Int):Ef .eql (.int k a) (.int k b) = .ret (.bool (a==b)):=by simp [Ef,Kg]
theorem B1n (k:IntKind) (a b:Int):Ef .neq (.int k a) (.int k b) = .ret (.bool (a != b)):=by simp [Ef,Kg]
theorem B1l (k:IntKind) (a b:Int):Ef .lss (.int k a) (.int k b) = .ret (.bool (decide (a<b))):=by simp [Ef,Kg]
theorem B1k (k:IntKind) (a b:Int):Ef .leq (.int k a) (.int k b) = .ret (.bool (decide (a<=b))):=by simp [Ef,Kg]
theorem B1j (k:IntKind) (a b:Int):Ef .gtr (.int k a) (.int k b) = .ret (.bool (decide (a>b))):=by simp [Ef,Kg]
theorem B1i (k:IntKind) (a b:Int):Ef .geq (.int k a) (.int k b) = .ret (.bool (decide (a>=b))):=by simp [Ef,Kg]
theorem B8f (b:Bool):unA .not (.bool b) = .ret (.bool !b):=rfl
theorem B8e (k:IntKind) (n:Int):unA .neg (.int k n) = .ret (.int k (k.wrap (0-n))):=rfl
def ixA (sz:Nat):AV->Nat->Res AV
 | .slice grp xs _,j=>if Be grp=sz then (match xs[j]? with | some v => .ret (.ptr v.cells 0) | none => .fail) else .fail
 | .oslice k ver grp off len _,j=>if Be grp=sz/\j<len then .ret (.optr k ver (off+j*sz)) else .fail
 | _,_ => .fail
theorem A3o (k:IntKind) (n:Nat):Df (.int k (n:Int))=some n:=by simp [Df]
theorem Abq (sz:Nat) (x i:IX):(Bd call key (.indexAddr sz x i) e h).all V=(match Df (i.ev e) with | some j=>(ixA sz (x.ev e) j).all fun v=>V (v,h) | none=>False):=by
 simp only [Bd]
 cases hi:Df (i.ev e) with
 | none=>cases x.ev e <;> rfl
 | some j =>
  cases x.ev e with
  | slice grp xs ex =>
   simp only [ixA]
   split
   ·cases xs[j]? <;> rfl
   ·rfl
  | oslice k ver grp off len cap =>
   simp only [ixA]
   split <;> rfl
  | _=>rfl
def ldA (grp:Option Nat) (h:Bc):AV->Res AV
 | .ptr cells off=>rd grp cells off
 | .optr k ver off =>
  match Bb h k with
  | .cells v cs=>if v=ver then rd grp cs off else .fail
  | _ => .fail
 | _ => .fail
theorem B0z (grp:Option Nat) (x:IX):(Bd call key (.load grp x) e h).all V=(ldA grp h (x.ev e)).all fun v=>V (v,h):=by
 simp only [Bd]
 cases x.ev e with
 | ptr cells off=>simp only [ldA,all_bind,Fj]
 | optr k ver off =>
  simp only [ldA]
  cases Bb h k with
  | cells v cs =>
   simp only
   split
   ·simp only [all_bind,Fj]
   ·rfl
  | _=>rfl
 | _=>rfl
theorem Abp (off:Nat) (x:IX):(Bd call key (.fieldAddr off x) e h).all V=(match x.ev e with | .ptr cells o=>V (.ptr cells (o+off),h) | .optr k ver o=>V (.optr k ver (o+off),h) | _=>False):=by
 simp only [Bd]
 cases x.ev e <;> rfl
theorem Agi (x:IX):(Bd call key (.nilCheck x) e h).all V=(match x.ev e with | .ptr cells o=>V (.ptr cells o,h) | .optr k ver o=>V (.optr k ver o,h) | .clo f a b=>V (.clo f a b,h) | _=>False):=by
 simp only [Bd]
 cases x.ev e <;> rfl
theorem C4s (x:IX):(Bd call key (.len x) e h).all V=(match x.ev e with | .slice _ xs _=>V (.int .i64 xs.length,h) | .oslice _ _ _ _ len _=>V (.int .i64 len,h) | _=>False):=by
 simp only [Bd]
 cases x.ev e <;> rfl
theorem Avm (sz:Nat) (a v:IX):(Bd call key (.store sz a v) e h).all V=(match a.ev e with
  | .optr k ver off =>
   (match Bb h k with
   | .cells u cs=>if u=ver/\(v.ev e).cells.length=sz/\off+sz<=cs.length/\(v.ev e).cells.all oneB then V (.undef,setH h k (.cells u (Dk cs off (v.ev e).cells))) else False
   | _=>False)
  | _=>False):=by
 simp only [Bd]
 cases a.ev e with
 | optr k ver off =>
  simp only
  cases Bb h k with
  | cells u cs=>simp only; split <;> rfl
  | _=>rfl
 | _=>rfl
theorem B0y (k:IntKind) (x:IX):(Bd call key (.conv k x) e h).all V=(match x.ev e with | .int _ n=>V (.int k (k.wrap n),h) | _=>False):=by
 simp only [Bd]
 cases x.ev e <;> rfl
theorem Ajs (x:IX) (i:Nat):(Bd call key (.extract x i) e h).all V=(match x.ev e with | .tuple vs=>(match vs[i]? with | some v=>V (v,h) | none=>False) | _=>False):=by
 simp only [Bd]
 cases x.ev e with
 | tuple vs=>simp only [all_bind]; cases vs[i]? <;> rfl
 | _=>rfl
theorem B1b (c a b:IX):(Bd call key (.pick c a b) e h).all V=(match c.ev e with | .bool t=>V (if t then a.ev e else b.ev e,h) | _=>False):=by
 simp only [Bd]
 cases c.ev e <;> rfl
theorem Aoj (f:FuncId) (first captured:List IX):(Bd call key (.mkFunc f first captured) e h).all V=V (.clo f (first.map (IX.ev e)) (captured.map (IX.ev e)),h):=rfl
theorem Avi (raw:Bool) (f:FuncId) (args:List IX):(Bd call key (.callF raw f args) e h).all V=(call raw (.fn f) (args.map (IX.ev e)) h).all V:=rfl
theorem Avf (z:List AV):(Bd call key (.alloc z) e h).all V=if z.all oneB then V (.optr key (Bb h key).next 0,setH h key (.cells (Bb h key).next z)) else False:=by
 simp only [Bd]
 split <;> rfl
theorem C4r (x:IX):(Bd call key (.box x) e h).all V=if (x.ev e).cells.all oneB then V (.optr key (Bb h key).next 0,setH h key (.cells (Bb h key).next (x.ev e).cells)) else False:=by
 simp only [Bd]
 split <;> rfl
theorem Avh (z:List AV) (ps:List (Nat×Nat×IX)):(Bd call key (.build z ps) e h).all V=if z.all oneB then (Eg e ps z).all fun cs=>V (.agg cs,h) else False:=by
 simp only [Bd]
 split
 ·simp only [all_bind,Fj]
 ·rfl
theorem Avj (grp:Option Nat) (off:Nat) (x:IX):(Bd call key (.field grp off x) e h).all V=(match x.ev e with | .agg cs=>(rd grp cs off).all fun v=>V (v,h) | _=>False):=by
 simp only [Bd]
 cases x.ev e with
 | agg cs=>simp only [all_bind,Fj]
 | _=>rfl
theorem Avl (grp:Option Nat) (n:Nat) (x i:IX):(Bd call key (.index grp n x i) e h).all V=(match x.ev e,Df (i.ev e) with | .agg cs,some j=>if j<n then (rd grp cs (j*Be grp)).all fun v=>V (v,h) else False | _,_=>False):=by
 simp only [Bd]
 cases x.ev e with
 | agg cs =>
  cases Df (i.ev e) with
  | some j =>
   simp only
   split
   ·simp only [all_bind,Fj]
   ·rfl
  | none=>rfl
 | _=>rfl
theorem Ajt (g:Option Nat) (z:List AV) (b:Nat) (l c:IX):(Bd call key (.mkSlice g z b l c) e h).all V=(match Df (l.ev e),Df (c.ev e) with
  | some l,some c=>if l<=c/\Et c b/\z.all oneB then V (.oslice h.length (Bb h h.length).next g 0 l (some c),setH h h.length (.cells (Bb h h.length).next (List.replicate c z).flatten)) else False
  | _,_=>False):=by
 simp only [Bd]
 cases Df (l.ev e) with
 | none=>rfl
 | some l =>
  cases Df (c.ev e) with
  | none=>rfl
  | some c=>simp only; split <;> rfl
theorem Aoi (g:Option Nat) (b:Nat) (x y:IX):(Bd call key (.append g b x y) e h).all V=(Dh h.length g b (x.ev e) (y.ev e) h).all V:=rfl
theorem B0v (raw:Bool) (f:IX) (args:List IX):(Bd call key (.call raw f args) e h).all V=(match f.ev e with
  | .clo g first captured=>(call raw (.fn g) (first++args.map (IX.ev e)++captured) h).all V
  | .yld k ver=>(call raw (.yld k ver) (args.map (IX.ev e)) h).all V
  | _=>False):=by
 simp only [Bd]
 cases f.ev e <;> rfl
theorem C4t (xs:List IX):(Bd call key (.max xs) e h).all V=(match xs.map (IX.ev e) with | .int k a::r=>(Mh k a r).all fun v=>V (v,h) | _=>False):=by
 simp only [Bd]
 generalize xs.map (IX.ev e)=l
 cases l with
 | nil=>rfl
 | cons x r=>cases x <;> first | rfl | simp only [all_bind,Fj]
theorem C4u (xs:List IX):(Bd call key (.min xs) e h).all V=(match xs.map (IX.ev e) with | .int k a::r=>(Mi k a r).all fun v=>V (v,h) | _=>False):=by
 simp only [Bd]
 generalize xs.map (IX.ev e)=l
 cases l with
 | nil=>rfl
 | cons x r=>cases x <;> first | rfl | simp only [all_bind,Fj]
theorem A9t (g:Option Nat) (z:List AV) (ps:List (Nat×Nat×IX)):(Bd call key (.buildSlice g z ps) e h).all V=if z.all oneB then (Eg e ps z).all fun cs=>if cs.all Gz then V (.slice g (Ej g (z.length/Be g) cs) true,h) else False else False:=by
 simp only [Bd]
 split
 ·simp only [all_bind]
  congr 1
  funext cs
  split <;> rfl
 ·rfl
end ops
end Go.Ev
