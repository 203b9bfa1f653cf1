/- What an abstract value stands for in memory, and how memory goes on. No condition but those that stand in each. -/
import Derived.Test.YtbgodhhdojjbmaaGreatAEvComp
import Derived.Orders
import Derived.Scope
import Derived.Calls
import Derived.Laws.Sem
import Derived.Laws.Cells
import Derived.Laws.CopyRow
import Derived.Laws.Entries
set_option linter.unusedSimpArgs false
set_option linter.unusedVariables false
namespace Go.Ev
@[simp] theorem getE_setE_self:∀(e:Env) (t:Nat) (v:AV),Bs (Gk e t v) t=v
 | [],0,v=>rfl
 | [],n+1,v=>getE_setE_self [] n v
 | _::r,0,v=>rfl
 | x::r,n+1,v=>getE_setE_self r n v
theorem A7b:∀t,Bs [] t = .undef
 | 0=>rfl
 | _+1=>rfl
theorem La:∀(e:Env) (t u:Nat) (v:AV),t≠u->Bs (Gk e t v) u=Bs e u
 | [],0,0,_,h=>(h rfl).elim
 | [],0,u+1,v,_=>A7b u
 | [],n+1,0,v,_=>rfl
 | [],n+1,u+1,v,h=>(La [] n u v (by omega)).trans (A7b u)
 | _::r,0,0,_,h=>(h rfl).elim
 | _::r,0,u+1,v,_=>rfl
 | x::r,n+1,0,v,_=>rfl
 | x::r,n+1,u+1,v,h=>La r n u v (by omega)
theorem Oz (e:Env) (t u:Nat) (v:AV):Bs (Gk e t v) u=if t=u then v else Bs e u:=by
 split
 ·next h=>subst h; simp
 ·next h=>exact La e t u v h
theorem Ho:∀t,Bb [] t = .none
 | 0=>rfl
 | _+1=>rfl
@[simp] theorem getH_setH_self:∀(e:Bc) (t:Nat) (v:AObj),Bb (setH e t v) t=v
 | [],0,v=>rfl
 | [],n+1,v=>getH_setH_self [] n v
 | _::r,0,v=>rfl
 | x::r,n+1,v=>getH_setH_self r n v
theorem Ba:∀(e:Bc) (t u:Nat) (v:AObj),t≠u->Bb (setH e t v) u=Bb e u
 | [],0,0,_,h=>(h rfl).elim
 | [],0,u+1,v,_=>Ho u
 | [],n+1,0,v,_=>rfl
 | [],n+1,u+1,v,h=>(Ba [] n u v (by omega)).trans (Ho u)
 | _::r,0,0,_,h=>(h rfl).elim
 | _::r,0,u+1,v,_=>rfl
 | x::r,n+1,0,v,_=>rfl
 | x::r,n+1,u+1,v,h=>Ba r n u v (by omega)
theorem A4h (e:Bc) (t u:Nat) (v:AObj):Bb (setH e t v) u=if t=u then v else Bb e u:=by
 split
 ·next h=>subst h; simp
 ·next h=>exact Ba e t u v h
theorem Bi:∀(h:Bc) (n k:Nat),Bb (h++List.replicate n .none) k=Bb h k
 | [],0,k=>by simp [Ho]
 | [],n+1,0=>by simp [List.replicate_succ,Bb]
 | [],n+1,k+1=>by
  have:=Bi [] n k
  simpa [List.replicate_succ,Bb,Ho] using this
 | x::r,n,0=>rfl
 | x::r,n,k+1=>Bi r n k
theorem Lp (n k:Nat):Bb (List.replicate n .none) k = .none:=by
 have:=Bi [] n k
 simpa [Ho] using this
theorem Bh:∀(e:Bc) (t:Nat) (v:AObj),(setH e t v).length=max e.length (t+1)
 | [],0,v=>rfl
 | [],n+1,v=>by simp [setH,Bh [] n v]
 | _::r,0,v=>by simp [setH]
 | x::r,n+1,v=>by simp [setH,Bh r n v]
theorem Res.all_bind {α β:Type} {Q:β->Prop}:∀(x:Res α) (f:α->Res β),(x.bind f).all Q↔x.all fun a=>(f a).all Q
 | .fail,_=>Iff.rfl
 | .ret _,_=>Iff.rfl
 | .choice n k,f=>by
  simp only [Res.bind,Res.all]
  constructor
  ·rintro ⟨h0,h⟩; exact ⟨h0,fun i hi=>(Res.all_bind (k i) f).1 (h i hi)⟩
  ·rintro ⟨h0,h⟩; exact ⟨h0,fun i hi=>(Res.all_bind (k i) f).2 (h i hi)⟩
theorem Res.all_mono {α:Type} {Q R:α->Prop}:∀(x:Res α),x.all Q->(∀a,Q a->R a)->x.all R
 | .fail,h,_=>h
 | .ret _,h,q=>q _ h
 | .choice _ k,⟨h0,h⟩,q=>⟨h0,fun i hi=>Res.all_mono (k i) (h i hi) q⟩
theorem Res.all_some {α:Type} {Q:α->Prop}:∀(x:Res α),x.all Q->∃a,Q a
 | .fail,h=>h.elim
 | .ret a,h=>⟨a,h⟩
 | .choice _ k,⟨h0,h⟩=>Res.all_some (k 0) (h 0 h0)
theorem Res.all_and {α:Type} {Q R:α->Prop}:∀(x:Res α),x.all Q->x.all R->x.all fun a=>Q a/\R a
 | .fail,h,_=>h
 | .ret _,h,q=>⟨h,q⟩
 | .choice _ k,⟨h0,h⟩,⟨_,q⟩=>⟨h0,fun i hi=>Res.all_and (k i) (h i hi) (q i hi)⟩
theorem Res.all_swap {α β:Type} {Q:α->β->Prop} (y:Res β):∀(x:Res α),(x.all fun a=>y.all fun b=>Q a b)->y.all fun b=>x.all fun a=>Q a b
 | .fail,h=>h.elim
 | .ret _,h=>h
 | .choice n k,⟨h0,h⟩=>by
  have h':∀i,i<n->y.all fun b=>(k i).all fun a=>Q a b:=fun i hi=>Res.all_swap y (k i) (h i hi)
  clear h
  induction y with
  | fail=>exact (h' 0 h0).elim
  | ret b=>exact ⟨h0,fun i hi=>h' i hi⟩
  | choice m j ih=>exact ⟨(h' 0 h0).1,fun i hi=>ih i (fun c hc=>(h' c hc).2 i hi)⟩
theorem Res.all_ofOpt {α:Type} {Q:α->Prop} {x:Option α} (h:(Res.ofOpt x).all Q):∃a,x=some a/\Q a:=by
 cases x with
 | none=>exact h.elim
 | some a=>exact ⟨a,rfl,h⟩
variable {P:Program}
structure Info where
 blk:Nat
 n:Nat
 size:Nat
abbrev Lay:=Nat->Nat->Option Info
abbrev Mem:=Nat->Option Obj
inductive FR (M:Mem):AV->Value->Prop where
 | undef {v}:FR M .undef v
 | bool {b}:FR M (.bool b) (.bool b)
 | int {k n}:FR M (.int k n) (.int k n)
 | agg {cs:List AV} {vs:Array Value} (hl:cs.length=vs.size) (h:∀(i:Nat) (c:AV) (v:Value),cs[i]? = some c->vs[i]? = some v->FR M c v):FR M (.agg cs) (.agg vs)
 | tuple {cs:List AV} {vs:Array Value} (hl:cs.length=vs.size) (h:∀(i:Nat) (c:AV) (v:Value),cs[i]? = some c->vs[i]? = some v->FR M c v):FR M (.tuple cs) (.tuple vs)
 | empty {g ex a cap} (h:ex=true->cap=0):FR M (.slice g [] ex) (.slice a 0 cap)
 | slice {g} {xs:List AV} {ex b off cap} {cs:Array Value} {t fz} {f:Nat->Value} (hm:M b=some (.cells cs t fz)) (hc:ex=true->cap=xs.length) (hcp:xs.length<=cap)
   (hf:∀x∈xs,Ju g x=true) (hv:∀(i:Nat) (c:AV),(Ek g xs)[i]? = some c->cs[off+i]? = some (f i)) (ho:∀(i:Nat) (c:AV),(Ek g xs)[i]? = some c->(f i).oneCell'=true) (hr:∀(i:Nat) (c:AV),(Ek g xs)[i]? = some c->FR M c (f i)) :
   FR M (.slice g xs ex) (.slice (some ⟨b,off,none⟩) xs.length cap)
 | ptr {cells:List AV} {off b o} {cs:Array Value} {t fz} {f:Nat->Value} (hm:M b=some (.cells cs t fz))
   (hv:∀(i:Nat) (c:AV),cells[i]? = some c->cs[o+i]? = some (f i)) (ho:∀(i:Nat) (c:AV),cells[i]? = some c->(f i).oneCell'=true) (hr:∀(i:Nat) (c:AV),cells[i]? = some c->FR M c (f i)) :
   FR M (.ptr cells off) (.pointer (some ⟨b,o+off,none⟩))
 | nilptr:FR M .nilptr (.pointer none)
 | clo {f} {first cap:List AV} {vf vc:Array Value} (hl:first.length=vf.size) (hk:cap.length=vc.size)
   (h:∀(i:Nat) (c:AV) (v:Value),first[i]? = some c->vf[i]? = some v->FR M c v)
   (hh:∀(i:Nat) (c:AV) (v:Value),cap[i]? = some c->vc[i]? = some v->FR M c v):FR M (.clo f first cap) (.func (.func f) vf vc)
 | nilfn:FR M .nilfn .nilFunc
 | nilmap:FR M (.fmap [] []) (.map none)
 | fmap {ks vs:List AV} {r} {es:Array MapEntry} {clock} (hm:M r=some (.map es clock)) (hk:ks.length=es.size) (hv:vs.length=es.size)
   (h:∀(i:Nat) (c:AV) (e:MapEntry),ks[i]? = some c->es[i]? = some e->FR M c e.key) (hh:∀(i:Nat) (c:AV) (e:MapEntry),vs[i]? = some c->es[i]? = some e->FR M c e.val):FR M (.fmap ks vs) (.map (some r))
inductive VR (M:Mem) (L:Lay):AV->Value->Prop where
 | undef {v}:VR M L .undef v
 | skip:VR M L .skip Go.undef
 | bool {b}:VR M L (.bool b) (.bool b)
 | int {k n}:VR M L (.int k n) (.int k n)
 | agg {cs:List AV} {vs:Array Value} (hl:cs.length=vs.size) (h:∀(i:Nat) (c:AV) (v:Value),cs[i]? = some c->vs[i]? = some v->VR M L c v):VR M L (.agg cs) (.agg vs)
 | tuple {cs:List AV} {vs:Array Value} (hl:cs.length=vs.size) (h:∀(i:Nat) (c:AV) (v:Value),cs[i]? = some c->vs[i]? = some v->VR M L c v):VR M L (.tuple cs) (.tuple vs)
 | empty {g ex a cap} (h:ex=true->cap=0):VR M L (.slice g [] ex) (.slice a 0 cap)
 | slice {g} {xs:List AV} {ex b off cap} {cs:Array Value} {t fz} {f:Nat->Value} (hm:M b=some (.cells cs t fz)) (hc:ex=true->cap=xs.length) (hcp:xs.length<=cap)
   (hf:∀x∈xs,Ju g x=true) (hv:∀(i:Nat) (c:AV),(Ek g xs)[i]? = some c->cs[off+i]? = some (f i)) (ho:∀(i:Nat) (c:AV),(Ek g xs)[i]? = some c->(f i).oneCell'=true) (hr:∀(i:Nat) (c:AV),(Ek g xs)[i]? = some c->FR M c (f i)) :
   VR M L (.slice g xs ex) (.slice (some ⟨b,off,none⟩) xs.length cap)
 | ptr {cells:List AV} {off b o} {cs:Array Value} {t fz} {f:Nat->Value} (hm:M b=some (.cells cs t fz))
   (hv:∀(i:Nat) (c:AV),cells[i]? = some c->cs[o+i]? = some (f i)) (ho:∀(i:Nat) (c:AV),cells[i]? = some c->(f i).oneCell'=true) (hr:∀(i:Nat) (c:AV),cells[i]? = some c->FR M c (f i)) :
   VR M L (.ptr cells off) (.pointer (some ⟨b,o+off,none⟩))
 | nilptr:VR M L .nilptr (.pointer none)
 | clo {f} {first cap:List AV} {vf vc:Array Value} (hl:first.length=vf.size) (hk:cap.length=vc.size)
   (h:∀(i:Nat) (c:AV) (v:Value),first[i]? = some c->vf[i]? = some v->VR M L c v)
   (hh:∀(i:Nat) (c:AV) (v:Value),cap[i]? = some c->vc[i]? = some v->VR M L c v):VR M L (.clo f first cap) (.func (.func f) vf vc)
 | nilfn:VR M L .nilfn .nilFunc
 | nilmap:VR M L (.fmap [] []) (.map none)
 | fmap {ks vs:List AV} {r} {es:Array MapEntry} {clock} (hm:M r=some (.map es clock)) (hk:ks.length=es.size) (hv:vs.length=es.size)
   (h:∀(i:Nat) (c:AV) (e:MapEntry),ks[i]? = some c->es[i]? = some e->FR M c e.key) (hh:∀(i:Nat) (c:AV) (e:MapEntry),vs[i]? = some c->es[i]? = some e->FR M c e.val):VR M L (.fmap ks vs) (.map (some r))
 | optr {k ver off info} (hl:L k ver=some info):VR M L (.optr k ver off) (.pointer (some ⟨info.blk,off,none⟩))
 | oslice {k ver g off len cap info c o} (hl:L k ver=some info) (h1:off+len*Be g<=info.n) (h2:off+c*Be g<=info.size) (h3:c≠0->o=off)
   (h4:∀c',cap=some c'->c=c'/\off+c'*Be g<=info.n) (h5:cap=none->info.n<=off+c*Be g) (h6:len<=c):VR M L (.oslice k ver g off len cap) (.slice (some ⟨info.blk,o,none⟩) len c)
 | omap {k ver info} (hl:L k ver=some info):VR M L (.omap k ver) (.map (some info.blk))
 | iter {k ver info} (hl:L k ver=some info):VR M L (.iter k ver) (.pointer (some ⟨info.blk,0,none⟩))
 | yld {k ver info} (hl:L k ver=some info):VR M L (.yld k ver) (.func (.yield info.blk) #[] #[])
def Mem.le (M M':Mem):Prop:=∀b o,M b=some o->M' b=some o
def Lay.le (L L':Lay):Prop:=∀k v i,L k v=some i->L' k v=some i
theorem FR.mono {M M':Mem} (hM:Mem.le M M') {a:AV} {v:Value} (h:FR M a v):FR M' a v:=by
 induction h with
 | undef=>exact .undef
 | bool=>exact .bool
 | int=>exact .int
 | agg hl _ ih=>exact .agg hl ih
 | tuple hl _ ih=>exact .tuple hl ih
 | empty h=>exact .empty h
 | slice hm hc hcp hf hv ho _ ih=>exact .slice (hM _ _ hm) hc hcp hf hv ho ih
 | ptr hm hv ho _ ih=>exact .ptr (hM _ _ hm) hv ho ih
 | nilptr=>exact .nilptr
 | clo hl hk _ _ ih ihh=>exact .clo hl hk ih ihh
 | nilfn=>exact .nilfn
 | nilmap=>exact .nilmap
 | fmap hm hk hv _ _ ih ihh=>exact .fmap (hM _ _ hm) hk hv ih ihh
theorem FR.toVR {M:Mem} {L:Lay} {a:AV} {v:Value} (h:FR M a v):VR M L a v:=by
 induction h with
 | undef=>exact .undef
 | bool=>exact .bool
 | int=>exact .int
 | agg hl _ ih=>exact .agg hl ih
 | tuple hl _ ih=>exact .tuple hl ih
 | empty h=>exact .empty h
 | slice hm hc hcp hf hv ho hr _=>exact .slice hm hc hcp hf hv ho hr
 | ptr hm hv ho hr _=>exact .ptr hm hv ho hr
 | nilptr=>exact .nilptr
 | clo hl hk _ _ ih ihh=>exact .clo hl hk ih ihh
 | nilfn=>exact .nilfn
 | nilmap=>exact .nilmap
 | fmap hm hk hv h hh _ _=>exact .fmap hm hk hv h hh
theorem VR.mono {M M':Mem} {L L':Lay} (hM:Mem.le M M') (hL:Lay.le L L') {a:AV} {v:Value} (h:VR M L a v):VR M' L' a v:=by
 induction h with
 | undef=>exact .undef
 | skip=>exact .skip
 | bool=>exact .bool
 | int=>exact .int
 | agg hl _ ih=>exact .agg hl ih
 | tuple hl _ ih=>exact .tuple hl ih
 | empty h=>exact .empty h
 | slice hm hc hcp hf hv ho hr=>exact .slice (hM _ _ hm) hc hcp hf hv ho fun i c hi=>(hr i c hi).mono hM
 | ptr hm hv ho hr=>exact .ptr (hM _ _ hm) hv ho fun i c hi=>(hr i c hi).mono hM
 | nilptr=>exact .nilptr
 | clo hl hk _ _ ih ihh=>exact .clo hl hk ih ihh
 | nilfn=>exact .nilfn
 | nilmap=>exact .nilmap
 | fmap hm hk hv h hh=>exact .fmap (hM _ _ hm) hk hv (fun i c e a b=>(h i c e a b).mono hM) (fun i c e a b=>(hh i c e a b).mono hM)
 | optr hl=>exact .optr (hL _ _ _ hl)
 | oslice hl h1 h2 h3 h4 h5 h6=>exact .oslice (hL _ _ _ hl) h1 h2 h3 h4 h5 h6
 | omap hl=>exact .omap (hL _ _ _ hl)
 | iter hl=>exact .iter (hL _ _ _ hl)
 | yld hl=>exact .yld (hL _ _ _ hl)
def Row (M:Mem) (L:Lay) (cs:List AV) (c:Array Value):Prop:=∀(i:Nat) (x:AV),cs[i]? = some x->∃v,c[i]? = some v/\v.oneCell'=true/\VR M L x v
def Ya:Option EX->Option Code->Prop
 | none,none=>True
 | some (.exit id),some (.exit id')=>id=id'
 | some .ret,some .ret=>True
 | _,_=>False
def LoopR (P:Program) (M:Mem) (L:Lay) (lf:LoopF) (lr:Loop):Prop:=
 ∃n byr,Fk P n byr true lr.assign=lf.asg/\Fk P n byr true lr.body=lf.body/\lr.params.toList=lf.params/\(∀p∈lf.params,p<n)/\n<=lr.tmps.size/\∀t,VR M L (Bs lf.env t) (lr.tmps.getD t undef)
def ORel (P:Program) (M:Mem) (L:Lay) (w:World) (info:Info):AObj->Prop
 | .none=>True
 | .cells _ cs=>∃c t,w.heap[info.blk]? = some (.cells c t (0,0))/\cs.length=info.n/\c.size=info.size/\info.n<=info.size/\Row M L cs c
 | .map _ clock ks vs bs=>∃es,w.heap[info.blk]? = some (.map es clock)/\ks.length=es.size/\vs.length=es.size/\bs.length=es.size/\
   (∀(i:Nat) (c:AV) (e:MapEntry),ks[i]? = some c->es[i]? = some e->VR M L c e.key)/\(∀(i:Nat) (c:AV) (e:MapEntry),vs[i]? = some c->es[i]? = some e->VR M L c e.val)/\
   (∀(i:Nat) (b:Nat) (e:MapEntry),bs[i]? = some b->es[i]? = some e->e.born=b)
 | .iter _ mkey mver since seen stepped=>∃mi,L mkey mver=some mi/\w.heap[info.blk]? = some (.mapIter (some mi.blk) since seen.toArray stepped)
 | .nit _=>w.heap[info.blk]? = some (.mapIter none 0 #[] 0)\/∃r cl s1 s2,M r=some (.map #[] cl)/\w.heap[info.blk]? = some (.mapIter (some r) s1 #[] s2)
 | .loop _ st pend lf=>∃lr:Loop,w.heap[info.blk]? = some (.loop lr)/\lr.state=st/\Ya pend lr.pending/\LoopR P M L lf lr
structure HR (P:Program) (M:Mem) (L:Lay) (w:World) (h:Bc):Prop where
 mem:∀b o,M b=some o->w.heap[b]? = some o
 cur:∀k,Bb h k ≠ .none->∃info,L k (Bb h k).ver=some info/\M info.blk=none/\ORel P M L w info (Bb h k)
 ver:∀k v info,L k v=some info->Bb h k ≠ .none/\v<=(Bb h k).ver
 inj:∀k k' info info',Bb h k ≠ .none->Bb h k' ≠ .none->L k (Bb h k).ver=some info->L k' (Bb h k').ver=some info'->info.blk=info'.blk->k=k'
def Im (h:Bc) (L:Lay) (b:Nat):Prop:=∃k info,Bb h k ≠ .none/\L k (Bb h k).ver=some info/\info.blk=b
structure SameOut (w w':World):Prop where
 os:w'.os=w.os
 tape:w'.tape=w.tape
 output:w'.output=w.output
theorem SameOut.trans {w w' w'':World} (a:SameOut w w') (b:SameOut w' w''):SameOut w w'':=⟨b.os.trans a.os,b.tape.trans a.tape,b.output.trans a.output⟩
structure Fr (w:World) (h:Bc) (L:Lay) (M:Mem) (w':World) (h':Bc) (L':Lay) (M':Mem):Prop where
 size:w.heap.size<=w'.heap.size
 kept:∀b,b<w.heap.size->¬Im h L b->w'.heap[b]? = w.heap[b]?
 im:∀b,Im h' L' b->Im h L b\/w.heap.size<=b
 mem:Mem.le M M'
 memNew:∀b o,M' b=some o->M b=some o\/w.heap.size<=b
 lay:Lay.le L L'
 out:SameOut w w'
theorem Fr.refl (w:World) (h:Bc) (L:Lay) (M:Mem):Fr w h L M w h L M:=
 ⟨Nat.le_refl _,fun _ _ _=>rfl,fun _ hb => .inl hb,fun _ _ h=>h,fun _ _ h => .inl h,fun _ _ _ h=>h,⟨rfl,rfl,rfl⟩⟩
theorem Fr.trans {w w' w'':World} {h h' h'':Bc} {L L' L'':Lay} {M M' M'':Mem} (a:Fr w h L M w' h' L' M') (b:Fr w' h' L' M' w'' h'' L'' M''):Fr w h L M w'' h'' L'' M'' where
 size:=Nat.le_trans a.size b.size
 kept:=fun x hx hn=>by
  rw [b.kept x (by have:=a.size; omega) (fun hi=>by
   rcases a.im x hi with hi | hi
   ·exact hn hi
   ·omega),a.kept x hx hn]
 im:=fun x hx=>by
  rcases b.im x hx with hi | hi
  ·exact a.im x hi
  ·have:=a.size; exact .inr (by omega)
 mem:=fun x o h=>b.mem x o (a.mem x o h)
 memNew:=fun x o h=>by
  rcases b.memNew x o h with hi | hi
  ·exact a.memNew x o hi
  ·have:=a.size; exact .inr (by omega)
 lay:=fun k v i h=>b.lay k v i (a.lay k v i h)
 out:=a.out.trans b.out
theorem HR.same_heap {M:Mem} {L:Lay} {w w':World} {h:Bc} (hr:HR P M L w h) (he:w'.heap=w.heap):HR P M L w' h where
 mem:=fun b o hb=>by rw [he]; exact hr.mem b o hb
 cur:=fun k hk=>by
  obtain ⟨info,h1,h2,h3⟩:=hr.cur k hk
  refine ⟨info,h1,h2,?_⟩
  revert h3
  cases Bb h k <;> simp only [ORel,he] <;> exact fun h=>h
 ver:=hr.ver
 inj:=hr.inj
theorem Fr.same_heap {M:Mem} {L:Lay} {w w':World} {h:Bc} (he:w'.heap=w.heap) (hso:SameOut w w':=by exact ⟨rfl,rfl,rfl⟩):Fr w h L M w' h L M where
 size:=by rw [he]; exact Nat.le_refl _
 kept:=fun b _ _=>by rw [he]
 im:=fun b hb => .inl hb
 mem:=fun _ _ h=>h
 memNew:=fun _ _ h => .inl h
 lay:=fun _ _ _ h=>h
 out:=hso
theorem ORel.mono {M M':Mem} {L L':Lay} {w w':World} {info:Info} {o:AObj} (hM:Mem.le M M') (hL:Lay.le L L') (hw:w'.heap[info.blk]? = w.heap[info.blk]?)
  (h:ORel P M L w info o):ORel P M' L' w' info o:=by
 cases o with
 | none=>trivial
 | cells v cs =>
  obtain ⟨c,t,h1,h2,h3,h4,h5⟩:=h
  exact ⟨c,t,by rw [hw]; exact h1,h2,h3,h4,fun i x hx=>let ⟨v,a,a1,b⟩:=h5 i x hx; ⟨v,a,a1,b.mono hM hL⟩⟩
 | map v clock ks vs bs =>
  obtain ⟨es,h1,h2,h3,h3',h4,h5,h6⟩:=h
  exact ⟨es,by rw [hw]; exact h1,h2,h3,h3',fun i c e a b=>(h4 i c e a b).mono hM hL,fun i c e a b=>(h5 i c e a b).mono hM hL,h6⟩
 | iter v mk mv since seen st =>
  obtain ⟨mi,h1,h2⟩:=h
  exact ⟨mi,hL _ _ _ h1,by rw [hw]; exact h2⟩
 | nit v =>
  rcases h with h | ⟨r,cl,s1,s2,h1,h2⟩
  ·exact .inl (by rw [hw]; exact h)
  ·exact .inr ⟨r,cl,s1,s2,hM _ _ h1,by rw [hw]; exact h2⟩
 | loop v st pend lf =>
  obtain ⟨lr,h1,h2,h3,n,byr,g1,g2,g3,g4,g5,g6⟩:=h
  exact ⟨lr,by rw [hw]; exact h1,h2,h3,n,byr,g1,g2,g3,g4,g5,fun t=>(g6 t).mono hM hL⟩
theorem ORel.blk_lt {M:Mem} {L:Lay} {w:World} {info:Info} {o:AObj} (hn:o ≠ .none) (h:ORel P M L w info o):info.blk<w.heap.size:=by
 cases o with
 | none=>exact (hn rfl).elim
 | cells v cs=>obtain ⟨c,t,h1,_⟩:=h; exact (Array.getElem?_eq_some_iff.1 h1).1
 | map v cl ks vs bs=>obtain ⟨es,h1,_⟩:=h; exact (Array.getElem?_eq_some_iff.1 h1).1
 | iter v mk mv since seen st=>obtain ⟨mi,_,h1⟩:=h; exact (Array.getElem?_eq_some_iff.1 h1).1
 | nit v=>rcases h with h | ⟨_,_,_,_,_,h⟩ <;> exact (Array.getElem?_eq_some_iff.1 h).1
 | loop v st pend lf=>obtain ⟨lr,h1,_⟩:=h; exact (Array.getElem?_eq_some_iff.1 h1).1
theorem HR.freeze_new {M:Mem} {L:Lay} {w w':World} {h:Bc} (hr:HR P M L w h) (o:Obj) (he:w'.heap=w.heap.push o) (hso:SameOut w w':=by exact ⟨rfl,rfl,rfl⟩) :
  HR P (fun b=>if b=w.heap.size then some o else M b) L w' h/\Fr w h L M w' h L (fun b=>if b=w.heap.size then some o else M b):=by
 have hlt:∀b o',M b=some o'->b<w.heap.size:=fun b o' hb=>by
  have:=hr.mem b o' hb
  exact (Array.getElem?_eq_some_iff.1 this).1
 have hle:Mem.le M (fun b=>if b=w.heap.size then some o else M b):=fun b o' hb=>by
  have:=hlt b o' hb
  show (if b=w.heap.size then some o else M b)=_
  rw [if_neg (by omega)]; exact hb
 have hget:∀b,b<w.heap.size->w'.heap[b]? = w.heap[b]?:=fun b hb=>by
  rw [he,Array.getElem?_push]; rw [if_neg (by omega)]
 refine ⟨⟨?_,?_,hr.ver,hr.inj⟩,⟨?_,?_,fun b hb => .inl hb,hle,?_,fun _ _ _ h=>h,hso⟩⟩
 ·intro b o' hb
  by_cases hbs:b=w.heap.size
  ·subst hbs
   rw [if_pos rfl] at hb
   rw [he,Array.getElem?_push,if_pos rfl]; exact hb
  ·rw [if_neg hbs] at hb
   rw [hget b (hlt b o' hb)]; exact hr.mem b o' hb
 ·intro k hk
  obtain ⟨info,h1,h2,h3⟩:=hr.cur k hk
  have hb:info.blk<w.heap.size:=h3.blk_lt hk
  refine ⟨info,h1,?_,h3.mono hle (fun _ _ _ h=>h) (hget _ hb)⟩
  show (if info.blk=w.heap.size then some o else M info.blk)=none
  rw [if_neg (by omega)]; exact h2
 ·rw [he,Array.size_push]; omega
 ·intro b hb _; exact hget b hb
 ·intro b o' hb
  by_cases hbs:b=w.heap.size
  ·exact .inr (by omega)
  ·rw [if_neg hbs] at hb; exact .inl hb
def Good (P:Program) (M:Mem) (L:Lay) (w:World) (h:Bc) (Q:AV×Bc->Prop) (w':World) (cv:Value):Prop:=
 ∃v h' M' L',Q (v,h')/\HR P M' L' w' h'/\Fr w h L M w' h' L' M'/\VR M' L' v cv
end Go.Ev
