/- Maps: making, looking, writing, deleting, and going over them. One operation, whatever it is: the evaluator's word on it is the model's. No condition but those that stand in each. -/
import Derived.Test.YtbgodhhdojjbmaaGreatAEvOpsC
import Derived.MapKept
import Derived.Laws.IdiomRangeMap
import Derived.RangeFuncLeaves
import Derived.OrdersIn
import Derived.LoopNIn
set_option linter.unusedSimpArgs false
set_option linter.unusedVariables false
namespace Go.Ev
open Go
variable {P:Program} {M:Mem} {L:Lay} {w:World} {h:Bc} {e:Env} {a:Act} {Q:AV×Bc->Prop}
theorem A4n {kt:TypeId} {kn:Option Nat} (h:My P kt=some kn) :
  (kn=none/\∃kk,P.underlying kt=some (.int kk))\/(kn=some (P.cellsOf kt)/\Hp P kt=true):=by
 unfold My at h
 split at h
 ·next hi =>
  cases h
  unfold Iz at hi
  split at hi
  ·next kk hu=>exact .inl ⟨rfl,kk,hu⟩
  ·cases hi
 ·split at h
  ·next hi=>cases h; exact .inr ⟨rfl,hi⟩
  ·cases h
theorem Rn {kt:TypeId} (hio:Hp P kt=true) {cs ds:List AV} {vs us:Array Value} {b:Bool} (hlen:cs.length=P.cellsOf kt)
  (hl1:cs.length=vs.size) (hh1:∀(i:Nat) (c:AV) (v:Value),cs[i]? = some c->vs[i]? = some v->VR M L c v)
  (hl2:ds.length=us.size) (hh2:∀(i:Nat) (c:AV) (v:Value),ds[i]? = some c->us[i]? = some v->VR M L c v) (hb:Ec cs ds=some b) (w:World) :
  (Op.equal kt (.agg vs) (.agg us)).run P w = .ok b w:=by
 unfold Hp at hio
 simp only [Bool.and_eq_true,Bool.not_eq_true'] at hio
 obtain ⟨⟨hst,hgt⟩,hkind⟩:=hio
 show (Op.equalIn 10000 kt (.agg vs) (.agg us)).run P w = .ok b w
 split at hkind
 ·next n el hu =>
  simp only [Bool.and_eq_true,beq_iff_eq] at hkind
  obtain ⟨⟨hit,hc1⟩,hcn⟩:=hkind
  obtain ⟨kk,hue⟩:∃kk,P.underlying el=some (.int kk):=by
   unfold Iz at hit
   split at hit
   ·next kk hu=>exact ⟨kk,hu⟩
   ·cases hit
  obtain ⟨ei,hei⟩:∃ei,P.info? el=some ei:=by
   unfold Program.cellsOf at hc1
   cases hi:P.info? el with
   | none=>simp [hi] at hc1
   | some i=>exact ⟨i,rfl⟩
  rw [run_equalIn_array (P:=P) w 9999 vs us hu hei,hc1,List.range_eq_range']
  exact Nt hue 9998 hl1 hl2 hh1 hh2 n 0 b (by omega) (by simpa using hb)
 ·next fs hu =>
  simp only [Bool.and_eq_true,beq_iff_eq] at hkind
  obtain ⟨hall,hcn⟩:=hkind
  have hfo:P.fieldsOf kt=fs:=by simp [Program.fieldsOf,hu]
  rw [run_equalIn_struct (P:=P) w 9999 kt vs us (by rw [hfo]; exact hu) hst,hfo]
  refine Mx 9998 hl1 hl2 hh1 hh2 fs.toList 0 b (by simp; omega) (fun i f hf => ?_) (by simpa using hb)
  have:=Kq fs.toList hall i f hf
  simp only [Bool.and_eq_true,beq_iff_eq,bne_iff_ne] at this
  exact ⟨this.1.1,by omega,this.2⟩
 ·cases hkind
def Rows (M:Mem) (L:Lay) (ks vs:List AV) (es:List MapEntry):Prop:=
 ks.length=es.length/\vs.length=es.length/\(∀(i:Nat) (c:AV) (e:MapEntry),ks[i]? = some c->es[i]? = some e->VR M L c e.key)/\
  (∀(i:Nat) (c:AV) (e:MapEntry),vs[i]? = some c->es[i]? = some e->VR M L c e.val)
theorem A6s (b:Nat):∀(bs:List Nat) (i j:Nat),Ji b bs i=some j->i<=j/\bs[j-i]? = some b/\∀k,k<j-i->bs[k]?≠some b
 | [],i,j,h=>by simp [Ji] at h
 | c::r,i,j,h=>by
  simp only [Ji] at h
  split at h
  ·next hc =>
   cases h
   refine ⟨Nat.le_refl _,by simp [hc],fun k hk=>by omega⟩
  ·next hc =>
   obtain ⟨h1,h2,h3⟩:=A6s b r (i+1) j h
   refine ⟨by omega,by rw [show j-i=(j-(i+1))+1 from by omega]; simpa using h2,fun k hk => ?_⟩
   cases k with
   | zero=>simp; exact hc
   | succ k=>simpa using h3 k (by omega)
theorem Jl {v:AV} (h:Ei none v=true):∃k n,v = .int k n:=by
 cases v <;> simp [Ei] at h
 exact ⟨_,_,rfl⟩
theorem Jm {n:Nat} {v:AV} (h:Ei (some n) v=true):∃cs,v = .agg cs/\cs.length=n/\cs.all Wp=true:=by
 cases v <;> simp [Ei] at h
 exact ⟨_,rfl,h.1,by simpa using h.2⟩
theorem A0v {kk:IntKind} {k0:IntKind} {n0:Int}:∀(ks:List AV) (es:List MapEntry) (i:Nat) (r:Option Nat),ks.length=es.length->
  (∀(i:Nat) (c:AV) (e:MapEntry),ks[i]? = some c->es[i]? = some e->VR M L c e.key)->Du none (.int k0 n0) ks i=some r->
  ∃q,Instr.findNow (.int kk) (.int k0 n0) es i=some q/\(r=none->q=none)/\(∀j,r=some j->i<=j/\∃e,es[j-i]? = some e/\q=some (j,e.val))
 | [],[],i,r,_,_,hq=>by
  simp only [Du,Option.some.injEq] at hq
  subst hq
  exact ⟨none,rfl,fun _=>rfl,fun j hj=>by cases hj⟩
 | [],_::_,i,r,hl,_,_=>by simp at hl
 | _::_,[],i,r,hl,_,_=>by simp at hl
 | k::ks,e::es,i,r,hl,hh,hq=>by
  simp only [Du] at hq
  split at hq
  ·next hk =>
   obtain ⟨k1,n1,rfl⟩:=Jl hk
   have hv:=(hh 0 _ e rfl rfl).int_inv
   split at hq
   ·next he =>
    obtain ⟨k2,x,y,h1,h2,hor⟩:=Jx (r:=[]) (s:=[]) he
    cases h1; cases h2
    rcases hor with ⟨hxy,_⟩ | ⟨_,hf⟩
    ·subst hxy
     cases hq
     refine ⟨some (i,e.val),by simp [Instr.findNow,Instr.sameNow,hv],nofun,fun j hj => ?_⟩
     cases hj
     exact ⟨Nat.le_refl _,e,by simp,rfl⟩
    ·cases hf
   ·next he =>
    obtain ⟨k2,x,y,h1,h2,hor⟩:=Jx (r:=[]) (s:=[]) he
    cases h1; cases h2
    rcases hor with ⟨hxy,hf⟩ | ⟨hne,_⟩
    ·simp [Ec] at hf
    ·obtain ⟨q,h1,h2,h3⟩:=A0v (kk:=kk) ks es (i+1) r (by simpa using hl) (fun j c e' a b=>hh (j+1) c e' a b) hq
     refine ⟨q,?_,h2,fun j hj => ?_⟩
     ·have:(n0==n1)=false:=by simpa using hne
      simp [Instr.findNow,Instr.sameNow,hv,this,h1]
     ·obtain ⟨g1,e',g2,g3⟩:=h3 j hj
      exact ⟨by omega,e',by rw [show j-i=(j-(i+1))+1 from by omega]; exact g2,g3⟩
   ·cases hq
  ·cases hq
theorem Vb {kt:TypeId} (hio:Hp P kt=true) {cs:List AV} {ku:Array Value} (hlen:cs.length=P.cellsOf kt) (hkv:VR M L (.agg cs) (.agg ku)) (w:World):∀(ks:List AV) (es:List MapEntry) (i:Nat) (r:Option Nat),ks.length=es.length->
  (∀(i:Nat) (c:AV) (e:MapEntry),ks[i]? = some c->es[i]? = some e->VR M L c e.key)->Du (some (P.cellsOf kt)) (.agg cs) ks i=some r->
  ∃q,(Instr.findAsking kt (.agg ku) es i).run P w = .ok q w/\(r=none->q=none)/\(∀j,r=some j->i<=j/\∃e,es[j-i]? = some e/\q=some (j,e.val))
 | [],[],i,r,_,_,hq=>by
  simp only [Du,Option.some.injEq] at hq
  subst hq
  exact ⟨none,rfl,fun _=>rfl,fun j hj=>by cases hj⟩
 | [],_::_,i,r,hl,_,_=>by simp at hl
 | _::_,[],i,r,hl,_,_=>by simp at hl
 | k::ks,e::es,i,r,hl,hh,hq=>by
  simp only [Du] at hq
  split at hq
  ·next hk =>
   obtain ⟨ds,rfl,hdl,hdi⟩:=Jm hk
   have hv:=hh 0 _ e rfl rfl
   generalize hek:e.key=ek at hv
   cases hv with
   | @agg _ us hl2 hh2 =>
    cases hkv with
    | @agg _ _ hl1 hh1 =>
    split at hq
    ·next he =>
     cases hq
     have:=Rn hio hlen hl1 hh1 hl2 hh2 he w
     refine ⟨some (i,e.val),by simp [Instr.findAsking,hek,this],nofun,fun j hj => ?_⟩
     cases hj
     exact ⟨Nat.le_refl _,e,by simp,rfl⟩
    ·next he =>
     have:=Rn hio hlen hl1 hh1 hl2 hh2 he w
     obtain ⟨q,h1,h2,h3⟩:=Vb hio hlen (.agg hl1 hh1) w ks es (i+1) r (by simpa using hl) (fun j c e' a b=>hh (j+1) c e' a b) hq
     refine ⟨q,by simp [Instr.findAsking,hek,this,h1],h2,fun j hj => ?_⟩
     obtain ⟨g1,e',g2,g3⟩:=h3 j hj
     exact ⟨by omega,e',by rw [show j-i=(j-(i+1))+1 from by omega]; exact g2,g3⟩
    ·cases hq
  ·cases hq
theorem Hg {kt:TypeId} {kn:Option Nat} (hkt:My P kt=some kn) {k:AV} {kv:Value} (hk:Ei kn k=true) (hv:VR M L k kv) {ks vs:List AV} {es:List MapEntry} (hrow:Rows M L ks vs es) {r:Option Nat}
  (hq:Du kn k ks 0=some r) (w:World) :
  ∃q,(Instr.findKey kt kv es).run P w = .ok q w/\(r=none->q=none)/\(∀j,r=some j->∃e,es[j]? = some e/\q=some (j,e.val)):=by
 obtain ⟨hl,hl2,hks,_⟩:=hrow
 rcases A4n hkt with ⟨rfl,kk,hu⟩ | ⟨rfl,hio⟩
 ·obtain ⟨k0,n0,rfl⟩:=Jl hk
  have:=hv.int_inv
  subst this
  obtain ⟨q,h1,h2,h3⟩:=A0v (kk:=kk) ks es 0 r hl hks hq
  refine ⟨q,by simp [Instr.findKey,run_underlying hu,h1],h2,fun j hj => ?_⟩
  obtain ⟨_,e,g2,g3⟩:=h3 j hj
  exact ⟨e,by simpa using g2,g3⟩
 ·obtain ⟨cs,rfl,hlen,hci⟩:=Jm hk
  have hdesc:∃d,P.underlying kt=some d/\(∀k,d ≠ .int k)/\d ≠ .string/\d ≠ .bool:=by
   unfold Hp at hio
   simp only [Bool.and_eq_true] at hio
   obtain ⟨_,hkind⟩:=hio
   split at hkind
   ·next n el hu=>exact ⟨_,hu,nofun,nofun,nofun⟩
   ·next fs hu=>exact ⟨_,hu,nofun,nofun,nofun⟩
   ·cases hkind
  obtain ⟨d,hu,hd1,hd2,hd3⟩:=hdesc
  have hv0:=hv
  cases hv with
  | @agg _ ku hl1 hh1 =>
   obtain ⟨q,h1,h2,h3⟩:=Vb hio hlen hv0 w ks es 0 r hl hks hq
   refine ⟨q,?_,h2,fun j hj => ?_⟩
   ·cases es with
    | nil =>
     have:q=none:=by
      cases ks with
      | nil=>simp only [Du,Option.some.injEq] at hq; exact h2 hq.symm
      | cons _ _=>simp at hl
     subst this
     simp [Instr.findKey,run_underlying hu,Instr.findNow]
    | cons e es =>
     have hnow:Instr.findNow d (.agg ku) (e::es) 0=none:=by
      have hs:Instr.sameNow d (.agg ku) e.key=none:=by
       cases d <;> first | rfl | (exact (hd1 _ rfl).elim) | (exact (hd2 rfl).elim) | (exact (hd3 rfl).elim)
      simp [Instr.findNow,hs]
     simp [Instr.findKey,run_underlying hu,hnow,h1]
   ·obtain ⟨_,e,g2,g3⟩:=h3 j hj
    exact ⟨e,by simpa using g2,g3⟩
theorem Md {kt:TypeId} {kn:Option Nat} (hkt:My P kt=some kn) {k:AV} {kv:Value} (hk:Ei kn k=true) (hv:VR M L k kv) (em:Bool) (w:World) :
  (Instr.checkKey em 10000 kt kv).run P w = .ok () w:=by
 have hint:∀(n:Nat) (t:TypeId) (kk k0:IntKind) (n0:Int),P.underlying t=some (.int kk)->(Instr.checkKey em (n+1) t (.int k0 n0)).run P w = .ok () w:=fun n t kk k0 n0 hu=>by
  simp [Instr.checkKey,run_underlying hu]
 rcases A4n hkt with ⟨rfl,kk,hu⟩ | ⟨rfl,hio⟩
 ·obtain ⟨k0,n0,rfl⟩:=Jl hk
  have:=hv.int_inv
  subst this
  exact hint 9999 _ _ _ _ hu
 ·obtain ⟨cs,rfl,hlen,hci⟩:=Jm hk
  cases hv with
  | @agg _ ku hl1 hh1 =>
   have hcell:∀i,i<cs.length->∃k0 n0,ku[i]? = some (.int k0 n0):=fun i hi=>by
    have h1:=List.getElem?_eq_getElem hi
    have h2:ku[i]? = some ku[i]:=Array.getElem?_eq_getElem (by omega)
    have h3:=hh1 i _ _ h1 h2
    have h4:=List.all_eq_true.1 hci cs[i] (List.getElem_mem _)
    cases hc:cs[i] <;> simp [hc,Wp] at h4
    rw [hc] at h3
    exact ⟨_,_,by rw [h2,h3.int_inv]⟩
   unfold Hp at hio
   simp only [Bool.and_eq_true,Bool.not_eq_true'] at hio
   obtain ⟨_,hkind⟩:=hio
   show (Instr.checkKey em (9999+1) kt (.agg ku)).run P w = .ok () w
   rw [Instr.checkKey]
   split at hkind
   ·next n el hu =>
    simp only [Bool.and_eq_true,beq_iff_eq] at hkind
    obtain ⟨⟨hit,hc1⟩,hcn⟩:=hkind
    obtain ⟨kk,hue⟩:∃kk,P.underlying el=some (.int kk):=by
     unfold Iz at hit
     split at hit
     ·next kk hu=>exact ⟨kk,hu⟩
     ·cases hit
    obtain ⟨ei,hei,hes⟩:∃ei,P.info? el=some ei/\ei.size=1:=by
     unfold Program.cellsOf at hc1
     cases hi:P.info? el with
     | none=>simp [hi] at hc1
     | some i=>exact ⟨i,rfl,by simpa [hi] using hc1⟩
    simp only [Sem.run_bind,run_underlying hu,Result.andThen_ok]
    simp only [Std.Legacy.Range.forIn_eq_forIn_range',Std.Legacy.Range.size,Nat.sub_zero,Nat.add_one_sub_one,Nat.div_one]
    have each:∀j∈List.range' 0 n,j<cs.length:=fun j hj=>by
     rw [List.mem_range'_1] at hj; omega
    generalize List.range' 0 n=is at each
    induction is with
    | nil=>simp
    | cons j is ih =>
     obtain ⟨k0,n0,hj⟩:=hcell j (each j (by simp))
     have p1:=Hu (w:=w) hue (xs:=ku) (off:=j*1) (v:=.int k0 n0) (by rw [Nat.mul_one]; exact hj)
     have p2:=hint 9998 el kk k0 n0 hue
     have hsz:(sizeOf el).run P w = .ok 1 w:=by simp [sizeOf,typeInfo,hei,hes]
     simp only [List.forIn_cons,Sem.run_bind,hsz,Result.andThen_ok,p1,p2,Sem.run_pure]
     exact ih (fun y hy=>each y (by simp [hy]))
   ·next fs hu =>
    simp only [Bool.and_eq_true,beq_iff_eq] at hkind
    obtain ⟨hall,hcn⟩:=hkind
    simp only [Sem.run_bind,run_underlying hu,Result.andThen_ok]
    rw [<-Array.forIn_toList]
    have each:∀f∈fs.toList,Iz P f.type=true/\f.offset<cs.length:=fun f hf=>by
     obtain ⟨i,hi⟩:=List.mem_iff_getElem?.1 hf
     have:=Kq fs.toList hall i f hi
     simp only [Bool.and_eq_true,beq_iff_eq,bne_iff_ne] at this
     have hlt:i<fs.toList.length:=(List.getElem?_eq_some_iff.1 hi).1
     simp at hlt
     exact ⟨this.1.1,by omega⟩
    clear hall
    generalize fs.toList=fl at each
    induction fl with
    | nil=>simp
    | cons f fl ih =>
     obtain ⟨hit,hoff⟩:=each f (by simp)
     obtain ⟨kk,hue⟩:∃kk,P.underlying f.type=some (.int kk):=by
      unfold Iz at hit
      split at hit
      ·next kk hu=>exact ⟨kk,hu⟩
      ·cases hit
     obtain ⟨k0,n0,hj⟩:=hcell f.offset hoff
     have p1:=Hu (w:=w) hue (xs:=ku) (off:=f.offset) (v:=.int k0 n0) hj
     have p2:=hint 9998 f.type kk k0 n0 hue
     by_cases hn : f.name = "_"
     ·simp only [List.forIn_cons,Sem.run_bind,hn,ne_eq,not_true,if_false,Result.andThen_ok,Sem.run_pure]
      exact ih (fun y hy=>each y (by simp [hy]))
     ·simp only [List.forIn_cons,Sem.run_bind,hn,ne_eq,not_false_eq_true,if_true,Result.andThen_ok,p1,p2,Sem.run_pure]
      exact ih (fun y hy=>each y (by simp [hy]))
   ·cases hkind
variable {P:Program} {M:Mem} {L:Lay} {w:World} {h:Bc} {e:Env} {a:Act} {Q:AV×Bc->Prop}
theorem Xl {t:TypeId} {z:AV} (hz:Np P t=some z):∃i zv,P.info? t=some i/\i.zero=some zv/\∀M L,VR M L z zv:=by
 unfold Np at hz
 split at hz
 ·next zz v g h1 h2 h3 =>
  simp only [Option.bind_eq_some_iff] at h2
  obtain ⟨i,hi,hv⟩:=h2
  split at hz
  ·next hc=>cases hz; exact ⟨i,v,hi,hv,fun M L=>Qj 3 _ _ hc⟩
  ·cases hz
 ·cases hz
theorem Kn (hr:HR P M L w h) {k ver clock:Nat} {ks vs:List AV} {bs:List Nat} {info:Info} (ho:Bb h k = .map ver clock ks vs bs) (hl:L k ver=some info) :
  M info.blk=none/\∃es,w.heap[info.blk]? = some (.map es clock)/\Rows M L ks vs es.toList/\bs.length=es.size/\(∀(i:Nat) (b:Nat) (e:MapEntry),bs[i]? = some b->es[i]? = some e->e.born=b):=by
 obtain ⟨i2,h1,h2,h3⟩:=hr.cur k (by rw [ho]; simp)
 rw [ho] at h1 h3
 have:info=i2:=by
  have h1':L k ver=some i2:=h1
  rw [hl] at h1'; cases h1'; rfl
 subst this
 obtain ⟨es,g1,g2,g3,g4,g5,g6,g7⟩:=h3
 exact ⟨h2,es,g1,⟨by simpa using g2,by simpa using g3,fun i c e a b=>g5 i c e a (by simpa using b),fun i c e a b=>g6 i c e a (by simpa using b)⟩,g4,g7⟩
theorem A7r (hr:HR P M L w h) {x:AV} {cv:Value} {ks vs:List AV} (hv:VR M L x cv) (hm:Gb h x=some (ks,vs)) :
  (cv = .map none/\ks=[]/\vs=[])\/∃r es clock,cv = .map (some r)/\w.heap[r]? = some (.map es clock)/\Rows M L ks vs es.toList:=by
 unfold Gb at hm
 split at hm
 ·next ks' vs' =>
  cases hm
  cases hv with
  | nilmap=>exact .inl ⟨rfl,rfl,rfl⟩
  | @fmap _ _ r es clock hm hk hvl h1 h2 =>
   exact .inr ⟨r,es,clock,rfl,hr.mem _ _ hm,by simpa using hk,by simpa using hvl,fun i c e a b=>(h1 i c e a (by simpa using b)).toVR,fun i c e a b=>(h2 i c e a (by simpa using b)).toVR⟩
 ·next k ver =>
  split at hm
  ·next v clock ks' vs' bs hob =>
   split at hm
   ·next hver =>
    subst hver
    cases hm
    cases hv with
    | @omap _ _ info hl =>
     obtain ⟨_,es,g1,g2,_⟩:=Kn hr hob hl
     exact .inr ⟨info.blk,es,clock,rfl,g1,g2⟩
   ·cases hm
  ·cases hm
 ·cases hm
theorem HR.set_obj (hr:HR P M L w h) {k:Nat} {info:Info} {o:AObj} (co:Obj) (hn:Bb h k ≠ .none) (hl:L k (Bb h k).ver=some info) (ho:o ≠ .none) (hou:o.ver=(Bb h k).ver)
  (hor:∀w':World,w'.heap[info.blk]? = some co->ORel P M L w' info o) (w':World) (hw:w'.heap=w.heap.setIfInBounds info.blk co) (hso:SameOut w w':=by exact ⟨rfl,rfl,rfl⟩) :
  HR P M L w' (setH h k o)/\Fr w h L M w' (setH h k o) L M:=by
 obtain ⟨i2,h1,h2,h3⟩:=hr.cur k hn
 rw [hl] at h1; cases h1
 have hlt:=h3.blk_lt hn
 have hup:L.upd k (Bb h k).ver info=L:=Lay.upd_same hl
 have:=hr.put k (Bb h k).ver info o w' ho hou (.inr hl) (fun _=>Nat.le_refl _) h2 (.inr ⟨info,hn,hl,rfl⟩) (by rw [hw]; simp) (fun b hb hne=>by
  rw [hw,Array.getElem?_setIfInBounds]
  rw [if_neg (fun he=>hne he.symm)]) (by
   rw [hup]
   refine hor w' ?_
   rw [hw,Array.getElem?_setIfInBounds,if_pos rfl,if_pos hlt]) hso
 rw [hup] at this
 exact this
theorem HR.new_obj (hr:HR P M L w h) (k:Nat) (o:AObj) (co:Obj) (ho:o ≠ .none) (hou:o.ver=(Bb h k).next) (w':World) (he:w'.heap=w.heap.push co)
  (hor:∀L',Lay.le L L'->∀w':World,w'.heap[w.heap.size]? = some co->ORel P M L' w' ⟨w.heap.size,0,0⟩ o) (hso:SameOut w w':=by exact ⟨rfl,rfl,rfl⟩) :
  HR P M (L.upd k (Bb h k).next ⟨w.heap.size,0,0⟩) w' (setH h k o)/\Fr w h L M w' (setH h k o) (L.upd k (Bb h k).next ⟨w.heap.size,0,0⟩) M:=by
 have hle:Lay.le L (L.upd k (Bb h k).next ⟨w.heap.size,0,0⟩):=fun k' v' i' hi=>by
  unfold Lay.upd
  split
  ·next hc=>obtain ⟨rfl,rfl⟩:=hc; rw [hr.next_none] at hi; cases hi
  ·exact hi
 refine hr.put k _ _ _ w' ho hou (.inl (hr.next_none k)) (HR.next_le k) hr.fresh (.inl rfl) (by rw [he,Array.size_push]; omega) ?_ ?_ hso
 ·intro b hb _
  rw [he,Array.getElem?_push,if_neg (by omega)]
 ·exact hor _ hle _ (by simp [he])
theorem Rows.mono {M':Mem} {L':Lay} (hM:Mem.le M M') (hL:Lay.le L L') {ks vs:List AV} {es:List MapEntry} (hrow:Rows M L ks vs es):Rows M' L' ks vs es:=
 ⟨hrow.1,hrow.2.1,fun i c e a b=>(hrow.2.2.1 i c e a b).mono hM hL,fun i c e a b=>(hrow.2.2.2 i c e a b).mono hM hL⟩
theorem ORel.of_rows {M:Mem} {L:Lay} {w:World} {info:Info} {ver clock:Nat} {ks vs:List AV} {bs:List Nat} {es:Array MapEntry} (hw:w.heap[info.blk]? = some (.map es clock)) (hrow:Rows M L ks vs es.toList)
  (hb:bs.length=es.size) (hbs:∀(i:Nat) (b:Nat) (e:MapEntry),bs[i]? = some b->es[i]? = some e->e.born=b):ORel P M L w info (.map ver clock ks vs bs):=
 ⟨es,hw,by simpa using hrow.1,by simpa using hrow.2.1,hb,fun i c e a b=>hrow.2.2.1 i c e a (by simpa using b),fun i c e a b=>hrow.2.2.2 i c e a (by simpa using b),hbs⟩
theorem Rows.push {ks vs:List AV} {es:Array MapEntry} {k v:AV} {kv vv:Value} {b:Nat} (hrow:Rows M L ks vs es.toList) (hk:VR M L k kv) (hv:VR M L v vv):Rows M L (ks++[k]) (vs++[v]) (es.push ⟨kv,vv,b⟩).toList:=by
 obtain ⟨h1,h2,h3,h4⟩:=hrow
 refine ⟨by simp [h1],by simp [h2],fun i c e hc he => ?_,fun i c e hc he => ?_⟩
 ·rw [Array.toList_push] at he
  by_cases hi:i<ks.length
  ·rw [List.getElem?_append_left hi] at hc
   rw [List.getElem?_append_left (by omega)] at he
   exact h3 i c e hc he
  ·rw [List.getElem?_append_right (by omega)] at hc
   rw [List.getElem?_append_right (by omega),<-h1] at he
   have:i-ks.length=0:=by
    have:=(List.getElem?_eq_some_iff.1 hc).1
    simp at this; omega
   rw [this] at hc he
   simp at hc he
   subst hc he
   exact hk
 ·rw [Array.toList_push] at he
  by_cases hi:i<vs.length
  ·rw [List.getElem?_append_left hi] at hc
   rw [List.getElem?_append_left (by omega)] at he
   exact h4 i c e hc he
  ·rw [List.getElem?_append_right (by omega)] at hc
   rw [List.getElem?_append_right (by omega),<-h2] at he
   have:i-vs.length=0:=by
    have:=(List.getElem?_eq_some_iff.1 hc).1
    simp at this; omega
   rw [this] at hc he
   simp at hc he
   subst hc he
   exact hv
theorem Rows.modify {ks vs:List AV} {es:Array MapEntry} {k v:AV} {kv vv:Value} (j:Nat) (hrow:Rows M L ks vs es.toList) (hk:VR M L k kv) (hv:VR M L v vv) :
  Rows M L (ks.set j k) (vs.set j v) (es.modify j fun e=>{ e with key:=kv,val:=vv }).toList:=by
 obtain ⟨h1,h2,h3,h4⟩:=hrow
 refine ⟨by simp [h1],by simp [h2],fun i c e hc he => ?_,fun i c e hc he => ?_⟩
 ·rw [Array.getElem?_toList,Array.getElem?_modify] at he
  rw [List.getElem?_set] at hc
  split at he
  ·next hji =>
   subst hji
   rw [if_pos rfl] at hc
   simp only [Option.map_eq_some_iff] at he
   obtain ⟨e0,he0,rfl⟩:=he
   split at hc
   ·cases hc; exact hk
   ·cases hc
  ·next hji =>
   rw [if_neg hji] at hc
   exact h3 i c e hc (by simpa using he)
 ·rw [Array.getElem?_toList,Array.getElem?_modify] at he
  rw [List.getElem?_set] at hc
  split at he
  ·next hji =>
   subst hji
   rw [if_pos rfl] at hc
   simp only [Option.map_eq_some_iff] at he
   obtain ⟨e0,he0,rfl⟩:=he
   split at hc
   ·cases hc; exact hv
   ·cases hc
  ·next hji =>
   rw [if_neg hji] at hc
   exact h4 i c e hc (by simpa using he)
theorem Rows.erase {ks vs:List AV} {es:Array MapEntry} (j:Nat) (hrow:Rows M L ks vs es.toList):Rows M L (ks.eraseIdx j) (vs.eraseIdx j) (es.eraseIdxIfInBounds j).toList:=by
 obtain ⟨h1,h2,h3,h4⟩:=hrow
 rw [Array.toList_eraseIdxIfInBounds]
 refine ⟨by simp [List.length_eraseIdx,h1],by simp [List.length_eraseIdx,h2],fun i c e hc he => ?_,fun i c e hc he => ?_⟩
 ·rw [List.getElem?_eraseIdx] at hc he
  split at hc
  ·next hlt=>rw [if_pos hlt] at he; exact h3 i c e hc he
  ·next hlt=>rw [if_neg hlt] at he; exact h3 _ c e hc he
 ·rw [List.getElem?_eraseIdx] at hc he
  split at hc
  ·next hlt=>rw [if_pos hlt] at he; exact h4 i c e hc he
  ·next hlt=>rw [if_neg hlt] at he; exact h4 _ c e hc he
theorem Vf (n:Nat):∀(l r:List Value),(∀(i:Nat) v,l[i]? = some v->∃k n,v = .int k n/\r[i]? = some (.int k n))->(l.zip r).all (fun p=>Instr.sameBits n p.1 p.2)=true
 | [],_,_=>by simp
 | _::_,[],_=>by simp
 | x::l,y::r,hh=>by
  obtain ⟨k,m,h1,h2⟩:=hh 0 x rfl
  simp at h2
  subst h1 h2
  simp only [List.zip_cons_cons,List.all_cons,Bool.and_eq_true]
  refine ⟨?_,Vf n l r fun i v hv=>hh (i+1) v hv⟩
  cases n <;> simp [Instr.sameBits]
theorem A0m:∀{cs ds:List AV},Ec cs ds=some true->cs=ds/\∀(i:Nat) c,cs[i]? = some c->∃k n,c = .int k n
 | [],[],_=>⟨rfl,fun i c h=>by simp at h⟩
 | c::r,[],hq=>by cases c <;> simp [Ec] at hq
 | [],d::s,hq=>by simp [Ec] at hq
 | c::r,d::s,hq=>by
  obtain ⟨k,x,y,h1,h2,hor⟩:=Jx hq
  rcases hor with ⟨rfl,hq⟩ | ⟨_,hf⟩
  ·obtain ⟨g1,g2⟩:=A0m hq
   subst h1 h2 g1
   refine ⟨rfl,fun i c hc => ?_⟩
   cases i with
   | zero=>simp at hc; exact ⟨k,x,hc.symm⟩
   | succ i=>exact g2 i c (by simpa using hc)
  ·cases hf
theorem Nv {kn:Option Nat} {key:AV}:∀(ks:List AV) (i j:Nat),Du kn key ks i=some (some j)->i<=j/\∃k,ks[j-i]? = some k/\Ei kn k=true/\Ec key.cells k.cells=some true
 | [],i,j,hq=>by simp [Du] at hq
 | k::ks,i,j,hq=>by
  simp only [Du] at hq
  split at hq
  ·next hk =>
   split at hq
   ·next he=>cases hq; exact ⟨Nat.le_refl _,k,by simp,hk,he⟩
   ·obtain ⟨h1,k',h2,h3⟩:=Nv ks (i+1) j hq
    exact ⟨by omega,k',by rw [show j-i=(j-(i+1))+1 from by omega]; exact h2,h3⟩
   ·cases hq
  ·cases hq
theorem Qc {kn:Option Nat} {k k':AV} {old new:Value} (hk:Ei kn k=true) (hk':Ei kn k'=true) (he:Ec k.cells k'.cells=some true) (h1:VR M L k new) (h2:VR M L k' old) (w:World) :
  (Instr.keyThatStays old new).run P w = .ok new w:=by
 obtain ⟨hc,hint⟩:=A0m he
 have hs:Instr.sameBits 10000 old new=true:=by
  cases kn with
  | none =>
   obtain ⟨a1,a2,rfl⟩:=Jl hk
   obtain ⟨b1,b2,rfl⟩:=Jl hk'
   have:=h1.int_inv; have:=h2.int_inv
   subst_vars
   simp [AV.cells] at hc
   obtain ⟨rfl,rfl⟩:=hc
   simp [Instr.sameBits]
  | some n =>
   obtain ⟨cs,rfl,hl,hci⟩:=Jm hk
   obtain ⟨ds,rfl,hl',hci'⟩:=Jm hk'
   simp only [AV.cells] at hc hint
   subst hc
   cases h1 with
   | @agg _ vs g1 g2 =>
    cases h2 with
    | @agg _ us f1 f2 =>
     show (Instr.sameBits (9999+1) (.agg us) (.agg vs))=true
     simp only [Instr.sameBits,Bool.and_eq_true,beq_iff_eq]
     refine ⟨by omega,Vf 9999 _ _ fun i v hv => ?_⟩
     have hi:i<cs.length:=by
      have:=(List.getElem?_eq_some_iff.1 hv).1
      simp at this; omega
     obtain ⟨k,n,hkn⟩:=hint i cs[i] (List.getElem?_eq_getElem hi)
     have hci:cs[i]? = some (.int k n):=by rw [<-hkn]; exact List.getElem?_eq_getElem hi
     have e1:=(f2 i _ v hci (by simpa using hv)).int_inv
     have hvs:vs[i]? = some vs[i]:=Array.getElem?_eq_getElem (by omega)
     have e2:=(g2 i _ _ hci hvs).int_inv
     exact ⟨k,n,e1,by simp [hvs,e2]⟩
 simp [Instr.keyThatStays,hs]
section ops
variable (hr:HR P M L w h) (hE:ER M L e a) (call:Bf) (key:Nat) {o:Oper}
include hr hE
omit hE in
theorem Amq {t:TypeId} (ho:o.op = .makeMap t none) (hq:(Bd call key .mkMap e h).all Q):OpOk P M L w h a o Q:=by
 simp only [Bd] at hq
 obtain ⟨g1,g2⟩:=hr.new_obj h.length (.map (Bb h h.length).next 0 [] [] []) (.map #[] 0) (by simp) rfl { w with heap:=w.heap.push (.map #[] 0) } rfl
  (fun L' _ w' hw=>⟨#[],hw,rfl,rfl,rfl,fun i c e a b=>by simp at a,fun i c e a b=>by simp at a,fun i b e a _=>by simp at a⟩)
 refine ⟨.map (some w.heap.size),_,.inl ?_,⟨_,_,M,_,hq,g1,g2,.omap (Lay.upd_self _ _ _ _)⟩⟩
 simp [execOp,ho,Instr.makeMap]
theorem Aiu {xt kt et:TypeId} {kn:Option Nat} {z:AV} {x k:Operand} {ok:Bool} {ix ik:IX} (ho:o.op = .lookup xt x k ok) (hu:P.underlying xt=some (.map kt et)) (hkt:My P kt=some kn) (hz:Np P et=some z)
  {t1 t2:TypeId} (hx:cX P t1 x=some ix) (hk:cX P t2 k=some ik) (hq:(Bd call key (.lookup kn z ok ix ik) e h).all Q):OpOk P M L w h a o Q:=by
 have hxv:=Dl hE hx
 have hkv:=Dl hE hk
 obtain ⟨zi,zv,hzi,hzv,hzr⟩:=Xl hz
 simp only [Bd] at hq
 split at hq
 ·next ks vs hm =>
  split at hq
  ·next hko =>
   have hfin:∀(es:Array MapEntry),Rows M L ks vs es.toList->(∀f:Array MapEntry->Sem Value,(execOp a.eval o).run P w=((Instr.lookup xt (a.eval x) (a.eval k) ok).run P w).andThen (fun v w => .ok (.value v) w))->
     (Instr.lookup xt (a.eval x) (a.eval k) ok).run P w=((do
      Instr.checkKey es.isEmpty 10000 kt (a.eval k)
      let (v,ok') <-match <-Instr.findKey kt (a.eval k) es.toList with
       | some (_,v)=>pure (v,true)
       | none=>pure (<-zeroValue et,false)
      pure (if ok then .tuple #[v,.bool ok'] else v):Sem Value)).run P w->OpOk P M L w h a o Q:=fun es hrow hex hlk=>by
    have hck:=Md hkt hko hkv es.isEmpty w
    split at hq
    ·exact hq.elim
    ·next hf =>
     obtain ⟨q,h1,h2,_⟩:=Hg hkt hko hkv hrow hf w
     have:=h2 rfl
     subst this
     refine .pure hr (cv:=if ok then .tuple #[zv,.bool false] else zv) ?_ ?_ hq
     ·rw [hex (fun _=>pure .nilIface),hlk]
      simp [hck,h1,zeroValue,typeInfo,hzi,hzv]
     ·cases ok
      ·exact hzr M L
      ·refine .tuple rfl fun i c v hc hv => ?_
       match i with
       | 0=>simp at hc hv; subst hc hv; exact hzr M L
       | 1=>simp at hc hv; subst hc hv; exact .bool
       | i+2=>simp at hc
    ·next j hf =>
     split at hq
     ·next v hvj =>
      obtain ⟨q,h1,_,h3⟩:=Hg hkt hko hkv hrow hf w
      obtain ⟨en,hen,rfl⟩:=h3 j rfl
      have hval:=hrow.2.2.2 j v en hvj hen
      refine .pure hr (cv:=if ok then .tuple #[en.val,.bool true] else en.val) ?_ ?_ hq
      ·rw [hex (fun _=>pure .nilIface),hlk]
       simp [hck,h1]
      ·cases ok
       ·exact hval
       ·refine .tuple rfl fun i c v hc hv => ?_
        match i with
        | 0=>simp at hc hv; subst hc hv; exact hval
        | 1=>simp at hc hv; subst hc hv; exact .bool
        | i+2=>simp at hc
     ·exact hq.elim
   have hex:∀f:Array MapEntry->Sem Value,(execOp a.eval o).run P w=((Instr.lookup xt (a.eval x) (a.eval k) ok).run P w).andThen (fun v w => .ok (.value v) w):=fun _=>by
    simp [execOp,ho]
   rcases A7r hr hxv hm with ⟨hcv,rfl,rfl⟩ | ⟨r,es,clock,hcv,hob,hrow⟩
   ·refine hfin #[] ⟨rfl,rfl,fun i c e a _=>by simp at a,fun i c e a _=>by simp at a⟩ hex ?_
    rw [hcv]
    simp [Instr.lookup,run_underlying hu]
    rfl
   ·refine hfin es hrow hex ?_
    rw [hcv]
    simp [Instr.lookup,run_underlying hu,MapKept.run_getObj_map hob]
    rfl
  ·exact hq.elim
 ·exact hq.elim
theorem Atw {x:Operand} {t s kt et:TypeId} {ats:Array TypeId} {ix:IX} (ho:o.op = .call { callee:=.builtin .len,args:=#[x],argTypes:=ats }) (ht:ats[0]? = some s) (hs:P.underlying s=some (.map kt et))
  (hx:cX P t x=some ix) (hq:(Bd call key (.lenM ix) e h).all Q):OpOk P M L w h a o Q:=by
 have hxv:=Dl hE hx
 simp only [Bd] at hq
 split at hq
 ·next ks vs hm =>
  rcases A7r hr hxv hm with ⟨hcv,rfl,rfl⟩ | ⟨r,es,clock,hcv,hob,hrow⟩
  ·refine .pure hr (cv:=.int .i64 0) ?_ .int hq
   simp [execOp,ho,resolve,invoke,builtin,Builtin.len_,ht,run_underlying hs,hcv,goInt]
  ·have hl:ks.length=es.size:=by simpa using hrow.1
   rw [hl] at hq
   refine .pure hr (cv:=.int .i64 es.size) ?_ .int hq
   simp [execOp,ho,resolve,invoke,builtin,Builtin.len_,ht,run_underlying hs,hcv,goInt,MapKept.run_getObj_map hob]
 ·exact hq.elim
theorem Wr {xt kt et:TypeId} {kn:Option Nat} {x k v:Operand} {ix ik iv:IX} (ho:o.op = .mapUpdate xt x k v\/o.op = .insert xt x k v) (hu:P.underlying xt=some (.map kt et)) (hkt:My P kt=some kn)
  {t1 t2 t3:TypeId} (hx:cX P t1 x=some ix) (hk:cX P t2 k=some ik) (hv:cX P t3 v=some iv) (hq:(Bd call key (.mapUpdate kn ix ik iv) e h).all Q):OpOk P M L w h a o Q:=by
 have hxv:=Dl hE hx
 have hkv:=Dl hE hk
 have hvv:=Dl hE hv
 have hex:(execOp a.eval o).run P w=((Instr.mapUpdate xt (a.eval x) (a.eval k) (a.eval v)).run P w).andThen (fun _ w => .ok .skip w):=by
  rcases ho with ho | ho <;> simp [execOp,ho]
 simp only [Bd] at hq
 generalize ix.ev e=av at hxv hq
 generalize hcx:a.eval x=cx at hxv hex
 split at hq
 ·next mk ver =>
  split at hq
  ·next u clock ks vs bs hob =>
   split at hq
   ·next hcond =>
    obtain ⟨hver,hko⟩:=hcond
    subst hver
    cases hxv with
    | @omap _ _ info hl =>
     obtain ⟨hmb,es,hb,hrow,hbl,hbs⟩:=Kn hr hob hl
     have hck:=Md hkt hko hkv false w
     have hn:Bb h mk ≠ .none:=by rw [hob]; simp
     have hlv:L mk (Bb h mk).ver=some info:=by rw [hob]; exact hl
     split at hq
     ·exact hq.elim
     ·next hf =>
      obtain ⟨q,h1,h2,_⟩:=Hg hkt hko hkv hrow hf w
      have:=h2 rfl
      subst this
      have hrun:(execOp a.eval o).run P w = .ok .skip { w with heap:=w.heap.setIfInBounds info.blk (.map (es.push ⟨a.eval k,a.eval v,clock⟩) (clock+1)) }:=by
       rw [hex]
       simp [Instr.mapUpdate,run_underlying hu,MapKept.run_getObj_map hb,hck,h1,MapKept.run_setObj_map _ hb]
      obtain ⟨g1,g2⟩:=hr.set_obj (o:=.map u (clock+1) (ks++[ik.ev e]) (vs++[iv.ev e]) (bs++[clock])) (.map (es.push ⟨a.eval k,a.eval v,clock⟩) (clock+1)) hn hlv (by simp) (by rw [hob]; rfl)
       (fun w' hw'=>ORel.of_rows hw' (hrow.push hkv hvv) (by simp [hbl]) (fun i b en hbi hei=>by
        rw [Array.getElem?_push] at hei
        split at hei
        ·next hi =>
         subst hi
         cases hei
         rw [<-hbl] at hbi
         simp at hbi
         exact hbi
        ·next hi =>
         have:i<es.size:=(Array.getElem?_eq_some_iff.1 hei).1
         rw [List.getElem?_append_left (by omega)] at hbi
         exact hbs i b en hbi hei)) { w with heap:=w.heap.setIfInBounds info.blk (.map (es.push ⟨a.eval k,a.eval v,clock⟩) (clock+1)) } rfl
      exact ⟨undef,_,.inr ⟨hrun,rfl⟩,⟨_,_,M,L,hq,g1,g2,.undef⟩⟩
     ·next j hf =>
      obtain ⟨q,h1,_,h3⟩:=Hg hkt hko hkv hrow hf w
      obtain ⟨en,hen,rfl⟩:=h3 j rfl
      obtain ⟨_,k',hk',hk'o,hk'e⟩:=Nv _ _ _ hf
      rw [Nat.sub_zero] at hk'
      have hold:=hrow.2.2.1 j k' en hk' hen
      have hst:=Qc (P:=P) hko hk'o hk'e hkv hold w
      have hen':es[j]? = some en:=by simpa using hen
      have hrun:(execOp a.eval o).run P w = .ok .skip { w with heap:=w.heap.setIfInBounds info.blk (.map (es.modify j fun e=>{ e with key:=a.eval k,val:=a.eval v }) clock) }:=by
       rw [hex]
       simp [Instr.mapUpdate,run_underlying hu,MapKept.run_getObj_map hb,hck,h1,hen',hst,MapKept.run_setObj_map _ hb]
      obtain ⟨g1,g2⟩:=hr.set_obj (o:=.map u clock (ks.set j (ik.ev e)) (vs.set j (iv.ev e)) bs) (.map (es.modify j fun e=>{ e with key:=a.eval k,val:=a.eval v }) clock) hn hlv (by simp) (by rw [hob]; rfl)
       (fun w' hw'=>ORel.of_rows hw' (hrow.modify j hkv hvv) (by simp [hbl]) (fun i b en hbi hei=>by
        rw [Array.getElem?_modify] at hei
        split at hei
        ·simp only [Option.map_eq_some_iff] at hei
         obtain ⟨e0,he0,rfl⟩:=hei
         exact hbs i b e0 hbi he0
        ·exact hbs i b en hbi hei)) { w with heap:=w.heap.setIfInBounds info.blk (.map (es.modify j fun e=>{ e with key:=a.eval k,val:=a.eval v }) clock) } rfl
      exact ⟨undef,_,.inr ⟨hrun,rfl⟩,⟨_,_,M,L,hq,g1,g2,.undef⟩⟩
   ·exact hq.elim
  ·exact hq.elim
 ·exact hq.elim
theorem Aba {xt kt et:TypeId} {kn:Option Nat} {z:AV} {x k:Operand} {ix ik:IX} (ho:o.op = .mapEntry xt x k) (hu:P.underlying xt=some (.map kt et)) (hkt:My P kt=some kn) (hz:Np P et=some z)
  {t1 t2:TypeId} (hx:cX P t1 x=some ix) (hk:cX P t2 k=some ik) (hq:(Bd call key (.mapEntry kn z ix ik) e h).all Q):OpOk P M L w h a o Q:=by
 have hxv:=Dl hE hx
 have hkv:=Dl hE hk
 obtain ⟨zi,zv,hzi,hzv,hzr⟩:=Xl hz
 have hex:(execOp a.eval o).run P w=((Instr.mapEntry xt (a.eval x) (a.eval k)).run P w).andThen (fun v w => .ok (.value v) w):=by
  simp [execOp,ho]
 simp only [Bd] at hq
 generalize ix.ev e=av at hxv hq
 generalize hcx:a.eval x=cx at hxv hex
 split at hq
 ·next mk ver =>
  split at hq
  ·next u clock ks vs bs hob =>
   split at hq
   ·next hcond =>
    obtain ⟨hver,hko⟩:=hcond
    subst hver
    cases hxv with
    | @omap _ _ info hl =>
     obtain ⟨hmb,es,hb,hrow,hbl,hbs⟩:=Kn hr hob hl
     have hck:=Md hkt hko hkv false w
     have hn:Bb h mk ≠ .none:=by rw [hob]; simp
     have hlv:L mk (Bb h mk).ver=some info:=by rw [hob]; exact hl
     split at hq
     ·exact hq.elim
     ·next hf =>
      obtain ⟨q,h1,h2,_⟩:=Hg hkt hko hkv hrow hf w
      have:=h2 rfl
      subst this
      split at hq
      rotate_left
      ·exact hq.elim
      have hrun:(execOp a.eval o).run P w = .ok (.value (.tuple #[zv,goInt clock])) { w with heap:=w.heap.setIfInBounds info.blk (.map (es.push ⟨a.eval k,zv,clock⟩) (clock+1)) }:=by
       rw [hex]
       simp [Instr.mapEntry,run_underlying hu,MapKept.run_getObj_map hb,hck,h1,MapKept.run_setObj_map _ hb,zeroValue,typeInfo,hzi,hzv]
      obtain ⟨g1,g2⟩:=hr.set_obj (o:=.map u (clock+1) (ks++[ik.ev e]) (vs++[z]) (bs++[clock])) (.map (es.push ⟨a.eval k,zv,clock⟩) (clock+1)) hn hlv (by simp) (by rw [hob]; rfl)
       (fun w' hw'=>ORel.of_rows hw' (hrow.push hkv (hzr M L)) (by simp [hbl]) (fun i b en hbi hei=>by
        rw [Array.getElem?_push] at hei
        split at hei
        ·next hi =>
         subst hi
         cases hei
         rw [<-hbl] at hbi
         simp at hbi
         exact hbi
        ·next hi =>
         have:i<es.size:=(Array.getElem?_eq_some_iff.1 hei).1
         rw [List.getElem?_append_left (by omega)] at hbi
         exact hbs i b en hbi hei)) { w with heap:=w.heap.setIfInBounds info.blk (.map (es.push ⟨a.eval k,zv,clock⟩) (clock+1)) } rfl
      refine ⟨_,_,.inl hrun,⟨_,_,M,L,hq,g1,g2,.tuple rfl fun i c v hc hv => ?_⟩⟩
      match i with
      | 0=>simp at hc hv; subst hc hv; exact hzr M L
      | 1=>simp at hc hv; subst hc hv; exact .int
      | i+2=>simp at hc
     ·next j hf =>
      split at hq
      ·next v b hvj hbj =>
       obtain ⟨q,h1,_,h3⟩:=Hg hkt hko hkv hrow hf w
       obtain ⟨en,hen,rfl⟩:=h3 j rfl
       have hval:=hrow.2.2.2 j v en hvj hen
       obtain ⟨_,k',hk',hk'o,hk'e⟩:=Nv _ _ _ hf
       rw [Nat.sub_zero] at hk'
       have hold:=hrow.2.2.1 j k' en hk' hen
       have hst:=Qc (P:=P) hko hk'o hk'e hkv hold w
       have hen':es[j]? = some en:=by simpa using hen
       have hborn:en.born=b:=hbs j b en hbj hen'
       have hrun:(execOp a.eval o).run P w = .ok (.value (.tuple #[en.val,goInt b])) { w with heap:=w.heap.setIfInBounds info.blk (.map (es.modify j fun e=>{ e with key:=a.eval k }) clock) }:=by
        rw [hex]
        simp [Instr.mapEntry,run_underlying hu,MapKept.run_getObj_map hb,hck,h1,hen',hst,MapKept.run_setObj_map _ hb,hborn]
       have hrow':Rows M L (ks.set j (ik.ev e)) vs (es.modify j fun e=>{ e with key:=a.eval k }).toList:=by
        have h0:=hrow.modify j hkv hval
        have e1:vs.set j v=vs:=by
         apply List.ext_getElem?
         intro i
         rw [List.getElem?_set]
         split
         ·next hi =>
           subst hi; split
           ·exact hvj.symm
           ·next hlt=>rw [List.getElem?_eq_none (by omega)]
         ·rfl
        have e2:(es.modify j fun e=>{ e with key:=a.eval k,val:=en.val })=es.modify j fun e=>{ e with key:=a.eval k }:=by
         apply Array.ext_getElem?
         intro i
         rw [Array.getElem?_modify,Array.getElem?_modify]
         split
         ·next hi =>
          subst hi
          rw [hen']
          rfl
         ·rfl
        rw [e1,e2] at h0
        exact h0
       obtain ⟨g1,g2⟩:=hr.set_obj (o:=.map u clock (ks.set j (ik.ev e)) vs bs) (.map (es.modify j fun e=>{ e with key:=a.eval k }) clock) hn hlv (by simp) (by rw [hob]; rfl)
        (fun w' hw'=>ORel.of_rows hw' hrow' (by simp [hbl]) (fun i b en hbi hei=>by
         rw [Array.getElem?_modify] at hei
         split at hei
         ·simp only [Option.map_eq_some_iff] at hei
          obtain ⟨e0,he0,rfl⟩:=hei
          exact hbs i b e0 hbi he0
         ·exact hbs i b en hbi hei)) { w with heap:=w.heap.setIfInBounds info.blk (.map (es.modify j fun e=>{ e with key:=a.eval k }) clock) } rfl
       refine ⟨_,_,.inl hrun,⟨_,_,M,L,hq,g1,g2,.tuple rfl fun i c v hc hv => ?_⟩⟩
       match i with
       | 0=>simp at hc hv; subst hc hv; exact hval
       | 1=>simp at hc hv; subst hc hv; exact .int
       | i+2=>simp at hc
      ·exact hq.elim
   ·exact hq.elim
  ·exact hq.elim
 ·exact hq.elim
theorem A5h {xt kt et:TypeId} {x s v:Operand} {ix is iv:IX} (ho:o.op = .entryStore xt x s v) (hu:P.underlying xt=some (.map kt et))
  {t1 t2 t3:TypeId} (hx:cX P t1 x=some ix) (hs:cX P t2 s=some is) (hv:cX P t3 v=some iv) (hq:(Bd call key (.entryStore ix is iv) e h).all Q):OpOk P M L w h a o Q:=by
 have hxv:=Dl hE hx
 have hsv:=Dl hE hs
 have hvv:=Dl hE hv
 have hex:(execOp a.eval o).run P w=((Instr.entryStore xt (a.eval x) (a.eval s) (a.eval v)).run P w).andThen (fun _ w => .ok .skip w):=by
  simp [execOp,ho]
 simp only [Bd] at hq
 generalize ix.ev e=av at hxv hq
 generalize hcx:a.eval x=cx at hxv hex
 split at hq
 ·next mk ver b hb0 =>
  split at hq
  ·next u clock ks vs bs hob =>
   split at hq
   ·next hver =>
    subst hver
    cases hxv with
    | @omap _ _ info hl =>
     obtain ⟨hmb,es,hb,hrow,hbl,hbs⟩:=Kn hr hob hl
     have hn:Bb h mk ≠ .none:=by rw [hob]; simp
     have hlv:L mk (Bb h mk).ver=some info:=by rw [hob]; exact hl
     obtain ⟨kk,m,em,h0,hm⟩:=Gu hsv hb0
     split at hq
     ·next j hf =>
      obtain ⟨_,hj,hjn⟩:=A6s _ _ _ _ hf
      rw [Nat.sub_zero] at hj hjn
      have hjl:j<es.size:=by rw [<-hbl]; exact (List.getElem?_eq_some_iff.1 hj).1
      have hej:es[j]? = some es[j]:=Array.getElem?_eq_getElem hjl
      have hfi:es.findIdx? (fun e=>(e.born:Int)==m)=some j:=by
       rw [Array.findIdx?_eq_some_iff_getElem]
       refine ⟨hjl,?_,fun k hk => ?_⟩
       ·have:=hbs j b _ hj hej
        simp [this]; omega
       ·have hkl:k<es.size:=by omega
        have hkb:k<bs.length:=by omega
        have:=hbs k _ _ (List.getElem?_eq_getElem hkb) (Array.getElem?_eq_getElem hkl)
        have hne:=hjn k hk
        rw [List.getElem?_eq_getElem hkb] at hne
        simp only [ne_eq,Option.some.injEq] at hne
        simp only [this,beq_iff_eq]
        omega
      have hold:=hrow.2.2.1
      have hrun:(execOp a.eval o).run P w = .ok .skip { w with heap:=w.heap.setIfInBounds info.blk (.map (es.modify j fun e=>{ e with val:=a.eval v }) clock) }:=by
       rw [hex]
       simp [Instr.entryStore,MapKept.run_getObj_map hb,em,asInt,asIntOf,hfi,MapKept.run_setObj_map _ hb]
      have hrow':Rows M L ks (vs.set j (iv.ev e)) (es.modify j fun e=>{ e with val:=a.eval v }).toList:=by
       have hkl:j<ks.length:=by rw [hrow.1,Array.length_toList]; exact hjl
       have h0:=hrow.modify j (hrow.2.2.1 j ks[j] es[j] (List.getElem?_eq_getElem hkl) (by rw [Array.getElem?_toList]; exact hej)) hvv
       have e1:ks.set j ks[j]=ks:=by
        apply List.ext_getElem?
        intro i
        rw [List.getElem?_set]
        split
        ·next hi=>subst hi; simp [hkl]
        ·rfl
       have e2:(es.modify j fun e=>{ e with key:=es[j].key,val:=a.eval v })=es.modify j fun e=>{ e with val:=a.eval v }:=by
        apply Array.ext_getElem?
        intro i
        rw [Array.getElem?_modify,Array.getElem?_modify]
        split
        ·next hi =>
         subst hi
         rw [hej]
         rfl
        ·rfl
       rw [e1,e2] at h0
       exact h0
      obtain ⟨g1,g2⟩:=hr.set_obj (o:=.map u clock ks (vs.set j (iv.ev e)) bs) (.map (es.modify j fun e=>{ e with val:=a.eval v }) clock) hn hlv (by simp) (by rw [hob]; rfl)
       (fun w' hw'=>ORel.of_rows hw' hrow' (by simp [hbl]) (fun i b en hbi hei=>by
        rw [Array.getElem?_modify] at hei
        split at hei
        ·simp only [Option.map_eq_some_iff] at hei
         obtain ⟨e0,he0,rfl⟩:=hei
         exact hbs i b e0 hbi he0
        ·exact hbs i b en hbi hei)) { w with heap:=w.heap.setIfInBounds info.blk (.map (es.modify j fun e=>{ e with val:=a.eval v }) clock) } rfl
      exact ⟨undef,_,.inr ⟨hrun,rfl⟩,⟨_,_,M,L,hq,g1,g2,.undef⟩⟩
     ·exact hq.elim
   ·exact hq.elim
  ·exact hq.elim
 ·exact hq.elim
theorem Ais {xt kt et:TypeId} {kn:Option Nat} {ats:Array TypeId} {x k:Operand} {ix ik:IX} (ho:o.op = .call { callee:=.builtin .delete,args:=#[x,k],argTypes:=ats }) (hat:ats[0]? = some xt) (hu:P.underlying xt=some (.map kt et)) (hkt:My P kt=some kn)
  {t1 t2:TypeId} (hx:cX P t1 x=some ix) (hk:cX P t2 k=some ik) (hq:(Bd call key (.delete kn ix ik) e h).all Q):OpOk P M L w h a o Q:=by
 have hxv:=Dl hE hx
 have hkv:=Dl hE hk
 have hex:(execOp a.eval o).run P w=((Builtin.delete_ ats o.type #[a.eval x,a.eval k]).run P w).andThen (fun v w => .ok (.value v) w):=by
  simp [execOp,ho,resolve,invoke,builtin]
 simp only [Bd] at hq
 generalize ix.ev e=av at hxv hq
 generalize hcx:a.eval x=cx at hxv hex
 split at hq
 ·next mk ver =>
  split at hq
  ·next u clock ks vs bs hob =>
   split at hq
   ·next hcond =>
    obtain ⟨hver,hko⟩:=hcond
    subst hver
    cases hxv with
    | @omap _ _ info hl =>
     obtain ⟨hmb,es,hb,hrow,hbl,hbs⟩:=Kn hr hob hl
     have hck:=Md hkt hko hkv es.isEmpty w
     have hn:Bb h mk ≠ .none:=by rw [hob]; simp
     have hlv:L mk (Bb h mk).ver=some info:=by rw [hob]; exact hl
     split at hq
     ·exact hq.elim
     ·next hf =>
      obtain ⟨q,h1,h2,_⟩:=Hg hkt hko hkv hrow hf w
      have:=h2 rfl
      subst this
      have hself:w.heap.setIfInBounds info.blk (.map es clock)=w.heap:=by
       apply Array.ext_getElem?
       intro i
       rw [Array.getElem?_setIfInBounds]
       split
       ·next hi =>
         subst hi; split
         ·exact hb.symm
         ·next hn=>rw [Array.getElem?_eq_none (by omega)]
       ·rfl
      refine .pure hr (cv:=.tuple #[]) ?_ .undef hq
      rw [hex]
      simp [Builtin.delete_,hat,run_underlying hu,MapKept.run_getObj_map hb,hck,h1,MapKept.run_setObj_map _ hb,hself]
     ·next j hf =>
      obtain ⟨q,h1,_,h3⟩:=Hg hkt hko hkv hrow hf w
      obtain ⟨en,hen,rfl⟩:=h3 j rfl
      have hrun:(execOp a.eval o).run P w = .ok (.value (.tuple #[])) { w with heap:=w.heap.setIfInBounds info.blk (.map (es.eraseIdxIfInBounds j) clock) }:=by
       rw [hex]
       simp [Builtin.delete_,hat,run_underlying hu,MapKept.run_getObj_map hb,hck,h1,MapKept.run_setObj_map _ hb]
      obtain ⟨g1,g2⟩:=hr.set_obj (o:=.map u clock (ks.eraseIdx j) (vs.eraseIdx j) (bs.eraseIdx j)) (.map (es.eraseIdxIfInBounds j) clock) hn hlv (by simp) (by rw [hob]; rfl)
       (fun w' hw'=>ORel.of_rows hw' (hrow.erase j) (by
        have:(es.eraseIdxIfInBounds j).size=(es.toList.eraseIdx j).length:=by rw [<-Array.toList_eraseIdxIfInBounds,Array.length_toList]
        rw [this,List.length_eraseIdx,List.length_eraseIdx]; simp [hbl]) (fun i b en hbi hei=>by
        rw [<-Array.getElem?_toList,Array.toList_eraseIdxIfInBounds,List.getElem?_eraseIdx] at hei
        rw [List.getElem?_eraseIdx] at hbi
        split at hei
        ·next hlt=>rw [if_pos hlt] at hbi; exact hbs i b en hbi (by simpa using hei)
        ·next hlt=>rw [if_neg hlt] at hbi; exact hbs _ b en hbi (by simpa using hei))) { w with heap:=w.heap.setIfInBounds info.blk (.map (es.eraseIdxIfInBounds j) clock) } rfl
      exact ⟨_,_,.inl hrun,⟨_,_,M,L,hq,g1,g2,.undef⟩⟩
   ·exact hq.elim
  ·exact hq.elim
 ·exact hq.elim
theorem Amr {xt kt et t1:TypeId} {x:Operand} {ix:IX} (ho:o.op = .range xt x) (hu:P.underlying xt=some (.map kt et)) (hx:cX P t1 x=some ix) (hq:(Bd call key (.range ix) e h).all Q):OpOk P M L w h a o Q:=by
 have hxv:=Dl hE hx
 simp only [Bd] at hq
 generalize ix.ev e=av at hxv hq
 generalize hcx:a.eval x=cx at hxv
 split at hq
 ·next mk ver =>
  split at hq
  ·next u clock ks vs bs hob =>
   split at hq
   ·next hver =>
    subst hver
    cases hxv with
    | @omap _ _ info hl =>
     obtain ⟨hmb,es,hb,hrow,hbl,hbs⟩:=Kn hr hob hl
     obtain ⟨g1,g2⟩:=hr.new_obj h.length (.iter (Bb h h.length).next mk u clock [] clock) (.mapIter (some info.blk) clock #[] clock) (by simp) rfl { w with heap:=w.heap.push (.mapIter (some info.blk) clock #[] clock) } rfl
      (fun L' hL' w' hw=>⟨info,hL' _ _ _ hl,hw⟩)
     refine ⟨.pointer (some ⟨w.heap.size,0,none⟩),_,.inl ?_,⟨_,_,M,_,hq,g1,g2,.iter (Lay.upd_self _ _ _ _)⟩⟩
     simp [execOp,ho,Instr.range,run_underlying hu,hcx,MapKept.run_getObj_map hb]
   ·exact hq.elim
  ·exact hq.elim
 ·cases hxv with
  | nilmap =>
   obtain ⟨g1,g2⟩:=hr.new_obj h.length (.nit (Bb h h.length).next) (.mapIter none 0 #[] 0) (by simp) rfl { w with heap:=w.heap.push (.mapIter none 0 #[] 0) } rfl
    (fun L' hL' w' hw => .inl hw)
   refine ⟨.pointer (some ⟨w.heap.size,0,none⟩),_,.inl ?_,⟨_,_,M,_,hq,g1,g2,.iter (Lay.upd_self _ _ _ _)⟩⟩
   simp [execOp,ho,Instr.range,run_underlying hu,hcx]
  | @fmap _ _ r es clock hm hk hvl h1 h2 =>
   have he:es = #[]:=by
    have:es.size=0:=by simpa using hk.symm
    exact Array.eq_empty_of_size_eq_zero this
   subst he
   have hb:=hr.mem _ _ hm
   obtain ⟨g1,g2⟩:=hr.new_obj h.length (.nit (Bb h h.length).next) (.mapIter (some r) clock #[] clock) (by simp) rfl { w with heap:=w.heap.push (.mapIter (some r) clock #[] clock) } rfl
    (fun L' hL' w' hw => .inr ⟨r,clock,clock,clock,hm,hw⟩)
   refine ⟨.pointer (some ⟨w.heap.size,0,none⟩),_,.inl ?_,⟨_,_,M,_,hq,g1,g2,.iter (Lay.upd_self _ _ _ _)⟩⟩
   simp [execOp,ho,Instr.range,run_underlying hu,hcx,MapKept.run_getObj_map hb]
 ·exact hq.elim
omit hE in
theorem A8j {k ver mk mv since stepped:Nat} {seen:List Nat} {info:Info} (ho:Bb h k = .iter ver mk mv since seen stepped) (hl:L k ver=some info) :
  ∃mi,L mk mv=some mi/\w.heap[info.blk]? = some (.mapIter (some mi.blk) since seen.toArray stepped):=by
 obtain ⟨i2,h1,h2,h3⟩:=hr.cur k (by rw [ho]; simp)
 rw [ho] at h1 h3
 have:info=i2:=by
  have h1':L k ver=some i2:=h1
  rw [hl] at h1'; cases h1'; rfl
 subst this
 exact h3
omit hE in
theorem Aud {k ver:Nat} {info:Info} (ho:Bb h k = .nit ver) (hl:L k ver=some info) :
  w.heap[info.blk]? = some (.mapIter none 0 #[] 0)\/∃r cl s1 s2,M r=some (.map #[] cl)/\w.heap[info.blk]? = some (.mapIter (some r) s1 #[] s2):=by
 obtain ⟨i2,h1,h2,h3⟩:=hr.cur k (by rw [ho]; simp)
 rw [ho] at h1 h3
 have:info=i2:=by
  have h1':L k ver=some i2:=h1
  rw [hl] at h1'; cases h1'; rfl
 subst this
 exact h3
omit hr hE in
theorem A7j (p:Nat->Bool):∀(ks vs:List AV) (bs:List Nat) (es:List MapEntry),Rows M L ks vs es->bs.length=es.length->(∀(i:Nat) (b:Nat) (e:MapEntry),bs[i]? = some b->es[i]? = some e->e.born=b)->
  ((ks.zip (vs.zip bs)).filter fun t=>p t.2.2).length=(es.filter fun e=>p e.born).length/\
  ∀(i:Nat) (t:AV×AV×Nat) (e:MapEntry),((ks.zip (vs.zip bs)).filter fun t=>p t.2.2)[i]? = some t->(es.filter fun e=>p e.born)[i]? = some e->VR M L t.1 e.key/\VR M L t.2.1 e.val/\e.born=t.2.2
 | [],vs,bs,es,hrow,hb,hbs=>by
  have:es=[]:=by have:=hrow.1; simp at this; exact List.eq_nil_of_length_eq_zero this.symm
  subst this
  simp
 | k::ks,[],bs,es,hrow,hb,hbs=>by have:=hrow.1; have:=hrow.2.1; simp at *; omega
 | k::ks,v::vs,[],es,hrow,hb,hbs=>by have:=hrow.1; simp at *; omega
 | k::ks,v::vs,b::bs,[],hrow,hb,hbs=>by simp at hb
 | k::ks,v::vs,b::bs,e::es,hrow,hb,hbs=>by
  have h0:=hbs 0 b e rfl rfl
  obtain ⟨g1,g2⟩:=A7j p ks vs bs es ⟨by simpa using hrow.1,by simpa using hrow.2.1,fun i c e a b=>hrow.2.2.1 (i+1) c e a b,fun i c e a b=>hrow.2.2.2 (i+1) c e a b⟩ (by simpa using hb)
   (fun i b e a c=>hbs (i+1) b e a c)
  simp only [List.zip_cons_cons,List.filter_cons,h0]
  cases p b with
  | false=>exact ⟨g1,g2⟩
  | true =>
   simp only [if_true,List.length_cons,g1,true_and]
   intro i t e' ht he
   cases i with
   | zero =>
    simp at ht he
    subst ht he
    exact ⟨hrow.2.2.1 0 k e rfl rfl,hrow.2.2.2 0 v e rfl rfl,h0⟩
   | succ i=>exact g2 i t e' (by simpa using ht) (by simpa using he)
theorem Aty {x:Operand} {t1:TypeId} {ix:IX} (ho:o.op = .next x false) (hx:cX P t1 x=some ix) (hq:(Bd call key (.next ix) e h).all Q):OpOk P M L w h a o Q:=by
 have hxv:=Dl hE hx
 have hex:(execOp a.eval o).run P w=((Instr.next (a.eval x) false o.type).run P w).andThen (fun v w => .ok (.value v) w):=by
  simp [execOp,ho]
 simp only [Bd] at hq
 generalize ix.ev e=av at hxv hq
 generalize a.eval x=cx at hxv hex
 split at hq
 ·next k ver =>
  split at hq
  ·next u mk mv since seen stepped hob =>
   split at hq
   ·next mw clock ks vs bs hom =>
    split at hq
    ·next hcond =>
     obtain ⟨hver,hmv,hold,hss⟩:=hcond
     subst hver hmv
     cases hxv with
     | @iter _ _ info hl =>
      obtain ⟨mi,hmi,hb⟩:=A8j hr hob hl
      obtain ⟨hmb,es,hmb2,hrow,hbl,hbs⟩:=Kn hr hom hmi
      have hbl':bs.length=es.toList.length:=by simpa using hbl
      have hbs':∀(i:Nat) (b:Nat) (e:MapEntry),bs[i]? = some b->es.toList[i]? = some e->e.born=b:=fun i b e a c=>hbs i b e a (by simpa using c)
      obtain ⟨g1,g2⟩:=A7j (fun b => !seen.contains b) ks vs bs es.toList hrow hbl' hbs'
      have hborn:∀x∈es.toList,x.born<since:=fun x hx=>by
       obtain ⟨i,hi⟩:=List.mem_iff_getElem?.1 hx
       have hlt:i<bs.length:=by have:=(List.getElem?_eq_some_iff.1 hi).1; omega
       have:=hbs' i bs[i] x (List.getElem?_eq_getElem hlt) hi
       rw [this]
       have:=List.all_eq_true.1 hold bs[i] (List.getElem_mem _)
       simpa using this
      have htest:=next_test_false seen.toArray es since stepped hborn hss
      have hn:Bb h k ≠ .none:=by rw [hob]; simp
      have hlv:L k (Bb h k).ver=some info:=by rw [hob]; exact hl
      have hA:es.filter (fun e => !seen.toArray.contains e.born)=(es.toList.filter fun e => !seen.contains e.born).toArray:=by
       rw [<-Array.toList_inj]; simp
      generalize hlf:(ks.zip (vs.zip bs)).filter (fun t => !seen.contains t.2.2)=left at g1 g2 hq
      have hrunA:∀(X:Array MapEntry),X=es.filter (fun e => !seen.toArray.contains e.born)->(Instr.next (.pointer (some ⟨info.blk,0,none⟩)) false o.type).run P w =
        ((do
         match ((if X.isEmpty then #[none] else #[])++X.map some)[<-choose (.mapNext ((if X.isEmpty then #[none] else #[])++X.map some).size)]? with
         | some (some e) =>
          setObj info.blk (.mapIter (some mi.blk) since (seen.toArray.push e.born) clock)
          pure (.tuple #[.bool true,e.key,e.val])
         | some none=>pure (.tuple #[.bool false])
         | none => stuck "Next: no such candidate") : Sem Value).run P w := fun X hX => by
       have hmem:∀x∈X.toList,x.born<since:=fun x hx=>by
        rw [hX] at hx
        exact hborn x (by simp at hx ⊢; exact hx.1)
       have e1:X.filter (fun x=>decide (x.born<since))=X:=Array.filter_eq_self.2 (fun x hx=>by simpa using hmem x (by simpa using hx))
       have e2:X.filter (fun x=>decide (x.born>=since)) = #[]:=by
        rw [Array.filter_eq_empty_iff]
        intro x hx
        have:=hmem x (by simpa using hx)
        simp
        omega
       simp only [Instr.next,getObj,Sem.run_bind,Sem.run,hb,hmb2,Result.andThen,htest,Bool.false_eq_true,if_false,<-hX,e1,e2,Array.append_empty]
       rfl
      split at hq
      ·next hemp =>
       have hl0:left=[]:=List.isEmpty_iff.1 hemp
       subst hl0
       have hX0:(#[]:Array MapEntry)=es.filter (fun e => !seen.toArray.contains e.born):=by
        rw [hA]
        have:(es.toList.filter fun e => !seen.contains e.born)=[]:=List.eq_nil_of_length_eq_zero (by rw [<-g1]; rfl)
        rw [this]
       refine .pure hr (cv:=.tuple #[.bool false]) ?_ (.tuple rfl fun i c v hc hv => ?_) hq
       ·rw [hex,hrunA _ hX0]
        simp [choose,Sem.run,Question.forced]
       ·cases i with
        | zero=>simp at hc hv; subst hc hv; exact .bool
        | succ i=>simp at hc
      ·next hemp =>
       obtain ⟨hpos,hq⟩:=hq
       generalize hX:es.filter (fun e => !seen.toArray.contains e.born)=X at *
       have hXl:X.toList=es.toList.filter fun e => !seen.contains e.born:=by rw [hA]
       have hXs:X.size=left.length:=by rw [<-Array.length_toList,hXl,g1]
       have hne:X.isEmpty=false:=by
        have:X.size≠0:=by omega
        simp [Array.isEmpty,this]
       have hch:∃(j:Nat) (w1:World),j<X.size/\w1.heap=w.heap/\SameOut w w1/\(choose (Question.mapNext X.size)).run P w = .ok j w1:=by
        by_cases hf:X.size<=1
        ·exact ⟨0,w,by omega,rfl,⟨rfl,rfl,rfl⟩,by simp [choose,Sem.run,Question.forced,hf]⟩
        ·exact ⟨_,w.drew,Nat.mod_lt _ (by omega),rfl,⟨rfl,rfl,rfl⟩,by
          simp only [choose,Sem.run,Question.forced,decide_eq_true_eq,hf,if_false,Question.cut]
          rfl⟩
       obtain ⟨j,w1,hj,hw1,hso1,hrun⟩:=hch
       have hqj:=hq j (by omega)
       have hlj:left[j]? = some left[j]:=List.getElem?_eq_getElem (by omega)
       simp only [hlj] at hqj
       rcases hle:left[j] with ⟨lk,lv,lb⟩
       rw [hle] at hqj hlj
       have hXj:(es.toList.filter fun e => !seen.contains e.born)[j]? = some X[j]:=by
        rw [<-hXl]; simp
       obtain ⟨r1,r2,r3⟩:=g2 j _ _ hlj hXj
       have hr1:HR P M L w1 h:=hr.same_heap hw1
       obtain ⟨f1,f2⟩:=hr1.set_obj (o:=.iter u mk mw since (seen++[lb]) clock) (.mapIter (some mi.blk) since (seen.toArray.push X[j].born) clock) hn hlv (by simp) (by rw [hob]; rfl)
        (fun w' hw'=>⟨mi,hmi,by rw [hw',r3]; simp⟩) { w1 with heap:=w1.heap.setIfInBounds info.blk (.mapIter (some mi.blk) since (seen.toArray.push X[j].born) clock) } rfl
       have hb1:w1.heap[info.blk]? = some (.mapIter (some mi.blk) since seen.toArray stepped):=by rw [hw1]; exact hb
       refine ⟨.tuple #[.bool true,X[j].key,X[j].val],_,.inl ?_,⟨_,_,M,L,hqj,f1,(Fr.same_heap hw1 hso1).trans f2,.tuple rfl fun i c v hc hv => ?_⟩⟩
       ·rw [hex,hrunA X rfl]
        simp only [hne,Bool.false_eq_true,if_false,Array.empty_append,Array.size_map,Sem.run_bind,hrun,Result.andThen_ok,Array.getElem?_map,Array.getElem?_eq_getElem hj,Option.map_some]
        simp [setObj,Sem.run,hb1]
       ·match i with
        | 0=>simp at hc hv; subst hc hv; exact .bool
        | 1=>simp at hc hv; subst hc hv; exact r1
        | 2=>simp at hc hv; subst hc hv; exact r2
        | i+3=>simp at hc
    ·exact hq.elim
   ·exact hq.elim
  ·next u hob =>
   split at hq
   ·next hver =>
    subst hver
    cases hxv with
    | @iter _ _ info hl =>
     have h3:=Aud hr hob hl
     refine .pure hr (cv:=.tuple #[.bool false]) ?_ (.tuple rfl fun i c v hc hv => ?_) hq
     ·rw [hex]
      rcases h3 with h3 | ⟨r,cl,s1,s2,h3,h4⟩
      ·simp [Instr.next,getObj,Sem.run_bind,Sem.run,h3,Result.andThen]
      ·have hb:=hr.mem _ _ h3
       simp [Instr.next,getObj,Sem.run_bind,Sem.run,h4,hb,Result.andThen,choose,Question.forced]
     ·cases i with
      | zero=>simp at hc hv; subst hc hv; exact .bool
      | succ i=>simp at hc
   ·exact hq.elim
  ·exact hq.elim
 ·exact hq.elim
omit hr hE in
theorem A6t (p:Nat->Bool):∀(ks vs:List AV) (bs:List Nat) (es:List MapEntry),Rows M L ks vs es->bs.length=es.length->(∀(i:Nat) (b:Nat) (e:MapEntry),bs[i]? = some b->es[i]? = some e->e.born=b)->
  ∀t,(ks.zip (vs.zip bs)).find? (fun t=>p t.2.2)=some t->∃e,es.find? (fun e=>p e.born)=some e/\VR M L t.1 e.key/\VR M L t.2.1 e.val
 | [],vs,bs,es,hrow,hb,hbs=>by simp
 | k::ks,[],bs,es,hrow,hb,hbs=>by simp
 | k::ks,v::vs,[],es,hrow,hb,hbs=>by simp
 | k::ks,v::vs,b::bs,[],hrow,hb,hbs=>by simp at hb
 | k::ks,v::vs,b::bs,e::es,hrow,hb,hbs=>by
  have h0:=hbs 0 b e rfl rfl
  have ih:=A6t p ks vs bs es ⟨by simpa using hrow.1,by simpa using hrow.2.1,fun i c e a b=>hrow.2.2.1 (i+1) c e a b,fun i c e a b=>hrow.2.2.2 (i+1) c e a b⟩ (by simpa using hb)
   (fun i b e a c=>hbs (i+1) b e a c)
  intro t ht
  simp only [List.zip_cons_cons,List.find?_cons,h0] at ht ⊢
  cases hp:p b with
  | false=>rw [hp] at ht; exact ih t ht
  | true =>
   rw [hp] at ht
   simp at ht
   subst ht
   exact ⟨e,rfl,hrow.2.2.1 0 k e rfl rfl,hrow.2.2.2 0 v e rfl rfl⟩
theorem Amm {x:Operand} {t1:TypeId} {ix:IX} (ho:o.op = .entry x) (hx:cX P t1 x=some ix) (hq:(Bd call key (.entry ix) e h).all Q):OpOk P M L w h a o Q:=by
 have hxv:=Dl hE hx
 simp only [Bd] at hq
 generalize ix.ev e=av at hxv hq
 generalize hcx:a.eval x=cx at hxv
 split at hq
 ·next k ver =>
  split at hq
  ·next u mk mv since seen stepped hob =>
   split at hq
   ·next mw clock ks vs bs s hom hlast =>
    split at hq
    ·next hcond =>
     obtain ⟨hver,hmv,hst⟩:=hcond
     subst hver hmv hst
     split at hq
     ·next lk lv lb hfind =>
      cases hxv with
      | @iter _ _ info hl =>
       obtain ⟨mi,hmi,hb⟩:=A8j hr hob hl
       obtain ⟨hmb,es,hmb2,hrow,hbl,hbs⟩:=Kn hr hom hmi
       obtain ⟨en,g1,g2,g3⟩:=A6t (fun b=>b==s) ks vs bs es.toList hrow (by simpa using hbl) (fun i b e a c=>hbs i b e a (by simpa using c)) _ hfind
       have hback:seen.toArray.back? = some s:=by simpa using hlast
       have hfd:es.find? (fun e=>e.born==s)=some en:=by rw [<-Array.find?_toList]; exact g1
       refine .pure hr (cv:=.tuple #[en.key,en.val]) ?_ (.tuple rfl fun i c v hc hv => ?_) hq
       ·simp only [execOp,ho,hcx,Instr.entry,getObj,Sem.run_bind,Sem.run,hb,hmb2,Result.andThen,hback,bne_self_eq_false,Bool.false_eq_true,if_false,hfd]
        rfl
       ·match i with
        | 0=>simp at hc hv; subst hc hv; exact g2
        | 1=>simp at hc hv; subst hc hv; exact g3
        | i+2=>simp at hc
     ·exact hq.elim
    ·exact hq.elim
   ·exact hq.elim
  ·exact hq.elim
 ·exact hq.elim
end ops
variable {P:Program} {M:Mem} {L:Lay} {w:World} {h:Bc} {e:Env} {a:Act} {Q:AV×Bc->Prop}
def W (r:Option Nat):Fence:={ Fence.wide with round:=r }
theorem Vv {r:Option Nat} {n:Nat} {f:FuncId} {args:Array Value} {R:Ending->World->Prop}:CallsIn (W r) n P f args w R↔Calls P f args w R:=
 callsIn_wide (n:=n)
def Avn (P:Program) (call:Bf):Prop:=
 ∀(raw:Bool) (f:FuncId) (as:List AV) (h:Bc) (Q:AV×Bc->Prop),(call raw (.fn f) as h).all Q->
  (∃ fn, P.funcs[f]? = some fn ∧ (fn.name == "runtime.NumGoroutine") = false ∧ fn.body.isNone = false) ∧
  ∀(M:Mem) (L:Lay) (w:World) (vs:Array Value),HR P M L w h->VRs M L as vs->
   Calls P f vs w fun en w'=>∃cv,en = .returned cv/\Good P M L w h Q w' cv
def Aqn (P:Program) (call:Bf):Prop:=
 ∀(raw:Bool) (key ver:Nat) (as:List AV) (h:Bc) (Q:AV×Bc->Prop),(call raw (.yld key ver) as h).all Q->
  ∀(M:Mem) (L:Lay) (w:World) (vs:Array Value) (info:Info),HR P M L w h->VRs M L as vs->L key ver=some info->
   ∃lr:Loop,w.heap[info.blk]? = some (.loop lr)/\vs.size=lr.params.size/\
    RoundIn Fence.wide 0 P info.blk lr.fn ((lr.params.zip vs).foldl (fun tmps (t,a)=>tmps.setIfInBounds t a) lr.tmps) lr.assign lr.body w
     fun en w'=>∃cv,en = .returned cv/\Good P M L w h Q w' cv
structure CallOk (P:Program) (call:Bf):Prop where
 fn:Avn P call
 yld:Aqn P call
def Avq (P:Program) (M:Mem) (L:Lay) (w:World) (h:Bc) (a:Act) (o:Oper) (Q:AV×Bc->Prop):Prop:=
 OpOk P M L w h a o Q\/(∃f vs,(execOp a.eval o).run P w = .ok (.enter f vs) w/\Calls P f vs w fun en w'=>∃cv,en = .returned cv/\Good P M L w h Q w' cv)\/
  ∃l f tmps x y,(execOp a.eval o).run P w = .ok (.round l f tmps x y) w/\RoundIn Fence.wide 0 P l f tmps x y w fun en w'=>∃cv,en = .returned cv/\Good P M L w h Q w' cv
theorem A6e {byr:FuncId->Bool} {o:Oper} {op:IOp} (hc:cOp P byr o=some op):∀c,o.op ≠ .defer c:=by
 intro c ho
 unfold cOp at hc
 rw [ho] at hc
 cases hc
theorem VRs.append {as bs:List AV} {vs us:Array Value} (h1:VRs M L as vs) (h2:VRs M L bs us):VRs M L (as++bs) (vs++us):=by
 refine ⟨by simp [h1.1,h2.1],fun i x v hx hv => ?_⟩
 by_cases hi:i<as.length
 ·rw [List.getElem?_append_left hi] at hx
  rw [Array.getElem?_append_left (by rw [<-h1.1]; exact hi)] at hv
  exact h1.2 i x v hx hv
 ·rw [List.getElem?_append_right (by omega)] at hx
  rw [Array.getElem?_append_right (by rw [<-h1.1]; omega),<-h1.1] at hv
  exact h2.2 _ x v hx hv
theorem Oh {f : FuncId} {fn : Func} {args : Array Value} (hf : P.funcs[f]? = some fn) (hn : (fn.name == "runtime.NumGoroutine") = false) (hb : fn.body.isNone = false) :
  (callFunc f args).run P w = .ok (.enter f args) w:=by
 simp only [callFunc,Sem.run_bind,run_program,Result.andThen_ok,hf,hn,hb,Bool.false_eq_true,if_false,Sem.run_pure]
theorem B2p (hr:HR P M L w h) (hE:ER M L e a) {call:Bf} (hcall:CallOk P call) (key:Nat) {o:Oper} {op:IOp} {byr:FuncId->Bool} (hc:cOp P byr o=some op)
  (hq:(Bd call key op e h).all Q):Avq P M L w h a o Q:=by
 unfold cOp at hc
 cases hop:o.op with
 | move x =>
  simp only [hop,Option.map_eq_some_iff] at hc
  obtain ⟨ix,hx,rfl⟩:=hc
  exact .inl (Aor hr hE call key (.inl hop) hx hq)
 | assign x =>
  simp only [hop,Option.map_eq_some_iff] at hc
  obtain ⟨ix,hx,rfl⟩:=hc
  exact .inl (Aor hr hE call key (.inr hop) hx hq)
 | pick c x y =>
  simp only [hop,Option.bind_eq_some_iff,Option.map_eq_some_iff] at hc
  obtain ⟨ic,hic,ix,hx,iy,hy,rfl⟩:=hc
  exact .inl (Atz hr hE call key hop hic hx hy hq)
 | alloc t =>
  simp only [hop] at hc
  split at hc
  ·simp only [Option.map_eq_some_iff] at hc
   obtain ⟨z,hz,rfl⟩:=hc
   exact .inl (Amk hr call key hop hz hq)
  ·cases hc
 | box t x =>
  simp only [hop] at hc
  split at hc
  ·simp only [Option.map_eq_some_iff] at hc
   obtain ⟨ix,hx,rfl⟩:=hc
   exact .inl (Axy hr hE call key hop hx hq)
  ·cases hc
 | build t parts =>
  simp only [hop,Option.bind_eq_some_iff] at hc
  obtain ⟨z,hz,hc⟩:=hc
  split at hc
  ·next fs hu =>
   split at hc
   ·cases hc
   ·next hall =>
    simp only [Option.map_eq_some_iff] at hc
    obtain ⟨ps,hm,rfl⟩:=hc
    exact .inl (A8e hr hE call key hop hz (.inl ⟨fs,hu,by simpa only [Bool.not_eq_true',Bool.not_eq_false] using hall,hm⟩) hq)
  ·next n el hu =>
   split at hc
   ·cases hc
   ·next hall =>
    simp only [Option.map_eq_some_iff] at hc
    obtain ⟨ps,hm,rfl⟩:=hc
    exact .inl (A8e hr hE call key hop hz (.inr ⟨n,el,hu,by simpa only [Bool.not_eq_true',Bool.not_eq_false] using hall,hm⟩) hq)
  ·cases hc
 | buildSlice t len parts =>
  simp only [hop] at hc
  split at hc
  ·next el hu =>
   simp only [Option.bind_eq_some_iff] at hc
   obtain ⟨g,hg,z,hz,hc⟩:=hc
   split at hc
   ·next hcond =>
    obtain ⟨c1,c2,c3⟩:=hcond
    simp only [Option.bind_eq_some_iff] at hc
    obtain ⟨ps,hm,hc⟩:=hc
    split at hc
    ·cases hc
     exact .inl (A5g hr hE call key hop hu hg hz c1 c2 c3 hm hq)
    ·split at hc
     ·cases hc
      exact .inl (A2r hr hE call key hop hu hg hz c1 c2 c3 hm hq)
     ·cases hc
   ·cases hc
  ·cases hc
 | load t x =>
  simp only [hop,Option.bind_eq_some_iff,Option.map_eq_some_iff] at hc
  obtain ⟨g,hg,ix,hx,rfl⟩:=hc
  exact .inl (Atx hr hE call key hop hg hx hq)
 | store t x y =>
  simp only [hop,Option.bind_eq_some_iff,Option.map_eq_some_iff] at hc
  obtain ⟨g,hg,ix,hx,iy,hy,rfl⟩:=hc
  exact .inl (Amt hr hE call key hop hg hx hy hq)
 | nilCheck x =>
  simp only [hop,Option.map_eq_some_iff] at hc
  obtain ⟨ix,hx,rfl⟩:=hc
  exact .inl (Abc hr hE call key hop hx hq)
 | binOp op' t x y t2 =>
  simp only [hop] at hc
  split at hc
  ·next hn =>
   simp only [Option.map_eq_some_iff] at hc
   obtain ⟨ix,hx,rfl⟩:=hc
   exact .inl (Amp hr hE call key hop hx hn hq)
  simp only [Option.bind_eq_some_iff] at hc
  obtain ⟨ix,hx,iy,hy,hc⟩:=hc
  split at hc
  ·cases hc; exact .inl (Axx hr hE call key hop hx hy hq)
  ·next hu =>
   split at hc
   ·cases hc; exact .inl (Ait hr hE call key hop hx hy (.inl ⟨rfl,rfl⟩) hu hq)
   ·cases hc; exact .inl (Ait hr hE call key hop hx hy (.inr ⟨rfl,rfl⟩) hu hq)
   ·cases hc
  ·split at hc
   ·next hio =>
    split at hc
    ·cases hc; exact .inl (Sk hr hE call key hop hx hy (.inl ⟨rfl,rfl⟩) hio hq)
    ·cases hc; exact .inl (Sk hr hE call key hop hx hy (.inr ⟨rfl,rfl⟩) hio hq)
    ·cases hc
   ·cases hc
  ·split at hc
   ·next hio =>
    split at hc
    ·cases hc; exact .inl (Sk hr hE call key hop hx hy (.inl ⟨rfl,rfl⟩) hio hq)
    ·cases hc; exact .inl (Sk hr hE call key hop hx hy (.inr ⟨rfl,rfl⟩) hio hq)
    ·cases hc
   ·cases hc
  ·cases hc
 | unOp op' t x =>
  simp only [hop,Option.map_eq_some_iff] at hc
  obtain ⟨ix,hx,rfl⟩:=hc
  exact .inl (B2o hr hE call key hop hx hq)
 | convert s d x =>
  simp only [hop] at hc
  split at hc
  ·next k hd =>
   simp only [Option.bind_eq_some_iff,Option.map_eq_some_iff] at hc
   obtain ⟨ds,hs,ix,hx,rfl⟩:=hc
   exact .inl (Atu hr hE call key hop hd ⟨ds,hs⟩ hx hq)
  ·cases hc
 | makeFunc fn first captured =>
  cases fn with
  | func f =>
   simp only [hop,Option.bind_eq_some_iff,Option.map_eq_some_iff] at hc
   obtain ⟨i1,h1,i2,h2,rfl⟩:=hc
   exact .inl (Aiv hr hE call key hop h1 h2 hq)
  | method _=>simp [hop] at hc
  | methodOf _ _=>simp [hop] at hc
  | via _ _ _ _=>simp [hop] at hc
  | yield _=>simp [hop] at hc
 | makeSlice t l c =>
  simp only [hop] at hc
  split at hc
  ·next el hu =>
   simp only [Option.bind_eq_some_iff] at hc
   obtain ⟨g,hg,z,hz,il,hl,ic,hic,hc⟩:=hc
   split at hc
   ·next hcond =>
    obtain ⟨_,c2,c3,c4⟩:=hcond
    cases hc
    split at hq
    ·exact .inl (Abb hr hE call key hop hu hg hz c2 hl hic c3 c4 hq)
    ·exact .inl (Aes hr hE call key hop hu hg hz c2 hl hic c3 c4 hq)
   ·cases hc
  ·cases hc
 | slice t x lo hi mx =>
  simp only [hop,Option.bind_eq_some_iff] at hc
  obtain ⟨ix,hx,il,hlo,ih,hhi,im,hmx,hc⟩:=hc
  split at hc
  ·next el hu =>
   simp only [Option.bind_eq_some_iff] at hc
   obtain ⟨g,hg,hc⟩:=hc
   split at hc
   ·next hpos =>
    cases hc
    split at hq
    ·exact .inl (Aix hr hE call key hop hu hg hpos hx hlo hhi hmx hq)
    ·exact .inl (Ams hr hE call key hop hu hg hpos hx hlo hhi hmx hq)
   ·cases hc
  ·next n el hu =>
   simp only [Option.bind_eq_some_iff] at hc
   obtain ⟨g,hg,hc⟩:=hc
   split at hc
   ·next hpos=>cases hc; exact .inl (Aiw hr hE call key hop hu hg hpos hx hlo hhi hmx hq)
   ·cases hc
  ·cases hc
 | fieldAddr s x n =>
  simp only [hop] at hc
  split at hc
  ·next fs hu =>
   simp only [Option.bind_eq_some_iff] at hc
   obtain ⟨f,hf,hc⟩:=hc
   split at hc
   ·next hz =>
    simp only [Option.map_eq_some_iff] at hc
    obtain ⟨ix,hx,rfl⟩:=hc
    exact .inl (A8f hr hE call key hop hu hf hz hx hq)
   ·cases hc
  ·cases hc
 | field s x n =>
  simp only [hop] at hc
  split at hc
  ·next fs hu =>
   simp only [Option.bind_eq_some_iff,Option.map_eq_some_iff] at hc
   obtain ⟨f,hf,g,hg,ix,hx,rfl⟩:=hc
   exact .inl (Amn hr hE call key hop hu hf hg hx hq)
  ·cases hc
 | indexAddr t x i =>
  simp only [hop] at hc
  split at hc
  ·next el hu =>
   split at hc
   ·next hz =>
    simp only [Option.bind_eq_some_iff,Option.map_eq_some_iff] at hc
    obtain ⟨ix,hx,ii,hi,rfl⟩:=hc
    exact .inl (A8g hr hE call key hop hu hz hx hi hq)
   ·cases hc
  ·next n el hu =>
   split at hc
   ·next hz =>
    simp only [Option.bind_eq_some_iff,Option.map_eq_some_iff] at hc
    obtain ⟨ix,hx,ii,hi,rfl⟩:=hc
    exact .inl (A5i hr hE call key hop hu hz hx hi hq)
   ·cases hc
  ·cases hc
 | index t x i =>
  simp only [hop] at hc
  split at hc
  ·next n el hu =>
   simp only [Option.bind_eq_some_iff,Option.map_eq_some_iff] at hc
   obtain ⟨g,hg,ix,hx,ii,hi,rfl⟩:=hc
   exact .inl (Amo hr hE call key hop hu hg hx hi hq)
  ·next hu =>
   split at hc
   ·simp only [Option.map_eq_some_iff] at hc
    obtain ⟨ii,hi,rfl⟩:=hc
    exact .inl (Aiy hr hE call key hop hu hi hq)
   ·cases hc
  ·cases hc
 | extract x i =>
  simp only [hop,Option.map_eq_some_iff] at hc
  obtain ⟨ix,hx,rfl⟩:=hc
  exact .inl (Aer hr hE call key hop hx hq)
 | makeMap t r =>
  simp only [hop] at hc
  split at hc
  ·next hcond =>
   cases hc
   have:r=none:=by simpa using hcond.2
   subst this
   exact .inl (Amq hr call key hop hq)
  ·cases hc
 | lookup t x k ok =>
  simp only [hop] at hc
  split at hc
  ·next kt et hu =>
   simp only [Option.bind_eq_some_iff,Option.map_eq_some_iff] at hc
   obtain ⟨kn,hkn,z,hz,ix,hx,ik,hk,rfl⟩:=hc
   exact .inl (Aiu hr hE call key hop hu hkn hz hx hk hq)
  ·cases hc
 | mapUpdate t m k x =>
  simp only [hop] at hc
  split at hc
  ·next kt et hu =>
   simp only [Option.bind_eq_some_iff,Option.map_eq_some_iff] at hc
   obtain ⟨kn,hkn,im,hm,ik,hk,ix,hx,rfl⟩:=hc
   exact .inl (Wr hr hE call key (.inl hop) hu hkn hm hk hx hq)
  ·cases hc
 | insert t m k x =>
  simp only [hop] at hc
  split at hc
  ·next kt et hu =>
   simp only [Option.bind_eq_some_iff,Option.map_eq_some_iff] at hc
   obtain ⟨kn,hkn,im,hm,ik,hk,ix,hx,rfl⟩:=hc
   exact .inl (Wr hr hE call key (.inr hop) hu hkn hm hk hx hq)
  ·cases hc
 | mapEntry t m k =>
  simp only [hop] at hc
  split at hc
  ·next kt et hu =>
   simp only [Option.bind_eq_some_iff,Option.map_eq_some_iff] at hc
   obtain ⟨kn,hkn,z,hz,im,hm,ik,hk,rfl⟩:=hc
   exact .inl (Aba hr hE call key hop hu hkn hz hm hk hq)
  ·cases hc
 | entryStore t m s x =>
  simp only [hop] at hc
  split at hc
  ·next kt et hu =>
   simp only [Option.bind_eq_some_iff,Option.map_eq_some_iff] at hc
   obtain ⟨im,hm,is,hs,ix,hx,rfl⟩:=hc
   exact .inl (A5h hr hE call key hop hu hm hs hx hq)
  ·cases hc
 | range t x =>
  simp only [hop] at hc
  split at hc
  ·next kt et hu =>
   split at hc
   ·simp only [Option.map_eq_some_iff] at hc
    obtain ⟨ix,hx,rfl⟩:=hc
    exact .inl (Amr hr hE call key hop hu hx hq)
   ·cases hc
  ·cases hc
 | next x isS =>
  cases isS with
  | true=>simp [hop] at hc
  | false =>
   simp only [hop,Option.map_eq_some_iff] at hc
   obtain ⟨ix,hx,rfl⟩:=hc
   exact .inl (Aty hr hE call key hop hx hq)
 | entry x =>
  simp only [hop,Option.map_eq_some_iff] at hc
  obtain ⟨ix,hx,rfl⟩:=hc
  exact .inl (Amm hr hE call key hop hx hq)
 | call c =>
  obtain ⟨callee,cargs,ats⟩:=c
  simp only [hop] at hc
  cases callee with
  | invoke r m=>simp at hc
  | value f =>
   cases f with
   | const v=>simp at hc
   | global g=>simp at hc
   | func f =>
    simp only [Option.map_eq_some_iff] at hc
    obtain ⟨xs,hxs,rfl⟩:=hc
    simp only [Bd] at hq
    have hv:=Lm hE hxs
    obtain ⟨⟨fn,hf,hn,hb⟩,hcl⟩:=hcall.fn _ f _ h Q hq
    refine .inr (.inl ⟨f,cargs.map a.eval,?_,hcl M L w _ hr hv⟩)
    simp [execOp,hop,resolve,invoke,Act.eval,Deferred.ofValue,Oh hf hn hb]
   | tmp t =>
    simp only [Option.map_eq_some_iff] at hc
    obtain ⟨xs,hxs,rfl⟩:=hc
    have hv:=Lm hE hxs
    have hfv:=hE t
    simp only [Bd,IX.ev] at hq
    generalize Bs e t=fv at hfv hq
    generalize hcv:a.tmps.getD t undef=cv at hfv
    split at hq
    ·next g fst cpt =>
     cases hfv with
     | @clo _ _ _ vf vc hl hk hh1 hh2 =>
      obtain ⟨⟨fn,hf,hn,hb⟩,hcl⟩:=hcall.fn _ _ _ h Q hq
      have hvv:=(VRs.append (VRs.append (⟨hl,hh1⟩:VRs M L fst vf) hv) (⟨hk,hh2⟩:VRs M L cpt vc))
      refine .inr (.inl ⟨_,vf++cargs.map a.eval++vc,?_,hcl M L w _ hr hvv⟩)
      simp [execOp,hop,resolve,invoke,Act.eval,hcv,Deferred.ofValue,Oh hf hn hb]
    ·next k ver =>
     cases hfv with
     | @yld _ _ info hl =>
      obtain ⟨lr,hb,hsz,hround⟩:=hcall.yld _ _ _ _ h Q hq M L w _ info hr hv hl
      refine .inr (.inr ⟨_,_,_,_,_,?_,hround⟩)
      have hsz':¬(cargs.map a.eval).size≠lr.params.size:=by omega
      simp only [execOp,hop,resolve,invoke,Act.eval,hcv,Deferred.ofValue,Sem.run_bind,Sem.run_pure,Result.andThen_ok,Instr.yield,Instr.getLoop,getObj,Sem.run,hb,Result.andThen,hsz',if_false]
      simp [hcv,hb,Sem.run]
      simpa using hsz
    ·exact hq.elim
  | builtin b =>
   cases b with
   | len =>
    simp only at hc
    split at hc
    ·next el x hu hxs =>
     simp only [Option.bind_eq_some_iff] at hu
     obtain ⟨s,hs,hu⟩:=hu
     have hx1:cargs = #[x]:=by apply Array.ext'; simpa using hxs
     subst hx1
     simp only [Option.map_eq_some_iff] at hc
     obtain ⟨ix,hx,rfl⟩:=hc
     exact .inl (Aya hr hE call key hop hs hu hx hq)
    ·next n el x hu hxs =>
     simp only [Option.bind_eq_some_iff] at hu
     obtain ⟨s,hs,hu⟩:=hu
     have hx1:cargs = #[x]:=by apply Array.ext'; simpa using hxs
     subst hx1
     cases hc
     refine .inl (.pure hr (cv:=.int .i64 n) ?_ .int hq)
     simp [execOp,hop,resolve,invoke,builtin,Builtin.len_,hs,run_underlying hu,goInt]
    ·next kt et x hu hxs =>
     simp only [Option.bind_eq_some_iff] at hu
     obtain ⟨s,hs,hu⟩:=hu
     have hx1:cargs = #[x]:=by apply Array.ext'; simpa using hxs
     subst hx1
     simp only [Option.map_eq_some_iff] at hc
     obtain ⟨ix,hx,rfl⟩:=hc
     exact .inl (Atw hr hE call key hop hs hu hx hq)
    ·cases hc
    ·cases hc
   | cap =>
    simp only at hc
    split at hc
    ·next el x hu hxs =>
     simp only [Option.bind_eq_some_iff] at hu
     obtain ⟨s,hs,hu⟩:=hu
     have hx1:cargs = #[x]:=by apply Array.ext'; simpa using hxs
     subst hx1
     simp only [Option.map_eq_some_iff] at hc
     obtain ⟨ix,hx,rfl⟩:=hc
     exact .inl (Axz hr hE call key hop hs hu hx hq)
    ·cases hc
   | delete =>
    simp only at hc
    split at hc
    ·next kt et x k hu hxs =>
     simp only [Option.bind_eq_some_iff] at hu
     obtain ⟨s,hs,hu⟩:=hu
     have hx1:cargs = #[x,k]:=by apply Array.ext'; simpa using hxs
     subst hx1
     simp only [Option.bind_eq_some_iff,Option.map_eq_some_iff] at hc
     obtain ⟨kn,hkn,ix,hx,ik,hk,rfl⟩:=hc
     exact .inl (Ais hr hE call key hop hs hu hkn hx hk hq)
    ·cases hc
   | append =>
    simp only at hc
    split at hc
    ·next el kn x y hu hu2 hxs =>
     simp only [Option.bind_eq_some_iff] at hc
     obtain ⟨g,hg,z,hz,ix,hx,iy,hy,hc⟩:=hc
     split at hc
     ·next hcond =>
      obtain ⟨_,c2,c3,c4,c5,c6⟩:=hcond
      have hats:ats = #[ats.getD 0 0,ats.getD 1 0]:=by apply Array.ext'; simpa using c2
      have hx1:cargs = #[x,y]:=by apply Array.ext'; simpa using hxs
      generalize ats.getD 0 0=ty at hats
      generalize ats.getD 1 0=tn at hats
      subst hats
      subst hx1
      cases hc
      exact .inl (Aeq hr hE call key hop (by simpa using hu) (by simpa using hu2) hz c3 c6 c4 c5 hx hy hq)
     ·cases hc
    ·next el e2 x y hu hu2 hxs =>
     simp only [Option.bind_eq_some_iff] at hc
     obtain ⟨g,hg,z,hz,ix,hx,iy,hy,hc⟩:=hc
     split at hc
     ·next hcond =>
      obtain ⟨_,c2,c3,c4,c5,c6⟩:=hcond
      have hats:ats = #[ats.getD 0 0,ats.getD 0 0]:=by apply Array.ext'; simpa using c2
      have hx1:cargs = #[x,y]:=by apply Array.ext'; simpa using hxs
      generalize ats.getD 0 0=ty at hats
      subst hats
      subst hx1
      cases hc
      exact .inl (Aiq (t:=0) hr hE call key hop (by simpa using hu) hg hz c3 c6 c4 c5 hx hy hq)
     ·cases hc
    ·cases hc
   | copy =>
    simp only at hc
    split at hc
    ·next el x y hu hxs =>
     simp only [Option.bind_eq_some_iff] at hu
     obtain ⟨s,hs,hu⟩:=hu
     have hx1:cargs = #[x,y]:=by apply Array.ext'; simpa using hxs
     subst hx1
     simp only [Option.bind_eq_some_iff] at hc
     obtain ⟨g,hg,hc⟩:=hc
     split at hc
     ·next hpos =>
      simp only [Option.bind_eq_some_iff,Option.map_eq_some_iff] at hc
      obtain ⟨ix,hx,iy,hy,rfl⟩:=hc
      exact .inl (Atv hr hE call key hop hs hu hg hpos hx hy hq)
     ·cases hc
    ·cases hc
   | clear =>
    simp only at hc
    split at hc
    ·next el x hu hxs =>
     simp only [Option.bind_eq_some_iff] at hu
     obtain ⟨s,hs,hu⟩:=hu
     have hx1:cargs = #[x]:=by apply Array.ext'; simpa using hxs
     subst hx1
     split at hc
     ·next z hg hz =>
      simp only [Option.map_eq_some_iff] at hc
      obtain ⟨ix,hx,rfl⟩:=hc
      exact .inl (Aml hr hE call key hop hs hu hz hx hq)
     ·next n zs hg hz =>
      simp only [Option.map_eq_some_iff] at hc
      obtain ⟨ix,hx,rfl⟩:=hc
      exact .inl (Air hr hE call key hop hs hu hz hx hq)
     ·cases hc
    ·cases hc
   | max =>
    simp only [Option.map_eq_some_iff] at hc
    obtain ⟨xs,hxs,rfl⟩:=hc
    exact .inl (Ayb hr hE call key hop hxs hq)
   | min =>
    simp only [Option.map_eq_some_iff] at hc
    obtain ⟨xs,hxs,rfl⟩:=hc
    exact .inl (Ayc hr hE call key hop hxs hq)
   | _=>simp at hc
 | _=>simp [hop] at hc
end Go.Ev
