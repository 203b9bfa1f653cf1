/- The frame of a law: from what the evaluator answers to the row's step. No condition but those that stand in each. -/
import Derived.Test.YtbgodhhdojjbmaaGreatAEvWalk
import Derived.ProofKit
import Derived.Below
set_option linter.unusedSimpArgs false
set_option linter.unusedVariables false
namespace Go.Ev
open Go Go.RowKit Go.WideShapes Go.ChangeShapes
section
variable {H:Type} {enc:TypeId×Value->H} {P:Program}
theorem A5j {f:Func} {s:ChangeSpec} {Ow fresh handsOn again:Bool} {W W':World} {args:Array Value} {v:Value} {ds gs:List (DataW H)} {before pa pv:List MemPlace}
  (hW:DataW.Whole enc P f.params.toList s.vars Ow W args.toList ds gs before)
  (hres:∀(b:Nat) (sp:Nat->Bool) (hd:Bool),DataW.TrodAll enc P W' b sp hd f.resultTypes.toList (v.resultList f.resultTypes.size) (s.fn H (ds++gs)).results [])
  (hargs:∀sp:Nat->Bool,(∀p∈before,sp p.block=true)->DataW.TrodAll enc P W' 0 sp true f.params.toList args.toList (s.fn H (ds++gs)).args pa)
  (hvars:∀sp:Nat->Bool,(∀p∈before,sp p.block=true)->DataW.TrodVars enc P W' sp s.vars (s.fn H (ds++gs)).vars pv)
  (hps:before=pa++pv) (hb:Below W.heap.size W W')
  (hok:∀(j:Nat) (t:TypeId) (r:Value),f.resultTypes[j]? = some t->(v.resultList f.resultTypes.size)[j]? = some r->Value.okWide P W' .any 0 t r) :
  s.post enc P f Ow fresh handsOn again W args v W':=by
 have hlt:∀p∈before,p.block<W.heap.size:=fun p hp=>hW.lt p hp
 have hold:∀p∈before,(fun b=>decide (b<W.heap.size)) p.block=true:=fun p hp=>by simpa using hlt p hp
 refine ⟨ds,gs,before,[],pa,pv,hW,hres _ _ _,hargs _ hold,hvars _ hold,World.keptBut_mono (fun p hp=>⟨hp,?_⟩) (hb.frame (·∈before)),fun _ => ?_⟩
 ·rw [hps,List.mem_append] at hp
  exact Or.inr hp
 ·obtain ⟨_,_,_,_,_,hz,hn⟩:=hW
  refine ⟨hok,_,_,([]++pa)++pv,⟨[]++pa,pv,trodAll_append (hargs _ (fun _ _=>rfl)) (hres _ _ _),hvars _ (fun _ _=>rfl),rfl,?_,?_⟩,?_⟩
  ·intro b off hp
   have hin:MemPlace.cell b off∈before:=by rw [hps]; simpa using hp
   rw [hb.frozen (hlt _ hin)]
   exact hz b off hin
  ·intro ha
   have:=hn ha
   rw [hps] at this
   simpa using this
  ·intro p hp _
   rw [hps]
   simpa using hp
theorem Vh (hl:laidOutB P=true) {W W':World} {sp':Nat->Bool}:∀(ts:List TypeId) (vs:List Value) (ds:List (DataW H)) (ps:List MemPlace),
  (∀t∈ts,P.readableRec t=true/\t<P.types.size)->DataW.TrodAll enc P W 0 (fun _=>true) true ts vs ds ps->(∀p∈ps,W.sameAt W' p)->(∀p∈ps,sp' p.block=true)->DataW.TrodAll enc P W' 0 sp' true ts vs ds ps
 | [],[],[],ps,_,h,_,_=>h
 | t::ts,v::vs,d::ds,ps,ht,h,hsame,hs=>by
  obtain ⟨p,q,h1,h2,rfl⟩:=h
  exact ⟨p,q,WideElems.Trod_stays hl (ht t List.mem_cons_self).1 (ht t List.mem_cons_self).2 h1 (fun x hx=>hsame x (by simp [hx])) (fun x hx=>hs x (by simp [hx])),
   Vh hl ts vs ds q (fun t h=>ht t (List.mem_cons_of_mem _ h)) h2 (fun x hx=>hsame x (by simp [hx])) (fun x hx=>hs x (by simp [hx])),rfl⟩
 | [],_::_,_,_,_,h,_,_=>h.elim
 | [],[],_::_,_,_,h,_,_=>h.elim
 | _::_,[],_,_,_,h,_,_=>h.elim
 | _::_,_::_,[],_,_,h,_,_=>h.elim
theorem Anb {f:Func} {s:ChangeSpec} {W W':World} {args:Array Value} {ds gs:List (DataW H)} {before:List MemPlace} {tb:TypeId}
  (hW:DataW.Whole enc P f.params.toList s.vars false W args.toList ds gs before) (hvars:s.vars=[]) (hsp:s.fn H ds={ results:=[.lit (.bool true)],args:=ds })
  (hl:laidOutB P=true) (hp:∀t∈f.params.toList,P.readableRec t=true/\t<P.types.size) (hr:f.resultTypes = #[tb]) (ht:P.underlying tb=some .bool) (hb:Below W.heap.size W W') :
  s.post enc P f false true false false W args (.bool true) W':=by
 have hW':=hW
 obtain ⟨p,q,hA,hV,rfl,hfz,hnd⟩:=hW
 have hgq:gs=[]/\q=[]:=by
  rw [hvars] at hV
  cases gs with
  | nil=>exact ⟨rfl,hV⟩
  | cons a b=>exact hV.elim
 obtain ⟨rfl,rfl⟩:=hgq
 refine A5j (pa:=p) (pv:=[]) hW' ?_ ?_ ?_ rfl hb ?_
 ·intro b sp hd
  rw [List.append_nil,hsp,hr]
  exact trodAll_mk1 (shut_bool ht true)
 ·intro sp hs
  rw [List.append_nil,hsp]
  exact Vh hl _ _ _ _ hp hA (fun x hx=>hb.same (hW'.lt x (by simpa using hx))) fun x hx=>hs x (by simpa using hx)
 ·intro sp _
  rw [List.append_nil,hsp,hvars]
  rfl
 ·exact ok_one hr rfl (okWide_bool_mk ht _)
theorem Agq {cfg:Cfg} (hcfg:A5n P cfg) {byr:FuncId->FuncId->Bool} (hm:P.follows .mixedOrders=true) (n:Nat) {f:FuncId} {ifn:IFunc} (hf:(Bm P byr).fns f=some ifn) (as:List AV) (vs:Array Value) (w:World) (hl:as.length=vs.size)
  (hv:∀(i:Nat) x v,as[i]? = some x->vs[i]? = some v->FR (fun b=>w.heap[b]?) x v) (hq:(Dw (Bg cfg n) ifn as []).all fun p=>p.1 = .bool true) :
  Calls P f vs w fun en w'=>en = .returned (.bool true)/\Below w.heap.size w w':=by
 refine (Akt (R:=fun v=>v = .bool true) hcfg hm n hf as vs w hl hv hq).mono ?_
 rintro en w' ⟨cv,v,rfl,rfl,hso,hsz,hk,M',L',hvr⟩
 cases hvr
 exact ⟨rfl,hso.os,hso.tape,hso.output,hsz,hk⟩
variable {w:World} {base:Nat} {sp:Nat->Bool} {held:Bool}
theorem A3q {w:World} {a:Addr} {v:Value} (h:w.cell? a=some v):∃cs t fz,w.heap[a.block]? = some (.cells cs t fz)/\a.spot=none/\cs[a.off]? = some v:=by
 unfold World.cell? at h
 split at h
 ·next c t fz he =>
  split at h
  ·cases h
  ·next hs=>exact ⟨c,t,fz,he,by simpa using hs,h⟩
 ·cases h
theorem Ym {A:Type} {Q:Nat->A->Prop}:∀n:Nat,(∀i,i<n->∃a,Q i a)->∃l:List A,l.length=n/\∀i a,l[i]? = some a->Q i a
 | 0,_=>⟨[],rfl,by simp⟩
 | n+1,h=>by
  obtain ⟨l,hl,hq⟩:=Ym n fun i hi=>h i (by omega)
  obtain ⟨a,ha⟩:=h n (by omega)
  refine ⟨l++[a],by simp [hl],fun i b hb => ?_⟩
  by_cases hi:i<n
  ·rw [List.getElem?_append_left (by omega)] at hb
   exact hq i b hb
  ·rw [List.getElem?_append_right (by omega)] at hb
   have:i-l.length=0:=by
    have:=(List.getElem?_eq_some_iff.1 hb).1
    simp at this
    omega
   rw [this] at hb
   obtain rfl:i=n:=by omega
   simp at hb
   exact hb ▸ ha
def ivs (l:List (IntKind×Int)):List AV:=l.map fun p => .int p.1 p.2
theorem Acz {A:Type} (cells:A->List (IntKind×Int)) {m:Nat} {w:World} {a:Addr}:∀(l:List A) (s:Nat),(∀b∈l,(cells b).length=m)->
  (∀i b,l[i]? = some b->∀r p,(cells b)[r]? = some p->w.cell? (a.add ((s+i)*m+r))=some (.int p.1 p.2))->
  ∀(j:Nat) (c:AV),(l.flatMap fun b=>ivs (cells b))[j]? = some c->∃k n,c = .int k n/\w.cell? (a.add (s*m+j))=some (.int k n)
 | [],_,_,_,j,c,h=>by simp at h
 | b::l,s,hm,hq,j,c,h=>by
  have hb:(ivs (cells b)).length=m:=by simp [ivs,hm b List.mem_cons_self]
  rw [List.flatMap_cons] at h
  by_cases hj:j<m
  ·rw [List.getElem?_append_left (by omega)] at h
   simp only [ivs,List.getElem?_map,Option.map_eq_some_iff] at h
   obtain ⟨p,hp,rfl⟩:=h
   exact ⟨p.1,p.2,rfl,by simpa using hq 0 b rfl j p hp⟩
  ·rw [List.getElem?_append_right (by omega),hb] at h
   obtain ⟨k,n,rfl,hn⟩:=Acz cells l (s+1) (fun x hx=>hm x (List.mem_cons_of_mem _ hx)) (fun i x hx r p hp=>by
    have:=hq (i+1) x (by simpa using hx) r p hp
    rwa [show s+1+i=s+(i+1) by omega]) (j-m) c h
   refine ⟨k,n,rfl,?_⟩
   rwa [show (s+1)*m+(j-m)=s*m+j by rw [Nat.succ_mul]; omega] at hn
def A1q (g:Option Nat) (l:List (IntKind×Int)):AV:=
 match g with
 | none=>(ivs l).headD .undef
 | some _ => .agg (ivs l)
theorem A4c {A:Type} (cells:A->List (IntKind×Int)) (g:Option Nat):∀(l:List A),(∀b∈l,(cells b).length=Be g)->Ek g (l.map fun a=>A1q g (cells a))=l.flatMap fun b=>ivs (cells b)
 | [],_=>by cases g <;> rfl
 | b::l,h=>by
  have ih:=A4c cells g l fun x hx=>h x (List.mem_cons_of_mem _ hx)
  cases g with
  | none =>
   simp only [Ek,List.map_cons,List.flatMap_cons] at ih ⊢
   rw [ih]
   have hb:=h b List.mem_cons_self
   simp only [Be] at hb
   match hc:cells b,hb with
   | [p],_=>rfl
  | some n =>
   simp only [Ek,List.map_cons,List.flatMap_cons] at ih ⊢
   rw [ih]
   rfl
theorem Aja {t e:TypeId} (g:Option Nat) {r:Reach} {b0:Nat} {v:Value} {d:DataW H} {ps:List MemPlace} {A:Type} (cells:A->List (IntKind×Int)) (Good:A->Prop) (ht:P.underlying t=some (.slice e)) (hc:P.cellsOf e=Be g) (hg:0<Be g)
  (hel:∀fuel cs x,DataW.trod enc P w base sp held fuel e cs=some x->∃a,cs=(cells a).map (fun p => .int p.1 p.2)/\(cells a).length=Be g/\Good a)
  (hval:Value.okWide P w r b0 t v) (h:DataW.Trod enc P w base sp held t v d ps) :
  ∃l:List A,FR (fun b=>w.heap[b]?) (.slice g (l.map fun a=>A1q g (cells a)) false) v/\(∀a∈l,Good a)/\l.length<=maxLen:=by
 obtain ⟨a0,len0,cap0,rfl⟩:=okWide_slice ht hval
 obtain ⟨fuel,h⟩:=h
 rcases DataW.trod_slice ht h with ⟨h0,_⟩ | ⟨a,len,cap,elems,rest,n,_,hcs,_,hb,hlc,hm,hlen,hrow,_,_⟩
 ·simp [Value.cells] at h0
  obtain ⟨rfl,rfl,rfl⟩:=h0
  exact ⟨[],.empty (by simp),by simp,by simp⟩
 ·simp [Value.cells] at hcs
  obtain ⟨rfl,rfl,rfl⟩:=hcs
  obtain ⟨l,hl,hq⟩:=Ym (Q:=fun i a'=>(∀r p,(cells a')[r]? = some p->w.cell? (a.add (i*Be g+r))=some (.int p.1 p.2))/\(cells a').length=Be g/\Good a') len0 fun i hi=>by
   have h1:=hrow i hi
   rw [List.getElem?_eq_getElem (by omega),hc,Option.bind_eq_some_iff] at h1
   obtain ⟨cs',h2,h3⟩:=h1
   obtain ⟨a',rfl,h5,h6⟩:=hel _ _ _ h3
   refine ⟨a',fun r p hp => ?_,h5,h6⟩
   obtain ⟨_,h7,h8⟩:=World.cells?_some h2
   have hr:r<Be g:=by rw [<-h5]; exact (List.getElem?_eq_some_iff.1 hp).1
   have:=h8 r hr
   rw [List.getElem?_map,hp,Option.map_some] at this
   rw [<-this]
   congr 1
   simp only [Addr.add]
   (repeat' split) <;> first | omega | simp_all [Nat.add_assoc]
  have hmem:∀b∈l,(cells b).length=Be g/\Good b:=fun b hb=>by
   obtain ⟨i,hi⟩:=List.getElem?_of_mem hb
   exact (hq i b hi).2
  refine ⟨l,?_,fun b hb=>(hmem b hb).2,by omega⟩
  have hall:=Acz cells (m:=Be g) (w:=w) (a:=a) l 0 (fun b hb=>(hmem b hb).1) (fun i b hib r p hp=>by simpa using (hq i b hib).1 r p hp)
  by_cases h0:l=[]
  ·subst h0
   obtain rfl:len0=0:=by simpa using hl.symm
   exact .empty (by simp)
  ·have hflat:=A4c cells g l fun b hb=>(hmem b hb).1
   have hne:∃c,(l.flatMap fun b=>ivs (cells b))[0]? = some c:=by
    cases l with
    | nil=>exact (h0 rfl).elim
    | cons b l =>
     rw [List.flatMap_cons,List.getElem?_append_left (by simp [ivs,(hmem b List.mem_cons_self).1,hg])]
     exact ⟨_,List.getElem?_eq_getElem (by simp [ivs,(hmem b List.mem_cons_self).1,hg])⟩
   obtain ⟨c,hc0⟩:=hne
   obtain ⟨k0,n0,_,hcell⟩:=hall 0 c hc0
   obtain ⟨cs,tt,fz,hheap,hspot,_⟩:=A3q hcell
   have hall':∀(j:Nat) (c:AV),(l.flatMap fun b=>ivs (cells b))[j]? = some c->∃k n,c = .int k n/\cs[a.off+j]? = some (.int k n):=fun j c hj=>by
    obtain ⟨k,n,e1,e2⟩:=hall j c hj
    obtain ⟨cs',tt',fz',f1,f2,f3⟩:=A3q e2
    rw [ChangeShapes.block_add] at f1
    rw [ChangeShapes.block_add] at hheap
    rw [hheap] at f1
    cases f1
    refine ⟨k,n,e1,?_⟩
    rw [<-f3]
    congr 1
    simp only [Addr.add]
    split <;> simp_all
   rw [ChangeShapes.block_add] at hheap
   have ha:a=⟨a.block,a.off,none⟩:=by
    have:(a.add (0*Be g+0))=a:=by simp [Addr.add]
    rw [this] at hspot
    cases a
    simp_all
   rw [ha,<-hl]
   have hlen':l.length=(l.map fun a=>A1q g (cells a)).length:=by simp
   rw [hlen']
   refine .slice (f:=fun i=>(cs[a.off+i]?).getD .nilFunc) hheap (by simp) (by rw [<-hlen']; omega) ?_ ?_ ?_ ?_
   ·intro x hx
    obtain ⟨b,hb,rfl⟩:=List.mem_map.1 hx
    have:=(hmem b hb).1
    cases g with
    | none =>
     simp only [A1q,Ju]
     match hcc:cells b,this with
     | [p],_=>rfl
    | some n=>simp [A1q,Ju,ivs,this,Be]
   ·intro i c hi
    rw [hflat] at hi
    obtain ⟨k,n,rfl,h2⟩:=hall' i c hi
    rw [h2]; rfl
   ·intro i c hi
    rw [hflat] at hi
    obtain ⟨k,n,rfl,h2⟩:=hall' i c hi
    simp only [h2,Option.getD_some]
    rfl
   ·intro i c hi
    rw [hflat] at hi
    obtain ⟨k,n,rfl,h2⟩:=hall' i c hi
    simp only [h2,Option.getD_some]
    exact .int
theorem Abd {t e:TypeId} {k:IntKind} {r:Reach} {b0:Nat} {v:Value} {d:DataW H} {ps:List MemPlace} (ht:P.underlying t=some (.slice e)) (he:P.underlying e=some (.int k)) (hc:P.cellsOf e=1)
  (hval:Value.okWide P w r b0 t v) (h:DataW.Trod enc P w base sp held t v d ps) :
  ∃l:List Int,FR (fun b=>w.heap[b]?) (.slice none (l.map (.int k)) false) v/\(∀n∈l,(Lit.int k n).wf=true)/\l.length<=maxLen:=
 Aja none (fun n:Int=>[(k,n)]) (fun n=>(Lit.int k n).wf=true) ht hc (by simp [Be]) (fun fuel cs x hx=>by
  obtain ⟨n,rfl,_,hw⟩:=DataW.trod_int he hx
  exact ⟨n,rfl,rfl,hw⟩) hval h
end
end Go.Ev
