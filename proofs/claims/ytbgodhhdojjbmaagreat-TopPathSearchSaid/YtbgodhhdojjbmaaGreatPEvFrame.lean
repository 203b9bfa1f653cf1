/- The frame of a law: from what the evaluator answers to the row's step. No condition but those that stand in each. -/
import Derived.Test.YtbgodhhdojjbmaaGreatPEvWalk
import Derived.ProofKit
import Derived.Below
set_option linter.unusedSimpArgs false
set_option linter.unusedVariables false
namespace Go.Ev
open Go Go.RowKit Go.WideShapes Go.ChangeShapes
section
variable {H:Type} {enc:TypeId×Value->H} {P:Program}
theorem A5a {f:Func} {s:ChangeSpec} {Qc fresh handsOn again:Bool} {W W':World} {args:Array Value} {v:Value} {ds gs:List (DataW H)} {before pa pv:List MemPlace}
  (hW:DataW.Whole enc P f.params.toList s.vars Qc W args.toList ds gs before)
  (hres:∀(b:Nat) (sp:Nat->Bool) (hd:Bool),DataW.TrodAll enc P W' b sp hd f.resultTypes.toList (v.resultList f.resultTypes.size) (s.fn H (ds++gs)).results [])
  (hargs:∀sp:Nat->Bool,(∀p∈before,sp p.block=true)->DataW.TrodAll enc P W' 0 sp true f.params.toList args.toList (s.fn H (ds++gs)).args pa)
  (hvars:∀sp:Nat->Bool,(∀p∈before,sp p.block=true)->DataW.TrodVars enc P W' sp s.vars (s.fn H (ds++gs)).vars pv)
  (hps:before=pa++pv) (hb:Below W.heap.size W W')
  (hok:∀(j:Nat) (t:TypeId) (r:Value),f.resultTypes[j]? = some t->(v.resultList f.resultTypes.size)[j]? = some r->Value.okWide P W' .any 0 t r) :
  s.post enc P f Qc fresh handsOn again W args v W':=by
 have hlt:∀p∈before,p.block<W.heap.size:=fun p hp=>hW.lt p hp
 have hold:∀p∈before,(fun b=>decide (b<W.heap.size)) p.block=true:=fun p hp=>by simpa using hlt p hp
 refine ⟨ds,gs,before,[],pa,pv,hW,hres _ _ _,hargs _ hold,hvars _ hold,World.keptBut_mono (fun p hp=>⟨hp,?_⟩) (hb.frame (·∈before)),fun _ => ?_⟩
 ·rw [hps,List.mem_append] at hp
  exact Or.inr hp
 ·obtain ⟨_,_,_,_,_,hz,hn⟩:=hW
  refine ⟨hok,_,_,([]++pa)++pv,⟨[]++pa,pv,trodAll_append (hargs _ (fun _ _=>rfl)) (hres _ _ _),hvars _ (fun _ _=>rfl),rfl,?_,?_⟩,?_⟩
  ·intro b off hp
   have hin:MemPlace.cell b off∈before:=by rw [hps]; simpa using hp
   rw [hb.frozen (hlt _ hin)]
   exact hz b off hin
  ·intro ha
   have:=hn ha
   rw [hps] at this
   simpa using this
  ·intro p hp _
   rw [hps]
   simpa using hp
theorem Ut (hl:laidOutB P=true) {W W':World} {sp':Nat->Bool}:∀(ts:List TypeId) (vs:List Value) (ds:List (DataW H)) (ps:List MemPlace),
  (∀t∈ts,P.readableRec t=true/\t<P.types.size)->DataW.TrodAll enc P W 0 (fun _=>true) true ts vs ds ps->(∀p∈ps,W.sameAt W' p)->(∀p∈ps,sp' p.block=true)->DataW.TrodAll enc P W' 0 sp' true ts vs ds ps
 | [],[],[],ps,_,h,_,_=>h
 | t::ts,v::vs,d::ds,ps,ht,h,hsame,hs=>by
  obtain ⟨p,q,h1,h2,rfl⟩:=h
  exact ⟨p,q,WideElems.Trod_stays hl (ht t List.mem_cons_self).1 (ht t List.mem_cons_self).2 h1 (fun x hx=>hsame x (by simp [hx])) (fun x hx=>hs x (by simp [hx])),
   Ut hl ts vs ds q (fun t h=>ht t (List.mem_cons_of_mem _ h)) h2 (fun x hx=>hsame x (by simp [hx])) (fun x hx=>hs x (by simp [hx])),rfl⟩
 | [],_::_,_,_,_,h,_,_=>h.elim
 | [],[],_::_,_,_,h,_,_=>h.elim
 | _::_,[],_,_,_,h,_,_=>h.elim
 | _::_,_::_,[],_,_,h,_,_=>h.elim
theorem Ali {f:Func} {s:ChangeSpec} {W W':World} {args:Array Value} {ds gs:List (DataW H)} {before:List MemPlace} {tb:TypeId}
  (hW:DataW.Whole enc P f.params.toList s.vars false W args.toList ds gs before) (hvars:s.vars=[]) (hsp:s.fn H ds={ results:=[.lit (.bool true)],args:=ds })
  (hl:laidOutB P=true) (hp:∀t∈f.params.toList,P.readableRec t=true/\t<P.types.size) (hr:f.resultTypes = #[tb]) (ht:P.underlying tb=some .bool) (hb:Below W.heap.size W W') :
  s.post enc P f false true false false W args (.bool true) W':=by
 have hW':=hW
 obtain ⟨p,q,hA,hV,rfl,hfz,hnd⟩:=hW
 have hgq:gs=[]/\q=[]:=by
  rw [hvars] at hV
  cases gs with
  | nil=>exact ⟨rfl,hV⟩
  | cons a b=>exact hV.elim
 obtain ⟨rfl,rfl⟩:=hgq
 refine A5a (pa:=p) (pv:=[]) hW' ?_ ?_ ?_ rfl hb ?_
 ·intro b sp hd
  rw [List.append_nil,hsp,hr]
  exact trodAll_mk1 (shut_bool ht true)
 ·intro sp hs
  rw [List.append_nil,hsp]
  exact Ut hl _ _ _ _ hp hA (fun x hx=>hb.same (hW'.lt x (by simpa using hx))) fun x hx=>hs x (by simpa using hx)
 ·intro sp _
  rw [List.append_nil,hsp,hvars]
  rfl
 ·exact ok_one hr rfl (okWide_bool_mk ht _)
theorem Aes {cfg:Cfg} (hcfg:A5d P cfg) {byr:FuncId->FuncId->Bool} (hm:P.follows .mixedOrders=true) (n:Nat) {f:FuncId} {ifn:IFunc} (hf:(Bx P byr).fns f=some ifn) (as:List AV) (vs:Array Value) (w:World) (hl:as.length=vs.size)
  (hv:∀(i:Nat) x v,as[i]? = some x->vs[i]? = some v->FR (fun b=>w.heap[b]?) x v) (hq:(Do (Bf cfg n) ifn as []).all fun p=>p.1 = .bool true) :
  Calls P f vs w fun en w'=>en = .returned (.bool true)/\Below w.heap.size w w':=by
 refine (Aix (R:=fun v=>v = .bool true) hcfg hm n hf as vs w hl hv hq).mono ?_
 rintro en w' ⟨cv,v,rfl,rfl,hso,hsz,hk,M',L',hvr⟩
 cases hvr
 exact ⟨rfl,hso.os,hso.tape,hso.output,hsz,hk⟩
variable {w:World} {base:Nat} {sp:Nat->Bool} {held:Bool}
def ivs (l:List (IntKind×Int)):List AV:=l.map fun p => .int p.1 p.2
end
end Go.Ev
