/- A statement's operations, in whatever order: the evaluator's word on them is the model's. Code, functions, calls: what the evaluator answers is what the model's run hands back. No condition but those that stand in each. -/
import Derived.Test.YtbgodhhdojjbmaaGreatAEvOrder
set_option linter.unusedSimpArgs false
set_option linter.unusedVariables false
namespace Go.Ev
open Go
variable {P:Program} {M:Mem} {L:Lay} {w:World} {a:Act}
def Marks (M:Mem) (L:Lay) (w:World) (h:Bc) (b0:Nat) (ds:List Deferred):Prop:=
 ∃rs:List Nat,ds=rs.map (fun r=>{ target:=.collected r,args:=#[] })/\rs.Nodup/\∀r∈rs,b0<=r/\w.heap[r]? = some (.deferred (some []))/\¬Im h L r/\M r=none
theorem Marks.nil {h:Bc} {b0:Nat}:Marks M L w h b0 []:=⟨[],rfl,List.nodup_nil,fun r hr=>by cases hr⟩
theorem Marks.mono {M':Mem} {L':Lay} {w':World} {h h':Bc} {b0:Nat} {ds:List Deferred} (hf:Fr w h L M w' h' L' M') (hd:Marks M L w h b0 ds):Marks M' L' w' h' b0 ds:=by
 obtain ⟨rs,h1,h2,h3⟩:=hd
 refine ⟨rs,h1,h2,fun r hr => ?_⟩
 obtain ⟨g1,g2,g3,g4⟩:=h3 r hr
 have hlt:r<w.heap.size:=(Array.getElem?_eq_some_iff.1 g2).1
 refine ⟨g1,by rw [hf.kept r hlt g3]; exact g2,fun hi => ?_,?_⟩
 ·rcases hf.im r hi with hi | hi
  ·exact g3 hi
  ·omega
 ·cases hm:M' r with
  | none=>rfl
  | some o =>
   rcases hf.memNew r o hm with hh | hh
   ·rw [g4] at hh; cases hh
   ·omega
structure SR (P:Program) (M:Mem) (L:Lay) (w:World) (n b0:Nat) (s:St) (a:Act):Prop where
 hr:HR P M L w s.heap
 he:ER M L s.env a
 df:Marks M L w s.heap b0 a.defers
 sz:n<=a.tmps.size
theorem SR.put {n b0:Nat} {s:St} {M':Mem} {L':Lay} {w':World} {h':Bc} {v:AV} {cv:Value} {dst:Option Nat} (hs:SR P M L w n b0 s a) (hd:dst.getD 0<n) (hr:HR P M' L' w' h')
  (hf:Fr w s.heap L M w' h' L' M') (hv:VR M' L' v cv):SR P M' L' w' n b0 ⟨Bk s.env dst v,h'⟩ (a.put dst cv):=by
 have hM:=hf.mem
 have hL:=hf.lay
 refine ⟨hr,fun t => ?_,?_,?_⟩
 ·cases dst with
  | none=>exact (hs.he t).mono hM hL
  | some d =>
   have hdt:d<a.tmps.size:=Nat.lt_of_lt_of_le hd hs.sz
   simp only [Bk,Act.put]
   rw [Oz]
   by_cases h:d=t
   ·subst h
    rw [if_pos rfl]
    simp [Array.getD_eq_getD_getElem?,hdt]
    exact hv
   ·rw [if_neg h]
    have:(a.tmps.setIfInBounds d cv).getD t undef=a.tmps.getD t undef:=by
     simp [Array.getD_eq_getD_getElem?,h]
    rw [this]
    exact (hs.he t).mono hM hL
 ·have:(a.put dst cv).defers=a.defers:=by cases dst <;> rfl
  rw [this]
  exact hs.df.mono hf
 ·cases dst with
  | none=>exact hs.sz
  | some d=>simp [Act.put]; exact hs.sz
theorem Acs {call:Bf} (hcall:CallOk P call) {byr:FuncId->Bool} {r:Option Nat} {n b0 base i:Nat} {ops:Array Oper} {o:Oper} {s:St} {R:St->Prop} {K:Act->World->Prop} {Qx:Exit->Act->World->Prop}
  (ho:ops[i]? = some o) (hs:SR P M L w n b0 s a) (hq:(Bv call base (Rs P byr n ops o) s).all R)
  (hK:∀s' M' L' w' a',R s'->SR P M' L' w' n b0 s' a'->Fr w s.heap L M w' s'.heap L' M'->K a' w'):wpOpIn (W r) 0 P ops Qx i K a w:=by
 rw [Hx,Res.all_bind] at hq
 unfold Rs at hq
 split at hq
 ·simp only [Bl,Bd,Res.all] at hq
 ·next op hop =>
  split at hop
  ·next hdn =>
   have run:∀key,(Bd call key op s.env s.heap).all (fun p=>R ⟨Bk s.env o.dst p.1,p.2⟩)->o.wpIn (W r) 0 P a w K Qx:=by
    intro key hq'
    have fin:∀w' cv,Good P M L w s.heap (fun p=>R ⟨Bk s.env o.dst p.1,p.2⟩) w' cv->K (a.put o.dst cv) w':=by
     rintro w' cv ⟨v,h',M',L',h1,h2,h3,h4⟩
     exact hK _ _ _ _ _ h1 (hs.put hdn h2 h3 h4) h3
    refine ⟨fun _ _=>trivial,?_⟩
    rw [Oper.semAt_eq _ _ _ (A6e hop)]
    rcases B2p hs.hr hs.he hcall key hop hq' with ⟨cv,w',hrun,hgood⟩ | ⟨f,vs,hrun,hcl⟩ | ⟨l,f,tmps,x,y,hrun,hrd⟩
    ·rcases hrun with hrun | ⟨hrun,rfl⟩
     ·rw [hrun]; exact fin w' cv hgood
     ·rw [hrun]; exact fin w' undef hgood
    ·rw [hrun,Oper.uponIn_enter]
     refine ⟨(fun h=>by cases h),Vv.2 (hcl.mono ?_)⟩
     rintro en w' ⟨cv,rfl,hgood⟩
     exact fin w' cv hgood
    ·rw [hrun,Oper.uponIn_round]
     refine ⟨(fun h=>by cases h),RoundIn.mono (F:=W r) (n:=0) hrd ?_⟩
     rintro en w' ⟨cv,rfl,hgood⟩
     exact fin w' cv hgood
   unfold wpOpIn
   rw [ho]
   simp only
   cases hg:o.guard with
   | none =>
    simp only [hg,Bl] at hq
    have hw:Region.wanted o (yielded ops a.tmps)=true:=by simp [Region.wanted,hg]
    rw [if_pos hw]
    exact run _ hq
   | some p =>
    obtain ⟨j,want⟩:=p
    simp only [hg] at hq
    split at hq
    ·next t ht =>
     simp only [Bl] at hq
     have htv:=hs.he t
     split at hq
     ·next b hb =>
      rw [hb] at htv
      have hcv:=htv.bool_inv
      have hy:yielded ops a.tmps j=some b:=by
       unfold yielded
       rw [ht]
       simp only [Option.bind_some]
       rw [Array.getD_eq_getD_getElem?] at hcv
       cases hat:a.tmps[t]? with
       | none=>rw [hat] at hcv; simp [undef] at hcv
       | some v=>rw [hat] at hcv; simp at hcv; rw [hcv]
      have hw:Region.wanted o (yielded ops a.tmps)=(b==want):=by
       simp [Region.wanted,hg,hy]
      split at hq
      ·next hbw =>
       rw [if_pos (by rw [hw]; simp [hbw])]
       exact run _ hq
      ·next hbw =>
       rw [if_neg (by rw [hw]; simp [hbw])]
       exact ⟨fun _ _=>trivial,hK _ M L w _ hq (hs.put hdn hs.hr (.refl _ _ _ _) .skip) (.refl _ _ _ _)⟩
     ·next hb =>
      rw [hb] at htv
      have hcv:a.tmps.getD t undef=undef:=by
       generalize a.tmps.getD t undef=u at htv
       cases htv; rfl
      have hy:yielded ops a.tmps j=none:=by
       unfold yielded
       rw [ht]
       simp only [Option.bind_some]
       rw [Array.getD_eq_getD_getElem?] at hcv
       cases hat:a.tmps[t]? with
       | none=>rfl
       | some v=>rw [hat] at hcv; simp at hcv; rw [hcv]; rfl
      have hw:Region.wanted o (yielded ops a.tmps)=false:=by
       simp [Region.wanted,hg,hy]
      rw [if_neg (by rw [hw]; simp)]
      exact ⟨fun _ _=>trivial,hK _ M L w _ hq (hs.put hdn hs.hr (.refl _ _ _ _) .skip) (.refl _ _ _ _)⟩
     ·exact hq.elim
    ·simp only [Bl,Bd,Res.all] at hq
  ·cases hop
def Jh (call:Bf) (base:Nat) (l:List IOper):List Nat->St->Res St
 | [],s => .ret s
 | i::r,s =>
  match l[i]? with
  | some o=>(Bv call base o s).bind fun s=>Jh call base l r s
  | none => .fail
theorem Yl (call:Bf) (base:Nat) (l:List IOper):∀(m k:Nat) (s:St),k+m=l.length->Jh call base l (List.range' k m) s=Dr call base (l.drop k) s
 | 0,k,s,hk=>by
  rw [List.drop_of_length_le (by omega)]; rfl
 | m+1,k,s,hk=>by
  have hlt:k<l.length:=by omega
  rw [List.range'_succ,List.drop_eq_getElem_cons hlt]
  simp only [Jh,List.getElem?_eq_getElem hlt,Dr]
  congr 1
  funext s'
  exact Yl call base l m (k+1) s' (by omega)
theorem A3z (call:Bf) (base:Nat) (l:List IOper) (s:St):Dr call base l s=Jh call base l (List.range l.length) s:=by
 rw [List.range_eq_range',Yl call base l l.length 0 s (by omega)]; rfl
theorem Ajb {call:Bf} (hcall:CallOk P call) {byr:FuncId->Bool} {r:Option Nat} {n b0 base:Nat} {ops:Array Oper} {Qx:Exit->Act->World->Prop} {R:St->Prop}:∀(idx:List Nat) (M:Mem) (L:Lay) (w:World) (a:Act) (s:St),
  SR P M L w n b0 s a->(Jh call base (ops.toList.map (Rs P byr n ops)) idx s).all R->
  (∀s' M' L' w' a',R s'->SR P M' L' w' n b0 s' a'->Fr w s.heap L M w' s'.heap L' M'->Qx .normal a' w')->wpOpsIn (W r) 0 P ops Qx idx a w
 | [],M,L,w,a,s,hs,hq,hK=>hK s M L w a hq hs (.refl _ _ _ _)
 | i::r,M,L,w,a,s,hs,hq,hK=>by
  rw [wpOpsIn_cons]
  simp only [Jh] at hq
  split at hq
  ·next io hio =>
   rw [List.getElem?_map,Option.map_eq_some_iff] at hio
   obtain ⟨o,ho,rfl⟩:=hio
   rw [Array.getElem?_toList] at ho
   rw [Res.all_bind] at hq
   refine Acs hcall ho hs hq fun s' M' L' w' a' h1 h2 h3 => ?_
   exact Ajb hcall r M' L' w' a' s' h2 h1 fun s2 M2 L2 w2 a2 g1 g2 g3=>hK s2 M2 L2 w2 a2 g1 g2 (h3.trans g3)
  ·exact hq.elim
def A0c (acc:List Nat) (o:Oper):Nat:=o.after.toList.foldl (fun s e=>if Region.binds .any e then s ||| 2 ^ e.on ||| acc.getD e.on 0 else s) 0
theorem Vg (acc:List Nat) (j:Nat):∀(es:List Edge) (s:Nat),(es.foldl (fun s e=>if Region.binds .any e then s ||| 2 ^ e.on ||| acc.getD e.on 0 else s) s).testBit j=true->
  s.testBit j=true\/∃e∈es,Region.binds .any e=true/\(e.on=j\/(acc.getD e.on 0).testBit j=true)
 | [],s,h => .inl h
 | e::es,s,h=>by
  rw [List.foldl_cons] at h
  rcases Vg acc j es _ h with h | ⟨e',h1,h2,h3⟩
  ·split at h
   ·next hb =>
    rw [Nat.testBit_or,Nat.testBit_or] at h
    simp only [Bool.or_eq_true] at h
    rcases h with (h | h) | h
    ·exact .inl h
    ·rw [Nat.testBit_two_pow] at h
     exact .inr ⟨e,List.mem_cons_self,hb,.inl (by simpa using h)⟩
    ·exact .inr ⟨e,List.mem_cons_self,hb,.inr h⟩
   ·exact .inl h
  ·exact .inr ⟨e',List.mem_cons_of_mem _ h1,h2,h3⟩
theorem A3p:∀(ops:List Oper) (acc:List Nat),∃r,Hl ops acc=acc++r/\r.length=ops.length/\∀(k:Nat) o,ops[k]? = some o->(Hl ops acc)[acc.length+k]? = some (A0c ((Hl ops acc).take (acc.length+k)) o)
 | [],acc=>⟨[],by simp [Hl],rfl,fun k o h=>by simp at h⟩
 | o::ops,acc=>by
  obtain ⟨r,h1,h2,h3⟩:=A3p ops (acc++[A0c acc o])
  have hb:Hl (o::ops) acc=Hl ops (acc++[A0c acc o]):=rfl
  rw [hb]
  refine ⟨A0c acc o::r,by rw [h1]; simp,by simp [h2],fun k o' hk => ?_⟩
  cases k with
  | zero =>
   simp at hk; subst hk
   rw [h1]
   simp
  | succ k =>
   simp at hk
   have:=h3 k o' hk
   simp only [List.length_append,List.length_cons,List.length_nil] at this
   have he:acc.length+(k+1)=acc.length+(0+1)+k:=by omega
   rw [he]; exact this
theorem Ajw {ops:List Oper} {i j:Nat} {o:Oper} (ho:ops[i]? = some o) (hon:∀e∈o.after.toList,Region.binds .any e=true->e.on<i) (hb:((Hl ops []).getD i 0).testBit j=true) :
  ∃e∈o.after.toList,Region.binds .any e=true/\(e.on=j\/((Hl ops []).getD e.on 0).testBit j=true):=by
 obtain ⟨r,h1,h2,h3⟩:=A3p ops []
 have:=h3 i o ho
 simp only [List.length_nil,Nat.zero_add] at this
 rw [List.getD_eq_getElem?_getD,this] at hb
 simp only [Option.getD_some] at hb
 rcases Vg _ j _ 0 hb with h | ⟨e,he,hbd,hor⟩
 ·simp at h
 ·refine ⟨e,he,hbd,?_⟩
  rcases hor with hor | hor
  ·exact .inl hor
  ·right
   have hlt:=hon e he hbd
   rw [List.getD_eq_getElem?_getD,List.getElem?_take,if_pos hlt,<-List.getD_eq_getElem?_getD] at hor
   exact hor
theorem Aop {call:Bf} (hcalm:Calm call) {base:Nat} {l:List IOper} {i:Nat} {o:IOper} (hi:l[i]? = some o) {R:St->Prop}:∀(pre post:List Nat) (s:St),
  (∀j∈pre,∀x,l[j]? = some x->Ow x o=true\/Vt x o=true)->(Jh call base l (pre++i::post) s).all R->(Jh call base l (i::(pre++post)) s).all R
 | [],post,s,_,hq=>hq
 | j::pre,post,s,hap,hq=>by
  simp only [List.cons_append,Jh] at hq
  split at hq
  ·next x hx =>
   rw [Res.all_bind] at hq
   have hq':=Res.all_mono _ hq fun s' hs'=>Aop hcalm hi pre post s' (fun k hk=>hap k (List.mem_cons_of_mem _ hk)) hs'
   simp only [Jh,hi,Res.all_bind] at hq'
   have:=(hap j List.mem_cons_self x hx).elim (fun h=>Ade hcalm base h hq') (fun h=>A9x hcalm base h hq')
   simp only [List.cons_append,Jh,hi,hx,Res.all_bind]
   exact this
  ·exact hq.elim
theorem Aqx {call:Bf} (hcall:CallOk P call) (hcalm:Calm call) {byr:FuncId->Bool} {r:Option Nat} {n b0 base:Nat} {ops:Array Oper} {l:List IOper} (hll:l.length=ops.size) (href:∀(i:Nat) o io,ops[i]? = some o->l[i]? = some io->∀(s:St) (Q:St->Prop),(Bv call base io s).all Q->(Bv call base (Rs P byr n ops o) s).all Q) (hok:Jo ops l=true)
  {Qx:Exit->Act->World->Prop} {R:St->Prop}:∀(fuel:Nat) (listed:Array Bool) (M:Mem) (L:Lay) (w:World) (a:Act) (s:St),
  listed.size=ops.size->(((List.range ops.size).filter fun i => !listed.getD i true).length<=fuel)->
  (∀k o,ops[k]? = some o->listed.getD k true=true->∀e∈o.after,Region.binds .any e=true->listed.getD e.on false=true)->
  SR P M L w n b0 s a->(Jh call base l ((List.range ops.size).filter fun i => !listed.getD i true) s).all R->
  (∀s' M' L' w' a',R s'->SR P M' L' w' n b0 s' a'->Fr w s.heap L M w' s'.heap L' M'->Qx .normal a' w')->wpAnyIn (W r) 0 P .any ops Qx fuel listed a w:=by
 have hget:∀(i:Nat) o,ops[i]? = some o->∃io,l[i]? = some io:=fun i o ho=>by
  have hlt:i<ops.size:=(Array.getElem?_eq_some_iff.1 ho).1
  exact ⟨l[i],List.getElem?_eq_getElem (by omega)⟩
 have hok':∀(i:Nat) (o:Oper),ops[i]? = some o->(∀e∈o.after.toList,Region.binds .any e=true->e.on<i)/\
   ∀j x y,j<i->l[j]? = some x->l[i]? = some y->((Hl ops.toList []).getD i 0).testBit j=true\/(Ow x y=true\/Vt x y=true):=by
  intro i o ho
  unfold Jo at hok
  have hlt:i<ops.size:=(Array.getElem?_eq_some_iff.1 ho).1
  obtain ⟨io,hio⟩:=hget i o ho
  have h1:=Kq _ hok i io hio
  simp only [Bool.and_eq_true] at h1
  obtain ⟨h2,h3⟩:=h1
  refine ⟨fun e he hb => ?_,fun j x y hj hx hy => ?_⟩
  ·rw [ho] at h2
   simp only [Option.map_some,Option.getD_some] at h2
   have:=List.all_eq_true.1 h2 e he
   simp only [Bool.or_eq_true,Bool.not_eq_true',decide_eq_true_eq] at this
   rcases this with this | this
   ·rw [hb] at this; cases this
   ·exact this
  ·rw [hio] at hy
   cases hy
   have:=Kq _ h3 j x (by rw [List.getElem?_take,if_pos hj,hx])
   simp only [Bool.or_eq_true] at this
   rcases this with (h | h) | h
   ·exact .inl h
   ·exact .inr (.inl h)
   ·exact .inr (.inr h)
 -- what stands before an operation that is listed is listed
 have closed:∀(listed:Array Bool),(∀k o,ops[k]? = some o->listed.getD k true=true->∀e∈o.after,Region.binds .any e=true->listed.getD e.on false=true)->
   ∀(i:Nat),∀(o:Oper),ops[i]? = some o->(∀e∈o.after,Region.binds .any e=true->listed.getD e.on false=true)->∀j,((Hl ops.toList []).getD i 0).testBit j=true->listed.getD j false=true:=by
  intro listed hcl i
  induction i using Nat.strongRecOn with
  | _ i ih =>
   intro o ho hdeps j hb
   obtain ⟨e,he,hbd,hor⟩:=Ajw (by rw [Array.getElem?_toList]; exact ho) (hok' i o ho).1 hb
   have hle:=hdeps e (by simpa using he) hbd
   rcases hor with rfl | hor
   ·exact hle
   ·have hlt:=(hok' i o ho).1 e he hbd
    have hos:e.on<ops.size:=Nat.lt_trans hlt (Array.getElem?_eq_some_iff.1 ho).1
    have hoe:ops[e.on]? = some ops[e.on]:=Array.getElem?_eq_getElem hos
    have hlt':listed.getD e.on true=true:=by
     rw [Array.getD_eq_getD_getElem?] at hle ⊢
     cases hle':listed[e.on]? with
     | none=>rw [hle'] at hle; simp at hle
     | some v=>rw [hle'] at hle; simpa using hle
    exact ih e.on hlt _ hoe (hcl e.on _ hoe hlt') j hor
 intro fuel
 induction fuel with
 | zero =>
  intro listed M L w a s hsz hlen hcl hs hq hK
  have hnil:((List.range ops.size).filter fun i => !listed.getD i true)=[]:=List.eq_nil_of_length_eq_zero (by omega)
  rw [hnil] at hq
  refine ⟨?_,hK s M L w a hq hs (.refl _ _ _ _)⟩
  rw [List.eq_nil_iff_forall_not_mem]
  intro i hi
  rw [mem_ready] at hi
  obtain ⟨h1,o,ho,_⟩:=hi
  have:i∈((List.range ops.size).filter fun i => !listed.getD i true):=by
   simp only [List.mem_filter,List.mem_range]
   exact ⟨(Array.getElem?_eq_some_iff.1 ho).1,by rw [h1]; rfl⟩
  rw [hnil] at this; cases this
 | succ fuel ih =>
  intro listed M L w a s hsz hlen hcl hs hq hK
  refine ⟨fun hnr => ?_,fun i hi => ?_⟩
  ·-- nothing is ready: nothing is left
   cases hR:((List.range ops.size).filter fun i => !listed.getD i true) with
   | nil=>rw [hR] at hq; exact hK s M L w a hq hs (.refl _ _ _ _)
   | cons i0 rest =>
    exfalso
    have hmem:i0∈((List.range ops.size).filter fun i => !listed.getD i true):=by rw [hR]; exact List.mem_cons_self
    simp only [List.mem_filter,List.mem_range,Bool.not_eq_true'] at hmem
    obtain ⟨hlt,hun⟩:=hmem
    have hsorted:List.Pairwise (·<·) ((List.range ops.size).filter fun i => !listed.getD i true):=List.Pairwise.filter _ List.pairwise_lt_range
    rw [hR] at hsorted
    have hmin:=(List.pairwise_cons.1 hsorted).1
    have ho:ops[i0]? = some ops[i0]:=Array.getElem?_eq_getElem hlt
    have:i0∈Region.ready .any ops listed:=by
     rw [mem_ready]
     refine ⟨hun,_,ho,fun e he hb => ?_⟩
     have hon:=(hok' i0 _ ho).1 e (by simpa using he) hb
     have hls:e.on<listed.size:=by omega
     rw [Array.getD_eq_getD_getElem?,Array.getElem?_eq_getElem hls]
     simp only [Option.getD_some]
     cases hv:listed[e.on] with
     | true=>rfl
     | false =>
      have hm:e.on∈((List.range ops.size).filter fun i => !listed.getD i true):=by
       simp only [List.mem_filter,List.mem_range,Bool.not_eq_true']
       exact ⟨by omega,by rw [Array.getD_eq_getD_getElem?,Array.getElem?_eq_getElem hls]; simpa using hv⟩
      rw [hR] at hm
      rcases List.mem_cons.1 hm with hm | hm
      ·omega
      ·have:=hmin e.on hm; omega
    rw [hnr] at this; cases this
  ·rw [mem_ready] at hi
   obtain ⟨hun,o,ho,hdeps⟩:=hi
   have hlt:i<ops.size:=(Array.getElem?_eq_some_iff.1 ho).1
   have hmem:i∈((List.range ops.size).filter fun i => !listed.getD i true):=by
    simp only [List.mem_filter,List.mem_range]; exact ⟨hlt,by rw [hun]; rfl⟩
   obtain ⟨pre,post,hsplit⟩:=List.append_of_mem hmem
   have hsorted:List.Pairwise (·<·) ((List.range ops.size).filter fun i => !listed.getD i true):=List.Pairwise.filter _ List.pairwise_lt_range
   rw [hsplit] at hsorted hq
   have hpre:∀j∈pre,j<i:=fun j hj=>(List.pairwise_append.1 hsorted).2.2 j hj i List.mem_cons_self
   have hpost:∀j∈post,i<j:=(List.pairwise_cons.1 (List.pairwise_append.1 hsorted).2.1).1
   obtain ⟨io,hli⟩:=hget i o ho
   have hfr:=Aop hcalm hli pre post s (fun j hj x hx=>by
    rcases (hok' i o ho).2 j x io (hpre j hj) hx hli with hb | hap
    ·exfalso
     have hl:=closed listed hcl i o ho hdeps j hb
     have hjm:j∈((List.range ops.size).filter fun i => !listed.getD i true):=by rw [hsplit]; exact List.mem_append_left _ hj
     simp only [List.mem_filter,List.mem_range,Bool.not_eq_true'] at hjm
     have hjs:j<listed.size:=by omega
     rw [Array.getD_eq_getD_getElem?,Array.getElem?_eq_getElem hjs] at hl
     have h2:=hjm.2
     rw [Array.getD_eq_getD_getElem?,Array.getElem?_eq_getElem hjs] at h2
     simp only [Option.getD_some] at hl h2
     rw [hl] at h2; cases h2
    ·exact hap) hq
   simp only [Jh,hli,Res.all_bind] at hfr
   have hlsz:i<listed.size:=by omega
   have hnew:((List.range ops.size).filter fun k => !(listed.setIfInBounds i true).getD k true)=pre++post:=by
    have hg:∀k,(listed.setIfInBounds i true).getD k true=(listed.getD k true||decide (k=i)):=fun k=>by
     simp only [Array.getD_eq_getD_getElem?,Array.getElem?_setIfInBounds]
     by_cases hk:i=k
     ·subst hk; simp [hlsz]
     ·have:¬k=i:=fun h=>hk h.symm
      simp [hk,this]
    have h1:((List.range ops.size).filter fun k => !(listed.setIfInBounds i true).getD k true)=(((List.range ops.size).filter fun k => !listed.getD k true).filter fun k => !decide (k=i)):=by
     rw [List.filter_filter]
     congr 1
     funext k
     rw [hg,Bool.not_or,Bool.and_comm]
    rw [h1,hsplit,List.filter_append,List.filter_cons]
    simp only [decide_true,Bool.not_true,Bool.false_eq_true,if_false]
    congr 1
    ·rw [List.filter_eq_self]
     intro k hk
     have:=hpre k hk
     simp; omega
    ·rw [List.filter_eq_self]
     intro k hk
     have:=hpost k hk
     simp; omega
   refine Acs hcall ho hs (href i o io ho hli _ _ hfr) fun s' M' L' w' a' h1 h2 h3 => ?_
   refine ih (listed.setIfInBounds i true) M' L' w' a' s' (by simp [hsz]) ?_ ?_ h2 (by rw [hnew]; exact h1) fun s2 M2 L2 w2 a2 g1 g2 g3=>hK s2 M2 L2 w2 a2 g1 g2 (h3.trans g3)
   ·rw [hnew]
    rw [hsplit] at hlen
    simp at hlen ⊢; omega
   ·intro k ok hok2 hlk e he hb
    by_cases hk:k=i
    ·subst hk
     rw [ho] at hok2; cases hok2
     exact getD_set_true (hdeps e he hb)
    ·rw [getD_set_ne true (fun h=>hk h.symm)] at hlk
     exact getD_set_true (hcl k ok hok2 hlk e he hb)
variable {P:Program} {M:Mem} {L:Lay} {w:World} {a:Act}
def Gh:EX->Exit->Prop
 | .normal,.normal=>True
 | .exit i,.exit j=>i=j
 | .ret,.ret=>True
 | _,_=>False
theorem Sb (i:Nat):Gh (.exit i) (.exit i):=rfl
def A5m (P:Program) (M:Mem) (L:Lay) (w:World) (h:Bc) (n b0:Nat) (R:EX×St->Prop):Exit->Act->World->Prop:=
 fun ex a' w'=>∃x s' M' L',Gh x ex/\R (x,s')/\SR P M' L' w' n b0 s' a'/\Fr w h L M w' s'.heap L' M'
theorem HR.push_other {h:Bc} (hr:HR P M L w h) {w':World} (o:Obj) (he:w'.heap=w.heap.push o) (hso:SameOut w w':=by exact ⟨rfl,rfl,rfl⟩):HR P M L w' h/\Fr w h L M w' h L M:=by
 have hget:∀b,b<w.heap.size->w'.heap[b]? = w.heap[b]?:=fun b hb=>by
  rw [he,Array.getElem?_push,if_neg (by omega)]
 refine ⟨⟨fun b o hb => ?_,fun k hk => ?_,hr.ver,hr.inj⟩,⟨by rw [he,Array.size_push]; omega,fun b hb _=>hget b hb,fun b hb => .inl hb,fun _ _ h=>h,fun _ _ h => .inl h,fun _ _ _ h=>h,hso⟩⟩
 ·have:=hr.mem b o hb
  rw [hget b (Array.getElem?_eq_some_iff.1 this).1]; exact this
 ·obtain ⟨info,h1,h2,h3⟩:=hr.cur k hk
  exact ⟨info,h1,h2,h3.mono (fun _ _ h=>h) (fun _ _ _ h=>h) (hget _ (h3.blk_lt hk))⟩
theorem Im.lt {h:Bc} (hr:HR P M L w h) {b:Nat} (hi:Im h L b):b<w.heap.size:=by
 obtain ⟨k,info,h1,h2,rfl⟩:=hi
 obtain ⟨i2,g1,_,g3⟩:=hr.cur k h1
 rw [h2] at g1; cases g1
 exact g3.blk_lt h1
theorem In {b:Frame} {k:List Item} {cs:List Frame} {c:Code}:step P (lone (b.atR a (.code (.scope c)::k)) cs w) = .next (lone (b.atR a (.code c :: .inScope c::k)) cs w):=
 step_lone_go (by simp [stepG,stepG.exec,Frame.atR])
theorem A5l {b:Frame} {k:List Item} {cs:List Frame} {c:Code}:step P (lone (b.atR a (.inScope c::k)) cs w) = .next (lone (b.atR a k) cs w):=
 step_lone_go (by simp [stepG,stepG.exec,Frame.atR])
theorem Agk {F:Fence} {n:Nat} {c:Code} {Q:Exit->Act->World->Prop} (h:c.wpIn F n P Q a w) (hg:∀l a w,¬Q (.goto l) a w):(Code.scope c).wpIn F n P Q a w:=by
 intro b k cs hro hb hr
 have h0:(lone (b.atR a (.code (.scope c)::k)) cs w).fenced P F:=fenced_calm hb hr rfl
 obtain ⟨e,a₁,w₁,hq,harr⟩:=h b (.inScope c::k) cs hro hb hr
 cases e with
 | normal=>exact ⟨.normal,a₁,w₁,hq,.head h0 In (StepsIn.trans harr (.one (fenced_calm hb hr rfl) A5l))⟩
 | exit id =>
  have hx:exitTo id (.inScope c::k)=exitTo id k:=by simp [exitTo]
  exact ⟨.exit id,a₁,w₁,hq,fun k' hk => .head h0 In (harr.1 k' (by rw [hx]; exact hk)),
   fun hr' hk=>let ⟨k₁,h1,h2⟩:=harr.2 hr' (by rw [hx]; exact hk); ⟨k₁,h1,.head h0 In h2⟩⟩
 | goto l=>exact (hg _ _ _ hq).elim
 | ret=>exact ⟨_,a₁,w₁,hq,.of_steps (.one h0 In) harr⟩
 | panic ch=>exact ⟨_,a₁,w₁,hq,.of_steps (.one h0 In) harr⟩
 | outgrown=>exact ⟨_,a₁,w₁,hq,.of_steps (.one h0 In) harr⟩
theorem A8y {call:Bf} (hcall:CallOk P call) {byr:FuncId->Bool} {n b0 base:Nat} {g:Operand} {gx:IX} {ps:Array Tmp} {x y:Code} {s:St} {R:EX×St->Prop} (hps:∀p∈ps.toList,p<n) (hgx:cX P 0 g=some gx)
  (hs:SR P M L w n b0 s a) (hb0:b0<=w.heap.size) (hq:(evC call base (.rangeF gx ps.toList (Fk P n byr true x) (Fk P n byr true y)) s).all R) :
  (Code.rangeFunc g ps x y).wpIn (W none) 0 P (A5m P M L w s.heap n b0 R) a w:=by
 have hgv:=Dl hs.he hgx
 simp only [evC] at hq
 split at hq
 ·next gf first cpt hclo =>
  rw [hclo] at hgv
  generalize hge:a.eval g=gv at hgv
  cases hgv with
  | @clo _ _ _ vf vc hl hk hh1 hh2 =>
   rw [Res.all_bind] at hq
   obtain ⟨⟨fn,hf,hnm,hbd⟩,hcl⟩:=hcall.fn _ _ _ _ _ hq
   refine wpIn_rangeFunc fun fid _ => ?_
   obtain ⟨lr,hlr⟩:∃lr:Loop,lr={ state:=.ready,pending:=none,fn:=fid,tmps:=a.tmps,params:=ps,assign:=x,body:=y,defers:=w.heap.size }:=⟨_,rfl⟩
   obtain ⟨w0,hw0d⟩:∃w0:World,w0={ w with heap:=w.heap.push (.deferred (some [])) }:=⟨_,rfl⟩
   obtain ⟨w1,hw1d⟩:∃w1:World,w1={ w0 with heap:=w0.heap.push (.loop lr) }:=⟨_,rfl⟩
   have hw0:w0.heap.size=w.heap.size+1:=by rw [hw0d]; simp
   have hdef1:w1.heap[w.heap.size]? = some (.deferred (some [])):=by
    rw [hw1d]
    simp only
    rw [Array.getElem?_push,if_neg (by omega),hw0d]
    simp
   have henter:(Instr.enterLoop fid a.tmps ps x y none).run P w = .ok (w.heap.size+1,[{ target:=.collected w.heap.size,args:=#[] }]) w1:=by
    rw [hw1d,hw0d,hlr]
    simp [Instr.enterLoop]
    rfl
   have hLR:∀L',Lay.le L L'->LoopR P M L' ⟨base,s.env,ps.toList,Fk P n byr true x,Fk P n byr true y⟩ lr:=fun L' hL'=>by
    rw [hlr]
    exact ⟨n,byr,rfl,rfl,rfl,hps,hs.sz,fun t=>(hs.he t).mono (fun _ _ h=>h) hL'⟩
   have hlst:lr.state = .ready/\lr.pending=none:=by rw [hlr]; exact ⟨rfl,rfl⟩
   obtain ⟨hr0,hf0⟩:=hs.hr.push_other (w':=w0) (.deferred (some [])) (by rw [hw0d]) (by rw [hw0d]; exact ⟨rfl,rfl,rfl⟩)
   have hnew:=hr0.new_obj s.heap.length (.loop (Bb s.heap s.heap.length).next .ready none ⟨base,s.env,ps.toList,Fk P n byr true x,Fk P n byr true y⟩) (.loop lr) (by simp) rfl w1 (by rw [hw1d])
    (fun L' hL' w' hw'=>⟨lr,hw',hlst.1,by rw [hlst.2]; trivial,hLR L' hL'⟩) (by rw [hw1d]; exact ⟨rfl,rfl,rfl⟩)
   rw [hw0] at hnew
   have hself:L.upd s.heap.length (Bb s.heap s.heap.length).next ⟨w.heap.size+1,0,0⟩ s.heap.length (Bb s.heap s.heap.length).next=some ⟨w.heap.size+1,0,0⟩:=Lay.upd_self _ _ _ _
   clear hw1d hw0d hlr hLR hlst
   generalize L.upd s.heap.length (Bb s.heap s.heap.length).next ⟨w.heap.size+1,0,0⟩=L1 at hnew hself
   generalize setH s.heap s.heap.length (.loop (Bb s.heap s.heap.length).next .ready none ⟨base,s.env,ps.toList,Fk P n byr true x,Fk P n byr true y⟩)=h1 at hnew hcl hq
   generalize (Bb s.heap s.heap.length).next=v at hself hq hcl
   generalize s.heap.length=k at hself hq hcl
   obtain ⟨hr1,hf1⟩:=hnew
   have hf01:=hf0.trans hf1
   have hmk:Marks M L1 w1 h1 b0 ({ target:=.collected w.heap.size,args:=#[] }::a.defers):=by
    obtain ⟨rs,e1,e2,e3⟩:=hs.df
    have e3':∀r∈rs,b0<=r/\w1.heap[r]? = some (.deferred (some []))/\¬Im h1 L1 r/\M r=none:=fun r hr'=>by
     obtain ⟨g1,g2,g3,g4⟩:=e3 r hr'
     have hlt:r<w.heap.size:=(Array.getElem?_eq_some_iff.1 g2).1
     refine ⟨g1,by rw [hf01.kept r hlt g3]; exact g2,fun hi => ?_,g4⟩
     rcases hf01.im r hi with hi | hi
     ·exact g3 hi
     ·omega
    refine ⟨w.heap.size::rs,by rw [e1]; rfl,List.nodup_cons.2 ⟨fun hmem => ?_,e2⟩,fun r hr' => ?_⟩
    ·have:=(Array.getElem?_eq_some_iff.1 (e3 _ hmem).2.1).1
     omega
    ·rcases List.mem_cons.1 hr' with rfl | hr'
     ·refine ⟨hb0,hdef1,fun hi => ?_,hs.hr.fresh⟩
      rcases hf1.im _ hi with hi | hi
      ·have:=Im.lt hs.hr hi; omega
      ·omega
     ·exact e3' r hr'
   have hargs:VRs M L1 (first++[.yld k v]++cpt) (vf ++ #[.func (.yield (w.heap.size+1)) #[] #[]]++vc):=by
    refine VRs.append (VRs.append ⟨hl,fun i c v h1 h2=>(hh1 i c v h1 h2).mono (fun _ _ h=>h) hf01.lay⟩ ⟨rfl,fun i c v h1 h2 => ?_⟩) ⟨hk,fun i c v h1 h2=>(hh2 i c v h1 h2).mono (fun _ _ h=>h) hf01.lay⟩
    cases i with
    | zero =>
     simp at h1 h2
     subst h1 h2
     exact .yld hself
    | succ i=>simp at h1
   have hcalls:=hcl M _ w1 _ hr1 hargs
   refine ⟨w.heap.size+1,[{ target:=.collected w.heap.size,args:=#[] }],w1,{ target:=.fn (.func gf) vc,args:=vf ++ #[.func (.yield (w.heap.size+1)) #[] #[]] },w1,gf,vf ++ #[.func (.yield (w.heap.size+1)) #[] #[]]++vc,w1,henter,?_,(fun _ _=>trivial),?_,(fun h=>by cases h),?_⟩
   ·have e2:∀v,a.eval (.const v)=v:=fun _=>rfl
    simp [resolve,rangeCall,hge,Deferred.ofValue,e2]
   ·simp [invoke,Oh hf hnm hbd]
   ·refine Vv.2 ?_
    refine Calls.mono hcalls ?_
    rintro en w3 ⟨cv,rfl,v',h',M',L',hQ,hr3,hf3,hv3⟩
    simp only at hQ
    split at hQ
    ·next u st pend lf hob =>
     split at hQ
     ·next hc =>
      obtain ⟨hu,hst⟩:=hc
      subst hu
      have hn3:Bb h' k ≠ .none:=by rw [hob]; simp
      have hlv:L' k (Bb h' k).ver=some ⟨w.heap.size+1,0,0⟩:=by
       rw [hob]; exact hf3.lay _ _ _ hself
      obtain ⟨i2,g1,g2,g3⟩:=hr3.cur _ hn3
      rw [hlv] at g1; cases g1
      rw [hob] at g3
      obtain ⟨lr3,k1,k2,k3,k4⟩:=g3
      have hst3:¬lr3.state=LoopState.busy:=by
       rw [k2]; exact hst
      obtain ⟨w4,hw4⟩:∃w4:World,w4={ w3 with heap:=w3.heap.setIfInBounds (w.heap.size+1) (.loop { lr3 with state:=.exhausted }) }:=⟨_,rfl⟩
      have hend:(Instr.endLoop (w.heap.size+1)).run P w3 = .ok lr3.pending w4:=by
       rw [hw4]
       simp [Instr.endLoop,Instr.getLoop,getObj,setObj,Sem.run,k1,hst3]
      obtain ⟨hr4,hf4⟩:=hr3.set_obj (o:=.loop u .exhausted pend lf) (.loop { lr3 with state:=.exhausted }) hn3 hlv (by simp) (by rw [hob]; rfl)
       (fun w' hw'=>⟨_,hw',rfl,k3,k4⟩) w4 (by rw [hw4]) (by rw [hw4]; exact ⟨rfl,rfl,rfl⟩)
      have hfall:=(hf01.trans hf3).trans hf4
      have hsr:SR P M' L' w4 n b0 ⟨s.env,setH h' k (.loop u .exhausted pend lf)⟩ { a with defers:=[{ target:=.collected w.heap.size,args:=#[] }]++a.defers }:=
       ⟨hr4,fun t=>(hs.he t).mono hfall.mem hfall.lay,hmk.mono (hf3.trans hf4),hs.sz⟩
      refine ⟨lr3.pending,w4,hend,?_⟩
      revert hQ k3
      cases pend with
      | none =>
       cases lr3.pending with
       | none=>exact fun hQ _=>⟨.normal,_,_,_,trivial,hQ,hsr,hfall⟩
       | some c=>exact fun _ h=>h.elim
      | some j =>
       cases lr3.pending with
       | none=>cases j <;> exact fun _ h=>h.elim
       | some c =>
        cases j with
        | normal=>exact fun _ h=>h.elim
        | exit id =>
         cases c <;> intro hQ k3 <;> try exact k3.elim
         simp only [Ya] at k3
         subst k3
         exact wpIn_exit ⟨.exit _,_,_,_,rfl,hQ,hsr,hfall⟩
        | ret =>
         cases c <;> intro hQ k3 <;> try exact k3.elim
         exact wpIn_ret ⟨.ret,_,_,_,trivial,hQ,hsr,hfall⟩
     ·exact hQ.elim
    ·exact hQ.elim
 ·exact hq.elim
theorem A2a {call:Bf} (hcall:CallOk P call) (hcalm:Calm call) {byr:FuncId->Bool} (hm:P.follows .mixedOrders=true) {n b0 base:Nat} {r:Option Nat} {nest:Bool} (hnest:nest=false->r=none):∀(c:Code) (M:Mem) (L:Lay) (w:World) (a:Act) (s:St) (R:EX×St->Prop),
  SR P M L w n b0 s a->b0<=w.heap.size->(evC call base (Fk P n byr nest c) s).all R->c.wpIn (W r) 0 P (A5m P M L w s.heap n b0 R) a w:=by
 intro c
 induction c with
 | skip=>intro M L w a s R hs hb0 hq; exact wpIn_skip ⟨.normal,s,M,L,trivial,hq,hs,.refl _ _ _ _⟩
 | label l=>intro M L w a s R hs hb0 hq; exact wpIn_label ⟨.normal,s,M,L,trivial,hq,hs,.refl _ _ _ _⟩
 | exit id=>intro M L w a s R hs hb0 hq; exact wpIn_exit ⟨.exit id,s,M,L,rfl,hq,hs,.refl _ _ _ _⟩
 | ret=>intro M L w a s R hs hb0 hq; exact wpIn_ret ⟨.ret,s,M,L,trivial,hq,hs,.refl _ _ _ _⟩
 | goto l=>intro M L w a s R hs hb0 hq; exact hq.elim
 | refuse y=>intro M L w a s R hs hb0 hq; exact hq.elim
 | scope c ih =>
  intro M L w a s R hs hb0 hq
  refine Agk (ih M L w a s R hs hb0 hq) ?_
  rintro l a' w' ⟨x,s',M',L',hx,_⟩
  cases x <;> exact hx.elim
 | rangeFunc g ps x y _ _ =>
  intro M L w a s R hs hb0 hq
  simp only [Fk] at hq
  split at hq
  ·exact hq.elim
  ·next hcond =>
   have hnf:nest=false/\∀p∈ps.toList,p<n:=by
    simp only [Bool.or_eq_true,Bool.not_eq_true',not_or,Bool.not_eq_true,Bool.not_eq_false] at hcond
    refine ⟨hcond.1,fun p hp => ?_⟩
    have:=Array.all_eq_true_iff_forall_mem.1 hcond.2 p (by simpa using hp)
    simpa using this
   obtain ⟨hn0,hps⟩:=hnf
   have hr0:=hnest hn0
   subst hr0
   split at hq
   ·next gx hgx=>exact A8y hcall hps hgx hs hb0 hq
   ·exact hq.elim
 | region id ops draw =>
  intro M L w a s R hs hb0 hq
  have drawn:∀l:List IOper,l.length=ops.size->(∀(i:Nat) o io,ops[i]? = some o->l[i]? = some io->∀(s:St) (Q:St->Prop),(Bv call base io s).all Q->(Bv call base (Rs P byr n ops o) s).all Q)->Jo ops l=true->
    (Dr call base l s).all (fun s=>R (.normal,s))->(Code.region id ops true).wpIn (W r) 0 P (A5m P M L w s.heap n b0 R) a w:=by
   intro l hll href hok' hq
   rw [A3z,hll] at hq
   refine wpIn_region_any hm ?_
   have hfil:((List.range ops.size).filter fun i => !(Array.replicate ops.size false).getD i true)=List.range ops.size:=by
    rw [List.filter_eq_self]
    intro i hi
    simp only [List.mem_range] at hi
    simp [Array.getD_eq_getD_getElem?,hi]
   have hs':SR P M L { w with drawn:=w.drawn+1 } n b0 s a:=⟨hs.hr.same_heap rfl,hs.he,hs.df.mono (Fr.same_heap rfl),hs.sz⟩
   refine Aqx hcall hcalm hll href hok' ops.size _ M L _ a s (by simp) (by rw [hfil]; simp) ?_ hs' (by rw [hfil]; exact hq) fun s' M' L' w' a' h1 h2 h3=>⟨.normal,s',M',L',trivial,h1,h2,Fr.trans (w':={ w with drawn:=w.drawn+1 }) (Fr.same_heap rfl) h3⟩
   intro k o hko hk
   have:k<ops.size:=(Array.getElem?_eq_some_iff.1 hko).1
   simp [Array.getD_eq_getD_getElem?,this] at hk
  simp only [Fk] at hq
  split at hq
  ·next hno =>
   have hdr:draw=true:=by
    simp only [Bool.and_eq_true] at hno
    exact hno.1
   subst hdr
   split at hq
   ·next hok =>
    simp only [Bool.and_eq_true] at hok
    simp only [evC,Res.all_bind,Res.all] at hq
    refine drawn _ (by simp [Su]) (fun i o io ho hio s Q hQ => ?_) hok.2 hq
    simp only [Su,List.getElem?_mapIdx,List.getElem?_map,Array.getElem?_toList,ho,Option.map_some,Option.some.injEq] at hio
    subst hio
    exact Afx hQ
   split at hq
   ·next hok =>
    simp only [Bool.and_eq_true] at hok
    simp only [evC,Res.all_bind,Res.all] at hq
    refine drawn _ (by simp [Ss]) (fun i o io ho hio s Q hQ => ?_) hok.2 hq
    simp only [Ss,List.getElem?_mapIdx,List.getElem?_map,Array.getElem?_toList,ho,Option.map_some,Option.some.injEq] at hio
    subst hio
    exact Abl hQ
   split at hq
   ·next hok =>
    simp only [Bool.and_eq_true] at hok
    simp only [evC,Res.all_bind,Res.all] at hq
    refine drawn _ (by simp [Jc]) (fun i o io ho hio s Q hQ => ?_) hok.2 hq
    simp only [Jc,List.getElem?_mapIdx,List.getElem?_map,Array.getElem?_toList,ho,Option.map_some,Option.some.injEq] at hio
    subst hio
    exact A4w hcalm hQ
   split at hq
   ·split at hq
    ·exact hq.elim
    ·next hok =>
     simp only [evC,Res.all_bind,Res.all] at hq
     refine drawn _ (by simp [Jc]) (fun i o io ho hio s Q hQ => ?_) (by simpa using hok) hq
     simp only [Jc,List.getElem?_mapIdx,List.getElem?_map,Array.getElem?_toList,ho,Option.map_some,Option.some.injEq] at hio
     subst hio
     exact A4w hcalm hQ
   ·next hok =>
    simp only [evC,Res.all_bind,Res.all] at hq
    refine drawn _ (by simp [Yg]) (fun i o io ho hio s Q hQ => ?_) (by simpa using hok) hq
    simp only [Yg,List.getElem?_mapIdx,List.getElem?_map,Array.getElem?_toList,ho,Option.map_some,Option.some.injEq] at hio
    subst hio
    exact Ajm (Anz hQ)
  ·next hok =>
   simp only [evC,Res.all_bind,Res.all] at hq
   cases draw with
   | false =>
    rw [A3z] at hq
    have hlen:(ops.toList.map (Rs P byr n ops)).length=ops.size:=by simp
    rw [hlen] at hq
    refine wpIn_region (Ajb hcall _ M L w a s hs hq fun s' M' L' w' a' h1 h2 h3=>⟨.normal,s',M',L',trivial,h1,h2,h3⟩)
   | true =>
    refine drawn _ (by simp) (fun i o io ho hio s Q hQ => ?_) (by simpa using hok) hq
    rw [List.getElem?_map,Array.getElem?_toList,ho] at hio
    cases hio
    exact hQ
 | seq x y ihx ihy =>
  intro M L w a s R hs hb0 hq
  simp only [Fk,evC,Res.all_bind] at hq
  refine wpIn_seq (wpIn_mono (ihx M L w a s _ hs hb0 hq) ?_)
  rintro ex a' w' ⟨x',s',M',L',hx,hR,hs',hf⟩
  cases ex with
  | normal =>
   cases x' <;> simp only [Gh] at hx
   simp only at hR
   refine wpIn_mono (ihy M' L' w' a' s' _ hs' (Nat.le_trans hb0 hf.size) hR) ?_
   rintro e2 a2 w2 ⟨x2,s2,M2,L2,k1,k2,k3,k4⟩
   exact ⟨x2,s2,M2,L2,k1,k2,k3,hf.trans k4⟩
  | exit id =>
   cases x' <;> simp only [Gh] at hx
   subst hx
   exact ⟨_,s',M',L',Sb _,hR,hs',hf⟩
  | ret =>
   cases x' <;> simp only [Gh] at hx
   exact ⟨.ret,s',M',L',trivial,hR,hs',hf⟩
  | goto l=>cases x' <;> exact hx.elim
  | panic ch=>cases x' <;> exact hx.elim
  | outgrown=>cases x' <;> exact hx.elim
 | cond c x y ihx ihy =>
  intro M L w a s R hs hb0 hq
  simp only [Fk] at hq
  split at hq
  ·next ic hic =>
   simp only [evC] at hq
   have hv:=Dl hs.he hic
   split at hq
   ·next t ht =>
    rw [ht] at hv
    have hcv:=hv.bool_inv
    cases t with
    | true=>exact wpIn_cond_true hcv (ihx M L w a s R hs hb0 hq)
    | false=>exact wpIn_cond_false hcv (ihy M L w a s R hs hb0 hq)
   ·exact hq.elim
  ·exact hq.elim
 | block id c ih =>
  intro M L w a s R hs hb0 hq
  simp only [Fk,evC,Res.all_bind] at hq
  refine wpIn_block (wpIn_mono (ih M L w a s _ hs hb0 hq) ?_)
  rintro ex a' w' ⟨x',s',M',L',hx,hR,hs',hf⟩
  cases ex with
  | normal=>cases x' <;> simp only [Gh] at hx; exact ⟨.normal,s',M',L',trivial,hR,hs',hf⟩
  | exit id' =>
   cases x' <;> simp only [Gh] at hx
   subst hx
   simp only [Exit.inBlock]
   simp only at hR
   split at hR
   ·next h=>subst h; rw [if_pos rfl]; exact ⟨.normal,s',M',L',trivial,hR,hs',hf⟩
   ·next h=>rw [if_neg h]; exact ⟨_,s',M',L',Sb _,hR,hs',hf⟩
  | ret=>cases x' <;> simp only [Gh] at hx; exact ⟨.ret,s',M',L',trivial,hR,hs',hf⟩
  | goto l=>cases x' <;> exact hx.elim
  | panic ch=>cases x' <;> exact hx.elim
  | outgrown=>cases x' <;> exact hx.elim
 | loop c ih =>
  intro M L w a s R hs hb0 hq
  simp only [Fk,evC] at hq
  refine wpIn_loop_rounds Lg ?_
  have key:∀(k:Nat) (M':Mem) (L':Lay) (w':World) (a':Act) (s':St),SR P M' L' w' n b0 s' a'->Fr w s.heap L M w' s'.heap L' M'->(Do (evC call base (Fk P n byr nest c)) k s').all R->
    Code.roundsIn (W r) 0 P c (A5m P M L w s.heap n b0 R) k a' w':=by
   intro k
   induction k with
   | zero=>intro M' L' w' a' s' _ _ hq'; exact hq'.elim
   | succ k ihk =>
    intro M' L' w' a' s' hs' hf hq'
    rw [roundsIn_succ]
    simp only [Do,Res.all_bind] at hq'
    refine wpIn_mono (ih M' L' w' a' s' _ hs' (Nat.le_trans hb0 hf.size) hq') ?_
    rintro ex a2 w2 ⟨x2,s2,M2,L2,hx,hR,hs2,hf2⟩
    cases ex with
    | normal =>
     cases x2 <;> simp only [Gh] at hx
     exact ihk M2 L2 w2 a2 s2 hs2 (hf.trans hf2) hR
    | exit id =>
     cases x2 <;> simp only [Gh] at hx
     subst hx
     exact ⟨_,s2,M2,L2,Sb _,hR,hs2,hf.trans hf2⟩
    | ret =>
     cases x2 <;> simp only [Gh] at hx
     exact ⟨.ret,s2,M2,L2,trivial,hR,hs2,hf.trans hf2⟩
    | goto l=>cases x2 <;> exact hx.elim
    | panic ch=>cases x2 <;> exact hx.elim
    | outgrown=>cases x2 <;> exact hx.elim
  exact key Lg M L w a s hs (.refl _ _ _ _) hq
theorem HR.congr {h h':Bc} (hr:HR P M L w h) (he:∀k,Bb h' k=Bb h k):HR P M L w h' where
 mem:=hr.mem
 cur:=fun k hk=>by rw [he] at hk ⊢; exact hr.cur k hk
 ver:=fun k v i hi=>by rw [he]; exact hr.ver k v i hi
 inj:=fun k k' i i' a b c d=>by rw [he] at a c; rw [he] at b d; exact hr.inj k k' i i' a b c d
theorem Fr.congr_left {h h' h2:Bc} {w2:World} {L2:Lay} {M2:Mem} (hf:Fr w h L M w2 h2 L2 M2) (he:∀k,Bb h k=Bb h' k):Fr w h' L M w2 h2 L2 M2:=by
 have him:∀b,Im h L b↔Im h' L b:=fun b=>by
  constructor
  ·rintro ⟨k,i,h1,h2,h3⟩; exact ⟨k,i,by rw [<-he]; exact h1,by rw [<-he]; exact h2,h3⟩
  ·rintro ⟨k,i,h1,h2,h3⟩; exact ⟨k,i,by rw [he]; exact h1,by rw [he]; exact h2,h3⟩
 exact ⟨hf.size,fun b hb hn=>hf.kept b hb fun hi=>hn ((him b).1 hi),fun b hb=>(hf.im b hb).imp_left (him b).1,hf.mem,hf.memNew,hf.lay,hf.out⟩
theorem A4p {α β:Type} {f:α->Res β} {p:α->β->Prop}:∀(l:List α) (R:List β->Prop),(∀x∈l,∀(T:β->Prop),(f x).all T->∃y,T y/\p x y)->(mapR f l).all R->
  ∃r,R r/\r.length=l.length/\∀(i:Nat) x y,l[i]? = some x->r[i]? = some y->p x y
 | [],R,_,hq=>⟨[],hq,rfl,fun i x y hx=>by simp at hx⟩
 | x::l,R,hf,hq=>by
  simp only [mapR,Res.all_bind] at hq
  obtain ⟨y,hy,hp⟩:=hf x List.mem_cons_self _ hq
  obtain ⟨r,h1,h2,h3⟩:=A4p l _ (fun z hz=>hf z (List.mem_cons_of_mem _ hz)) hy
  refine ⟨y::r,h1,by simp [h2],fun i u v hu hv => ?_⟩
  cases i with
  | zero=>simp at hu hv; subst hu hv; exact hp
  | succ i=>simp at hu hv; exact h3 i u v hu hv
def Jq (a:Act):ResultVar->Sem Value
 | .tmp t=>pure (a.tmps.getD t undef)
 | .cell ad t=>do loadVar t (<-asAddr (a.tmps.getD ad undef))
def Rl (P:Program):IRes->ResultVar->Prop
 | .tmp t,.tmp u=>t=u
 | .cell t g,.cell u ty=>t=u/\El P ty=some g
 | _,_=>False
theorem Vc {n b0:Nat} {s:St} (hs:SR P M L w n b0 s a) {ir:IRes} {rv:ResultVar} (hrel:Rl P ir rv) {T:AV->Prop} (hq:(Fe s ir).all T) :
  ∃v,T v/\∃cv,((Jq a rv).run P w = .ok cv w)/\VR M L v cv:=by
 cases ir with
 | tmp t =>
  cases rv with
  | tmp u =>
   simp only [Rl] at hrel; subst hrel
   exact ⟨_,hq,_,rfl,hs.he t⟩
  | cell u ty=>exact hrel.elim
 | cell t g =>
  cases rv with
  | tmp u=>exact hrel.elim
  | cell u ty =>
   obtain ⟨rfl,hg⟩:=hrel
   have hv:=hs.he t
   simp only [Fe] at hq
   generalize Bs s.env t=av at hv hq
   generalize hcv:a.tmps.getD t undef=cv at hv
   split at hq
   ·next k ver off =>
    split at hq
    ·next v cs hob =>
     split at hq
     ·next hver =>
      subst hver
      cases hv with
      | @optr _ _ _ info hl =>
       obtain ⟨hmb,c,t0,hb,hn0,hsz,hle,hrow⟩:=Fh hs.hr hob hl
       have hf:=Acy hrow
       obtain ⟨v',cv',h1,h2,h3⟩:=Yf (P:=P) (w:=w) (b:=info.blk) (o:=0) (f:=fun i=>c.getD i undef) (M:=M) (L:=L) (R:=T) hg
        (fun i x hx=>by
         obtain ⟨g1,g2,g3⟩:=hf i x hx
         exact ⟨by simp only [World.cell?,hb,Nat.zero_add]; exact g1,g3⟩) hq
       rw [Nat.zero_add] at h1
       exact ⟨v',h3,cv',by simp [Jq,hcv,asAddr,h1],h2⟩
     ·exact hq.elim
    ·exact hq.elim
   ·next cells off =>
    obtain ⟨b,oo,f,rfl,hc⟩:=A4t hs.hr hv
    obtain ⟨v',cv',h1,h2,h3⟩:=Yf (P:=P) (w:=w) (R:=T) hg hc hq
    exact ⟨v',h3,cv',by simp [Jq,hcv,asAddr,h1],h2⟩
   ·exact hq.elim
theorem Yq {α β:Type} {f:α->Sem β} (w:World):∀(l:List α) (r:List β),r.length=l.length->(∀(i:Nat) x y,l[i]? = some x->r[i]? = some y->(f x).run P w = .ok y w)->(l.mapM f).run P w = .ok r w
 | [],[],_,_=>rfl
 | [],_::_,h,_=>by simp at h
 | _::_,[],h,_=>by simp at h
 | x::l,y::r,hl,h=>by
  have ih:=Yq w l r (by simpa using hl) fun i u v hu hv=>h (i+1) u v (by simpa using hu) (by simpa using hv)
  simp [List.mapM_cons,h 0 x y rfl rfl,ih]
theorem Aft {n b0:Nat} {s:St} (hs:SR P M L w n b0 s a) {fn:Func} {rs:List IRes} (hl:rs.length=fn.results.size) (hrel:∀(i:Nat) ir rv,rs[i]? = some ir->fn.results[i]? = some rv->Rl P ir rv)
  {T:List AV->Prop} (hq:(mapR (Fe s) rs).all T):∃vs,T vs/\∃cv,(results fn a.tmps).run P w = .ok cv w/\VR M L (Gf vs) cv:=by
 have hex:∀ir∈rs,∃rv,∃i:Nat,rs[i]? = some ir/\fn.results[i]? = some rv:=fun ir hir=>by
  obtain ⟨i,hi⟩:=List.mem_iff_getElem?.1 hir
  have:i<fn.results.size:=by rw [<-hl]; exact (List.getElem?_eq_some_iff.1 hi).1
  exact ⟨fn.results[i],i,hi,Array.getElem?_eq_getElem this⟩
 obtain ⟨vs,h1,h2,h3⟩:=A4p (p:=fun ir v=>∀rv,Rl P ir rv->∃cv,((Jq a rv).run P w = .ok cv w)/\VR M L v cv) rs T (fun ir hir U hU=>by
       obtain ⟨rv,i,hi1,hi2⟩:=hex ir hir
       -- the result is read off the evaluator's state: it does not hang on which variable it is held against
       obtain ⟨v,hv,_⟩:=Vc hs (hrel i ir rv hi1 hi2) hU
       have hdet:∃v,U v/\∀rv',Rl P ir rv'->∃cv,((Jq a rv').run P w = .ok cv w)/\VR M L v cv:=by
        have hone:∃v,(Fe s ir) = .ret v:=by
         revert hU
         unfold Fe
         split
         ·intro _; exact ⟨_,rfl⟩
         ·split
          ·split
           ·split
            ·rename_i g _ _ _ _ _ _ _ _
             unfold rd
             split
             ·unfold Res.ofOpt; split
              ·intro _; exact ⟨_,rfl⟩
              ·intro h; exact h.elim
             ·split
              ·intro _; exact ⟨_,rfl⟩
              ·intro h; exact h.elim
            ·intro h; exact h.elim
           ·intro h; exact h.elim
          ·unfold rd
           split
           ·unfold Res.ofOpt; split
            ·intro _; exact ⟨_,rfl⟩
            ·intro h; exact h.elim
           ·split
            ·intro _; exact ⟨_,rfl⟩
            ·intro h; exact h.elim
          ·intro h; exact h.elim
        obtain ⟨v,hv⟩:=hone
        refine ⟨v,by rw [hv] at hU; exact hU,fun rv' hrel' => ?_⟩
        obtain ⟨v',hv',cv,hrun,hvr⟩:=Vc (T:=fun x=>x=v) hs hrel' (by rw [hv]; rfl)
        subst hv'
        exact ⟨cv,hrun,hvr⟩
       exact hdet) hq
 refine ⟨vs,h1,?_⟩
 -- the concrete values
 have hch:∀i:Nat,∃cv,∀v rv,vs[i]? = some v->fn.results[i]? = some rv->((Jq a rv).run P w = .ok cv w)/\VR M L v cv:=fun i=>by
  cases hv:vs[i]? with
  | none=>exact ⟨undef,fun v rv h=>by cases h⟩
  | some v =>
   have hi:i<rs.length:=by rw [<-h2]; exact (List.getElem?_eq_some_iff.1 hv).1
   have hir:rs[i]? = some rs[i]:=List.getElem?_eq_getElem hi
   have hrv:fn.results[i]? = some (fn.results[i]'(by omega)):=Array.getElem?_eq_getElem _
   obtain ⟨cv,hc⟩:=h3 i _ v hir hv _ (hrel i _ _ hir hrv)
   refine ⟨cv,fun v' rv hv' hrv' => ?_⟩
   cases hv'
   rw [hrv] at hrv'; cases hrv'
   exact hc
 have hcl:∃cvs:List Value,cvs.length=vs.length/\∀(i:Nat) v rv cv,vs[i]? = some v->fn.results[i]? = some rv->cvs[i]? = some cv->((Jq a rv).run P w = .ok cv w)/\VR M L v cv:=by
  obtain ⟨g,hg⟩:=Classical.axiomOfChoice hch
  refine ⟨(List.range vs.length).map g,by simp,fun i v rv cv hv hrv hcv => ?_⟩
  have hi:i<vs.length:=(List.getElem?_eq_some_iff.1 hv).1
  simp [hi] at hcv
  subst hcv
  exact hg i v rv hv hrv
 obtain ⟨cvs,hlen,hcv⟩:=hcl
 have hmap:=Yq (P:=P) (f:=Jq a) w fn.results.toList cvs (by simp; omega) (fun i rv cv hrv hc=>by
       have hi:i<vs.length:=by rw [<-hlen]; exact (List.getElem?_eq_some_iff.1 hc).1
       exact (hcv i vs[i] rv cv (List.getElem?_eq_getElem hi) (by rw [<-Array.getElem?_toList]; exact hrv) hc).1)
 have hvr:∀(i:Nat) v cv,vs[i]? = some v->cvs[i]? = some cv->VR M L v cv:=fun i v cv hv hc=>by
  have hi:i<vs.length:=(List.getElem?_eq_some_iff.1 hv).1
  have hrv:fn.results[i]? = some (fn.results[i]'(by omega)):=Array.getElem?_eq_getElem _
  exact (hcv i v _ cv hv hrv hc).2
 have hres:(results fn a.tmps).run P w = .ok (if h:cvs.toArray.size=1 then cvs.toArray[0] else .tuple cvs.toArray) w:=by
  have hk:results fn a.tmps=(fn.results.mapM (Jq a)) >>= fun vs=>pure (if h:vs.size=1 then vs[0] else .tuple vs):=
   congrArg (fun f:ResultVar->Sem Value=>(fn.results.mapM f) >>= fun vs=>pure (if h:vs.size=1 then vs[0] else .tuple vs)) (funext fun x=>by cases x <;> rfl)
  rw [hk,Sem.run_bind,Array.mapM_eq_mapM_toList,Sem.run_map,hmap]
  rfl
 refine ⟨_,hres,?_⟩
 match vs,cvs,hlen,hvr with
 | [],[],_,_=>exact .tuple rfl fun i c v hc=>by simp at hc
 | [v],[c],_,hvr=>exact hvr 0 v c rfl rfl
 | v1::v2::vs,c1::c2::cvs,hlen,hvr =>
  have:¬(c1::c2::cvs).toArray.size=1:=by simp
  rw [dif_neg this]
  exact .tuple (by simpa using hlen.symm) fun i c v hc hv=>hvr i c v hc (by simpa using hv)
 | [],_::_,hlen,_=>simp at hlen
 | _::_,[],hlen,_=>simp at hlen
 | [_],_::_::_,hlen,_=>simp at hlen
 | _::_::_,[_],hlen,_=>simp at hlen
end Go.Ev
