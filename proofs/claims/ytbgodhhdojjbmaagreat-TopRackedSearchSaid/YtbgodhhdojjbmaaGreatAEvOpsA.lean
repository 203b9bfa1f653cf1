/- Operations that touch no memory, or only lay a block that nobody writes: what the evaluator says of them is what the model does. No condition but those that stand in each. -/
import Derived.Test.YtbgodhhdojjbmaaGreatAEvRel
import Derived.Laws.CopyRow
import Derived.Laws.Rows
set_option linter.unusedSimpArgs false
set_option linter.unusedVariables false
namespace Go.Ev
open Go
variable {P:Program} {M:Mem} {L:Lay} {w:World} {h:Bc} {e:Env} {a:Act} {Q:AV×Bc->Prop}
theorem Qj:∀(n:Nat) (x:AV) (v:Value),Kh n x v=true->VR M L x v:=by
 intro n
 induction n with
 | zero =>
  intro x v hx
  unfold Kh at hx
  split at hx
  ·rw [beq_iff_eq.1 hx]; exact .bool
  ·simp only [Bool.and_eq_true,beq_iff_eq] at hx
   obtain ⟨h1,h2⟩:=hx
   rw [h1,h2]; exact .int
  ·exact .empty (fun _=>rfl)
  ·exact .nilptr
  ·exact .nilfn
  ·exact .nilmap
  ·next hn=>exact (Nat.succ_ne_zero _ hn.symm).elim
  ·exact absurd hx (by simp)
 | succ n ih =>
  intro x v hx
  unfold Kh at hx
  split at hx
  ·rw [beq_iff_eq.1 hx]; exact .bool
  ·simp only [Bool.and_eq_true,beq_iff_eq] at hx
   obtain ⟨h1,h2⟩:=hx
   rw [h1,h2]; exact .int
  ·exact .empty (fun _=>rfl)
  ·exact .nilptr
  ·exact .nilfn
  ·exact .nilmap
  ·next hn =>
   cases hn
   simp only [Bool.and_eq_true,beq_iff_eq] at hx
   obtain ⟨h1,h2⟩:=hx
   refine .agg h1 fun i c v hc hv=>ih c v ?_
   have:=List.all_eq_true.1 h2 (c,v) ?_
   ·exact this
   ·rw [List.mem_iff_getElem?]
    refine ⟨i,?_⟩
    rw [List.getElem?_zip_eq_some]
    exact ⟨hc,by rw [Array.getElem?_toList]; exact hv⟩
  ·exact absurd hx (by simp)
def ER (M:Mem) (L:Lay) (e:Env) (a:Act):Prop:=∀t,VR M L (Bs e t) (a.tmps.getD t undef)
theorem ER.mono {M':Mem} {L':Lay} (hM:Mem.le M M') (hL:Lay.le L L') (he:ER M L e a):ER M' L' e a:=fun t=>(he t).mono hM hL
theorem Dl {t:TypeId} {x:Operand} {ix:IX} (hE:ER M L e a) (hc:cX P t x=some ix):VR M L (ix.ev e) (a.eval x):=by
 cases x with
 | tmp t=>simp only [cX,Option.some.injEq] at hc; subst hc; exact hE t
 | const v =>
  simp only [cX,Option.map_eq_some_iff] at hc
  obtain ⟨y,hy,rfl⟩:=hc
  unfold Abv at hy
  simp only at hy
  split at hy
  ·next y' hy' =>
   split at hy
   ·next hr=>cases hy; exact Qj 3 _ _ hr
   ·cases hy
  ·cases hy
 | func f=>simp only [cX,Option.some.injEq] at hc; subst hc; exact .clo rfl rfl (fun i c v h=>by simp at h) (fun i c v h=>by simp at h)
 | global g=>simp [cX] at hc
def OpOk (P:Program) (M:Mem) (L:Lay) (w:World) (h:Bc) (a:Act) (o:Oper) (Q:AV×Bc->Prop):Prop:=
 ∃cv w',((execOp a.eval o).run P w = .ok (.value cv) w'\/((execOp a.eval o).run P w = .ok .skip w'/\cv=undef))/\Good P M L w h Q w' cv
theorem Good.pure {v:AV} {cv:Value} (hr:HR P M L w h) (hv:VR M L v cv) (hq:Q (v,h)):Good P M L w h Q w cv:=
 ⟨v,h,M,L,hq,hr,.refl _ _ _ _,hv⟩
theorem OpOk.pure {o:Oper} {v:AV} {cv:Value} (hr:HR P M L w h) (hx:(execOp a.eval o).run P w = .ok (.value cv) w) (hv:VR M L v cv) (hq:Q (v,h)):OpOk P M L w h a o Q:=
 ⟨cv,w,.inl hx,.pure hr hv hq⟩
theorem VR.bool_inv {b:Bool} {v:Value} (hv:VR M L (.bool b) v):v = .bool b:=by cases hv; rfl
theorem VR.int_inv {k:IntKind} {n:Int} {v:Value} (hv:VR M L (.int k n) v):v = .int k n:=by cases hv; rfl
section ops
variable (hr:HR P M L w h) (hE:ER M L e a) (call:Bf) (key:Nat) {o:Oper}
include hr hE
theorem Aor {x:Operand} {t:TypeId} {ix:IX} (ho:o.op = .move x\/o.op = .assign x) (hc:cX P t x=some ix) (hq:(Bd call key (.mv ix) e h).all Q):OpOk P M L w h a o Q:=by
 refine .pure hr (cv:=a.eval x) ?_ (Dl hE hc) hq
 rcases ho with ho | ho <;> simp [execOp,ho]
theorem Atz {c x y:Operand} {t t':TypeId} {ic ix iy:IX} (ho:o.op = .pick c x y) (hc:cX P t c=some ic) (hx:cX P t' x=some ix) (hy:cX P t' y=some iy)
  (hq:(Bd call key (.pick ic ix iy) e h).all Q):OpOk P M L w h a o Q:=by
 have hcv:=Dl hE hc
 simp only [Bd] at hq
 split at hq
 ·next b hb =>
  rw [hb] at hcv
  have hb':=hcv.bool_inv
  cases b with
  | true=>exact .pure hr (cv:=a.eval x) (by simp [execOp,ho,hb',asBool]) (Dl hE hx) hq
  | false=>exact .pure hr (cv:=a.eval y) (by simp [execOp,ho,hb',asBool]) (Dl hE hy) hq
 ·exact hq.elim
theorem B2o {op:UnOp} {t t':TypeId} {x:Operand} {ix:IX} (ho:o.op = .unOp op t' x) (hx:cX P t x=some ix)
  (hq:(Bd call key (.un op ix) e h).all Q):OpOk P M L w h a o Q:=by
 have hxv:=Dl hE hx
 simp only [Bd,Res.all_bind] at hq
 generalize ix.ev e=av at hxv hq
 unfold unA at hq
 split at hq
 ·have:=hxv.int_inv
  exact .pure hr (cv:=.int _ _) (by simp only [execOp,ho,Op.unary,this,Op.intArith]; rfl) .int hq
 ·have:=hxv.bool_inv
  exact .pure hr (cv:=.bool _) (by simp only [execOp,ho,Op.unary,this]; rfl) .bool hq
 ·exact hq.elim
theorem Atu {k:IntKind} {s d t:TypeId} {x:Operand} {ix:IX} (ho:o.op = .convert s d x) (hd:P.underlying d=some (.int k)) (hs:∃ds,P.underlying s=some ds) (hx:cX P t x=some ix)
  (hq:(Bd call key (.conv k ix) e h).all Q):OpOk P M L w h a o Q:=by
 have hxv:=Dl hE hx
 simp only [Bd] at hq
 generalize ix.ev e=av at hxv hq
 obtain ⟨ds,hs⟩:=hs
 split at hq
 ·have:=hxv.int_inv
  exact .pure hr (cv:=.int _ _) (by simp [execOp,ho,convert,run_underlying hs,run_underlying hd,this,Conv.intToInt]) .int hq
 ·exact hq.elim
omit hr hE in
theorem Aae (op:BinOp) (ty:TypeId) (x y:Operand) (k k':IntKind) (m n:Int) (w:World):(eqGuard op ty x y (.int k m) (.int k' n)).run P w = .ok () w:=by
 cases op <;> rfl
omit hr hE in
theorem A6p (op:BinOp) (ty:TypeId) (x y:Operand) (m n:Bool) (w:World):(eqGuard op ty x y (.bool m) (.bool n)).run P w = .ok () w:=by
 cases op <;> rfl
theorem Axx {op:BinOp} {ty t t' ty':TypeId} {x y:Operand} {ix iy:IX} (ho:o.op = .binOp op ty x y ty') (hx:cX P t x=some ix) (hy:cX P t' y=some iy)
  (hq:(Bd call key (.bin op ix iy) e h).all Q):OpOk P M L w h a o Q:=by
 have hxv:=Dl hE hx
 have hyv:=Dl hE hy
 simp only [Bd,Res.all_bind] at hq
 generalize ix.ev e=av at hxv hq
 generalize iy.ev e=bv at hyv hq
 have hg:=@Aae P
 unfold Ef at hq
 split at hq
 ·have e1:=hxv.int_inv; have e2:=hyv.int_inv
  split at hq
  ·exact hq.elim
  ·next hb =>
   refine .pure hr (cv:=.int _ _) ?_ .int hq
   simp [execOp,ho,e1,e2,hg,binOp,Op.shift,hb]
 ·have e1:=hxv.int_inv; have e2:=hyv.int_inv
  split at hq
  ·exact hq.elim
  ·next hb =>
   refine .pure hr (cv:=.int _ _) ?_ .int hq
   simp [execOp,ho,e1,e2,hg,binOp,Op.shift,hb]
 ·next n1 n2 =>
  have e1:=hxv.int_inv; have e2:=hyv.int_inv
  split at hq
  ·next hk =>
   subst hk
   cases op <;> simp only [Kg] at hq
   case add=>refine .pure hr (cv:=.int _ _) ?_ .int hq; simp only [execOp,ho,e1,e2,binOp,Op.intArith]; simp [hg]
   case sub=>refine .pure hr (cv:=.int _ _) ?_ .int hq; simp only [execOp,ho,e1,e2,binOp,Op.intArith]; simp [hg]
   case mul=>refine .pure hr (cv:=.int _ _) ?_ .int hq; simp only [execOp,ho,e1,e2,binOp,Op.intArith]; simp [hg]
   case quo =>
    split at hq
    ·exact hq.elim
    ·next hb=>refine .pure hr (cv:=.int _ _) ?_ .int hq; simp only [execOp,ho,e1,e2,binOp,Op.intDiv]; simp [hg,hb]
   case rem =>
    split at hq
    ·exact hq.elim
    ·next hb=>refine .pure hr (cv:=.int _ _) ?_ .int hq; simp only [execOp,ho,e1,e2,binOp,Op.intDiv]; simp [hg,hb]
   case and=>refine .pure hr (cv:=.int _ _) ?_ .int hq; simp only [execOp,ho,e1,e2,binOp,Op.intBits]; simp [hg]
   case or=>refine .pure hr (cv:=.int _ _) ?_ .int hq; simp only [execOp,ho,e1,e2,binOp,Op.intBits]; simp [hg]
   case xor=>refine .pure hr (cv:=.int _ _) ?_ .int hq; simp only [execOp,ho,e1,e2,binOp,Op.intBits]; simp [hg]
   case eql=>refine .pure hr (cv:=.bool _) ?_ .bool hq; simp only [execOp,ho,e1,e2,binOp,Op.intCmp]; simp [hg]
   case neq=>refine .pure hr (cv:=.bool _) ?_ .bool hq; simp only [execOp,ho,e1,e2,binOp,Op.intCmp]; simp [hg]
   case lss=>refine .pure hr (cv:=.bool _) ?_ .bool hq; simp only [execOp,ho,e1,e2,binOp,Op.intCmp]; simp [hg]
   case leq=>refine .pure hr (cv:=.bool _) ?_ .bool hq; simp only [execOp,ho,e1,e2,binOp,Op.intCmp]; simp [hg]
   case gtr=>refine .pure hr (cv:=.bool _) ?_ .bool hq; simp only [execOp,ho,e1,e2,binOp,Op.intCmp]; simp [hg]
   case geq=>refine .pure hr (cv:=.bool _) ?_ .bool hq; simp only [execOp,ho,e1,e2,binOp,Op.intCmp]; simp [hg]
   all_goals exact hq.elim
  ·exact hq.elim
 ·exact hq.elim
omit hr hE in
theorem Rm {ty:TypeId} (hu:P.underlying ty=some .bool) (b c:Bool) (w:World):(Op.equal ty (.bool b) (.bool c)).run P w = .ok (b==c) w:=by
 have:∀d,(Op.equalIn (d+1) ty (.bool b) (.bool c)).run P w = .ok (b==c) w:=fun d=>by
  simp [Op.equalIn,run_underlying hu]
 exact this 9999
theorem Ait {op:BinOp} {neg:Bool} {ty t t' ty':TypeId} {x y:Operand} {ix iy:IX} (ho:o.op = .binOp op ty x y ty') (hx:cX P t x=some ix) (hy:cX P t' y=some iy)
  (hop:(op = .eql/\neg=false)\/(op = .neq/\neg=true)) (hu:P.underlying ty=some .bool)
  (hq:(Bd call key (.eqB neg ix iy) e h).all Q):OpOk P M L w h a o Q:=by
 have hxv:=Dl hE hx
 have hyv:=Dl hE hy
 simp only [Bd] at hq
 generalize ix.ev e=av at hxv hq
 generalize iy.ev e=bv at hyv hq
 have hg:=@A6p P
 split at hq
 ·have e1:=hxv.bool_inv; have e2:=hyv.bool_inv
  refine .pure hr (cv:=.bool _) ?_ .bool hq
  rcases hop with ⟨rfl,rfl⟩ | ⟨rfl,rfl⟩
  ·simp only [execOp,ho,e1,e2,binOp]; simp [hg,Rm hu]
  ·simp only [execOp,ho,e1,e2,binOp]; simp [hg,Rm hu]
 ·exact hq.elim
theorem Aer {x:Operand} {t:TypeId} {i:Nat} {ix:IX} (ho:o.op = .extract x i) (hx:cX P t x=some ix)
  (hq:(Bd call key (.extract ix i) e h).all Q):OpOk P M L w h a o Q:=by
 have hxv:=Dl hE hx
 simp only [Bd] at hq
 generalize ix.ev e=av at hxv hq
 split at hq
 ·next vs =>
  rw [Res.all_bind] at hq
  obtain ⟨v,hv,hq⟩:=Res.all_ofOpt hq
  generalize hcv:a.eval x=cv at hxv
  cases hxv with
  | @tuple _ cvs hl hh =>
   have hi:i<cvs.size:=by rw [<-hl]; exact (List.getElem?_eq_some_iff.1 hv).1
   have hci:cvs[i]? = some cvs[i]:=Array.getElem?_eq_getElem hi
   refine .pure hr (cv:=cvs[i]) ?_ (hh i v _ hv hci) hq
   simp [execOp,ho,hcv,Instr.extract,hci]
 ·exact hq.elim
omit hr hE in
theorem A1z:∀(xs:List Operand) (ts:List TypeId) (ixs:List IX),ER M L e a->It P ts xs=some ixs->ixs.length=xs.length/\∀(i:Nat) ix x,ixs[i]? = some ix->xs[i]? = some x->VR M L (ix.ev e) (a.eval x)
 | [],ts,ixs,_,hc=>by
  simp only [It,Option.some.injEq] at hc
  subst hc
  exact ⟨rfl,fun i ix x hi=>by simp at hi⟩
 | x::r,[],ixs,hE,hc=>by
  simp only [It,Option.bind_eq_some_iff,Option.map_eq_some_iff] at hc
  obtain ⟨b,hb,bs,hbs,rfl⟩:=hc
  obtain ⟨h1,h2⟩:=A1z r [] bs hE hbs
  refine ⟨by simp [h1],fun i ix x hi hx => ?_⟩
  cases i with
  | zero=>simp at hi hx; subst hi hx; exact Dl hE hb
  | succ i=>simp at hi hx; exact h2 i ix x hi hx
 | x::r,t::ts,ixs,hE,hc=>by
  simp only [It,Option.bind_eq_some_iff,Option.map_eq_some_iff] at hc
  obtain ⟨b,hb,bs,hbs,rfl⟩:=hc
  obtain ⟨h1,h2⟩:=A1z r ts bs hE hbs
  refine ⟨by simp [h1],fun i ix x hi hx => ?_⟩
  cases i with
  | zero=>simp at hi hx; subst hi hx; exact Dl hE hb
  | succ i=>simp at hi hx; exact h2 i ix x hi hx
def VRs (M:Mem) (L:Lay) (as:List AV) (vs:Array Value):Prop:=as.length=vs.size/\∀(i:Nat) x v,as[i]? = some x->vs[i]? = some v->VR M L x v
omit hr in
theorem Lm {xs:Array Operand} {ts:List TypeId} {ixs:List IX} (hc:It P ts xs.toList=some ixs):VRs M L (ixs.map (IX.ev e)) (xs.map a.eval):=by
 obtain ⟨h1,h2⟩:=A1z _ _ _ hE hc
 refine ⟨by simpa using h1,fun i x v hx hv => ?_⟩
 rw [List.getElem?_map,Option.map_eq_some_iff] at hx
 rw [Array.getElem?_map,Option.map_eq_some_iff] at hv
 obtain ⟨ix,hix,rfl⟩:=hx
 obtain ⟨y,hy,rfl⟩:=hv
 exact h2 i ix y hix (by rw [Array.getElem?_toList]; exact hy)
theorem Aiv {f:FuncId} {first captured:Array Operand} {t1 t2:List TypeId} {i1 i2:List IX} (ho:o.op = .makeFunc (.func f) first captured) (h1:It P t1 first.toList=some i1)
  (h2:It P t2 captured.toList=some i2) (hq:(Bd call key (.mkFunc f i1 i2) e h).all Q):OpOk P M L w h a o Q:=by
 obtain ⟨a1,b1⟩:=Lm hE h1
 obtain ⟨a2,b2⟩:=Lm hE h2
 refine .pure hr (cv:=.func (.func f) (first.map a.eval) (captured.map a.eval)) ?_ (.clo a1 a2 b1 b2) hq
 simp [execOp,ho,Instr.makeFunc]
theorem Abc {x:Operand} {t:TypeId} {ix:IX} (ho:o.op = .nilCheck x) (hx:cX P t x=some ix)
  (hq:(Bd call key (.nilCheck ix) e h).all Q):OpOk P M L w h a o Q:=by
 have hxv:=Dl hE hx
 simp only [Bd] at hq
 generalize ix.ev e=av at hxv hq
 generalize hcv:a.eval x=cv at hxv
 split at hq
 ·cases hxv with
  | ptr hm hv ho1 hr1=>exact .pure hr (by simp [execOp,ho,hcv]) (.ptr hm hv ho1 hr1) hq
 ·cases hxv with
  | optr hl=>exact .pure hr (by simp [execOp,ho,hcv]) (.optr hl) hq
 ·cases hxv with
  | clo a1 a2 b1 b2=>exact .pure hr (by simp [execOp,ho,hcv]) (.clo a1 a2 b1 b2) hq
 ·exact hq.elim
end ops
variable {P:Program} {M:Mem} {L:Lay} {w:World} {h:Bc} {e:Env} {a:Act} {Q:AV×Bc->Prop}
def Lay.upd (L:Lay) (k u:Nat) (i:Info):Lay:=fun k' u'=>if k'=k/\u'=u then some i else L k' u'
theorem Lay.upd_self (L:Lay) (k u:Nat) (i:Info):L.upd k u i k u=some i:=by simp [Lay.upd]
theorem HR.mem_lt (hr:HR P M L w h) {b:Nat} {o:Obj} (hb:M b=some o):b<w.heap.size:=(Array.getElem?_eq_some_iff.1 (hr.mem b o hb)).1
theorem HR.put (hr:HR P M L w h) (k u:Nat) (info:Info) (o:AObj) (w':World) (ho:o ≠ .none) (hou:o.ver=u)
  (hL:L k u=none\/L k u=some info) (hver:Bb h k ≠ .none->(Bb h k).ver<=u) (hb:M info.blk=none)
  (hblk:info.blk=w.heap.size\/∃i0,Bb h k ≠ .none/\L k (Bb h k).ver=some i0/\i0.blk=info.blk)
  (hsz:w.heap.size<=w'.heap.size) (hw:∀b,b<w.heap.size->b≠info.blk->w'.heap[b]? = w.heap[b]?)
  (hor:ORel P M (L.upd k u info) w' info o) (hso:SameOut w w':=by exact ⟨rfl,rfl,rfl⟩):HR P M (L.upd k u info) w' (setH h k o)/\Fr w h L M w' (setH h k o) (L.upd k u info) M:=by
 have hle:Lay.le L (L.upd k u info):=fun k' v' i' hi=>by
  unfold Lay.upd
  split
  ·next hc =>
    obtain ⟨rfl,rfl⟩:=hc; rcases hL with hL | hL <;> rw [hL] at hi
    ·cases hi
    ·exact hi
  ·exact hi
 have hother:∀k' i',k'≠k->Bb h k' ≠ .none->L k' (Bb h k').ver=some i'->i'.blk≠info.blk:=fun k' i' hk hn hi hbe=>by
  obtain ⟨i2,h1,_,h3⟩:=hr.cur k' hn
  rw [hi] at h1; cases h1
  rcases hblk with hblk | ⟨i0,h0n,h0,h0b⟩
  ·have:=h3.blk_lt hn; omega
  ·exact hk (hr.inj k' k i' i0 hn h0n hi h0 (hbe.trans h0b.symm))
 refine ⟨⟨?_,?_,?_,?_⟩,⟨hsz,?_,?_,fun _ _ h=>h,fun _ _ h => .inl h,hle,hso⟩⟩
 ·intro b o' hb'
  rw [hw b (hr.mem_lt hb') (fun he=>by rw [he,hb] at hb'; cases hb')]
  exact hr.mem b o' hb'
 ·intro k' hn
  by_cases hk:k'=k
  ·subst hk
   rw [getH_setH_self]
   exact ⟨info,by rw [hou,Lay.upd_self],hb,hor⟩
  ·rw [Ba _ _ _ _ (fun he=>hk he.symm)] at hn ⊢
   obtain ⟨i',h1,h2,h3⟩:=hr.cur k' hn
   exact ⟨i',hle _ _ _ h1,h2,h3.mono (fun _ _ h=>h) hle (hw _ (h3.blk_lt hn) (hother k' i' hk hn h1))⟩
 ·intro k' v' i' hi
  by_cases hk:k'=k
  ·subst hk
   rw [getH_setH_self]
   refine ⟨ho,?_⟩
   rw [hou]
   by_cases hv:v'=u
   ·omega
   ·simp only [Lay.upd,hv,and_false,if_false] at hi
    obtain ⟨h1,h2⟩:=hr.ver k' v' i' hi
    have:=hver h1
    omega
  ·rw [Ba _ _ _ _ (fun he=>hk he.symm)]
   simp only [Lay.upd,hk,false_and,if_false] at hi
   exact hr.ver k' v' i' hi
 ·intro k1 k2 i1 i2 n1 n2 l1 l2 hbe
  by_cases h1:k1=k
  ·by_cases h2:k2=k
   ·omega
   ·subst h1
    rw [getH_setH_self,hou,Lay.upd_self] at l1
    cases l1
    rw [Ba _ _ _ _ (fun he=>h2 he.symm)] at n2 l2
    simp only [Lay.upd,h2,false_and,if_false] at l2
    exact (hother k2 i2 h2 n2 l2 hbe.symm).elim
  ·by_cases h2:k2=k
   ·subst h2
    rw [getH_setH_self,hou,Lay.upd_self] at l2
    cases l2
    rw [Ba _ _ _ _ (fun he=>h1 he.symm)] at n1 l1
    simp only [Lay.upd,h1,false_and,if_false] at l1
    exact (hother k1 i1 h1 n1 l1 hbe).elim
   ·rw [Ba _ _ _ _ (fun he=>h1 he.symm)] at n1 l1
    rw [Ba _ _ _ _ (fun he=>h2 he.symm)] at n2 l2
    simp only [Lay.upd,h1,false_and,if_false] at l1
    simp only [Lay.upd,h2,false_and,if_false] at l2
    exact hr.inj k1 k2 i1 i2 n1 n2 l1 l2 hbe
 ·intro b hb1 hn
  refine hw b hb1 fun he => ?_
  rcases hblk with hblk | ⟨i0,h0n,h0,h0b⟩
  ·omega
  ·exact hn ⟨k,i0,h0n,h0,by omega⟩
 ·rintro b ⟨k',i',hn,hl,rfl⟩
  by_cases hk:k'=k
  ·subst hk
   rw [getH_setH_self,hou,Lay.upd_self] at hl
   cases hl
   rcases hblk with hblk | ⟨i0,h0n,h0,h0b⟩
   ·exact .inr (by omega)
   ·exact .inl ⟨k',i0,h0n,h0,h0b⟩
  ·rw [Ba _ _ _ _ (fun he=>hk he.symm)] at hn hl
   simp only [Lay.upd,hk,false_and,if_false] at hl
   exact .inl ⟨k',i',hn,hl,rfl⟩
theorem HR.next_none (hr:HR P M L w h) (k:Nat):L k (Bb h k).next=none:=by
 cases hl:L k (Bb h k).next with
 | none=>rfl
 | some i =>
  obtain ⟨h1,h2⟩:=hr.ver _ _ _ hl
  revert h1 h2
  cases Bb h k <;> simp [AObj.next,AObj.ver] <;> omega
theorem HR.next_le (k:Nat):Bb h k ≠ .none->(Bb h k).ver<=(Bb h k).next:=by
 cases Bb h k <;> simp [AObj.next,AObj.ver]
theorem HR.fresh (hr:HR P M L w h):M w.heap.size=none:=by
 cases hm:M w.heap.size with
 | none=>rfl
 | some o=>have:=hr.mem_lt hm; omega
theorem HR.new_row (hr:HR P M L w h) (k:Nat) (cs:List AV) (c:Array Value) (t:TypeId) (w':World) (he:w'.heap=w.heap.push (.cells c t)) (hn:cs.length<=c.size) (hrow:Row M L cs c) (hso:SameOut w w':=by exact ⟨rfl,rfl,rfl⟩) :
  HR P M (L.upd k (Bb h k).next ⟨w.heap.size,cs.length,c.size⟩) w' (setH h k (.cells (Bb h k).next cs))/\
   Fr w h L M w' (setH h k (.cells (Bb h k).next cs)) (L.upd k (Bb h k).next ⟨w.heap.size,cs.length,c.size⟩) M:=by
 have hle:Lay.le L (L.upd k (Bb h k).next ⟨w.heap.size,cs.length,c.size⟩):=fun k' v' i' hi=>by
  unfold Lay.upd
  split
  ·next hc=>obtain ⟨rfl,rfl⟩:=hc; rw [hr.next_none] at hi; cases hi
  ·exact hi
 refine hr.put k _ _ _ w' (by simp) rfl (.inl (hr.next_none k)) (HR.next_le k) hr.fresh (.inl rfl) (by rw [he,Array.size_push]; omega) ?_ ?_ hso
 ·intro b hb _
  rw [he,Array.getElem?_push,if_neg (by omega)]
 ·refine ⟨c,t,by simp [he],rfl,rfl,hn,fun i x hx => ?_⟩
  obtain ⟨v,h1,h2,h3⟩:=hrow i x hx
  exact ⟨v,h1,h2,h3.mono (fun _ _ h=>h) hle⟩
theorem Se {t:TypeId} (hg:El P t=some none):∃d i,P.underlying t=some d/\(∀fs,d ≠ .struct fs)/\(∀n e,d ≠ .array n e)/\P.info? t=some i/\i.size=1:=by
 unfold El at hg
 split at hg
 ·split at hg <;> (try split at hg) <;> simp at hg
 ·split at hg <;> (try split at hg) <;> simp at hg
 ·next d h1 h2 hd =>
  split at hg
  ·next i hi =>
   split at hg
   ·next hs=>exact ⟨d,i,hd,fun fs he=>h1 fs he,fun n e he=>h2 n e he,hi,hs⟩
   ·cases hg
  ·cases hg
 ·cases hg
theorem Sf {t:TypeId} {n:Nat} (hg:El P t=some (some n)):∃d i,P.underlying t=some d/\((∃fs,d = .struct fs)\/(∃n e,d = .array n e))/\P.info? t=some i/\i.size=n/\0<n:=by
 unfold El at hg
 split at hg
 ·next fs hd =>
  split at hg
  ·next i hi =>
   split at hg
   ·next hs=>cases hg; exact ⟨_,i,hd,.inl ⟨fs,rfl⟩,hi,rfl,hs⟩
   ·cases hg
  ·cases hg
 ·next m e' hd =>
  split at hg
  ·next i hi =>
   split at hg
   ·next hs=>cases hg; exact ⟨_,i,hd,.inr ⟨m,e',rfl⟩,hi,rfl,hs⟩
   ·cases hg
  ·cases hg
 ·split at hg
  ·split at hg <;> simp at hg
  ·cases hg
 ·cases hg
theorem Fs (b o n:Nat):(⟨b,o,none⟩:Addr).add n=⟨b,o+n,none⟩:=by
 unfold Addr.add; split <;> simp_all
theorem Li {t:TypeId} {d:TypeDesc} (hu:P.underlying t=some d) (h1:∀fs,d ≠ .struct fs) (h2:∀n e,d ≠ .array n e) (w:World):(isAgg t).run P w = .ok false w:=by
 simp only [isAgg,Sem.run_bind,run_underlying hu,Result.andThen_ok]
 cases d <;> first | rfl | exact (h1 _ rfl).elim | exact (h2 _ _ rfl).elim
theorem Ro {t:TypeId} {d:TypeDesc} (hu:P.underlying t=some d) (h1:(∃fs,d = .struct fs)\/(∃n e,d = .array n e)) (w:World):(isAgg t).run P w = .ok true w:=by
 simp only [isAgg,Sem.run_bind,run_underlying hu,Result.andThen_ok]
 rcases h1 with ⟨fs,rfl⟩ | ⟨n,e,rfl⟩ <;> rfl
theorem Yf {grp:Option Nat} {t:TypeId} {cells:List AV} {off b o:Nat} {f:Nat->Value} {R:AV->Prop} (hg:El P t=some grp)
  (hc:∀(i:Nat) (c:AV),cells[i]? = some c->w.cell? ⟨b,o+i,none⟩=some (f i)/\VR M L c (f i)) (hq:(rd grp cells off).all R) :
  ∃v cv,(loadVar t ⟨b,o+off,none⟩).run P w = .ok cv w/\VR M L v cv/\R v:=by
 cases grp with
 | none =>
  obtain ⟨d,i,hu,h1,h2,hi,hs⟩:=Se hg
  obtain ⟨v,hv,hq⟩:=Res.all_ofOpt hq
  obtain ⟨hcell,hvr⟩:=hc off v hv
  refine ⟨v,f off,?_,hvr,hq⟩
  simp [loadVar,Li hu h1 h2,hcell]
 | some n =>
  obtain ⟨d,i,hu,h1,hi,hs,hn⟩:=Sf hg
  simp only [rd] at hq
  split at hq
  ·next hle =>
   have hl:=run_loadCells (P:=P) (w:=w) ⟨b,o+off,none⟩ n (fun j=>f (off+j)) (fun j hj=>by
    obtain ⟨c,hc'⟩:∃c,cells[off+j]? = some c:=⟨cells[off+j]'(by omega),List.getElem?_eq_getElem _⟩
    have:=(hc (off+j) c hc').1
    rw [Fs,Nat.add_assoc]; exact this)
   refine ⟨_,.agg ((List.range n).map fun j=>f (off+j)).toArray,?_,?_,hq⟩
   ·simp [loadVar,Ro hu h1,sizeOf,typeInfo,hi,hs,hl]
   ·refine .agg (by simp; omega) fun j c v hj hv => ?_
    simp only [List.getElem?_take,List.getElem?_drop] at hj
    split at hj
    ·next hjn =>
     simp [hjn] at hv
     subst hv
     exact (hc (off+j) c hj).2
    ·cases hj
  ·exact hq.elim
theorem A4t (hr:HR P M L w h) {cells:List AV} {off:Nat} {cv:Value} (hv:VR M L (.ptr cells off) cv) :
  ∃(b o:Nat) (f:Nat->Value),cv = .pointer (some ⟨b,o+off,none⟩)/\∀(i:Nat) (c:AV),cells[i]? = some c->w.cell? ⟨b,o+i,none⟩=some (f i)/\VR M L c (f i):=by
 cases hv with
 | @ptr _ _ b o cs t fz f hm hvc ho hrr =>
  exact ⟨b,o,f,rfl,fun i c hi=>⟨by simp [World.cell?,hr.mem _ _ hm,hvc i c hi],(hrr i c hi).toVR⟩⟩
theorem Fh (hr:HR P M L w h) {k ver:Nat} {cs:List AV} {info:Info} (ho:Bb h k = .cells ver cs) (hl:L k ver=some info) :
  M info.blk=none/\∃c t,w.heap[info.blk]? = some (.cells c t (0,0))/\cs.length=info.n/\c.size=info.size/\info.n<=info.size/\Row M L cs c:=by
 obtain ⟨i',h1,h2,h3⟩:=hr.cur k (by rw [ho]; simp)
 rw [ho] at h1 h3
 simp only [AObj.ver] at h1
 rw [hl] at h1; cases h1
 exact ⟨h2,h3⟩
theorem Acy {cs:List AV} {c:Array Value} (hrow:Row M L cs c):∀(i:Nat) (x:AV),cs[i]? = some x->c[i]? = some (c.getD i undef)/\(c.getD i undef).oneCell'=true/\VR M L x (c.getD i undef):=by
 intro i x hx
 obtain ⟨v,h1,h2,h3⟩:=hrow i x hx
 have:c.getD i undef=v:=by simp [Array.getD_eq_getD_getElem?,h1]
 rw [this]; exact ⟨h1,h2,h3⟩
section ops
variable (hr:HR P M L w h) (hE:ER M L e a) (call:Bf) (key:Nat) {o:Oper}
include hr hE
theorem Atx {grp:Option Nat} {t t':TypeId} {x:Operand} {ix:IX} (ho:o.op = .load t x) (hg:El P t=some grp) (hx:cX P t' x=some ix)
  (hq:(Bd call key (.load grp ix) e h).all Q):OpOk P M L w h a o Q:=by
 have hxv:=Dl hE hx
 simp only [Bd] at hq
 generalize ix.ev e=av at hxv hq
 split at hq
 ·next cells off =>
  rw [Res.all_bind] at hq
  obtain ⟨b,oo,f,hcv,hc⟩:=A4t hr hxv
  obtain ⟨v,cv,h1,h2,h3⟩:=Yf (R:=fun v=>Q (v,h)) hg hc hq
  exact .pure hr (by simp [execOp,ho,Instr.loadAt,Instr.sureAddr,hcv,h1]) h2 h3
 ·next k ver off =>
  split at hq
  ·next v cs hob =>
   split at hq
   ·next hv =>
    subst hv
    rw [Res.all_bind] at hq
    generalize hcv:a.eval x=cv at hxv
    cases hxv with
    | @optr _ _ _ info hl =>
     obtain ⟨hmb,c,t,hb,hn,hsz,hle,hrow⟩:=Fh hr hob hl
     have hf:=Acy hrow
     obtain ⟨v',cv,h1,h2,h3⟩:=Yf (P:=P) (w:=w) (b:=info.blk) (o:=0) (f:=fun i=>c.getD i undef) (R:=fun v=>Q (v,h)) hg
      (fun i x hx=>by
       obtain ⟨g1,g2,g3⟩:=hf i x hx
       exact ⟨by simp only [World.cell?,hb,Nat.zero_add]; exact g1,g3⟩) hq
     rw [Nat.zero_add] at h1
     exact .pure hr (by simp [execOp,ho,Instr.loadAt,Instr.sureAddr,hcv,h1]) h2 h3
   ·exact hq.elim
  ·exact hq.elim
 ·exact hq.elim
theorem A8f {s t:TypeId} {x:Operand} {n:Nat} {fs:Array Field} {fd:Field} {ix:IX} (ho:o.op = .fieldAddr s x n) (hs:P.underlying s=some (.struct fs)) (hf:fs[n]? = some fd)
  (hz:0<P.cellsOf fd.type) (hx:cX P t x=some ix) (hq:(Bd call key (.fieldAddr fd.offset ix) e h).all Q):OpOk P M L w h a o Q:=by
 have hxv:=Dl hE hx
 simp only [Bd] at hq
 generalize ix.ev e=av at hxv hq
 generalize hcv:a.eval x=cv at hxv
 have hsz:∃i,P.info? fd.type=some i/\i.size≠0:=by
  unfold Program.cellsOf at hz
  cases hi:P.info? fd.type with
  | none=>simp [hi] at hz
  | some i=>exact ⟨i,rfl,by simp [hi] at hz; omega⟩
 obtain ⟨i,hi,hi0⟩:=hsz
 split at hq
 ·cases hxv with
  | @ptr _ _ b oo cs t fz f hm hv ho1 hr1 =>
   refine .pure hr (cv:=.pointer (some ⟨b,oo+(_+fd.offset),none⟩)) ?_ (.ptr hm hv ho1 hr1) hq
   simp [execOp,ho,hcv,Instr.fieldAt,Instr.sureAddr,run_underlying hs,hf,fieldPlace,sizeOf,typeInfo,hi,hi0,Fs,Nat.add_assoc]
 ·cases hxv with
  | optr hl =>
   refine .pure hr (cv:=.pointer (some ⟨_,_+fd.offset,none⟩)) ?_ (.optr hl) hq
   simp [execOp,ho,hcv,Instr.fieldAt,Instr.sureAddr,run_underlying hs,hf,fieldPlace,sizeOf,typeInfo,hi,hi0,Fs]
 ·exact hq.elim
end ops
variable {P:Program} {M:Mem} {L:Lay} {w:World} {h:Bc} {e:Env} {a:Act} {Q:AV×Bc->Prop}
theorem Ik:∀(new cs:List AV) (off:Nat),(Dk cs off new).length=cs.length
 | [],_,_=>rfl
 | c::r,cs,off=>by simp [Dk,Ik r]
theorem Ir:∀(new cs:List AV) (off i:Nat),(Dk cs off new)[i]? = if off<=i/\i<off+new.length/\i<cs.length then new[i-off]? else cs[i]?
 | [],cs,off,i=>by
  have:¬(off<=i/\i<off+([]:List AV).length/\i<cs.length):=by simp only [List.length_nil]; omega
  rw [if_neg this]; rfl
 | c::r,cs,off,i=>by
  rw [Dk,Ir r,List.getElem?_set,List.length_set]
  by_cases h1:off=i
  ·subst h1
   have h2:¬(off+1<=off/\off<off+1+r.length/\off<cs.length):=by omega
   rw [if_neg h2,if_pos rfl]
   by_cases h3:off<cs.length
   ·simp [h3]
   ·simp [h3]
  ·by_cases h2:off+1<=i/\i<off+1+r.length/\i<cs.length
   ·have h3:off<=i/\i<off+(c::r).length/\i<cs.length:=by simp; omega
    rw [if_pos h2,if_pos h3]
    have:i-off=(i-(off+1))+1:=by omega
    rw [this]; rfl
   ·have h3:¬(off<=i/\i<off+(c::r).length/\i<cs.length):=by simp; omega
    rw [if_neg h2,if_neg h3,if_neg h1]
def RowL (M:Mem) (L:Lay) (new:List AV) (vs:List Value):Prop:=
 new.length=vs.length/\∀(i:Nat) x v,new[i]? = some x->vs[i]? = some v->v.oneCell'=true/\VR M L x v
theorem RowL.row {new:List AV} {vs:List Value} (hl:RowL M L new vs):Row M L new vs.toArray:=by
 intro i x hx
 have hi:i<vs.length:=by rw [<-hl.1]; exact (List.getElem?_eq_some_iff.1 hx).1
 have hv:vs[i]? = some vs[i]:=List.getElem?_eq_getElem hi
 exact ⟨vs[i],by simp [hi],(hl.2 i x _ hx hv).1,(hl.2 i x _ hx hv).2⟩
theorem RowL.one {new:List AV} {vs:List Value} (hl:RowL M L new vs):∀v∈vs,v.oneCell'=true:=by
 intro v hv
 obtain ⟨i,hi⟩:=List.mem_iff_getElem?.1 hv
 have:i<new.length:=by rw [hl.1]; exact (List.getElem?_eq_some_iff.1 hi).1
 exact (hl.2 i new[i] v (List.getElem?_eq_getElem this) hi).1
theorem Zh {x:AV} {v:Value} (hx:oneB x=true) (h:VR M L x v):v.oneCell'=true:=by
 cases h <;> first | rfl | (simp [oneB] at hx)
theorem Sl {x:AV} {v:Value} (hx:x.cells.all oneB=true) (h:VR M L x v):RowL M L x.cells v.cells.toList:=by
 have hone:∀{y:AV} {u:Value},oneB y=true->y.cells=[y]->u.cells = #[u]->VR M L y u->RowL M L y.cells u.cells.toList:=by
  intro y u h1 h2 h3 h4
  rw [h2,h3]
  refine ⟨rfl,fun i x v hx hv => ?_⟩
  cases i with
  | zero=>simp at hx hv; subst hx hv; exact ⟨Zh h1 h4,h4⟩
  | succ i=>simp at hx
 cases h with
 | @agg cs vs hl hh =>
  simp only [AV.cells] at hx
  refine ⟨by simpa [AV.cells,Value.cells] using hl,fun i x v hx' hv => ?_⟩
  have hv':vs[i]? = some v:=by simpa [Value.cells] using hv
  have hvr:=hh i x v hx' hv'
  exact ⟨Zh (List.all_eq_true.1 hx x (List.mem_of_getElem? hx')) hvr,hvr⟩
 | undef=>simp [AV.cells,oneB] at hx
 | skip=>simp [AV.cells,oneB] at hx
 | tuple hl hh=>simp [AV.cells,oneB] at hx
 | bool=>exact hone rfl rfl rfl .bool
 | int=>exact hone rfl rfl rfl .int
 | empty h=>exact hone rfl rfl rfl (.empty h)
 | slice a b c d f g i=>exact hone rfl rfl rfl (.slice a b c d f g i)
 | ptr a b c d=>exact hone rfl rfl rfl (.ptr a b c d)
 | nilptr=>exact hone rfl rfl rfl .nilptr
 | clo a b c d=>exact hone rfl rfl rfl (.clo a b c d)
 | nilfn=>exact hone rfl rfl rfl .nilfn
 | nilmap=>exact hone rfl rfl rfl .nilmap
 | fmap a b c d f=>exact hone rfl rfl rfl (.fmap a b c d f)
 | optr a=>exact hone rfl rfl rfl (.optr a)
 | oslice a b c d f g i=>exact hone rfl rfl rfl (.oslice a b c d f g i)
 | omap a=>exact hone rfl rfl rfl (.omap a)
 | iter a=>exact hone rfl rfl rfl (.iter a)
 | yld a=>exact hone rfl rfl rfl (.yld a)
theorem Lay.upd_same {k u:Nat} {i:Info} (hl:L k u=some i):L.upd k u i=L:=by
 funext k' u'
 unfold Lay.upd
 split
 ·next hc=>obtain ⟨rfl,rfl⟩:=hc; exact hl.symm
 ·rfl
def Ft (c:Array Value) (off:Nat) (vs:List Value):Array Value:=(c.toList.take off++vs++c.toList.drop (off+vs.length)).toArray
theorem Xd {c:Array Value} {off:Nat} {vs:List Value} (hle:off+vs.length<=c.size):(Ft c off vs).size=c.size:=by
 simp [Ft]; omega
theorem Ny {c:Array Value} {off:Nat} {vs:List Value} (hle:off+vs.length<=c.size) (i:Nat) :
  (Ft c off vs)[i]? = if off<=i/\i<off+vs.length then vs[i-off]? else c[i]?:=by
 simp only [Ft,List.getElem?_toArray]
 have hmin:min off c.size=off:=by omega
 by_cases h1:i<off
 ·have h2:¬(off<=i/\i<off+vs.length):=by omega
  rw [if_neg h2,List.append_assoc,List.getElem?_append_left (by simp; omega),List.getElem?_take,if_pos h1]
  simp
 ·by_cases h2:i<off+vs.length
  ·rw [if_pos ⟨by omega,h2⟩,List.append_assoc,List.getElem?_append_right (by simp; omega),List.getElem?_append_left (by simp; omega)]
   congr 1
   simp; omega
  ·have h3:¬(off<=i/\i<off+vs.length):=by omega
   rw [if_neg h3,List.getElem?_append_right (by simp; omega),List.getElem?_drop]
   simp only [List.length_append,List.length_take,Array.length_toList,hmin,Array.getElem?_toList]
   congr 1; omega
theorem Afu {cs new:List AV} {c:Array Value} {vs:List Value} {off:Nat} (hrow:Row M L cs c) (hl:RowL M L new vs) (hle:off+vs.length<=c.size):Row M L (Dk cs off new) (Ft c off vs):=by
 intro i x hx
 rw [Ir] at hx
 rw [Ny hle]
 have hlen:=hl.1
 split at hx
 ·next hc =>
  rw [if_pos ⟨hc.1,by omega⟩]
  exact (by
   have hi:i-off<vs.length:=by omega
   have hv:vs[i-off]? = some vs[i-off]:=List.getElem?_eq_getElem hi
   exact ⟨_,hv,(hl.2 _ x _ hx hv).1,(hl.2 _ x _ hx hv).2⟩)
 ·next hc =>
  have hi:i<cs.length:=(List.getElem?_eq_some_iff.1 hx).1
  have:¬(off<=i/\i<off+vs.length):=by omega
  rw [if_neg this]
  exact hrow i x hx
theorem HR.write (hr:HR P M L w h) {k v:Nat} {cs new:List AV} {info:Info} {vs:List Value} (off:Nat) (ho:Bb h k = .cells v cs) (hl:L k v=some info)
  (hn:RowL M L new vs) (hle:off+vs.length<=info.size) :
  ∃c t,w.heap[info.blk]? = some (.cells c t (0,0))/\c.size=info.size/\HR P M L (w.setRow info.blk (Ft c off vs)) (setH h k (.cells v (Dk cs off new)))/\
   Fr w h L M (w.setRow info.blk (Ft c off vs)) (setH h k (.cells v (Dk cs off new))) L M:=by
 obtain ⟨hmb,c,t,hb,hlen,hsz,hnle,hrow⟩:=Fh hr ho hl
 refine ⟨c,t,hb,hsz,?_⟩
 have hne:Bb h k ≠ .none:=by rw [ho]; simp
 have hver:(Bb h k).ver=v:=by rw [ho]; rfl
 have key:=hr.put k v info (.cells v (Dk cs off new)) (w.setRow info.blk (Ft c off vs)) (by simp) rfl (.inr hl) (fun _=>by omega) hmb
  (.inr ⟨info,hne,by rw [hver]; exact hl,rfl⟩) (by simp [World.setRow]) (fun b _ hb'=>setRow_other w info.blk b _ hb')
 rw [Lay.upd_same hl] at key
 exact key ⟨Ft c off vs,t,setRow_heap w info.blk c _ t _ hb,by rw [Ik]; exact hlen,by rw [Xd (by omega)]; exact hsz,hnle,Afu hrow hn (by omega)⟩
theorem Gw {t:TypeId} {grp:Option Nat} (hg:El P t=some grp):∃i,P.info? t=some i/\i.size=Be grp:=by
 cases grp with
 | none=>obtain ⟨d,i,_,_,_,hi,hs⟩:=Se hg; exact ⟨i,hi,hs⟩
 | some n=>obtain ⟨d,i,_,_,hi,hs,_⟩:=Sf hg; exact ⟨i,hi,hs⟩
theorem Gg {t:TypeId} {z:List AV} (hz:Fu P t=some z) (hone:z.all oneB=true) :
  ∃i zv,P.info? t=some i/\i.zero=some zv/\i.size=z.length/\∀(M:Mem) (L:Lay),RowL M L z zv.cells.toList:=by
 unfold Fu at hz
 split at hz
 ·next z' v h1 h2 =>
  split at hz
  ·next hc =>
   cases hz
   obtain ⟨c1,c2,c3⟩:=hc
   cases hi:P.info? t with
   | none=>simp [hi] at h2
   | some i =>
    simp only [hi,Option.bind_some] at h2
    simp only [hi,Option.map_some,Option.some.injEq] at c2
    refine ⟨i,v,rfl,h2,c2,fun M L=>⟨by simpa using c1,fun j x u hx hu => ?_⟩⟩
    have hm:(x,u)∈z.zip v.cells.toList:=by
     rw [List.mem_iff_getElem?]
     exact ⟨j,by rw [List.getElem?_zip_eq_some]; exact ⟨hx,hu⟩⟩
    have hvr:VR M L x u:=Qj 3 x u (by simpa using List.all_eq_true.1 c3 _ hm)
    exact ⟨Zh (List.all_eq_true.1 hone x (List.mem_of_getElem? hx)) hvr,hvr⟩
  ·cases hz
 ·cases hz
section ops
variable (hr:HR P M L w h) (hE:ER M L e a) (call:Bf) (key:Nat) {o:Oper}
include hr hE
theorem Amt {grp:Option Nat} {t t' t'':TypeId} {x y:Operand} {ix iy:IX} (ho:o.op = .store t x y) (hg:El P t=some grp) (hx:cX P t' x=some ix) (hy:cX P t'' y=some iy)
  (hq:(Bd call key (.store (Be grp) ix iy) e h).all Q):OpOk P M L w h a o Q:=by
 have hxv:=Dl hE hx
 have hyv:=Dl hE hy
 obtain ⟨i,hi,hsz⟩:=Gw hg
 simp only [Bd] at hq
 generalize ix.ev e=av at hxv hq
 generalize iy.ev e=bv at hyv hq
 generalize hcv:a.eval x=cv at hxv
 split at hq
 ·next k ver off =>
  split at hq
  ·next u cs hob =>
   split at hq
   ·next hc =>
    obtain ⟨hu,hlen,hle,hone⟩:=hc
    subst hu
    cases hxv with
    | @optr _ _ _ info hl =>
     have hrow:=Sl hone hyv
     obtain ⟨hmb,c0,t0,hb0,hn0,hs0,hle0,_⟩:=Fh hr hob hl
     have hvl:(a.eval y).cells.toList.length=Be grp:=by rw [<-hrow.1]; exact hlen
     obtain ⟨c,t1,hb,hcs,g1,g2⟩:=hr.write off hob hl hrow (by omega)
     have hst:=run_storeCells_at P info.blk off t1 (a.eval y).cells.toList 0 c w hb (by omega) hrow.one
     refine ⟨undef,_,.inr ⟨?_,rfl⟩,⟨_,_,M,L,hq,g1,g2,.undef⟩⟩
     have hvs:(a.eval y).cells.size=Be grp:=by simpa using hvl
     simp only [execOp,ho,Instr.storeAt,Instr.sureAddr,hcv,storeVar,sizeOf,typeInfo,Sem.run_bind,Sem.run_pure,run_program,Result.andThen_ok,hi,hsz,hvs,ne_eq,not_true_eq_false,if_false,hst,Ft,Nat.add_zero]
   ·exact hq.elim
  ·exact hq.elim
 ·exact hq.elim
omit hE in
theorem Amk {t:TypeId} {z:List AV} (ho:o.op = .alloc t) (hz:Fu P t=some z)
  (hq:(Bd call key (.alloc z) e h).all Q):OpOk P M L w h a o Q:=by
 simp only [Bd] at hq
 split at hq
 ·next hone =>
  obtain ⟨i,zv,hi,hzv,hsz,hrow⟩:=Gg hz hone
  have hrow:=hrow M L
  have hl:z.length=zv.cells.size:=by simpa using hrow.1
  obtain ⟨g1,g2⟩:=hr.new_row key z zv.cells t { w with heap:=w.heap.push (.cells zv.cells t) } rfl (by omega) (by simpa using hrow.row)
  refine ⟨.pointer (some ⟨w.heap.size,0,none⟩),_,.inl ?_,⟨_,_,M,_,hq,g1,g2,.optr (Lay.upd_self _ _ _ _)⟩⟩
  simp [execOp,ho,Instr.alloc,zeroValue,typeInfo,hi,hzv,newVar,newRow]
 ·exact hq.elim
theorem Axy {t t':TypeId} {x:Operand} {ix:IX} (ho:o.op = .box t x) (hx:cX P t' x=some ix)
  (hq:(Bd call key (.box ix) e h).all Q):OpOk P M L w h a o Q:=by
 have hxv:=Dl hE hx
 simp only [Bd] at hq
 split at hq
 ·next hone =>
  have hrow:=Sl hone hxv
  have hl:(ix.ev e).cells.length=(a.eval x).cells.size:=by simpa using hrow.1
  obtain ⟨g1,g2⟩:=hr.new_row key (ix.ev e).cells (a.eval x).cells t { w with heap:=w.heap.push (.cells (a.eval x).cells t) } rfl (by omega) (by simpa using hrow.row)
  refine ⟨.pointer (some ⟨w.heap.size,0,none⟩),_,.inl ?_,⟨_,_,M,_,hq,g1,g2,.optr (Lay.upd_self _ _ _ _)⟩⟩
  simp [execOp,ho,Instr.box,newVar,newRow]
 ·exact hq.elim
end ops
theorem A0w (off:Nat):∀(vs:List Value) (k:Nat) (c:Array Value),off+k+vs.length<=c.size->∀i:Nat,
  ((vs.zipIdx k).foldl (fun cs (x:Value×Nat)=>cs.setIfInBounds (off+x.2) x.1) c)[i]? = (if off+k<=i/\i<off+k+vs.length then vs[i-(off+k)]? else c[i]?)
   /\((vs.zipIdx k).foldl (fun cs (x:Value×Nat)=>cs.setIfInBounds (off+x.2) x.1) c).size=c.size
 | [],k,c,_,i=>by
  have:¬(off+k<=i/\i<off+k+([]:List Value).length):=by simp only [List.length_nil]; omega
  rw [if_neg this]; exact ⟨rfl,rfl⟩
 | v::vs,k,c,hle,i=>by
  have hle':off+(k+1)+vs.length<=(c.setIfInBounds (off+k) v).size:=by simp at hle ⊢; omega
  obtain ⟨h1,h2⟩:=A0w off vs (k+1) (c.setIfInBounds (off+k) v) hle' i
  simp only [List.zipIdx_cons,List.foldl_cons]
  refine ⟨?_,by rw [h2]; simp⟩
  rw [h1]
  simp only [List.length_cons] at hle ⊢
  by_cases ha:off+(k+1)<=i/\i<off+(k+1)+vs.length
  ·rw [if_pos ha,if_pos (by omega)]
   have:i-(off+k)=(i-(off+(k+1)))+1:=by omega
   rw [this]; rfl
  ·rw [if_neg ha,Array.getElem?_setIfInBounds]
   by_cases hb:off+k=i
   ·subst hb
    have hs:off+k<c.size:=by omega
    rw [if_pos rfl,if_pos hs,if_pos ⟨by omega,by omega⟩]; simp
   ·rw [if_neg hb,if_neg (by omega)]
theorem Rf (hE:ER M L e a) {Lf:Nat->Option (Nat×Nat)}:∀(parts:List (Nat×Operand)) (ps:List (Nat×Nat×IX)) (cs:List AV) (c:Array Value) (R:List AV->Prop),
  ps.length=parts.length->(∀(i:Nat) j x off sz ix,parts[i]? = some (j,x)->ps[i]? = some (off,sz,ix)->Lf j=some (off,sz)/\∃t,cX P t x=some ix)->
  RowL M L cs c.toList->(Eg e ps cs).all R->
  ∃cs' c',Instr.fill Lf c (parts.map fun p=>(p.1,a.eval p.2))=some c'/\RowL M L cs' c'.toList/\R cs'/\cs'.length=cs.length
 | [],ps,cs,c,R,hl,_,hrow,hq=>by
  have:ps=[]:=List.eq_nil_of_length_eq_zero (by simpa using hl)
  subst this
  exact ⟨cs,c,rfl,hrow,hq,rfl⟩
 | (j,x)::parts,[],cs,c,R,hl,_,hrow,hq=>by simp at hl
 | (j,x)::parts,(off,sz,ix)::ps,cs,c,R,hl,hp,hrow,hq=>by
  obtain ⟨hpl,t,hx⟩:=hp 0 j x off sz ix rfl rfl
  simp only [Eg] at hq
  split at hq
  ·next hc =>
   obtain ⟨h1,h2,h3⟩:=hc
   have hnew:=Sl h3 (Dl hE hx)
   have hvs:(a.eval x).cells.size=sz:=by have:=hnew.1; simp at this; omega
   have hcl:cs.length=c.size:=by simpa using hrow.1
   have hff:=A0w off (a.eval x).cells.toList 0 c (by simp; omega)
   have heq:(a.eval x).cells.zipIdx.foldl (fun cs (x:Value×Nat)=>cs.setIfInBounds (off+x.2) x.1) c=((a.eval x).cells.toList.zipIdx 0).foldl (fun cs (x:Value×Nat)=>cs.setIfInBounds (off+x.2) x.1) c:=by
    rw [<-Array.foldl_toList,Array.toList_zipIdx]
   generalize hd:(a.eval x).cells.zipIdx.foldl (fun cs (x:Value×Nat)=>cs.setIfInBounds (off+x.2) x.1) c=d at heq
   have hdsz:d.size=c.size:=by rw [heq]; exact (hff 0).2
   have hrow':RowL M L (Dk cs off (ix.ev e).cells) d.toList:=by
    refine ⟨by rw [Ik]; simp [hdsz,hcl],fun i y v hy hv => ?_⟩
    rw [Ir] at hy
    rw [Array.getElem?_toList,heq,(hff i).1] at hv
    simp only [Nat.add_zero,Array.length_toList] at hv
    split at hy
    ·next hcc =>
     rw [if_pos ⟨hcc.1,by omega⟩] at hv
     exact hnew.2 _ y v hy hv
    ·next hcc =>
     have hi:i<cs.length:=(List.getElem?_eq_some_iff.1 hy).1
     rw [if_neg (by omega)] at hv
     exact hrow.2 i y v hy (by rw [Array.getElem?_toList]; exact hv)
   obtain ⟨cs',c',g1,g2,g3,g4⟩:=Rf hE parts ps (Dk cs off (ix.ev e).cells) d R (by simpa using hl)
    (fun i j' x' off' sz' ix' e1 e2=>hp (i+1) j' x' off' sz' ix' e1 e2) hrow' hq
   refine ⟨cs',c',?_,g2,g3,by rw [g4,Ik]⟩
   simp only [List.map_cons,Instr.fill,hpl]
   rw [if_neg (by simp; omega)]
   have:(a.eval x).cells.zipIdx.foldl (fun cs (c_1,j)=>cs.setIfInBounds (off+j) c_1) c=d:=hd
   rw [this]; exact g1
  ·exact hq.elim
end Go.Ev
