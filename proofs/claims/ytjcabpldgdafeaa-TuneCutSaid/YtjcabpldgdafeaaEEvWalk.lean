/- A table of compiled functions in the place of the compiler; a law's own function entered from outside. Walking the evaluator by rewriting: one rule for each operation and each form of code, in the form '.. No condition but those that stand in each. -/
import Derived.Test.YtjcabpldgdafeaaEEvCall
set_option linter.unusedSimpArgs false
set_option linter.unusedVariables false
namespace Go.Ev
open Go
variable {P : Program}
def look : List (Nat × IFunc) → Nat → Option IFunc
 | [], _ => none
 | (k, c) :: r, n => if n = k then some c else look r n
def tblCfg (t : List (Nat × IFunc)) : Cfg := ⟨look t, fun _ => false⟩
theorem look_mem {t : List (Nat × IFunc)} {n : Nat} {c : IFunc} (hn : look t n = some c) : (n, c) ∈ t := by
 induction t with
 | nil => cases hn
 | cons p r ih =>
  obtain ⟨k, d⟩ := p
  simp only [look] at hn
  split at hn
  ·next he => subst he; cases hn; exact List.mem_cons_self
  ·exact List.mem_cons_of_mem _ (ih hn)
theorem tblCfg_okS {t : List (Nat × IFunc)} {byr : FuncId → FuncId → Bool} (h : ∀ p ∈ t, (cfgOf P byr).fns p.1 = some p.2 ∨ (p.2 = sortFn ∧ SortOk P p.1)) : CfgOk P (tblCfg t) := ⟨(fun _ h => by cases h), fun f c hf => by
 rcases h _ (look_mem hf) with h | h
 ·exact (cfgOf_ok P byr).2 _ _ h
 ·exact .inr h⟩
def tblCfgC (t : List (Nat × IFunc)) (cl : List Nat) : Cfg := ⟨look t, fun f => cl.contains f⟩
theorem tblCfgC_ok {t : List (Nat × IFunc)} {cl : List Nat} {byr : FuncId → FuncId → Bool} (h : ∀ p ∈ t, (cfgOf P byr).fns p.1 = some p.2 ∨ (p.2 = sortFn ∧ SortOk P p.1)) (hcl : ∀ f ∈ cl, look t f = some cloneFn) : CfgOk P (tblCfgC t cl) :=
 ⟨fun f hf => hcl f (by simpa [tblCfgC] using hf), fun f c hf => (tblCfg_okS h).2 f c hf⟩
theorem ev_enter {cfg : Cfg} (hcfg : CfgOk P cfg) {byr : FuncId → FuncId → Bool} (hm : P.follows .mixedOrders = true) (n : Nat) {f : FuncId} {ifn : IFunc} (hf : (cfgOf P byr).fns f = some ifn) (as : List AV) (vs : Array Value) (w : World) {R : AV → Prop} (hl : as.length = vs.size)
  (hv : ∀ (i : Nat) x v, as[i]? = some x → vs[i]? = some v → FR (fun b => w.heap[b]?) x v) (hq : (evFn (evCall cfg n) ifn as []).all fun p => R p.1) :
  Calls P f vs w fun en w' => ∃ cv v, en = .returned cv ∧ R v ∧ SameOut w w' ∧ w.heap.size ≤ w'.heap.size ∧ (∀ b, b < w.heap.size → w'.heap[b]? = w.heap[b]?) ∧ ∃ M' L', VR M' L' v cv := by
 obtain ⟨fn, h1, h2, byr', h3⟩ := cfgOf_fn P byr hf
 refine (evFn_ok (Q := fun p => R p.1) (callOk_evCall hcfg hm n) (calm_evCall hcfg.1 n) hm h1 h3 (HR.empty (M := fun b => w.heap[b]?) fun b o h => h) (M := fun b => w.heap[b]?) ⟨hl, fun i x v h1 h2 => (hv i x v h1 h2).toVR⟩ hq).mono ?_
 rintro en w' ⟨cv, rfl, v, h', M', L', h1, h2, h3, h4⟩
 exact ⟨cv, v, rfl, h1, h3.out, h3.size, fun b hb => h3.kept b hb (noIm b), M', L', h4⟩
end Go.Ev
set_option linter.unusedSimpArgs false
set_option linter.unusedVariables false
namespace Go.Ev
open Go
section
variable {Q : EX × St → Prop} {K : St → Prop} {V : AV × Heap → Prop} {call : Caller} {base : Nat} {e : Env} {h : Heap}
theorem all_ret {α : Type} (a : α) (Q : α → Prop) : (Res.ret a).all Q = Q a := rfl
theorem all_bind {α β : Type} (x : Res α) (f : α → Res β) (Q : β → Prop) : (x.bind f).all Q = x.all fun a => (f a).all Q := propext (Res.all_bind ..)
theorem all_ite {α : Type} (c : Prop) [Decidable c] (x y : Res α) (Q : α → Prop) : (if c then x else y).all Q = if c then x.all Q else y.all Q := by split <;> rfl
theorem all_some {α : Type} (a : α) (Q : α → Prop) : (Res.ofOpt (some a)).all Q = Q a := rfl
def after (Q : EX × St → Prop) (f : St → Prop) : EX × St → Prop := fun p =>
 match p.1 with
 | .normal => f p.2
 | _ => Q p
def inBlk (id : Nat) (Q : EX × St → Prop) : EX × St → Prop := fun p =>
 match p.1 with
 | .exit id' => if id' = id then Q (.normal, p.2) else Q p
 | _ => Q p
theorem w_seq (a b : IC) (s : St) : (evC call base (.seq a b) s).all Q = (evC call base a s).all (after Q fun s => (evC call base b s).all Q) := by
 simp only [evC, all_bind]
 congr 1
 funext p
 obtain ⟨x, s⟩ := p
 cases x <;> rfl
theorem w_block (id : Nat) (c : IC) (s : St) : (evC call base (.block id c) s).all Q = (evC call base c s).all (inBlk id Q) := by
 simp only [evC, all_bind]
 congr 1
 funext p
 obtain ⟨x, s⟩ := p
 cases x <;> simp only [inBlk, all_ret, all_ite]
theorem w_ops (l : List IOper) (s : St) : (evC call base (.ops l) s).all Q = (evOps call base l s).all fun s => Q (.normal, s) := by
 simp only [evC, all_bind, all_ret]
theorem w_cons (o : IOper) (l : List IOper) (s : St) : (evOps call base (o :: l) s).all K = (evOper call base o s).all fun s => (evOps call base l s).all K := by
 simp only [evOps, all_bind]
theorem w_oper (dst : Option Nat) (op : IOp) (e : Env) (h : Heap) : (evOper call base ⟨dst, op, none⟩ ⟨e, h⟩).all K = (evOp call (base + dst.getD 0) op e h).all fun p => K ⟨setDst e dst p.1, p.2⟩ := by
 simp only [evOper, all_bind, all_ret]
theorem w_cond (c : IX) (a b : IC) (e : Env) (h : Heap) : (evC call base (.cond c a b) ⟨e, h⟩).all Q = (match c.ev e with | .bool t => if t then (evC call base a ⟨e, h⟩).all Q else (evC call base b ⟨e, h⟩).all Q | _ => False) := by
 simp only [evC]
 cases c.ev e with
 | bool t => cases t <;> rfl
 | _ => rfl
theorem w_guard (dst : Option Nat) (op : IOp) (t : Nat) (want : Bool) (e : Env) (h : Heap) : (evOper call base ⟨dst, op, some (t, want)⟩ ⟨e, h⟩).all K = (match getE e t with
  | .bool b => if b = want then (evOp call (base + dst.getD 0) op e h).all fun p => K ⟨setDst e dst p.1, p.2⟩ else K ⟨setDst e dst .skip, h⟩
  | .skip => K ⟨setDst e dst .skip, h⟩
  | _ => False) := by
 simp only [evOper]
 cases getE e t with
 | bool b =>
  simp only
  split
  ·simp only [all_bind, all_ret]
  ·rfl
 | _ => rfl
end
theorem ix_tmp (t : Nat) (e : Env) : (IX.tmp t).ev e = getE e t := rfl
theorem ix_const (v : AV) (e : Env) : (IX.const v).ev e = v := rfl
theorem dst_some (d : Nat) (v : AV) (e : Env) : setDst e (some d) v = setE e d v := rfl
theorem dst_none (v : AV) (e : Env) : setDst e none v = e := rfl
section ops
variable {V : AV × Heap → Prop} {call : Caller} {key : Nat} {e : Env} {h : Heap}
theorem w_mv (x : IX) : (evOp call key (.mv x) e h).all V = V (x.ev e, h) := rfl
theorem w_bin (op : BinOp) (x y : IX) : (evOp call key (.bin op x y) e h).all V = (binA op (x.ev e) (y.ev e)).all fun v => V (v, h) := by
 simp only [evOp, all_bind, all_ret]
theorem w_un (op : UnOp) (x : IX) : (evOp call key (.un op x) e h).all V = (unA op (x.ev e)).all fun v => V (v, h) := by
 simp only [evOp, all_bind, all_ret]
theorem b_add (k : IntKind) (a b : Int) : binA .add (.int k a) (.int k b) = .ret (.int k (k.wrap (a + b))) := by simp [binA, binI]
theorem b_sub (k : IntKind) (a b : Int) : binA .sub (.int k a) (.int k b) = .ret (.int k (k.wrap (a - b))) := by simp [binA, binI]
theorem b_mul (k : IntKind) (a b : Int) : binA .mul (.int k a) (.int k b) = .ret (.int k (k.wrap (a * b))) := by simp [binA, binI]
theorem b_eql (k : IntKind) (a b : Int) : binA .eql (.int k a) (.int k b) = .ret (.bool (a == b)) := by simp [binA, binI]
theorem b_neq (k : IntKind) (a b : Int) : binA .neq (.int k a) (.int k b) = .ret (.bool (a != b)) := by simp [binA, binI]
theorem b_lss (k : IntKind) (a b : Int) : binA .lss (.int k a) (.int k b) = .ret (.bool (decide (a < b))) := by simp [binA, binI]
theorem b_leq (k : IntKind) (a b : Int) : binA .leq (.int k a) (.int k b) = .ret (.bool (decide (a ≤ b))) := by simp [binA, binI]
theorem b_gtr (k : IntKind) (a b : Int) : binA .gtr (.int k a) (.int k b) = .ret (.bool (decide (a > b))) := by simp [binA, binI]
theorem b_geq (k : IntKind) (a b : Int) : binA .geq (.int k a) (.int k b) = .ret (.bool (decide (a ≥ b))) := by simp [binA, binI]
theorem u_not (b : Bool) : unA .not (.bool b) = .ret (.bool !b) := rfl
theorem u_neg (k : IntKind) (n : Int) : unA .neg (.int k n) = .ret (.int k (k.wrap (0 - n))) := rfl
def ixA (sz : Nat) : AV → Nat → Res AV
 | .slice grp xs _, j => if gsize grp = sz then (match xs[j]? with | some v => .ret (.ptr v.cells 0) | none => .fail) else .fail
 | .oslice k ver grp off len _, j => if gsize grp = sz ∧ j < len then .ret (.optr k ver (off + j * sz)) else .fail
 | _, _ => .fail
theorem asNat_nat (k : IntKind) (n : Nat) : asNat (.int k (n : Int)) = some n := by simp [asNat]
theorem w_indexAddr (sz : Nat) (x i : IX) : (evOp call key (.indexAddr sz x i) e h).all V = (match asNat (i.ev e) with | some j => (ixA sz (x.ev e) j).all fun v => V (v, h) | none => False) := by
 simp only [evOp]
 cases hi : asNat (i.ev e) with
 | none => cases x.ev e <;> rfl
 | some j =>
  cases x.ev e with
  | slice grp xs ex =>
   simp only [ixA]
   split
   ·cases xs[j]? <;> rfl
   ·rfl
  | oslice k ver grp off len cap =>
   simp only [ixA]
   split <;> rfl
  | _ => rfl
def ldA (grp : Option Nat) (h : Heap) : AV → Res AV
 | .ptr cells off => rd grp cells off
 | .optr k ver off =>
  match getH h k with
  | .cells v cs => if v = ver then rd grp cs off else .fail
  | _ => .fail
 | _ => .fail
theorem w_load (grp : Option Nat) (x : IX) : (evOp call key (.load grp x) e h).all V = (ldA grp h (x.ev e)).all fun v => V (v, h) := by
 simp only [evOp]
 cases x.ev e with
 | ptr cells off => simp only [ldA, all_bind, all_ret]
 | optr k ver off =>
  simp only [ldA]
  cases getH h k with
  | cells v cs =>
   simp only
   split
   ·simp only [all_bind, all_ret]
   ·rfl
  | _ => rfl
 | _ => rfl
theorem w_fieldAddr (off : Nat) (x : IX) : (evOp call key (.fieldAddr off x) e h).all V = (match x.ev e with | .ptr cells o => V (.ptr cells (o + off), h) | .optr k ver o => V (.optr k ver (o + off), h) | _ => False) := by
 simp only [evOp]
 cases x.ev e <;> rfl
theorem w_nilCheck (x : IX) : (evOp call key (.nilCheck x) e h).all V = (match x.ev e with | .ptr cells o => V (.ptr cells o, h) | .optr k ver o => V (.optr k ver o, h) | .clo f a b => V (.clo f a b, h) | _ => False) := by
 simp only [evOp]
 cases x.ev e <;> rfl
theorem w_len (x : IX) : (evOp call key (.len x) e h).all V = (match x.ev e with | .slice _ xs _ => V (.int .i64 xs.length, h) | .oslice _ _ _ _ len _ => V (.int .i64 len, h) | _ => False) := by
 simp only [evOp]
 cases x.ev e <;> rfl
theorem w_store (sz : Nat) (a v : IX) : (evOp call key (.store sz a v) e h).all V = (match a.ev e with
  | .optr k ver off =>
   (match getH h k with
   | .cells u cs => if u = ver ∧ (v.ev e).cells.length = sz ∧ off + sz ≤ cs.length ∧ (v.ev e).cells.all oneB then V (.undef, setH h k (.cells u (splice cs off (v.ev e).cells))) else False
   | _ => False)
  | _ => False) := by
 simp only [evOp]
 cases a.ev e with
 | optr k ver off =>
  simp only
  cases getH h k with
  | cells u cs => simp only; split <;> rfl
  | _ => rfl
 | _ => rfl
theorem w_conv (k : IntKind) (x : IX) : (evOp call key (.conv k x) e h).all V = (match x.ev e with | .int _ n => V (.int k (k.wrap n), h) | _ => False) := by
 simp only [evOp]
 cases x.ev e <;> rfl
theorem w_extract (x : IX) (i : Nat) : (evOp call key (.extract x i) e h).all V = (match x.ev e with | .tuple vs => (match vs[i]? with | some v => V (v, h) | none => False) | _ => False) := by
 simp only [evOp]
 cases x.ev e with
 | tuple vs => simp only [all_bind]; cases vs[i]? <;> rfl
 | _ => rfl
theorem w_pick (c a b : IX) : (evOp call key (.pick c a b) e h).all V = (match c.ev e with | .bool t => V (if t then a.ev e else b.ev e, h) | _ => False) := by
 simp only [evOp]
 cases c.ev e <;> rfl
theorem w_mkFunc (f : FuncId) (first captured : List IX) : (evOp call key (.mkFunc f first captured) e h).all V = V (.clo f (first.map (IX.ev e)) (captured.map (IX.ev e)), h) := rfl
theorem w_callF (raw : Bool) (f : FuncId) (args : List IX) : (evOp call key (.callF raw f args) e h).all V = (call raw (.fn f) (args.map (IX.ev e)) h).all V := rfl
theorem w_alloc (z : List AV) : (evOp call key (.alloc z) e h).all V = if z.all oneB then V (.optr key (getH h key).next 0, setH h key (.cells (getH h key).next z)) else False := by
 simp only [evOp]
 split <;> rfl
theorem w_box (x : IX) : (evOp call key (.box x) e h).all V = if (x.ev e).cells.all oneB then V (.optr key (getH h key).next 0, setH h key (.cells (getH h key).next (x.ev e).cells)) else False := by
 simp only [evOp]
 split <;> rfl
theorem w_build (z : List AV) (ps : List (Nat × Nat × IX)) : (evOp call key (.build z ps) e h).all V = if z.all oneB then (fillParts e ps z).all fun cs => V (.agg cs, h) else False := by
 simp only [evOp]
 split
 ·simp only [all_bind, all_ret]
 ·rfl
theorem w_field (grp : Option Nat) (off : Nat) (x : IX) : (evOp call key (.field grp off x) e h).all V = (match x.ev e with | .agg cs => (rd grp cs off).all fun v => V (v, h) | _ => False) := by
 simp only [evOp]
 cases x.ev e with
 | agg cs => simp only [all_bind, all_ret]
 | _ => rfl
theorem w_index (grp : Option Nat) (n : Nat) (x i : IX) : (evOp call key (.index grp n x i) e h).all V = (match x.ev e, asNat (i.ev e) with | .agg cs, some j => if j < n then (rd grp cs (j * gsize grp)).all fun v => V (v, h) else False | _, _ => False) := by
 simp only [evOp]
 cases x.ev e with
 | agg cs =>
  cases asNat (i.ev e) with
  | some j =>
   simp only
   split
   ·simp only [all_bind, all_ret]
   ·rfl
  | none => rfl
 | _ => rfl
theorem w_mkSlice (g : Option Nat) (z : List AV) (b : Nat) (l c : IX) : (evOp call key (.mkSlice g z b l c) e h).all V = (match asNat (l.ev e), asNat (c.ev e) with
  | some l, some c => if l ≤ c ∧ room c b ∧ z.all oneB then V (.oslice h.length (getH h h.length).next g 0 l (some c), setH h h.length (.cells (getH h h.length).next (List.replicate c z).flatten)) else False
  | _, _ => False) := by
 simp only [evOp]
 cases asNat (l.ev e) with
 | none => rfl
 | some l =>
  cases asNat (c.ev e) with
  | none => rfl
  | some c => simp only; split <;> rfl
theorem w_append (g : Option Nat) (b : Nat) (x y : IX) : (evOp call key (.append g b x y) e h).all V = (evAppend h.length g b (x.ev e) (y.ev e) h).all V := rfl
theorem w_call (raw : Bool) (f : IX) (args : List IX) : (evOp call key (.call raw f args) e h).all V = (match f.ev e with
  | .clo g first captured => (call raw (.fn g) (first ++ args.map (IX.ev e) ++ captured) h).all V
  | .yld k ver => (call raw (.yld k ver) (args.map (IX.ev e)) h).all V
  | _ => False) := by
 simp only [evOp]
 cases f.ev e <;> rfl
theorem w_max (xs : List IX) : (evOp call key (.max xs) e h).all V = (match xs.map (IX.ev e) with | .int k a :: r => (maxOf k a r).all fun v => V (v, h) | _ => False) := by
 simp only [evOp]
 generalize xs.map (IX.ev e) = l
 cases l with
 | nil => rfl
 | cons x r => cases x <;> first | rfl | simp only [all_bind, all_ret]
theorem w_min (xs : List IX) : (evOp call key (.min xs) e h).all V = (match xs.map (IX.ev e) with | .int k a :: r => (minOf k a r).all fun v => V (v, h) | _ => False) := by
 simp only [evOp]
 generalize xs.map (IX.ev e) = l
 cases l with
 | nil => rfl
 | cons x r => cases x <;> first | rfl | simp only [all_bind, all_ret]
theorem w_buildSlice (g : Option Nat) (z : List AV) (ps : List (Nat × Nat × IX)) : (evOp call key (.buildSlice g z ps) e h).all V = if z.all oneB then (fillParts e ps z).all fun cs => if cs.all numB then V (.slice g (grouped g (z.length / gsize g) cs) true, h) else False else False := by
 simp only [evOp]
 split
 ·simp only [all_bind]
  congr 1
  funext cs
  split <;> rfl
 ·rfl
end ops
end Go.Ev
