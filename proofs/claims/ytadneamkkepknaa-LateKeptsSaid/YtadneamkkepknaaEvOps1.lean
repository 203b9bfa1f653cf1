/- Operations that touch no memory, or only lay a block that nobody writes: what the evaluator says of them is what the model does. No condition. -/
import Derived.Test.YtadneamkkepknaaEvRel
set_option linter.unusedSimpArgs false
set_option linter.unusedVariables false
namespace Go.Ev
open Go

variable {P : Program} {M : Mem} {L : Lay} {w : World} {h : Heap} {e : Env} {a : Act} {Q : AV × Heap → Prop}

theorem constRel_VR : ∀ (n : Nat) (x : AV) (v : Value), constRel n x v = true → VR M L x v := by
  intro n
  induction n with
  | zero =>
    intro x v hx
    unfold constRel at hx
    split at hx
    · rw [beq_iff_eq.1 hx]; exact .bool
    · simp only [Bool.and_eq_true, beq_iff_eq] at hx
      obtain ⟨h1, h2⟩ := hx
      rw [h1, h2]; exact .int
    · exact .empty (fun _ => rfl)
    · exact .nilptr
    · exact .nilfn
    · exact .nilmap
    · next hn => exact (Nat.succ_ne_zero _ hn.symm).elim
    · exact absurd hx (by simp)
  | succ n ih =>
    intro x v hx
    unfold constRel at hx
    split at hx
    · rw [beq_iff_eq.1 hx]; exact .bool
    · simp only [Bool.and_eq_true, beq_iff_eq] at hx
      obtain ⟨h1, h2⟩ := hx
      rw [h1, h2]; exact .int
    · exact .empty (fun _ => rfl)
    · exact .nilptr
    · exact .nilfn
    · exact .nilmap
    · next hn =>
      cases hn
      simp only [Bool.and_eq_true, beq_iff_eq] at hx
      obtain ⟨h1, h2⟩ := hx
      refine .agg h1 fun i c v hc hv => ih c v ?_
      have := List.all_eq_true.1 h2 (c, v) ?_
      · exact this
      · rw [List.mem_iff_getElem?]
        refine ⟨i, ?_⟩
        rw [List.getElem?_zip_eq_some]
        exact ⟨hc, by rw [Array.getElem?_toList]; exact hv⟩
    · exact absurd hx (by simp)

/-- the frame's slots stand for the evaluator's -/
def ER (M : Mem) (L : Lay) (e : Env) (a : Act) : Prop := ∀ t, VR M L (getE e t) (a.tmps.getD t undef)

theorem ER.mono {M' : Mem} {L' : Lay} (hM : Mem.le M M') (hL : Lay.le L L') (he : ER M L e a) : ER M' L' e a := fun t => (he t).mono hM hL

theorem cX_ok {t : TypeId} {x : Operand} {ix : IX} (hE : ER M L e a) (hc : cX P t x = some ix) : VR M L (ix.ev e) (a.eval x) := by
  cases x with
  | tmp t => simp only [cX, Option.some.injEq] at hc; subst hc; exact hE t
  | const v =>
    simp only [cX, Option.map_eq_some_iff] at hc
    obtain ⟨y, hy, rfl⟩ := hc
    unfold constAV at hy
    simp only at hy
    split at hy
    · next y' hy' =>
      split at hy
      · next hr => cases hy; exact constRel_VR 3 _ _ hr
      · cases hy
    · cases hy
  | func f => simp only [cX, Option.some.injEq] at hc; subst hc; exact .clo rfl rfl (fun i c v h => by simp at h) (fun i c v h => by simp at h)
  | global g => simp [cX] at hc

/-- what one operation of no call must do -/
def OpOk (P : Program) (M : Mem) (L : Lay) (w : World) (h : Heap) (a : Act) (o : Oper) (Q : AV × Heap → Prop) : Prop :=
  ∃ cv w', ((execOp a.eval o).run P w = .ok (.value cv) w' ∨ ((execOp a.eval o).run P w = .ok .skip w' ∧ cv = undef)) ∧ Good P M L w h Q w' cv

theorem Good.pure {v : AV} {cv : Value} (hr : HR P M L w h) (hv : VR M L v cv) (hq : Q (v, h)) : Good P M L w h Q w cv :=
  ⟨v, h, M, L, hq, hr, .refl _ _ _ _, hv⟩

theorem OpOk.pure {o : Oper} {v : AV} {cv : Value} (hr : HR P M L w h) (hx : (execOp a.eval o).run P w = .ok (.value cv) w) (hv : VR M L v cv) (hq : Q (v, h)) : OpOk P M L w h a o Q :=
  ⟨cv, w, .inl hx, .pure hr hv hq⟩

theorem VR.bool_inv {b : Bool} {v : Value} (hv : VR M L (.bool b) v) : v = .bool b := by cases hv; rfl
theorem VR.int_inv {k : IntKind} {n : Int} {v : Value} (hv : VR M L (.int k n) v) : v = .int k n := by cases hv; rfl

section ops
variable (hr : HR P M L w h) (hE : ER M L e a) (call : Caller) (key : Nat) {o : Oper}
include hr hE

theorem ok_mv {x : Operand} {t : TypeId} {ix : IX} (ho : o.op = .move x ∨ o.op = .assign x) (hc : cX P t x = some ix) (hq : (evOp call key (.mv ix) e h).all Q) : OpOk P M L w h a o Q := by
  refine .pure hr (cv := a.eval x) ?_ (cX_ok hE hc) hq
  rcases ho with ho | ho <;> simp [execOp, ho]

theorem ok_pick {c x y : Operand} {t t' : TypeId} {ic ix iy : IX} (ho : o.op = .pick c x y) (hc : cX P t c = some ic) (hx : cX P t' x = some ix) (hy : cX P t' y = some iy)
    (hq : (evOp call key (.pick ic ix iy) e h).all Q) : OpOk P M L w h a o Q := by
  have hcv := cX_ok hE hc
  simp only [evOp] at hq
  split at hq
  · next b hb =>
    rw [hb] at hcv
    have hb' := hcv.bool_inv
    cases b with
    | true => exact .pure hr (cv := a.eval x) (by simp [execOp, ho, hb', asBool]) (cX_ok hE hx) hq
    | false => exact .pure hr (cv := a.eval y) (by simp [execOp, ho, hb', asBool]) (cX_ok hE hy) hq
  · exact hq.elim

theorem ok_un {op : UnOp} {t t' : TypeId} {x : Operand} {ix : IX} (ho : o.op = .unOp op t' x) (hx : cX P t x = some ix)
    (hq : (evOp call key (.un op ix) e h).all Q) : OpOk P M L w h a o Q := by
  have hxv := cX_ok hE hx
  simp only [evOp, Res.all_bind] at hq
  generalize ix.ev e = av at hxv hq
  unfold unA at hq
  split at hq
  · have := hxv.int_inv
    exact .pure hr (cv := .int _ _) (by simp only [execOp, ho, Op.unary, this, Op.intArith]; rfl) .int hq
  · have := hxv.bool_inv
    exact .pure hr (cv := .bool _) (by simp only [execOp, ho, Op.unary, this]; rfl) .bool hq
  · exact hq.elim

theorem ok_conv {k : IntKind} {s d t : TypeId} {x : Operand} {ix : IX} (ho : o.op = .convert s d x) (hd : P.underlying d = some (.int k)) (hs : ∃ ds, P.underlying s = some ds) (hx : cX P t x = some ix)
    (hq : (evOp call key (.conv k ix) e h).all Q) : OpOk P M L w h a o Q := by
  have hxv := cX_ok hE hx
  simp only [evOp] at hq
  generalize ix.ev e = av at hxv hq
  obtain ⟨ds, hs⟩ := hs
  split at hq
  · have := hxv.int_inv
    exact .pure hr (cv := .int _ _) (by simp [execOp, ho, convert, run_underlying hs, run_underlying hd, this, Conv.intToInt]) .int hq
  · exact hq.elim

omit hr hE in
theorem eqGuard_int (op : BinOp) (ty : TypeId) (x y : Operand) (k k' : IntKind) (m n : Int) (w : World) : (eqGuard op ty x y (.int k m) (.int k' n)).run P w = .ok () w := by
  cases op <;> rfl

omit hr hE in
theorem eqGuard_bool (op : BinOp) (ty : TypeId) (x y : Operand) (m n : Bool) (w : World) : (eqGuard op ty x y (.bool m) (.bool n)).run P w = .ok () w := by
  cases op <;> rfl

theorem ok_bin {op : BinOp} {ty t t' ty' : TypeId} {x y : Operand} {ix iy : IX} (ho : o.op = .binOp op ty x y ty') (hx : cX P t x = some ix) (hy : cX P t' y = some iy)
    (hq : (evOp call key (.bin op ix iy) e h).all Q) : OpOk P M L w h a o Q := by
  have hxv := cX_ok hE hx
  have hyv := cX_ok hE hy
  simp only [evOp, Res.all_bind] at hq
  generalize ix.ev e = av at hxv hq
  generalize iy.ev e = bv at hyv hq
  have hg := @eqGuard_int P
  unfold binA at hq
  split at hq
  · have e1 := hxv.int_inv; have e2 := hyv.int_inv
    split at hq
    · exact hq.elim
    · next hb =>
      refine .pure hr (cv := .int _ _) ?_ .int hq
      simp [execOp, ho, e1, e2, hg, binOp, Op.shift, hb]
  · have e1 := hxv.int_inv; have e2 := hyv.int_inv
    split at hq
    · exact hq.elim
    · next hb =>
      refine .pure hr (cv := .int _ _) ?_ .int hq
      simp [execOp, ho, e1, e2, hg, binOp, Op.shift, hb]
  · next n1 n2 =>
    have e1 := hxv.int_inv; have e2 := hyv.int_inv
    split at hq
    · next hk =>
      subst hk
      cases op <;> simp only [binI] at hq
      case add => refine .pure hr (cv := .int _ _) ?_ .int hq; simp only [execOp, ho, e1, e2, binOp, Op.intArith]; simp [hg]
      case sub => refine .pure hr (cv := .int _ _) ?_ .int hq; simp only [execOp, ho, e1, e2, binOp, Op.intArith]; simp [hg]
      case mul => refine .pure hr (cv := .int _ _) ?_ .int hq; simp only [execOp, ho, e1, e2, binOp, Op.intArith]; simp [hg]
      case quo =>
        split at hq
        · exact hq.elim
        · next hb => refine .pure hr (cv := .int _ _) ?_ .int hq; simp only [execOp, ho, e1, e2, binOp, Op.intDiv]; simp [hg, hb]
      case rem =>
        split at hq
        · exact hq.elim
        · next hb => refine .pure hr (cv := .int _ _) ?_ .int hq; simp only [execOp, ho, e1, e2, binOp, Op.intDiv]; simp [hg, hb]
      case and => refine .pure hr (cv := .int _ _) ?_ .int hq; simp only [execOp, ho, e1, e2, binOp, Op.intBits]; simp [hg]
      case or => refine .pure hr (cv := .int _ _) ?_ .int hq; simp only [execOp, ho, e1, e2, binOp, Op.intBits]; simp [hg]
      case xor => refine .pure hr (cv := .int _ _) ?_ .int hq; simp only [execOp, ho, e1, e2, binOp, Op.intBits]; simp [hg]
      case eql => refine .pure hr (cv := .bool _) ?_ .bool hq; simp only [execOp, ho, e1, e2, binOp, Op.intCmp]; simp [hg]
      case neq => refine .pure hr (cv := .bool _) ?_ .bool hq; simp only [execOp, ho, e1, e2, binOp, Op.intCmp]; simp [hg]
      case lss => refine .pure hr (cv := .bool _) ?_ .bool hq; simp only [execOp, ho, e1, e2, binOp, Op.intCmp]; simp [hg]
      case leq => refine .pure hr (cv := .bool _) ?_ .bool hq; simp only [execOp, ho, e1, e2, binOp, Op.intCmp]; simp [hg]
      case gtr => refine .pure hr (cv := .bool _) ?_ .bool hq; simp only [execOp, ho, e1, e2, binOp, Op.intCmp]; simp [hg]
      case geq => refine .pure hr (cv := .bool _) ?_ .bool hq; simp only [execOp, ho, e1, e2, binOp, Op.intCmp]; simp [hg]
      all_goals exact hq.elim
    · exact hq.elim
  · exact hq.elim

omit hr hE in
theorem run_equal_bool {ty : TypeId} (hu : P.underlying ty = some .bool) (b c : Bool) (w : World) : (Op.equal ty (.bool b) (.bool c)).run P w = .ok (b == c) w := by
  have : ∀ d, (Op.equalIn (d + 1) ty (.bool b) (.bool c)).run P w = .ok (b == c) w := fun d => by
    simp [Op.equalIn, run_underlying hu]
  exact this 9999

theorem ok_eqB {op : BinOp} {neg : Bool} {ty t t' ty' : TypeId} {x y : Operand} {ix iy : IX} (ho : o.op = .binOp op ty x y ty') (hx : cX P t x = some ix) (hy : cX P t' y = some iy)
    (hop : (op = .eql ∧ neg = false) ∨ (op = .neq ∧ neg = true)) (hu : P.underlying ty = some .bool)
    (hq : (evOp call key (.eqB neg ix iy) e h).all Q) : OpOk P M L w h a o Q := by
  have hxv := cX_ok hE hx
  have hyv := cX_ok hE hy
  simp only [evOp] at hq
  generalize ix.ev e = av at hxv hq
  generalize iy.ev e = bv at hyv hq
  have hg := @eqGuard_bool P
  split at hq
  · have e1 := hxv.bool_inv; have e2 := hyv.bool_inv
    refine .pure hr (cv := .bool _) ?_ .bool hq
    rcases hop with ⟨rfl, rfl⟩ | ⟨rfl, rfl⟩
    · simp only [execOp, ho, e1, e2, binOp]; simp [hg, run_equal_bool hu]
    · simp only [execOp, ho, e1, e2, binOp]; simp [hg, run_equal_bool hu]
  · exact hq.elim

theorem ok_extract {x : Operand} {t : TypeId} {i : Nat} {ix : IX} (ho : o.op = .extract x i) (hx : cX P t x = some ix)
    (hq : (evOp call key (.extract ix i) e h).all Q) : OpOk P M L w h a o Q := by
  have hxv := cX_ok hE hx
  simp only [evOp] at hq
  generalize ix.ev e = av at hxv hq
  split at hq
  · next vs =>
    rw [Res.all_bind] at hq
    obtain ⟨v, hv, hq⟩ := Res.all_ofOpt hq
    generalize hcv : a.eval x = cv at hxv
    cases hxv with
    | @tuple _ cvs hl hh =>
      have hi : i < cvs.size := by rw [← hl]; exact (List.getElem?_eq_some_iff.1 hv).1
      have hci : cvs[i]? = some cvs[i] := Array.getElem?_eq_getElem hi
      refine .pure hr (cv := cvs[i]) ?_ (hh i v _ hv hci) hq
      simp [execOp, ho, hcv, Instr.extract, hci]
  · exact hq.elim


omit hr hE in
theorem allX_ok : ∀ (xs : List Operand) (ts : List TypeId) (ixs : List IX), ER M L e a → allX P ts xs = some ixs → ixs.length = xs.length ∧ ∀ (i : Nat) ix x, ixs[i]? = some ix → xs[i]? = some x → VR M L (ix.ev e) (a.eval x)
  | [], ts, ixs, _, hc => by
    simp only [allX, Option.some.injEq] at hc
    subst hc
    exact ⟨rfl, fun i ix x hi => by simp at hi⟩
  | x :: r, [], ixs, hE, hc => by
    simp only [allX, Option.bind_eq_some_iff, Option.map_eq_some_iff] at hc
    obtain ⟨b, hb, bs, hbs, rfl⟩ := hc
    obtain ⟨h1, h2⟩ := allX_ok r [] bs hE hbs
    refine ⟨by simp [h1], fun i ix x hi hx => ?_⟩
    cases i with
    | zero => simp at hi hx; subst hi hx; exact cX_ok hE hb
    | succ i => simp at hi hx; exact h2 i ix x hi hx
  | x :: r, t :: ts, ixs, hE, hc => by
    simp only [allX, Option.bind_eq_some_iff, Option.map_eq_some_iff] at hc
    obtain ⟨b, hb, bs, hbs, rfl⟩ := hc
    obtain ⟨h1, h2⟩ := allX_ok r ts bs hE hbs
    refine ⟨by simp [h1], fun i ix x hi hx => ?_⟩
    cases i with
    | zero => simp at hi hx; subst hi hx; exact cX_ok hE hb
    | succ i => simp at hi hx; exact h2 i ix x hi hx

/-- operands, as lists of values -/
def VRs (M : Mem) (L : Lay) (as : List AV) (vs : Array Value) : Prop := as.length = vs.size ∧ ∀ (i : Nat) x v, as[i]? = some x → vs[i]? = some v → VR M L x v

omit hr in
theorem allX_vrs {xs : Array Operand} {ts : List TypeId} {ixs : List IX} (hc : allX P ts xs.toList = some ixs) : VRs M L (ixs.map (IX.ev e)) (xs.map a.eval) := by
  obtain ⟨h1, h2⟩ := allX_ok _ _ _ hE hc
  refine ⟨by simpa using h1, fun i x v hx hv => ?_⟩
  rw [List.getElem?_map, Option.map_eq_some_iff] at hx
  rw [Array.getElem?_map, Option.map_eq_some_iff] at hv
  obtain ⟨ix, hix, rfl⟩ := hx
  obtain ⟨y, hy, rfl⟩ := hv
  exact h2 i ix y hix (by rw [Array.getElem?_toList]; exact hy)

theorem ok_mkFunc {f : FuncId} {first captured : Array Operand} {t1 t2 : List TypeId} {i1 i2 : List IX} (ho : o.op = .makeFunc (.func f) first captured) (h1 : allX P t1 first.toList = some i1)
    (h2 : allX P t2 captured.toList = some i2) (hq : (evOp call key (.mkFunc f i1 i2) e h).all Q) : OpOk P M L w h a o Q := by
  obtain ⟨a1, b1⟩ := allX_vrs hE h1
  obtain ⟨a2, b2⟩ := allX_vrs hE h2
  refine .pure hr (cv := .func (.func f) (first.map a.eval) (captured.map a.eval)) ?_ (.clo a1 a2 b1 b2) hq
  simp [execOp, ho, Instr.makeFunc]

theorem ok_nilCheck {x : Operand} {t : TypeId} {ix : IX} (ho : o.op = .nilCheck x) (hx : cX P t x = some ix)
    (hq : (evOp call key (.nilCheck ix) e h).all Q) : OpOk P M L w h a o Q := by
  have hxv := cX_ok hE hx
  simp only [evOp] at hq
  generalize ix.ev e = av at hxv hq
  generalize hcv : a.eval x = cv at hxv
  split at hq
  · cases hxv with
    | ptr hm hv ho1 hr1 => exact .pure hr (by simp [execOp, ho, hcv]) (.ptr hm hv ho1 hr1) hq
  · cases hxv with
    | optr hl => exact .pure hr (by simp [execOp, ho, hcv]) (.optr hl) hq
  · cases hxv with
    | clo a1 a2 b1 b2 => exact .pure hr (by simp [execOp, ho, hcv]) (.clo a1 a2 b1 b2) hq
  · exact hq.elim

end ops
end Go.Ev
