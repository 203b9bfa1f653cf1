/- Operations that write: stores, boxes, literals. No condition. -/
import Derived.Test.YtadneamkkepknaaEvOps2
import Derived.Laws.CopyRow
import Derived.Laws.Rows
set_option linter.unusedSimpArgs false
set_option linter.unusedVariables false
namespace Go.Ev
open Go

variable {P : Program} {M : Mem} {L : Lay} {w : World} {h : Heap} {e : Env} {a : Act} {Q : AV × Heap → Prop}

theorem length_splice : ∀ (new cs : List AV) (off : Nat), (splice cs off new).length = cs.length
  | [], _, _ => rfl
  | c :: r, cs, off => by simp [splice, length_splice r]

theorem getElem?_splice : ∀ (new cs : List AV) (off i : Nat), (splice cs off new)[i]? = if off ≤ i ∧ i < off + new.length ∧ i < cs.length then new[i - off]? else cs[i]?
  | [], cs, off, i => by
    have : ¬ (off ≤ i ∧ i < off + ([] : List AV).length ∧ i < cs.length) := by simp only [List.length_nil]; omega
    rw [if_neg this]; rfl
  | c :: r, cs, off, i => by
    rw [splice, getElem?_splice r, List.getElem?_set, List.length_set]
    by_cases h1 : off = i
    · subst h1
      have h2 : ¬ (off + 1 ≤ off ∧ off < off + 1 + r.length ∧ off < cs.length) := by omega
      rw [if_neg h2, if_pos rfl]
      by_cases h3 : off < cs.length
      · simp [h3]
      · simp [h3]
    · by_cases h2 : off + 1 ≤ i ∧ i < off + 1 + r.length ∧ i < cs.length
      · have h3 : off ≤ i ∧ i < off + (c :: r).length ∧ i < cs.length := by simp; omega
        rw [if_pos h2, if_pos h3]
        have : i - off = (i - (off + 1)) + 1 := by omega
        rw [this]; rfl
      · have h3 : ¬ (off ≤ i ∧ i < off + (c :: r).length ∧ i < cs.length) := by simp; omega
        rw [if_neg h2, if_neg h3, if_neg h1]

/-- a list of cells stands for a list of concrete ones, each of one cell -/
def RowL (M : Mem) (L : Lay) (new : List AV) (vs : List Value) : Prop :=
  new.length = vs.length ∧ ∀ (i : Nat) x v, new[i]? = some x → vs[i]? = some v → v.oneCell' = true ∧ VR M L x v

theorem RowL.row {new : List AV} {vs : List Value} (hl : RowL M L new vs) : Row M L new vs.toArray := by
  intro i x hx
  have hi : i < vs.length := by rw [← hl.1]; exact (List.getElem?_eq_some_iff.1 hx).1
  have hv : vs[i]? = some vs[i] := List.getElem?_eq_getElem hi
  exact ⟨vs[i], by simp [hi], (hl.2 i x _ hx hv).1, (hl.2 i x _ hx hv).2⟩

theorem RowL.one {new : List AV} {vs : List Value} (hl : RowL M L new vs) : ∀ v ∈ vs, v.oneCell' = true := by
  intro v hv
  obtain ⟨i, hi⟩ := List.mem_iff_getElem?.1 hv
  have : i < new.length := by rw [hl.1]; exact (List.getElem?_eq_some_iff.1 hi).1
  exact (hl.2 i new[i] v (List.getElem?_eq_getElem this) hi).1

theorem oneB_one {x : AV} {v : Value} (hx : oneB x = true) (h : VR M L x v) : v.oneCell' = true := by
  cases h <;> first | rfl | (simp [oneB] at hx)

theorem oneB_cells {x : AV} {v : Value} (hx : x.cells.all oneB = true) (h : VR M L x v) : RowL M L x.cells v.cells.toList := by
  have hone : ∀ {y : AV} {u : Value}, oneB y = true → y.cells = [y] → u.cells = #[u] → VR M L y u → RowL M L y.cells u.cells.toList := by
    intro y u h1 h2 h3 h4
    rw [h2, h3]
    refine ⟨rfl, fun i x v hx hv => ?_⟩
    cases i with
    | zero => simp at hx hv; subst hx hv; exact ⟨oneB_one h1 h4, h4⟩
    | succ i => simp at hx
  cases h with
  | @agg cs vs hl hh =>
    simp only [AV.cells] at hx
    refine ⟨by simpa [AV.cells, Value.cells] using hl, fun i x v hx' hv => ?_⟩
    have hv' : vs[i]? = some v := by simpa [Value.cells] using hv
    have hvr := hh i x v hx' hv'
    exact ⟨oneB_one (List.all_eq_true.1 hx x (List.mem_of_getElem? hx')) hvr, hvr⟩
  | undef => simp [AV.cells, oneB] at hx
  | skip => simp [AV.cells, oneB] at hx
  | tuple hl hh => simp [AV.cells, oneB] at hx
  | bool => exact hone rfl rfl rfl .bool
  | int => exact hone rfl rfl rfl .int
  | empty h => exact hone rfl rfl rfl (.empty h)
  | slice a b c d f g i => exact hone rfl rfl rfl (.slice a b c d f g i)
  | ptr a b c d => exact hone rfl rfl rfl (.ptr a b c d)
  | nilptr => exact hone rfl rfl rfl .nilptr
  | clo a b c d => exact hone rfl rfl rfl (.clo a b c d)
  | nilfn => exact hone rfl rfl rfl .nilfn
  | nilmap => exact hone rfl rfl rfl .nilmap
  | fmap a b c d f => exact hone rfl rfl rfl (.fmap a b c d f)
  | optr a => exact hone rfl rfl rfl (.optr a)
  | oslice a b c d f g i => exact hone rfl rfl rfl (.oslice a b c d f g i)
  | omap a => exact hone rfl rfl rfl (.omap a)
  | iter a => exact hone rfl rfl rfl (.iter a)
  | yld a => exact hone rfl rfl rfl (.yld a)

theorem Lay.upd_same {k u : Nat} {i : Info} (hl : L k u = some i) : L.upd k u i = L := by
  funext k' u'
  unfold Lay.upd
  split
  · next hc => obtain ⟨rfl, rfl⟩ := hc; exact hl.symm
  · rfl

/-- cells spliced into a row: the concrete side -/
def csplice (c : Array Value) (off : Nat) (vs : List Value) : Array Value := (c.toList.take off ++ vs ++ c.toList.drop (off + vs.length)).toArray

theorem size_csplice {c : Array Value} {off : Nat} {vs : List Value} (hle : off + vs.length ≤ c.size) : (csplice c off vs).size = c.size := by
  simp [csplice]; omega

theorem getElem?_csplice {c : Array Value} {off : Nat} {vs : List Value} (hle : off + vs.length ≤ c.size) (i : Nat) :
    (csplice c off vs)[i]? = if off ≤ i ∧ i < off + vs.length then vs[i - off]? else c[i]? := by
  simp only [csplice, List.getElem?_toArray]
  have hmin : min off c.size = off := by omega
  by_cases h1 : i < off
  · have h2 : ¬ (off ≤ i ∧ i < off + vs.length) := by omega
    rw [if_neg h2, List.append_assoc, List.getElem?_append_left (by simp; omega), List.getElem?_take, if_pos h1]
    simp
  · by_cases h2 : i < off + vs.length
    · rw [if_pos ⟨by omega, h2⟩, List.append_assoc, List.getElem?_append_right (by simp; omega), List.getElem?_append_left (by simp; omega)]
      congr 1
      simp; omega
    · have h3 : ¬ (off ≤ i ∧ i < off + vs.length) := by omega
      rw [if_neg h3, List.getElem?_append_right (by simp; omega), List.getElem?_drop]
      simp only [List.length_append, List.length_take, Array.length_toList, hmin, Array.getElem?_toList]
      congr 1; omega

theorem row_splice {cs new : List AV} {c : Array Value} {vs : List Value} {off : Nat} (hrow : Row M L cs c) (hl : RowL M L new vs) (hle : off + vs.length ≤ c.size) : Row M L (splice cs off new) (csplice c off vs) := by
  intro i x hx
  rw [getElem?_splice] at hx
  rw [getElem?_csplice hle]
  have hlen := hl.1
  split at hx
  · next hc =>
    rw [if_pos ⟨hc.1, by omega⟩]
    exact (by
      have hi : i - off < vs.length := by omega
      have hv : vs[i - off]? = some vs[i - off] := List.getElem?_eq_getElem hi
      exact ⟨_, hv, (hl.2 _ x _ hx hv).1, (hl.2 _ x _ hx hv).2⟩)
  · next hc =>
    have hi : i < cs.length := (List.getElem?_eq_some_iff.1 hx).1
    have : ¬ (off ≤ i ∧ i < off + vs.length) := by omega
    rw [if_neg this]
    exact hrow i x hx

/-- a write into an own row -/
theorem HR.write (hr : HR P M L w h) {k v : Nat} {cs new : List AV} {info : Info} {vs : List Value} (off : Nat) (ho : getH h k = .cells v cs) (hl : L k v = some info)
    (hn : RowL M L new vs) (hle : off + vs.length ≤ info.size) :
    ∃ c t, w.heap[info.blk]? = some (.cells c t (0, 0)) ∧ c.size = info.size ∧ HR P M L (w.setRow info.blk (csplice c off vs)) (setH h k (.cells v (splice cs off new))) ∧
      Fr w h L M (w.setRow info.blk (csplice c off vs)) (setH h k (.cells v (splice cs off new))) L M := by
  obtain ⟨hmb, c, t, hb, hlen, hsz, hnle, hrow⟩ := own_cells hr ho hl
  refine ⟨c, t, hb, hsz, ?_⟩
  have hne : getH h k ≠ .none := by rw [ho]; simp
  have hver : (getH h k).ver = v := by rw [ho]; rfl
  have key := hr.put k v info (.cells v (splice cs off new)) (w.setRow info.blk (csplice c off vs)) (by simp) rfl (.inr hl) (fun _ => by omega) hmb
    (.inr ⟨info, hne, by rw [hver]; exact hl, rfl⟩) (by simp [World.setRow]) (fun b _ hb' => setRow_other w info.blk b _ hb')
  rw [Lay.upd_same hl] at key
  exact key ⟨csplice c off vs, t, setRow_heap w info.blk c _ t _ hb, by rw [length_splice]; exact hlen, by rw [size_csplice (by omega)]; exact hsz, hnle, row_splice hrow hn (by omega)⟩

theorem info_of_grp {t : TypeId} {grp : Option Nat} (hg : grpOf P t = some grp) : ∃ i, P.info? t = some i ∧ i.size = gsize grp := by
  cases grp with
  | none => obtain ⟨d, i, _, _, _, hi, hs⟩ := grpOf_none hg; exact ⟨i, hi, hs⟩
  | some n => obtain ⟨d, i, _, _, hi, hs, _⟩ := grpOf_some hg; exact ⟨i, hi, hs⟩

theorem zeroOf_spec {t : TypeId} {z : List AV} (hz : zeroOf P t = some z) (hone : z.all oneB = true) :
    ∃ i zv, P.info? t = some i ∧ i.zero = some zv ∧ i.size = z.length ∧ ∀ (M : Mem) (L : Lay), RowL M L z zv.cells.toList := by
  unfold zeroOf at hz
  split at hz
  · next z' v h1 h2 =>
    split at hz
    · next hc =>
      cases hz
      obtain ⟨c1, c2, c3⟩ := hc
      cases hi : P.info? t with
      | none => simp [hi] at h2
      | some i =>
        simp only [hi, Option.bind_some] at h2
        simp only [hi, Option.map_some, Option.some.injEq] at c2
        refine ⟨i, v, rfl, h2, c2, fun M L => ⟨by simpa using c1, fun j x u hx hu => ?_⟩⟩
        have hm : (x, u) ∈ z.zip v.cells.toList := by
          rw [List.mem_iff_getElem?]
          exact ⟨j, by rw [List.getElem?_zip_eq_some]; exact ⟨hx, hu⟩⟩
        have hvr : VR M L x u := constRel_VR 3 x u (by simpa using List.all_eq_true.1 c3 _ hm)
        exact ⟨oneB_one (List.all_eq_true.1 hone x (List.mem_of_getElem? hx)) hvr, hvr⟩
    · cases hz
  · cases hz

section ops
variable (hr : HR P M L w h) (hE : ER M L e a) (call : Caller) (key : Nat) {o : Oper}
include hr hE

theorem ok_store {grp : Option Nat} {t t' t'' : TypeId} {x y : Operand} {ix iy : IX} (ho : o.op = .store t x y) (hg : grpOf P t = some grp) (hx : cX P t' x = some ix) (hy : cX P t'' y = some iy)
    (hq : (evOp call key (.store (gsize grp) ix iy) e h).all Q) : OpOk P M L w h a o Q := by
  have hxv := cX_ok hE hx
  have hyv := cX_ok hE hy
  obtain ⟨i, hi, hsz⟩ := info_of_grp hg
  simp only [evOp] at hq
  generalize ix.ev e = av at hxv hq
  generalize iy.ev e = bv at hyv hq
  generalize hcv : a.eval x = cv at hxv
  split at hq
  · next k ver off =>
    split at hq
    · next u cs hob =>
      split at hq
      · next hc =>
        obtain ⟨hu, hlen, hle, hone⟩ := hc
        subst hu
        cases hxv with
        | @optr _ _ _ info hl =>
          have hrow := oneB_cells hone hyv
          obtain ⟨hmb, c0, t0, hb0, hn0, hs0, hle0, _⟩ := own_cells hr hob hl
          have hvl : (a.eval y).cells.toList.length = gsize grp := by rw [← hrow.1]; exact hlen
          obtain ⟨c, t1, hb, hcs, g1, g2⟩ := hr.write off hob hl hrow (by omega)
          have hst := run_storeCells_at P info.blk off t1 (a.eval y).cells.toList 0 c w hb (by omega) hrow.one
          refine ⟨undef, _, .inr ⟨?_, rfl⟩, ⟨_, _, M, L, hq, g1, g2, .undef⟩⟩
          have hvs : (a.eval y).cells.size = gsize grp := by simpa using hvl
          simp only [execOp, ho, Instr.storeAt, Instr.sureAddr, hcv, storeVar, sizeOf, typeInfo, Sem.run_bind, Sem.run_pure, run_program, Result.andThen_ok, hi, hsz, hvs, ne_eq, not_true_eq_false, if_false, hst, csplice, Nat.add_zero]
      · exact hq.elim
    · exact hq.elim
  · exact hq.elim

omit hE in
theorem ok_alloc {t : TypeId} {z : List AV} (ho : o.op = .alloc t) (hz : zeroOf P t = some z)
    (hq : (evOp call key (.alloc z) e h).all Q) : OpOk P M L w h a o Q := by
  simp only [evOp] at hq
  split at hq
  · next hone =>
    obtain ⟨i, zv, hi, hzv, hsz, hrow⟩ := zeroOf_spec hz hone
    have hrow := hrow M L
    have hl : z.length = zv.cells.size := by simpa using hrow.1
    obtain ⟨g1, g2⟩ := hr.new_row key z zv.cells t { w with heap := w.heap.push (.cells zv.cells t) } rfl (by omega) (by simpa using hrow.row)
    refine ⟨.pointer (some ⟨w.heap.size, 0, none⟩), _, .inl ?_, ⟨_, _, M, _, hq, g1, g2, .optr (Lay.upd_self _ _ _ _)⟩⟩
    simp [execOp, ho, Instr.alloc, zeroValue, typeInfo, hi, hzv, newVar, newRow]
  · exact hq.elim

theorem ok_box {t t' : TypeId} {x : Operand} {ix : IX} (ho : o.op = .box t x) (hx : cX P t' x = some ix)
    (hq : (evOp call key (.box ix) e h).all Q) : OpOk P M L w h a o Q := by
  have hxv := cX_ok hE hx
  simp only [evOp] at hq
  split at hq
  · next hone =>
    have hrow := oneB_cells hone hxv
    have hl : (ix.ev e).cells.length = (a.eval x).cells.size := by simpa using hrow.1
    obtain ⟨g1, g2⟩ := hr.new_row key (ix.ev e).cells (a.eval x).cells t { w with heap := w.heap.push (.cells (a.eval x).cells t) } rfl (by omega) (by simpa using hrow.row)
    refine ⟨.pointer (some ⟨w.heap.size, 0, none⟩), _, .inl ?_, ⟨_, _, M, _, hq, g1, g2, .optr (Lay.upd_self _ _ _ _)⟩⟩
    simp [execOp, ho, Instr.box, newVar, newRow]
  · exact hq.elim

end ops

/-! ### literals -/

theorem foldl_fill (off : Nat) : ∀ (vs : List Value) (k : Nat) (c : Array Value), off + k + vs.length ≤ c.size → ∀ i : Nat,
    ((vs.zipIdx k).foldl (fun cs (x : Value × Nat) => cs.setIfInBounds (off + x.2) x.1) c)[i]? = (if off + k ≤ i ∧ i < off + k + vs.length then vs[i - (off + k)]? else c[i]?)
      ∧ ((vs.zipIdx k).foldl (fun cs (x : Value × Nat) => cs.setIfInBounds (off + x.2) x.1) c).size = c.size
  | [], k, c, _, i => by
    have : ¬ (off + k ≤ i ∧ i < off + k + ([] : List Value).length) := by simp only [List.length_nil]; omega
    rw [if_neg this]; exact ⟨rfl, rfl⟩
  | v :: vs, k, c, hle, i => by
    have hle' : off + (k + 1) + vs.length ≤ (c.setIfInBounds (off + k) v).size := by simp at hle ⊢; omega
    obtain ⟨h1, h2⟩ := foldl_fill off vs (k + 1) (c.setIfInBounds (off + k) v) hle' i
    simp only [List.zipIdx_cons, List.foldl_cons]
    refine ⟨?_, by rw [h2]; simp⟩
    rw [h1]
    simp only [List.length_cons] at hle ⊢
    by_cases ha : off + (k + 1) ≤ i ∧ i < off + (k + 1) + vs.length
    · rw [if_pos ha, if_pos (by omega)]
      have : i - (off + k) = (i - (off + (k + 1))) + 1 := by omega
      rw [this]; rfl
    · rw [if_neg ha, Array.getElem?_setIfInBounds]
      by_cases hb : off + k = i
      · subst hb
        have hs : off + k < c.size := by omega
        rw [if_pos rfl, if_pos hs, if_pos ⟨by omega, by omega⟩]; simp
      · rw [if_neg hb, if_neg (by omega)]

/-- the parts of a literal: what the evaluator fills in is what the model does -/
theorem fill_ok (hE : ER M L e a) {place : Nat → Option (Nat × Nat)} : ∀ (parts : List (Nat × Operand)) (ps : List (Nat × Nat × IX)) (cs : List AV) (c : Array Value) (R : List AV → Prop),
    ps.length = parts.length → (∀ (i : Nat) j x off sz ix, parts[i]? = some (j, x) → ps[i]? = some (off, sz, ix) → place j = some (off, sz) ∧ ∃ t, cX P t x = some ix) →
    RowL M L cs c.toList → (fillParts e ps cs).all R →
    ∃ cs' c', Instr.fill place c (parts.map fun p => (p.1, a.eval p.2)) = some c' ∧ RowL M L cs' c'.toList ∧ R cs' ∧ cs'.length = cs.length
  | [], ps, cs, c, R, hl, _, hrow, hq => by
    have : ps = [] := List.eq_nil_of_length_eq_zero (by simpa using hl)
    subst this
    exact ⟨cs, c, rfl, hrow, hq, rfl⟩
  | (j, x) :: parts, [], cs, c, R, hl, _, hrow, hq => by simp at hl
  | (j, x) :: parts, (off, sz, ix) :: ps, cs, c, R, hl, hp, hrow, hq => by
    obtain ⟨hpl, t, hx⟩ := hp 0 j x off sz ix rfl rfl
    simp only [fillParts] at hq
    split at hq
    · next hc =>
      obtain ⟨h1, h2, h3⟩ := hc
      have hnew := oneB_cells h3 (cX_ok hE hx)
      have hvs : (a.eval x).cells.size = sz := by have := hnew.1; simp at this; omega
      have hcl : cs.length = c.size := by simpa using hrow.1
      have hff := foldl_fill off (a.eval x).cells.toList 0 c (by simp; omega)
      have heq : (a.eval x).cells.zipIdx.foldl (fun cs (x : Value × Nat) => cs.setIfInBounds (off + x.2) x.1) c = ((a.eval x).cells.toList.zipIdx 0).foldl (fun cs (x : Value × Nat) => cs.setIfInBounds (off + x.2) x.1) c := by
        rw [← Array.foldl_toList, Array.toList_zipIdx]
      generalize hd : (a.eval x).cells.zipIdx.foldl (fun cs (x : Value × Nat) => cs.setIfInBounds (off + x.2) x.1) c = d at heq
      have hdsz : d.size = c.size := by rw [heq]; exact (hff 0).2
      have hrow' : RowL M L (splice cs off (ix.ev e).cells) d.toList := by
        refine ⟨by rw [length_splice]; simp [hdsz, hcl], fun i y v hy hv => ?_⟩
        rw [getElem?_splice] at hy
        rw [Array.getElem?_toList, heq, (hff i).1] at hv
        simp only [Nat.add_zero, Array.length_toList] at hv
        split at hy
        · next hcc =>
          rw [if_pos ⟨hcc.1, by omega⟩] at hv
          exact hnew.2 _ y v hy hv
        · next hcc =>
          have hi : i < cs.length := (List.getElem?_eq_some_iff.1 hy).1
          rw [if_neg (by omega)] at hv
          exact hrow.2 i y v hy (by rw [Array.getElem?_toList]; exact hv)
      obtain ⟨cs', c', g1, g2, g3, g4⟩ := fill_ok hE parts ps (splice cs off (ix.ev e).cells) d R (by simpa using hl)
        (fun i j' x' off' sz' ix' e1 e2 => hp (i + 1) j' x' off' sz' ix' e1 e2) hrow' hq
      refine ⟨cs', c', ?_, g2, g3, by rw [g4, length_splice]⟩
      simp only [List.map_cons, Instr.fill, hpl]
      rw [if_neg (by simp; omega)]
      have : (a.eval x).cells.zipIdx.foldl (fun cs (c_1, j) => cs.setIfInBounds (off + j) c_1) c = d := hd
      rw [this]; exact g1
    · exact hq.elim

end Go.Ev
