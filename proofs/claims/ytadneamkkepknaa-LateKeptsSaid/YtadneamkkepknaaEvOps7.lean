/- Comparing structs and arrays of integers, max and min, new slices, slices of arrays, copy and clear. No condition. -/
import Derived.Test.YtadneamkkepknaaEvOps6
import Derived.Laws.StructEq
import Derived.ChangeKeysEq
set_option linter.unusedSimpArgs false
set_option linter.unusedVariables false
namespace Go.Ev
open Go

variable {P : Program} {M : Mem} {L : Lay} {w : World} {h : Heap} {e : Env} {a : Act} {Q : AV × Heap → Prop}

theorem eqInts_cons {c d : AV} {r s : List AV} {b : Bool} (hq : eqInts (c :: r) (d :: s) = some b) :
    ∃ k x y, c = .int k x ∧ d = .int k y ∧ ((x = y ∧ eqInts r s = some b) ∨ (x ≠ y ∧ b = false)) := by
  unfold eqInts at hq
  split at hq
  · next h1 _ => cases h1
  · next k x r' k' y s' h1 h2 =>
    cases h1; cases h2
    split at hq
    · next hk =>
      subst hk
      split at hq
      · next hxy => exact ⟨k, x, y, rfl, rfl, .inl ⟨hxy, hq⟩⟩
      · next hxy => cases hq; exact ⟨k, x, y, rfl, rfl, .inr ⟨hxy, rfl⟩⟩
    · cases hq
  · cases hq

theorem eqInts_len : ∀ {cs ds : List AV} {b : Bool}, eqInts cs ds = some b → (cs = [] ↔ ds = [])
  | [], [], _, _ => by simp
  | c :: r, [], _, hq => by cases c <;> simp [eqInts] at hq
  | [], d :: s, _, hq => by simp [eqInts] at hq
  | c :: r, d :: s, _, _ => by simp

theorem run_part_int {t : TypeId} {k : IntKind} (hu : P.underlying t = some (.int k)) {xs : Array Value} {off : Nat} {v : Value} (hv : xs[off]? = some v) : (part t xs off).run P w = .ok v w := by
  simp [part, run_isAgg_false hu (fun _ h => by cases h) (fun _ _ h => by cases h), hv]

/-- the cells of an array, from one on -/
theorem eqItems_ints {el : TypeId} {kk : IntKind} (hu : P.underlying el = some (.int kk)) (d : Nat) {cs ds : List AV} {xs ys : Array Value} (hlx : cs.length = xs.size) (hly : ds.length = ys.size)
    (hx : ∀ (i : Nat) (c : AV) (v : Value), cs[i]? = some c → xs[i]? = some v → VR M L c v) (hy : ∀ (i : Nat) (c : AV) (v : Value), ds[i]? = some c → ys[i]? = some v → VR M L c v) :
    ∀ (m j : Nat) (b : Bool), j + m = cs.length → eqInts (cs.drop j) (ds.drop j) = some b → (Op.eqItems (d + 1) el 1 xs ys (List.range' j m)).run P w = .ok b w
  | 0, j, b, hj, hq => by
    have h1 : cs.drop j = [] := List.drop_of_length_le (by omega)
    have h2 : ds.drop j = [] := (eqInts_len hq).1 h1
    rw [h1, h2] at hq
    simp [eqInts] at hq
    subst hq; rfl
  | m + 1, j, b, hj, hq => by
    have hjc : j < cs.length := by omega
    have hjd : j < ds.length := by
      by_cases hd : j < ds.length
      · exact hd
      · have h2 : ds.drop j = [] := List.drop_of_length_le (by omega)
        have := (eqInts_len hq).2 h2
        rw [List.drop_eq_nil_iff] at this
        omega
    rw [List.drop_eq_getElem_cons hjc, List.drop_eq_getElem_cons hjd] at hq
    obtain ⟨k, x, y, hc, hd, hor⟩ := eqInts_cons hq
    have hvx := hx j cs[j] xs[j] (List.getElem?_eq_getElem hjc) (Array.getElem?_eq_getElem (by omega))
    have hvy := hy j ds[j] ys[j] (List.getElem?_eq_getElem hjd) (Array.getElem?_eq_getElem (by omega))
    rw [hc] at hvx
    rw [hd] at hvy
    have ex := hvx.int_inv
    have ey := hvy.int_inv
    have px := run_part_int (w := w) hu (xs := xs) (off := j * 1) (v := .int k x) (by rw [Nat.mul_one, Array.getElem?_eq_getElem (by omega), ex])
    have py := run_part_int (w := w) hu (xs := ys) (off := j * 1) (v := .int k y) (by rw [Nat.mul_one, Array.getElem?_eq_getElem (by omega), ey])
    rw [List.range'_succ]
    simp only [Op.eqItems, Sem.run_bind, px, py, Result.andThen_ok, run_equalIn_int (w := w) d el k kk x y hu]
    rcases hor with ⟨rfl, hq⟩ | ⟨hne, rfl⟩
    · simp only [beq_self_eq_true, Bool.not_true, Bool.false_eq_true, if_false]
      exact eqItems_ints hu d hlx hly hx hy m (j + 1) b (by omega) hq
    · have : (x == y) = false := by simpa using hne
      simp [this]

theorem eqFields_ints (d : Nat) {cs ds : List AV} {xs ys : Array Value} (hlx : cs.length = xs.size) (hly : ds.length = ys.size)
    (hx : ∀ (i : Nat) (c : AV) (v : Value), cs[i]? = some c → xs[i]? = some v → VR M L c v) (hy : ∀ (i : Nat) (c : AV) (v : Value), ds[i]? = some c → ys[i]? = some v → VR M L c v) :
    ∀ (fs : List Field) (j : Nat) (b : Bool), j + fs.length = cs.length → (∀ (i : Nat) f, fs[i]? = some f → isIntT P f.type = true ∧ f.offset = j + i ∧ f.name ≠ "_") →
      eqInts (cs.drop j) (ds.drop j) = some b → (Op.eqFields (d + 1) xs ys fs).run P w = .ok b w
  | [], j, b, hj, _, hq => by
    have h1 : cs.drop j = [] := List.drop_of_length_le (by simp at hj; omega)
    have h2 : ds.drop j = [] := (eqInts_len hq).1 h1
    rw [h1, h2] at hq
    simp [eqInts] at hq
    subst hq; rfl
  | f :: fs, j, b, hj, hf, hq => by
    simp only [List.length_cons] at hj
    obtain ⟨hit, hoff, hnm⟩ := hf 0 f rfl
    rw [Nat.add_zero] at hoff
    obtain ⟨kk, hu⟩ : ∃ kk, P.underlying f.type = some (.int kk) := by
      unfold isIntT at hit
      split at hit
      · next kk hu => exact ⟨kk, hu⟩
      · cases hit
    have hjc : j < cs.length := by omega
    have hjd : j < ds.length := by
      by_cases hd : j < ds.length
      · exact hd
      · have h2 : ds.drop j = [] := List.drop_of_length_le (by omega)
        have := (eqInts_len hq).2 h2
        rw [List.drop_eq_nil_iff] at this
        omega
    rw [List.drop_eq_getElem_cons hjc, List.drop_eq_getElem_cons hjd] at hq
    obtain ⟨k, x, y, hc, hd, hor⟩ := eqInts_cons hq
    have hvx := hx j cs[j] xs[j] (List.getElem?_eq_getElem hjc) (Array.getElem?_eq_getElem (by omega))
    have hvy := hy j ds[j] ys[j] (List.getElem?_eq_getElem hjd) (Array.getElem?_eq_getElem (by omega))
    rw [hc] at hvx
    rw [hd] at hvy
    have ex := hvx.int_inv
    have ey := hvy.int_inv
    have px := run_part_int (w := w) hu (xs := xs) (off := f.offset) (v := .int k x) (by rw [hoff, Array.getElem?_eq_getElem (by omega), ex])
    have py := run_part_int (w := w) hu (xs := ys) (off := f.offset) (v := .int k y) (by rw [hoff, Array.getElem?_eq_getElem (by omega), ey])
    simp only [Op.eqFields, if_pos hnm, Sem.run_bind, px, py, Result.andThen_ok, run_equalIn_int (w := w) d f.type k kk x y hu]
    rcases hor with ⟨rfl, hq⟩ | ⟨hne, rfl⟩
    · simp only [beq_self_eq_true, Bool.not_true, Bool.false_eq_true, if_false]
      exact eqFields_ints d hlx hly hx hy fs (j + 1) b (by omega) (fun i g hg => by
        obtain ⟨q1, q2, q3⟩ := hf (i + 1) g hg
        exact ⟨q1, by omega, q3⟩) hq
    · have : (x == y) = false := by simpa using hne
      simp [this]

theorem all_zipIdx {α : Type} {p : α × Nat → Bool} (l : List α) (h : l.zipIdx.all p = true) : ∀ (i : Nat) x, l[i]? = some x → p (x, i) = true := by
  intro i x hx
  refine List.all_eq_true.1 h (x, i) ?_
  rw [List.mem_iff_getElem?]
  exact ⟨i, by simp [hx]⟩

section ops
variable (hr : HR P M L w h) (hE : ER M L e a) (call : Caller) (key : Nat) {o : Oper}
include hr hE

theorem ok_eqAgg {op : BinOp} {neg : Bool} {ty t t' ty' : TypeId} {x y : Operand} {ix iy : IX} (ho : o.op = .binOp op ty x y ty') (hx : cX P t x = some ix) (hy : cX P t' y = some iy)
    (hop : (op = .eql ∧ neg = false) ∨ (op = .neq ∧ neg = true)) (hio : intsOnly P ty = true)
    (hq : (evOp call key (.eqAgg (P.cellsOf ty) neg ix iy) e h).all Q) : OpOk P M L w h a o Q := by
  have hxv := cX_ok hE hx
  have hyv := cX_ok hE hy
  simp only [evOp] at hq
  generalize ix.ev e = av at hxv hq
  generalize iy.ev e = bv at hyv hq
  generalize hcx : a.eval x = cx at hxv
  generalize hcy : a.eval y = cy at hyv
  split at hq
  · next cs ds =>
   split at hq
   · next hlen =>
    split at hq
    · next b hb =>
      cases hxv with
      | @agg _ vs hl1 hh1 =>
        cases hyv with
        | @agg _ us hl2 hh2 =>
          unfold intsOnly at hio
          simp only [Bool.and_eq_true, Bool.not_eq_true'] at hio
          obtain ⟨⟨hst, hgt⟩, hkind⟩ := hio
          have hgd := run_eqGuard_agg (P := P) w op ty x y vs us hgt
          have hrun : (Op.equalIn 10000 ty (.agg vs) (.agg us)).run P w = .ok b w := by
            split at hkind
            · next n el hu =>
              simp only [Bool.and_eq_true, beq_iff_eq] at hkind
              obtain ⟨⟨hit, hc1⟩, hcn⟩ := hkind
              obtain ⟨kk, hue⟩ : ∃ kk, P.underlying el = some (.int kk) := by
                unfold isIntT at hit
                split at hit
                · next kk hu => exact ⟨kk, hu⟩
                · cases hit
              obtain ⟨ei, hei⟩ : ∃ ei, P.info? el = some ei := by
                unfold Program.cellsOf at hc1
                cases hi : P.info? el with
                | none => simp [hi] at hc1
                | some i => exact ⟨i, rfl⟩
              have hds : ds.length = us.size := hl2
              rw [run_equalIn_array (P := P) w 9999 vs us hu hei, hc1, List.range_eq_range']
              exact eqItems_ints hue 9998 hl1 hl2 hh1 hh2 n 0 b (by omega) (by simpa using hb)
            · next fs hu =>
              simp only [Bool.and_eq_true, beq_iff_eq] at hkind
              obtain ⟨hall, hcn⟩ := hkind
              have hfo : P.fieldsOf ty = fs := by simp [Program.fieldsOf, hu]
              rw [run_equalIn_struct (P := P) w 9999 ty vs us (by rw [hfo]; exact hu) hst, hfo]
              refine eqFields_ints 9998 hl1 hl2 hh1 hh2 fs.toList 0 b (by simp; omega) (fun i f hf => ?_) (by simpa using hb)
              have := all_zipIdx fs.toList hall i f hf
              simp only [Bool.and_eq_true, beq_iff_eq, bne_iff_ne] at this
              exact ⟨this.1.1, by omega, this.2⟩
            · cases hkind
          refine .pure hr (cv := .bool (b != neg)) ?_ .bool hq
          rcases hop with ⟨rfl, rfl⟩ | ⟨rfl, rfl⟩
          · simp [execOp, ho, hcx, hcy, hgd, run_eql_struct, hrun]
          · simp [execOp, ho, hcx, hcy, hgd, run_neq_struct, hrun]
    · exact hq.elim
   · exact hq.elim
  · exact hq.elim

end ops
end Go.Ev
