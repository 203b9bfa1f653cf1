/- Max and min, new slices, slices of arrays, copy and clear. No condition. -/
import Derived.Test.YtadneamkkepknaaEvOps7
import Derived.IntWalk
set_option linter.unusedSimpArgs false
set_option linter.unusedVariables false
namespace Go.Ev
open Go

variable {P : Program} {M : Mem} {L : Lay} {w : World} {h : Heap} {e : Env} {a : Act} {Q : AV × Heap → Prop}

theorem maxOf_ok {k : IntKind} {R : AV → Prop} : ∀ (r : List AV) (vs : List Value) (x : Int), r.length = vs.length → (∀ (i : Nat) c v, r[i]? = some c → vs[i]? = some v → VR M L c v) → (maxOf k x r).all R →
    ∃ n, R (.int k n) ∧ (vs.foldlM Builtin.max2 (.int k x)).run P w = .ok (.int k n) w
  | [], [], x, _, _, hq => ⟨x, hq, rfl⟩
  | [], _ :: _, x, hl, _, _ => by simp at hl
  | _ :: _, [], x, hl, _, _ => by simp at hl
  | c :: r, v :: vs, x, hl, hh, hq => by
    have hv := hh 0 c v rfl rfl
    cases c <;> simp only [maxOf, Res.all] at hq
    next k' b =>
      split at hq
      · next hk =>
        subst hk
        have := hv.int_inv
        subst this
        obtain ⟨n, h1, h2⟩ := maxOf_ok r vs (if b > x then b else x) (by simpa using hl) (fun i c v e1 e2 => hh (i + 1) c v e1 e2) hq
        refine ⟨n, h1, ?_⟩
        simp only [List.foldlM_cons, Sem.run_bind, Builtin.max2, Sem.run_pure, Result.andThen_ok]
        exact h2
      · exact hq.elim

theorem minOf_ok {k : IntKind} {R : AV → Prop} : ∀ (r : List AV) (vs : List Value) (x : Int), r.length = vs.length → (∀ (i : Nat) c v, r[i]? = some c → vs[i]? = some v → VR M L c v) → (minOf k x r).all R →
    ∃ n, R (.int k n) ∧ (vs.foldlM Builtin.min2 (.int k x)).run P w = .ok (.int k n) w
  | [], [], x, _, _, hq => ⟨x, hq, rfl⟩
  | [], _ :: _, x, hl, _, _ => by simp at hl
  | _ :: _, [], x, hl, _, _ => by simp at hl
  | c :: r, v :: vs, x, hl, hh, hq => by
    have hv := hh 0 c v rfl rfl
    cases c <;> simp only [minOf, Res.all] at hq
    next k' b =>
      split at hq
      · next hk =>
        subst hk
        have := hv.int_inv
        subst this
        obtain ⟨n, h1, h2⟩ := minOf_ok r vs (if b < x then b else x) (by simpa using hl) (fun i c v e1 e2 => hh (i + 1) c v e1 e2) hq
        refine ⟨n, h1, ?_⟩
        simp only [List.foldlM_cons, Sem.run_bind, Builtin.min2, Sem.run_pure, Result.andThen_ok]
        exact h2
      · exact hq.elim

section ops
variable (hr : HR P M L w h) (hE : ER M L e a) (call : Caller) (key : Nat) {o : Oper}
include hr hE

theorem ok_max {args : Array Operand} {ts : Array TypeId} {tl : List TypeId} {ixs : List IX} (ho : o.op = .call { callee := .builtin .max, args, argTypes := ts }) (hx : allX P tl args.toList = some ixs)
    (hq : (evOp call key (.max ixs) e h).all Q) : OpOk P M L w h a o Q := by
  obtain ⟨hl, hh⟩ := allX_vrs hE hx
  simp only [evOp] at hq
  split at hq
  · next k x r hm =>
    rw [hm] at hl hh
    rw [Res.all_bind] at hq
    have hargs : ∃ v vs, (args.map a.eval).toList = v :: vs ∧ r.length = vs.length := by
      have hl1 : (args.map a.eval).toList.length = r.length + 1 := by rw [Array.length_toList, ← hl]; rfl
      cases hargs : (args.map a.eval).toList with
      | nil => rw [hargs] at hl1; simp at hl1
      | cons v vs => rw [hargs] at hl1; exact ⟨v, vs, rfl, by simp at hl1; omega⟩
    obtain ⟨v, vs, hvs, hlen⟩ := hargs
    have hget : ∀ i, (args.map a.eval)[i]? = (v :: vs)[i]? := fun i => by rw [← hvs, Array.getElem?_toList]
    have hv := (hh 0 _ v rfl (by rw [hget]; rfl)).int_inv
    subst hv
    obtain ⟨n, h1, h2⟩ := maxOf_ok (P := P) (w := w) r vs x hlen (fun i c v e1 e2 => hh (i + 1) c v e1 (by rw [hget]; exact e2)) hq
    refine .pure hr (cv := .int k n) ?_ .int h1
    simp only [execOp, ho, resolve, invoke, builtin, Builtin.max_, Sem.run_bind, Sem.run_pure, Result.andThen_ok, hvs, h2]
  · exact hq.elim

theorem ok_min {args : Array Operand} {ts : Array TypeId} {tl : List TypeId} {ixs : List IX} (ho : o.op = .call { callee := .builtin .min, args, argTypes := ts }) (hx : allX P tl args.toList = some ixs)
    (hq : (evOp call key (.min ixs) e h).all Q) : OpOk P M L w h a o Q := by
  obtain ⟨hl, hh⟩ := allX_vrs hE hx
  simp only [evOp] at hq
  split at hq
  · next k x r hm =>
    rw [hm] at hl hh
    rw [Res.all_bind] at hq
    have hargs : ∃ v vs, (args.map a.eval).toList = v :: vs ∧ r.length = vs.length := by
      have hl1 : (args.map a.eval).toList.length = r.length + 1 := by rw [Array.length_toList, ← hl]; rfl
      cases hargs : (args.map a.eval).toList with
      | nil => rw [hargs] at hl1; simp at hl1
      | cons v vs => rw [hargs] at hl1; exact ⟨v, vs, rfl, by simp at hl1; omega⟩
    obtain ⟨v, vs, hvs, hlen⟩ := hargs
    have hget : ∀ i, (args.map a.eval)[i]? = (v :: vs)[i]? := fun i => by rw [← hvs, Array.getElem?_toList]
    have hv := (hh 0 _ v rfl (by rw [hget]; rfl)).int_inv
    subst hv
    obtain ⟨n, h1, h2⟩ := minOf_ok (P := P) (w := w) r vs x hlen (fun i c v e1 e2 => hh (i + 1) c v e1 (by rw [hget]; exact e2)) hq
    refine .pure hr (cv := .int k n) ?_ .int h1
    simp only [execOp, ho, resolve, invoke, builtin, Builtin.min_, Sem.run_bind, Sem.run_pure, Result.andThen_ok, hvs, h2]
  · exact hq.elim

theorem ok_mkSlice {ty el t1 t2 : TypeId} {x y : Operand} {ix iy : IX} {g : Option Nat} {z : List AV} (ho : o.op = .makeSlice ty x y) (hu : P.underlying ty = some (.slice el)) (hg : grpOf P el = some g)
    (hz : zeroOf P el = some z) (hzl : z.length = gsize g) (hx : cX P t1 x = some ix) (hy : cX P t2 y = some iy) (hpos : 0 < gsize g) (hby : 0 < P.bytesOf el)
    (hq : (evOp call key (.mkSlice g z (P.bytesOf el) ix iy) e h).all Q) : OpOk P M L w h a o Q := by
  have hxv := cX_ok hE hx
  have hyv := cX_ok hE hy
  simp only [evOp] at hq
  generalize ix.ev e = av at hxv hq
  generalize iy.ev e = bv at hyv hq
  split at hq
  · next l c hl hc =>
    obtain ⟨k1, m1, e1, h01, hm1⟩ := asNat_inv hxv hl
    obtain ⟨k2, m2, e2, h02, hm2⟩ := asNat_inv hyv hc
    split at hq
    · next hcond =>
      obtain ⟨hlc, hroom, hone⟩ := hcond
      obtain ⟨i, zv, hi, hzv, hsz0, hzrow⟩ := zeroOf_spec hz hone
      have hsz : i.size = gsize g := by omega
      have hbytes : P.bytesOf el = i.bytes := by simp [Program.bytesOf, hi]
      rw [hbytes] at hroom hby
      have hrm := room_spec hroom
      have hzs : zv.cells.size = gsize g := by have := (hzrow M L).1; simp at this; omega
      have hcb : c * 1 ≤ c * i.bytes := Nat.mul_le_mul_left _ hby
      have w1 : IntKind.i64.wrap m1 = m1 := IntWalk.i64_in m1 (by omega)
      have w2 : IntKind.i64.wrap m2 = m2 := IntWalk.i64_in m2 (by omega)
      have hzero := zeros_row hzrow c (c * gsize g) (by rw [hzl]) (by omega) M L
      have hlen : (List.replicate c z).flatten.length = c * gsize g := by simp [hzl]
      have hcell : ∃ cl : Array Value, cl.size = c * gsize g ∧ RowL M L (List.replicate c z).flatten cl.toList ∧ (execOp a.eval o).run P w = .ok (.value (.slice (some ⟨w.heap.size, 0, none⟩) l c)) { w with heap := w.heap.push (.cells cl el) } := by
        have hbig : ¬ ((i.bytes : Int) * m2 > 2 ^ 48) := by
          have : ((c * i.bytes : Nat) : Int) ≤ 1099511627776 := by omega
          rw [Nat.mul_comm] at this
          have hh : ((i.bytes * c : Nat) : Int) = (i.bytes : Int) * m2 := by rw [← hm2]; push_cast; rw [Int.toNat_of_nonneg h02]
          omega
        have hcond2 : ¬ ((decide (m2 < 0) || decide ((i.bytes : Int) * m2 > 2 ^ 48)) = true ∨ m1 < 0 ∨ m1 > m2) := by
          simp only [Bool.or_eq_true, decide_eq_true_eq]; omega
        by_cases h0 : c * gsize g = 0
        · have hc0 : c = 0 := by
            rcases Nat.mul_eq_zero.1 h0 with h | h
            · exact h
            · omega
          have hl0 : l = 0 := by omega
          subst hc0 hl0
          have hm20 : m2 = 0 := by omega
          have hm10 : m1 = 0 := by omega
          subst hm20 hm10
          have hrg : Array.range 0 = #[] := by decide
          refine ⟨#[], by simp, by simpa using hzero, ?_⟩
          simp [execOp, ho, e1, e2, Instr.makeSlice, run_underlying hu, asInt, asIntOf, typeInfo, hi, w1, sizeOf, newRow, hrg]
        · refine ⟨_, by simp, hzero, ?_⟩
          have hc0 : c ≠ 0 := by intro hc; rw [hc] at h0; simp at h0
          have hg0 : gsize g ≠ 0 := by omega
          have g1 : ¬ m2 < 0 := by omega
          have g2 : ¬ m1 < 0 := by omega
          have g3 : ¬ m2 < m1 := by omega
          have g4 : ¬ 2 ^ 48 < (i.bytes : Int) * m2 := hbig
          have g5 : ¬ m2 ≤ 0 := by omega
          simp [execOp, ho, e1, e2, Instr.makeSlice, run_underlying hu, asInt, asIntOf, typeInfo, hi, w1, w2, g1, g2, g3, hm1, hm2, sizeOf, hsz, hc0, hg0, zeroValue, hzv, newRow]
          rw [if_neg (by simpa using hbig)]
          simp
          intro hh; exact (h0 hh).elim
      obtain ⟨cl, hcs, hrow, hrun⟩ := hcell
      obtain ⟨g1, g2⟩ := hr.new_row h.length _ cl el { w with heap := w.heap.push (.cells cl el) } rfl (by rw [hlen, hcs]; exact Nat.le_refl _) (by simpa using hrow.row)
      refine ⟨_, _, .inl hrun, ⟨_, _, M, _, hq, g1, g2, ?_⟩⟩
      have hlg : l * gsize g ≤ c * gsize g := Nat.mul_le_mul_right _ hlc
      refine @VR.oslice M _ h.length _ g 0 l (some c) ⟨w.heap.size, (List.replicate c z).flatten.length, cl.size⟩ c 0 (Lay.upd_self _ _ _ _) ?_ ?_ (fun _ => rfl) (fun c' hc => ?_) (fun hc => by cases hc) hlc
      · simp only [Nat.zero_add]; omega
      · simp only [Nat.zero_add]; omega
      · cases hc; exact ⟨rfl, by simp only [Nat.zero_add]; omega⟩
    · exact hq.elim
  · exact hq.elim

end ops
end Go.Ev
