/- The law LateShifted answers true, whatever it is handed; ahead of it, in plain mathematics, what later Dues and longer days change. Conditions: the arguments are integers that fit their kinds, and lists no longer than memory allows. -/
import Derived.Test.YtadneamkkepknaaL5LawKepts
import Derived.Test.YtadneamkkepknaaL5Math7
import Derived.Test.YtadneamkkepknaaL5LawProved
set_option linter.unusedSimpArgs false
set_option linter.unusedVariables false
namespace Go.Ev.YtadneamkkepknaaC
open Go Go.Ev

theorem bub_congr {f g : Int → Int} {S : List Int} (h : ∀ a ∈ S, ∀ b ∈ S, (f a < f b ↔ g a < g b)) : ∀ (r : List Int) (x : Int) (post : List Int), x ∈ S → (∀ y ∈ r, y ∈ S) → bub f r x post = bub g r x post
  | [], x, post, _, _ => rfl
  | y :: r, x, post, hx, hr => by
    have hy := hr y List.mem_cons_self
    rw [bub, bub]
    by_cases hlt : f x < f y
    · rw [if_pos hlt, if_pos ((h x hx y hy).1 hlt)]
      exact bub_congr h r x (y :: post) hx fun z hz => hr z (List.mem_cons_of_mem _ hz)
    · rw [if_neg hlt, if_neg fun h' => hlt ((h x hx y hy).2 h')]
theorem isort_congr {f g : Int → Int} {S : List Int} (h : ∀ a ∈ S, ∀ b ∈ S, (f a < f b ↔ g a < g b)) : ∀ (r done : List Int), (∀ y ∈ done, y ∈ S) → (∀ y ∈ r, y ∈ S) → isort f done r = isort g done r
  | [], done, _, _ => rfl
  | x :: r, done, hd, hr => by
    have hx := hr x List.mem_cons_self
    rw [isort, isort, bub_congr h done.reverse x [] hx fun y hy => hd y (List.mem_reverse.1 hy)]
    refine isort_congr h r _ (fun y hy => ?_) fun y hy => hr y (List.mem_cons_of_mem _ hy)
    have := (bub_perm g done.reverse x []).mem_iff.1 hy
    simp only [List.reverse_reverse, List.mem_append, List.mem_cons, List.not_mem_nil, or_false] at this
    rcases this with h1 | rfl
    · exact hd y h1
    · exact hx
theorem seqOf_congr {l m : List Order} (hl : m.length = l.length) (h : ∀ a b : Int, 0 ≤ a → a < l.length → 0 ≤ b → b < l.length → (dueOf m a < dueOf m b ↔ dueOf l a < dueOf l b)) : seqOf m = seqOf l := by
  rw [seqOf, seqOf, hl]
  exact isort_congr (S := idx l.length) (fun a ha b hb => h a b (idx_mem.1 ha).1 (idx_mem.1 ha).2 (idx_mem.1 hb).1 (idx_mem.1 hb).2) _ _ (by simp) fun y hy => hy

/-! ### later -/
def later (l : List Order) (t : Int) : List Order := l.map fun o => ⟨o.lo, o.hi, o.due + t⟩
theorem later_length (l : List Order) (t : Int) : (later l t).length = l.length := by simp [later]
theorem later_side (l : List Order) (t s : Int) : side (later l t) s = side l s := by simp [later, side]
theorem later_due {l : List Order} (t : Int) {i : Int} (h0 : 0 ≤ i) (h1 : i < l.length) : dueOf (later l t) i = dueOf l i + t := by
  have hi : i.toNat < l.length := by omega
  simp [dueOf, later, List.getElem?_map, List.getElem?_eq_getElem hi]
theorem later_seq (l : List Order) (t : Int) : seqOf (later l t) = seqOf l := seqOf_congr (later_length l t) fun a b a0 a1 b0 b1 => by
  rw [later_due t a0 a1, later_due t b0 b1]; omega
theorem later_wi {l : List Order} (w : List Int) (t D : Int) : ∀ (S : List Int) (d : Int), (∀ i ∈ S, 0 ≤ i ∧ i < l.length) → (wi (later l t) w D d S ↔ wi l w (D + t) d S)
  | [], _, _ => Iff.rfl
  | i :: r, d, h => by
    have hi := h i List.mem_cons_self
    rw [wi, wi, later_wi w t D r _ fun j hj => h j (List.mem_cons_of_mem _ hj), later_due t hi.1 hi.2]
    constructor <;> rintro ⟨a, b⟩ <;> exact ⟨by omega, b⟩
theorem later_shortest {l : List Order} (h0 : 0 < l.length) (t s : Int) : shortest (later l t) s = shortest l s - t := by
  have hq := seqOf_seq l
  have hq' : Seq (later l t).length (seqOf l) := by rw [later_length]; exact hq
  have h1 : ∀ D, shortest (later l t) s ≤ D ↔ shortest l s ≤ D + t := fun D => by
    rw [shortest, later_seq, later_side, delay_le hq' (by rw [later_length]; exact h0), later_wi _ _ _ _ _ hq.lt.1, ← delay_le hq h0]
    exact Iff.rfl
  have h2 := (h1 (shortest (later l t) s)).1 (Int.le_refl _)
  have h3 := (h1 (shortest l s - t)).2 (by omega)
  omega
theorem later_some (l : List Order) (t d : Int) : someDue (later l t) d = someDue l (d - t) := by
  rw [Bool.eq_iff_iff, someDue, someDue, later_length, List.any_eq_true, List.any_eq_true]
  constructor <;> rintro ⟨i, hi, h⟩ <;> refine ⟨i, hi, ?_⟩ <;> have hb := idx_mem.1 hi <;> simp only [decide_eq_true_eq, later_due t hb.1 hb.2] at h ⊢ <;> omega
theorem later_bd (l : List Order) (t s d : Int) : bd (later l t) (side (later l t) s) d = bd l (side l s) (d - t) - t := by
  rw [bd, bd, later_side, later_length]
  have : (idx l.length).filter (fun i => decide (dueOf (later l t) i ≤ d)) = (idx l.length).filter fun i => decide (dueOf l i ≤ d - t) := by
    apply List.filter_congr
    intro i hi
    have hb := idx_mem.1 hi
    rw [later_due t hb.1 hb.2, Bool.eq_iff_iff]
    simp
    omega
  rw [this]
  omega

/-! ### longer -/
def longer (l : List Order) (c : Int) : List Order := l.map fun o => ⟨c * o.lo, c * o.hi, c * o.due⟩
theorem longer_length (l : List Order) (c : Int) : (longer l c).length = l.length := by simp [longer]
theorem longer_wk (l : List Order) (c s i : Int) : wk (side (longer l c) s) i = c * wk (side l s) i := by
  simp only [wk, side, longer, List.getD_eq_getElem?_getD, List.getElem?_map]
  cases l[i.toNat]? with
  | none => simp
  | some o => simp only [Option.map_some, Option.getD_some]; split <;> rfl
theorem longer_due (l : List Order) (c i : Int) : dueOf (longer l c) i = c * dueOf l i := by
  simp only [dueOf, longer, List.getElem?_map]
  cases l[i.toNat]? with
  | none => simp
  | some o => rfl
theorem longer_seq (l : List Order) {c : Int} (hc : 0 < c) : seqOf (longer l c) = seqOf l := seqOf_congr (longer_length l c) fun a b _ _ _ _ => by
  rw [longer_due, longer_due]
  exact Int.mul_lt_mul_left hc
theorem longer_sum (l : List Order) (c s : Int) : ∀ T : List Int, sumW (side (longer l c) s) T = c * sumW (side l s) T
  | [] => by simp [sumW]
  | i :: r => by rw [sumW_cons, sumW_cons, longer_wk, longer_sum l c s r, Int.mul_add]
theorem longer_shortest {l : List Order} (h0 : 0 < l.length) {c : Int} (hc : 0 < c) (s : Int) : shortest (longer l c) s = c * shortest l s := by
  have hq := seqOf_seq l
  have hq' : Seq (longer l c).length (seqOf l) := by rw [longer_length]; exact hq
  obtain ⟨⟨k, i, hk, h1⟩, h2⟩ := delay_spec (w := side l s) hq h0
  obtain ⟨⟨k', i', hk', h1'⟩, h2'⟩ := delay_spec (l := longer l c) (w := side (longer l c) s) hq' (by rw [longer_length]; exact h0)
  have h3 := h2 k' i' hk'
  have h4 := h2' k i hk
  rw [longer_sum, longer_due] at h1' h4
  rw [shortest, longer_seq l hc, shortest]
  have e1 : c * sumW (side l s) ((seqOf l).take (k + 1)) - c * dueOf l i = c * delayOf l (seqOf l) (side l s) := by rw [h1, Int.mul_sub]
  have e2 : c * (sumW (side l s) ((seqOf l).take (k' + 1)) - dueOf l i') ≤ c * delayOf l (seqOf l) (side l s) := Int.mul_le_mul_of_nonneg_left h3 (by omega)
  rw [Int.mul_sub] at e2
  omega
theorem longer_pick (l : List Order) {c : Int} (hc : 0 < c) (s : Int) : ∀ ks : List Int, pickL (side (longer l c) s) ks = pickL (side l s) ks
  | [] => rfl
  | a :: r => by
    have : ∀ (r : List Int) (a : Int), r.foldl (fun m x => if wk (side (longer l c) s) x ≥ wk (side (longer l c) s) m then x else m) a = r.foldl (fun m x => if wk (side l s) x ≥ wk (side l s) m then x else m) a := by
      intro r
      induction r with
      | nil => intro a; rfl
      | cons b r ih =>
        intro a
        rw [List.foldl_cons, List.foldl_cons, longer_wk, longer_wk]
        have : (c * wk (side l s) b ≥ c * wk (side l s) a) ↔ wk (side l s) b ≥ wk (side l s) a := Int.mul_le_mul_left hc
        rw [ih]
        congr 1
        by_cases h : wk (side l s) b ≥ wk (side l s) a
        · rw [if_pos h, if_pos (this.2 h)]
        · rw [if_neg h, if_neg fun h' => h (this.1 h')]
    exact this r a
theorem longer_go (l : List Order) {c : Int} (hc : 0 < c) (s : Int) : ∀ (r ks : List Int) (d : Int), keptGo (longer l c) (side (longer l c) s) r ks (c * d) = keptGo l (side l s) r ks d
  | [], _, _ => rfl
  | i :: r, ks, d => by
    have e1 : c * d + c * wk (side l s) i = c * (d + wk (side l s) i) := by rw [Int.mul_add]
    have e2 : ∀ p, c * (d + wk (side l s) i) - c * wk (side l s) p = c * (d + wk (side l s) i - wk (side l s) p) := fun p => by rw [← Int.mul_sub]
    rw [keptGo_cons, keptGo_cons, longer_pick l hc, longer_wk, longer_wk, longer_due, e1, e2]
    have : (c * (d + wk (side l s) i) ≤ c * dueOf l i) ↔ d + wk (side l s) i ≤ dueOf l i := Int.mul_le_mul_left hc
    by_cases h : d + wk (side l s) i ≤ dueOf l i
    · rw [if_pos h, if_pos (this.2 h), longer_go l hc s r]
    · rw [if_neg h, if_neg fun h' => h (this.1 h'), longer_go l hc s r]
theorem longer_kept (l : List Order) {c : Int} (hc : 0 < c) (s : Int) : keptL (longer l c) s = keptL l s := by
  have h : keptOf (longer l c) s = keptOf l s := by
    have := longer_go l hc s (seqOf l) [] 0
    rw [Int.mul_zero] at this
    rw [keptOf, keptOf, longer_seq l hc, this]
  rw [keptL, keptL, h, longer_length]

/-! ### the day -/
theorem later_day {l : List Order} (h0 : 0 < l.length) (t s : Int) {a b : Int} (ha : someDue l a = true ∧ bd l (side l s) a = shortest l s) (hma : ∀ d, d < a → ¬ (someDue l d = true ∧ bd l (side l s) d = bd l (side l s) a))
    (hb : someDue (later l t) b = true ∧ bd (later l t) (side (later l t) s) b = shortest (later l t) s) (hmb : ∀ d, d < b → ¬ (someDue (later l t) d = true ∧ bd (later l t) (side (later l t) s) d = bd (later l t) (side (later l t) s) b)) : b = a + t := by
  have hs := later_shortest h0 t s
  have h1 := hma (b - t)
  have h2 := hmb (a + t)
  rw [later_some, later_bd] at hb
  rw [later_some, later_bd, later_bd, show a + t - t = a by omega] at h2
  by_cases g1 : b - t < a
  · exact (h1 g1 ⟨hb.1, by omega⟩).elim
  · by_cases g2 : a + t < b
    · exact (h2 g2 ⟨ha.1, by omega⟩).elim
    · omega

theorem longer_some (l : List Order) {c : Int} (hc : 0 < c) (d : Int) : someDue (longer l c) d = someDue l (d / c) := by
  rw [Bool.eq_iff_iff, someDue, someDue, longer_length, List.any_eq_true, List.any_eq_true]
  have e : ∀ i, c * dueOf l i ≤ d ↔ dueOf l i ≤ d / c := fun i => by rw [Int.le_ediv_iff_mul_le hc, Int.mul_comm]
  constructor <;> rintro ⟨i, hi, h⟩ <;> refine ⟨i, hi, ?_⟩ <;> simp only [decide_eq_true_eq, longer_due, e] at h ⊢ <;> exact h
theorem longer_bd (l : List Order) {c : Int} (hc : 0 < c) (s d : Int) : bd (longer l c) (side (longer l c) s) d = c * (bd l (side l s) (d / c) + d / c) - d := by
  rw [bd, bd, longer_length, longer_sum]
  have : (idx l.length).filter (fun i => decide (dueOf (longer l c) i ≤ d)) = (idx l.length).filter fun i => decide (dueOf l i ≤ d / c) := by
    apply List.filter_congr
    intro i hi
    rw [longer_due, Bool.eq_iff_iff]
    simp only [decide_eq_true_eq]
    rw [Int.le_ediv_iff_mul_le hc, Int.mul_comm]
  rw [this, Int.sub_add_cancel]
theorem longer_day {l : List Order} (hv : Valid l) (h0 : 0 < l.length) {c : Int} (hc : 0 < c) (s : Int) {a b : Int} (ha : someDue l a = true ∧ bd l (side l s) a = shortest l s) (hma : ∀ d, d < a → ¬ (someDue l d = true ∧ bd l (side l s) d = bd l (side l s) a))
    (hb : someDue (longer l c) b = true ∧ bd (longer l c) (side (longer l c) s) b = shortest (longer l c) s) (hmb : ∀ d, d < b → ¬ (someDue (longer l c) d = true ∧ bd (longer l c) (side (longer l c) s) d = bd (longer l c) (side (longer l c) s) b)) : b = c * a := by
  have hs := longer_shortest h0 hc s
  have h2 := hmb (c * a)
  have e1 : c * a / c = a := Int.mul_ediv_cancel_left a (by omega)
  rw [longer_some l hc, longer_bd l hc, e1, hb.2, hs, Int.mul_add, ha.2] at h2
  rw [longer_some l hc, longer_bd l hc, hs] at hb
  have h3 : bd l (side l s) (b / c) ≤ shortest l s := bd_le (seqOf_seq l) (side_pos hv s) hb.1
  have h4 : c * (b / c) ≤ b := Int.mul_ediv_self_le (by omega)
  have h5 : c * bd l (side l s) (b / c) ≤ c * shortest l s := Int.mul_le_mul_of_nonneg_left h3 (by omega)
  have h6 := hb.2
  rw [Int.mul_add] at h6
  have h7 : b = c * (b / c) := by omega
  have h8 : c * bd l (side l s) (b / c) = c * shortest l s := by omega
  have h9 : bd l (side l s) (b / c) = shortest l s := Int.eq_of_mul_eq_mul_left (by omega) h8
  have h10 : a ≤ b / c := by
    apply Int.le_of_not_gt
    intro hlt
    exact hma _ hlt ⟨hb.1, by omega⟩
  have h11 : c * a ≤ c * (b / c) := Int.mul_le_mul_of_nonneg_left h10 (by omega)
  by_cases g : c * a < b
  · exact (h2 g ⟨ha.1, by omega⟩).elim
  · omega

/-! ### how short, and how long -/
theorem shortest_bd {l : List Order} (hv : Valid l) {s a : Int} (ha : 0 ≤ a) (ha2 : a ≤ 2000) (h : bd l (side l s) a = shortest l s) : -2000 ≤ shortest l s ∧ shortest l s ≤ 1000 := by
  rw [← h, bd]
  have h1 := sumW_nonneg (side_pos hv s) ((idx l.length).filter fun i => decide (dueOf l i ≤ a))
  have h2 := sumW_filter_le (side_pos hv s) (fun i => decide (dueOf l i ≤ a)) (idx l.length)
  have h3 : ∀ T : List Int, sumW (side l s) T ≤ 100 * T.length := by
    intro T
    induction T with
    | nil => simp [sumW]
    | cons i r ih =>
      have : wk (side l s) i ≤ 100 := by
        rw [wk, List.getD_eq_getElem?_getD, side, List.getElem?_map]
        cases ho : l[i.toNat]? with
        | none => simp
        | some o =>
          have := hv.ok o (List.mem_of_getElem? ho)
          have h1 := this.lh
          have h2 := this.hi
          simp only [Option.map_some, Option.getD_some]
          split <;> omega
      rw [sumW_cons, List.length_cons]
      omega
  have h4 := h3 (idx l.length)
  rw [idx_length] at h4
  have := hv.len
  omega

end Go.Ev.YtadneamkkepknaaC

namespace Go.Ev.YtadneamkkepknaaC
open Go Go.Proofs

theorem later_step {l : List Order} {t : Int} {k : Nat} {o : Order} (h : l[k]? = some o) : (later l t).take (k + 1) = (later l t).take k ++ [⟨o.lo, o.hi, o.due + t⟩] := by
  rw [List.take_add_one]
  simp [later, h]
theorem longer_step {l : List Order} {c : Int} {k : Nat} {o : Order} (h : l[k]? = some o) : (longer l c).take (k + 1) = (longer l c).take k ++ [⟨c * o.lo, c * o.hi, c * o.due⟩] := by
  rw [List.take_add_one]
  simp [longer, h]
theorem ownG_lt {lo : Nat} {h : Heap} {v : AV} {g : Option Nat} {n : Nat} {cs : List AV} (ho : OwnG lo h v g n cs) : ∀ j, keyOf v = some j → j < h.length ∧ lo ≤ j := by
  rcases ho with ⟨_, _, rfl⟩ | ⟨key, ver, hk, rfl, hH, _⟩
  · intro j hj; simp [keyOf] at hj
  · intro j hj
    obtain rfl : key = j := by simpa [keyOf] using hj
    exact ⟨getH_lt hH (by simp), hk⟩
theorem frz_OwnO {lo : Nat} {h : Heap} {v : AV} {n m : Nat} {X : List Order} (ho : OwnG lo h v (some 3) m (X.flatMap ocl)) (hm : m = X.length) : freeze h (n + 2) v = .ret (ords X) := by
  subst hm
  rw [frz_OwnG ho (frz_ocl _ _ _), grouped_three]

attribute [local irreducible] Res.all evC evLoop evOps evOper evOp evFn evCall freeze G GO GV GP GC R
set_option maxRecDepth 100000

theorem lateShifted_at (n40 : Nat) (hn : n40 = 40) (l : List Order) (sd lt tm : Int) (_ : ∀ a ∈ l, OWf a) (hlm : l.length ≤ maxLen) (hsw : (Lit.int .u8 sd).wf = true) (hlw : (Lit.int .u8 lt).wf = true) (htw : (Lit.int .u8 tm).wf = true) :
    (evFn (evCall T n40) c14 [ords l, .int .u8 sd, .int .u8 lt, .int .u8 tm] []).all fun p => p.1 = .bool true := by
  rw [m_fn]
  by_cases hc : chk l = 0
  case neg => simp (disch := first | assumption | omega) only [c14, go_sem, ↓reduceIte, reduceIte, Nat.reduceEqDiff, Nat.reduceAdd, Nat.reduceMul, reduceCtorEq, Nat.reduceDiv, Nat.reduceLeDiff, Nat.reduceLT, Nat.reduceSub, cs_46, hc, cs_18']
  have hv := (chk_zero l).1 hc
  have hl : l.length ≤ 15 := Nat.le_trans hv.len (by omega)
  by_cases hl0 : l.length = 0
  · have hl0' : ((l.length : Int) == 0) = true := beq_iff_eq.2 (by omega)
    simp (disch := first | assumption | omega) only [c14, go_sem, ↓reduceIte, reduceIte, Nat.reduceEqDiff, Nat.reduceAdd, Nat.reduceMul, reduceCtorEq, Nat.reduceDiv, Nat.reduceLeDiff, Nat.reduceLT, Nat.reduceSub, cs_46, hc, hl0', cs_18']
  have hl0' : ((l.length : Int) == 0) = false := beq_eq_false_iff_ne.2 (by omega)
  have h0 : 0 < l.length := by omega
  have b1 := bounds_u8 hsw
  have b2 := bounds_u8 hlw
  have b3 := bounds_u8 htw
  obtain ⟨sn, rfl⟩ := Int.eq_ofNat_of_zero_le b1.1
  obtain ⟨tn, rfl⟩ := Int.eq_ofNat_of_zero_le b2.1
  obtain ⟨mn, rfl⟩ := Int.eq_ofNat_of_zero_le b3.1
  have hs2 : sn % 2 < 2 := Nat.mod_lt _ (by omega)
  have hm2 : mn % 4 < 4 := Nat.mod_lt _ (by omega)
  have hs : ((sn % 2 : Nat) : Int) = 0 ∨ ((sn % 2 : Nat) : Int) = 1 := by omega
  generalize hsn : sn % 2 = s at *
  generalize hmn : mn % 4 = m at *
  have hc0 : 0 < 1 + (m : Int) := by omega
  obtain ⟨a, e1, e2, _, ha1, ha2, ha3, ha4, ha5⟩ := short_day hv h0 hs
  have e3 := refKept_ok hv hs
  obtain ⟨hb1, hb2⟩ := shortest_bd hv ha3 ha4 ha2
  have nb1 : ¬ shortest l (s : Int) < -2000 := by omega
  have nb2 : ¬ shortest l (s : Int) > 1000 := by omega
  have nb3 : ¬ a < 0 := by omega
  have nb4 : ¬ a > 2000 := by omega
  simp (disch := first | assumption | omega) only [c14, go_sem, ↓reduceIte, reduceIte, Nat.reduceEqDiff, Nat.reduceAdd, Nat.reduceMul, reduceCtorEq, Nat.reduceDiv, Nat.reduceLeDiff, Nat.reduceLT, Nat.reduceSub, cs_46, hc, hl0', b_rem2, hsn, b_rem4, hmn]
  generalize hcc : 1 + (m : Int) = c at *
  have hc4 : c ≤ 4 := by omega
  have hXl := later_length l (tn : Int)
  have hYl := longer_length l c
  refine m_loop (fun M st => ∃ (k : Nat) (vx vy : AV), M = l.length - k ∧ k ≤ l.length ∧ At st.env [(0, ords l), (9, .int .i64 s), (10, .int .i64 tn), (11, .int .i64 c), (12, vx), (13, vy), (14, .int .i64 k)] ∧
    OwnG 222 st.heap vx (some 3) k (((later l tn).take k).flatMap ocl) ∧ OwnG 222 st.heap vy (some 3) k (((longer l c).take k).flatMap ocl) ∧ (∀ j, keyOf vx = some j → keyOf vy ≠ some j) ∧ 222 ≤ st.heap.length) l.length (by omega)
    ⟨0, .slice (some 3) [] true, .slice (some 3) [] true, by simp, by omega, by simp only [go_sem, ↓reduceIte, reduceIte, Nat.reduceEqDiff, Nat.reduceAdd, Nat.reduceMul, reduceCtorEq, Nat.reduceDiv, Nat.reduceLeDiff, Nat.reduceLT, Nat.reduceSub], ownG_nil .., ownG_nil .., by simp [keyOf], by simp⟩ ?_
  rintro M e h hM ⟨k, vx, vy, rfl, hk, hE, hO1, hO2, hdis, hlen⟩ P hP
  simp only [At_cons, At_nil] at hE hO1 hO2 hlen
  obtain ⟨r0, r9, r10, r11, r12, r13, r14, -⟩ := hE
  by_cases hlt : k < l.length
  · obtain ⟨o, ho⟩ := get_ex hlt
    have hok := hv.ok o (List.mem_of_getElem? ho)
    have o1 := hok.lo
    have o2 := hok.lh
    have o3 := hok.hi
    have o4 := hok.d0
    have o5 := hok.d1
    have st1 := later_step (t := (tn : Int)) ho
    have st2 := longer_step (c := c) ho
    have mul_bd : ∀ x : Int, 0 ≤ x → x ≤ 2000 → 0 ≤ c * x ∧ c * x ≤ 8000 := fun x h1 h2 => by
      have h3 := Int.mul_nonneg (show 0 ≤ c by omega) h1
      have h4 : c * x ≤ 4 * x := Int.mul_le_mul_of_nonneg_right hc4 h1
      omega
    have mb1 := mul_bd o.lo (by omega) (by omega)
    have mb2 := mul_bd o.hi (by omega) (by omega)
    have mb3 := mul_bd o.due (by omega) (by omega)
    simp (disch := first | assumption | omega) only [go_sem, ↓reduceIte, reduceIte, Nat.reduceEqDiff, Nat.reduceAdd, Nat.reduceMul, reduceCtorEq, Nat.reduceDiv, Nat.reduceLeDiff, Nat.reduceLT, Nat.reduceSub, r0, r9, r10, r11, r12, r13, r14, hlt, ho, oAV]
    refine gp_appendG (m := 1) (c2 := ocl ⟨o.lo, o.hi, o.due + (tn : Int)⟩) (by first | with_reducible rfl | (simp only [length_setH, List.length_append, List.length_replicate]; done) | (simp only [length_setH, List.length_append, List.length_replicate]; omega)) ((hO1.setH (by omega)).setH (by omega)) (by simp [gsize]) (by simp only [length_setH]; omega) rfl rfl (by omega) (by omega) fun x' h' hO' hF hL hG hK => ?_
    have hk1 := ownG_lt hO1
    have hk2 := ownG_lt hO2
    have hlen' : 222 ≤ h'.length := by
      refine Nat.le_trans ?_ hL
      simp only [length_setH]
      omega
    have g15 : getH h' 15 = .cells (getH h 15).next [.int .i64 o.lo, .int .i64 o.hi] := by
      rw [hF 15 (by omega), getH_setH_self]
    have hO2' : OwnG 222 h' vy (some 3) k (((longer l c).take k).flatMap ocl) := by
      refine ((hO2.setH (j := 15) (by omega)).setH (j := 15) (by omega)).other fun j hj => hG j ?_ fun h1 => hdis j h1 hj
      have := (hk2 j hj).1
      simp only [length_setH]
      omega
    have hdis' : ∀ j, keyOf x' = some j → keyOf vy ≠ some j := fun j hj hj2 => by
      rcases hK j hj with h1 | h1
      · exact hdis j h1 hj2
      · have := (hk2 j hj2).1
        simp only [length_setH] at h1
        omega
    rw [show ((later l (tn : Int)).take k).flatMap ocl ++ ocl ⟨o.lo, o.hi, o.due + (tn : Int)⟩ = ((later l (tn : Int)).take (k + 1)).flatMap ocl by rw [st1]; simp] at hO'
    refine go_cutE [(0, ords l), (9, .int .i64 s), (10, .int .i64 tn), (11, .int .i64 c), (13, vy), (14, .int .i64 k), (15, .optr 15 (getH h 15).next 0), (69, x')] (by simp only [go_sem, ↓reduceIte, reduceIte, Nat.reduceEqDiff, Nat.reduceAdd, Nat.reduceMul, reduceCtorEq, Nat.reduceDiv, Nat.reduceLeDiff, Nat.reduceLT, Nat.reduceSub, r0, r9, r10, r11, r13, r14]) fun e hE => ?_
    simp only [At_cons, At_nil] at hE
    obtain ⟨r0, r9, r10, r11, r13, r14, r15, r69, -⟩ := hE
    simp (maxSteps := 600000) (disch := first | assumption | omega) only [go_sem, ↓reduceIte, reduceIte, Nat.reduceEqDiff, Nat.reduceAdd, Nat.reduceMul, reduceCtorEq, Nat.reduceDiv, Nat.reduceLeDiff, Nat.reduceLT, Nat.reduceSub, r0, r9, r10, r11, r13, r14, r15, r69, ho, oAV, g15]
    refine gp_appendG (m := 1) (c2 := ocl ⟨c * o.lo, c * o.hi, c * o.due⟩) (by first | with_reducible rfl | (simp only [length_setH, List.length_append, List.length_replicate]; done) | (simp only [length_setH, List.length_append, List.length_replicate]; omega)) hO2' (by simp [gsize]) hlen' rfl rfl (by omega) (by omega) fun y' h2 hO2'' hF2 hL2 hG2 hK2 => ?_
    rw [show ((longer l c).take k).flatMap ocl ++ ocl ⟨c * o.lo, c * o.hi, c * o.due⟩ = ((longer l c).take (k + 1)).flatMap ocl by rw [st2]; simp] at hO2''
    simp (disch := first | assumption | omega) only [go_sem, ↓reduceIte, reduceIte, Nat.reduceEqDiff, Nat.reduceAdd, Nat.reduceMul, reduceCtorEq, Nat.reduceDiv, Nat.reduceLeDiff, Nat.reduceLT, Nat.reduceSub, r0, r9, r10, r11, r13, r14, r15, r69]
    have hkx' := ownG_lt hO'
    refine hP (l.length - (k + 1)) _ (by omega) ⟨k + 1, x', y', rfl, by omega, by simp only [go_sem, ↓reduceIte, reduceIte, Nat.reduceEqDiff, Nat.reduceAdd, Nat.reduceMul, reduceCtorEq, Nat.reduceDiv, Nat.reduceLeDiff, Nat.reduceLT, Nat.reduceSub, r0, r9, r10, r11], hO'.other fun j hj => hG2 j (hkx' j hj).1 (hdis' j hj), hO2'', ?_, Nat.le_trans hlen' hL2⟩
    intro j hj hj2
    rcases hK2 j hj2 with h1 | h1
    · exact hdis' j hj h1
    · have := (hkx' j hj).1
      omega
  · obtain rfl : k = l.length := by omega
    rw [List.take_of_length_le (by omega)] at hO1 hO2
    have fx : freeze h 8 vx = .ret (ords (later l tn)) := frz_OwnO hO1 hXl.symm
    have fy : freeze h 8 vy = .ret (ords (longer l c)) := frz_OwnO hO2 hYl.symm
    clear hO1 hO2 hdis
    simp (disch := first | assumption | omega) only [go_sem, ↓reduceIte, reduceIte, Nat.reduceEqDiff, Nat.reduceAdd, Nat.reduceMul, reduceCtorEq, Nat.reduceDiv, Nat.reduceLeDiff, Nat.reduceLT, Nat.reduceSub, r0, r9, r10, r11, r12, r13, r14, hlt]
    simp (disch := first | assumption | omega) only [cs_33, e1]
    simp (disch := first | assumption | omega) only [go_sem, ↓reduceIte, reduceIte, Nat.reduceEqDiff, Nat.reduceAdd, Nat.reduceMul, reduceCtorEq, Nat.reduceDiv, Nat.reduceLeDiff, Nat.reduceLT, Nat.reduceSub, r0, r9, r10, r11, r12, r13, r14]
    simp (disch := first | assumption | omega) only [cs_35, e2]
    simp (disch := first | assumption | omega) only [go_sem, ↓reduceIte, reduceIte, Nat.reduceEqDiff, Nat.reduceAdd, Nat.reduceMul, reduceCtorEq, Nat.reduceDiv, Nat.reduceLeDiff, Nat.reduceLT, Nat.reduceSub, r0, r9, r10, r11, r12, r13, r14]
    simp (disch := first | assumption | omega) only [cs_37, e3]
    refine go_cutE [(0, ords l), (9, .int .i64 s), (10, .int .i64 tn), (11, .int .i64 c), (12, vx), (13, vy), (16, .int .i64 (shortest l s)), (17, .int .i64 0), (18, .int .i64 a), (19, .int .i64 0), (105, .tuple [ints (keptL l s), .int .i64 0])] (by simp only [go_sem, ↓reduceIte, reduceIte, Nat.reduceEqDiff, Nat.reduceAdd, Nat.reduceMul, reduceCtorEq, Nat.reduceDiv, Nat.reduceLeDiff, Nat.reduceLT, Nat.reduceSub, r0, r9, r10, r11, r12, r13, r14]) fun e hE => ?_
    simp only [At_cons, At_nil] at hE
    obtain ⟨r0, r9, r10, r11, r12, r13, r16, r17, r18, r19, r105, -⟩ := hE
    have hX15 : (later l (tn : Int)).length ≤ maxLen := by omega
    have hY15 : (longer l c).length ≤ maxLen := by omega
    simp (disch := first | assumption | omega) only [go_sem, ↓reduceIte, reduceIte, Nat.reduceEqDiff, Nat.reduceAdd, Nat.reduceMul, reduceCtorEq, Nat.reduceDiv, Nat.reduceLeDiff, Nat.reduceLT, Nat.reduceSub, r0, r9, r10, r11, r12, r13, r16, r17, r18, r19, r105, bne_self_eq_false, nb1, nb2, nb3, nb4]
    refine gp_con (con_46 (later l tn) hX15) (by omega) (fz_cons fx (fz_nil _)) (or_pb _ _) ?_
    apply go_join (call := evCall T n40) (base := 0) (Q := Fin [.tmp 8] fun p => p.1 = .bool true) fun e h' => h' = h ∧ At e [(0, ords l), (9, .int .i64 s), (11, .int .i64 c), (13, vy), (16, .int .i64 (shortest l s)), (18, .int .i64 a), (20, ints (keptL l s)), (169, .bool (decide (chk (longer l c) = 0)))]
    case main =>
      intro key
      by_cases gx : chk (later l (tn : Int)) = 0
      · have hvX := (chk_zero _).1 gx
        have hX15 : (later l (tn : Int)).length ≤ 15 := by omega
        obtain ⟨b, d1, d2, _, db1, db2, db3, db4, db5⟩ := short_day hvX (by omega) hs
        rw [later_shortest h0 tn s] at d1
        have hday := later_day h0 tn s ⟨ha1, ha2⟩ ha5 ⟨db1, db2⟩ db5
        rw [hday] at d2
        simp (disch := first | assumption | omega) only [go_sem, ↓reduceIte, reduceIte, Nat.reduceEqDiff, Nat.reduceAdd, Nat.reduceMul, reduceCtorEq, Nat.reduceDiv, Nat.reduceLeDiff, Nat.reduceLT, Nat.reduceSub, r0, r9, r10, r11, r12, r13, r16, r17, r18, r19, r105, gx]
        refine gp_con (con_33 (later l tn) s hX15) (by omega) (fz_cons fx (fz_int _ _ _ (fz_nil _))) (or_plain rfl) ?_
        simp (disch := first | assumption | omega) only [go_sem, ↓reduceIte, reduceIte, Nat.reduceEqDiff, Nat.reduceAdd, Nat.reduceMul, reduceCtorEq, Nat.reduceDiv, Nat.reduceLeDiff, Nat.reduceLT, Nat.reduceSub, shortV, d1, r0, r9, r10, r11, r12, r13, r16, r17, r18, r19, r105]
        refine gp_con (con_35 (later l tn) s hX15) (by omega) (fz_cons fx (fz_int _ _ _ (fz_nil _))) (or_plain rfl) ?_
        simp (disch := first | assumption | omega) only [go_sem, ↓reduceIte, reduceIte, Nat.reduceEqDiff, Nat.reduceAdd, Nat.reduceMul, reduceCtorEq, Nat.reduceDiv, Nat.reduceLeDiff, Nat.reduceLT, Nat.reduceSub, dayV, d2, r0, r9, r10, r11, r12, r13, r16, r17, r18, r19, r105, bne_self_eq_false]
        refine gp_con (con_46 (longer l c) hY15) (by omega) (fz_cons fy (fz_nil _)) (or_pb _ _) ?_
        apply key
        exact ⟨rfl, by simp only [go_sem, ↓reduceIte, reduceIte, Nat.reduceEqDiff, Nat.reduceAdd, Nat.reduceMul, reduceCtorEq, Nat.reduceDiv, Nat.reduceLeDiff, Nat.reduceLT, Nat.reduceSub, r0, r9, r10, r11, r12, r13, r16, r17, r18, r19, r105]⟩
      · simp (disch := first | assumption | omega) only [go_sem, ↓reduceIte, reduceIte, Nat.reduceEqDiff, Nat.reduceAdd, Nat.reduceMul, reduceCtorEq, Nat.reduceDiv, Nat.reduceLeDiff, Nat.reduceLT, Nat.reduceSub, r0, r9, r10, r11, r12, r13, r16, r17, r18, r19, r105, gx]
        refine gp_con (con_46 (longer l c) hY15) (by omega) (fz_cons fy (fz_nil _)) (or_pb _ _) ?_
        apply key
        exact ⟨rfl, by simp only [go_sem, ↓reduceIte, reduceIte, Nat.reduceEqDiff, Nat.reduceAdd, Nat.reduceMul, reduceCtorEq, Nat.reduceDiv, Nat.reduceLeDiff, Nat.reduceLT, Nat.reduceSub, r0, r9, r10, r11, r12, r13, r16, r17, r18, r19, r105]⟩
    case key =>
      clear r0 r9 r10 r11 r12 r13 r16 r17 r18 r19 r105
      rintro e _ ⟨rfl, hE⟩
      simp only [At_cons, At_nil] at hE
      obtain ⟨r0, r9, r11, r13, r16, r18, r20, r169, -⟩ := hE
      by_cases gy : chk (longer l c) = 0
      · have hvY := (chk_zero _).1 gy
        have hY15 : (longer l c).length ≤ 15 := by omega
        obtain ⟨b, d1, d2, _, db1, db2, db3, db4, db5⟩ := short_day hvY (by omega) hs
        have hday := longer_day hv h0 hc0 s ⟨ha1, ha2⟩ ha5 ⟨db1, db2⟩ db5
        have hsh := longer_shortest h0 hc0 s
        have d3 := refKept_ok hvY hs
        rw [longer_kept l hc0] at d3
        rw [hsh] at d1
        rw [hday] at d2
        have hkl : (keptL l (s : Int)).length ≤ 1000 := by have := keptL_len hv (s : Int); have := kept_le hv (s : Int); omega
        have wb1 : -9223372036854775808 ≤ c * shortest l (s : Int) ∧ c * shortest l (s : Int) ≤ 9223372036854775807 := by
          have h1 : c * shortest l (s : Int) ≤ c * 1000 := Int.mul_le_mul_of_nonneg_left hb2 (by omega)
          have h2 : c * (-2000) ≤ c * shortest l (s : Int) := Int.mul_le_mul_of_nonneg_left hb1 (by omega)
          omega
        have wb2 : -9223372036854775808 ≤ c * a ∧ c * a ≤ 9223372036854775807 := by
          have h1 : c * a ≤ c * 2000 := Int.mul_le_mul_of_nonneg_left ha4 (by omega)
          have h2 : c * 0 ≤ c * a := Int.mul_le_mul_of_nonneg_left ha3 (by omega)
          omega
        simp (disch := first | assumption | omega) only [go_sem, ↓reduceIte, reduceIte, Nat.reduceEqDiff, Nat.reduceAdd, Nat.reduceMul, reduceCtorEq, Nat.reduceDiv, Nat.reduceLeDiff, Nat.reduceLT, Nat.reduceSub, r0, r9, r11, r13, r16, r18, r20, r169, gy]
        refine gp_con (con_33 (longer l c) s hY15) (by omega) (fz_cons fy (fz_int _ _ _ (fz_nil _))) (or_plain rfl) ?_
        simp (disch := first | assumption | omega) only [go_sem, ↓reduceIte, reduceIte, Nat.reduceEqDiff, Nat.reduceAdd, Nat.reduceMul, reduceCtorEq, Nat.reduceDiv, Nat.reduceLeDiff, Nat.reduceLT, Nat.reduceSub, shortV, d1, r0, r9, r11, r13, r16, r18, r20, r169]
        refine gp_con (con_35 (longer l c) s hY15) (by omega) (fz_cons fy (fz_int _ _ _ (fz_nil _))) (or_plain rfl) ?_
        simp (disch := first | assumption | omega) only [go_sem, ↓reduceIte, reduceIte, Nat.reduceEqDiff, Nat.reduceAdd, Nat.reduceMul, reduceCtorEq, Nat.reduceDiv, Nat.reduceLeDiff, Nat.reduceLT, Nat.reduceSub, dayV, d2, r0, r9, r11, r13, r16, r18, r20, r169]
        refine gpF_con (conF_37 (longer l c) s hY15) (by omega) (fz_cons fy (fz_int _ _ _ (fz_nil _))) ?_
        refine go_cut [(11, .int .i64 c), (16, .int .i64 (shortest l s)), (17, .int .i64 0), (18, .int .i64 a), (19, .int .i64 0), (20, ints (keptL l s)), (26, .int .i64 (c * shortest l s)), (27, .int .i64 (c * a)), (187, .tuple [ints (keptL l s), .int .i64 0])] (by simp only [go_sem, ↓reduceIte, reduceIte, Nat.reduceEqDiff, Nat.reduceAdd, Nat.reduceMul, reduceCtorEq, Nat.reduceDiv, Nat.reduceLeDiff, Nat.reduceLT, Nat.reduceSub, keptV, d3, r0, r9, r11, r13, r16, r18, r20]) fun e h hE => ?_
        simp only [At_cons, At_nil] at hE
        obtain ⟨r11, r16, r17, r18, r19, r20, r26, r27, r187, -⟩ := hE
        simp (disch := first | assumption | omega) only [go_sem, ↓reduceIte, reduceIte, Nat.reduceEqDiff, Nat.reduceAdd, Nat.reduceMul, reduceCtorEq, Nat.reduceDiv, Nat.reduceLeDiff, Nat.reduceLT, Nat.reduceSub, r11, r16, r17, r18, r19, r20, r26, r27, r187, beq_self_eq_true, wb1, wb2]
        simp (disch := first | assumption | omega) only [cs_30, eqL_self]
        simp (disch := first | assumption | omega) only [go_sem, ↓reduceIte, reduceIte, Nat.reduceEqDiff, Nat.reduceAdd, Nat.reduceMul, reduceCtorEq, Nat.reduceDiv, Nat.reduceLeDiff, Nat.reduceLT, Nat.reduceSub, r11, r16, r17, r18, r19, r20, r26, r27, r187, cs_18']
      · simp (disch := first | assumption | omega) only [go_sem, ↓reduceIte, reduceIte, Nat.reduceEqDiff, Nat.reduceAdd, Nat.reduceMul, reduceCtorEq, Nat.reduceDiv, Nat.reduceLeDiff, Nat.reduceLT, Nat.reduceSub, r0, r9, r11, r13, r16, r18, r20, r169, gy, cs_18']

def lateShifted_n : Nat := 40
theorem lateShifted_ev (l : List Order) (sd lt tm : Int) (h1 : ∀ a ∈ l, OWf a) (h2 : l.length ≤ maxLen) (h3 : (Lit.int .u8 sd).wf = true) (h4 : (Lit.int .u8 lt).wf = true) (h5 : (Lit.int .u8 tm).wf = true) :
    (evFn (evCall T lateShifted_n) c14 [ords l, .int .u8 sd, .int .u8 lt, .int .u8 tm] []).all fun p => p.1 = .bool true := lateShifted_at _ rfl l sd lt tm h1 h2 h3 h4 h5

end Go.Ev.YtadneamkkepknaaC
