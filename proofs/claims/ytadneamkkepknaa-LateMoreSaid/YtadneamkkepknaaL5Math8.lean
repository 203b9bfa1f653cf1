/- More work, an earlier Due, one more order; later Dues, longer days: what they change. In plain mathematics: no program in sight. No condition. -/
import Derived.Test.YtadneamkkepknaaL5Math7
import Derived.Test.YtadneamkkepknaaL5LawProved
set_option linter.unusedSimpArgs false
set_option linter.unusedVariables false
namespace Go.Ev.YtadneamkkepknaaC
open Go Go.Ev

theorem shortest_mono {l m : List Order} (hv : Valid l) (hm : Valid m) (h0 : 0 < l.length) (hl : m.length = l.length) (s : Int) (hi : ∀ i : Int, 0 ≤ i → i < l.length → wk (side l s) i ≤ wk (side m s) i ∧ dueOf m i ≤ dueOf l i) : shortest l s ≤ shortest m s := by
  have hS : Seq l.length (seqOf m) := by rw [← hl]; exact seqOf_seq m
  have h1 := (delay_le (w := side m s) (seqOf_seq m) (by omega) (shortest m s)).1 (Int.le_refl _)
  have h2 : wi l (side l s) (shortest m s) 0 (seqOf m) := wi_mono _ 0 0 (Int.le_refl 0) (fun i hi' => by
    have := hS.lt.1 i hi'
    exact hi i this.1 this.2) h1
  have h3 := (delay_le (w := side l s) hS h0 (shortest m s)).2 h2
  exact Int.le_trans (shortest_le hv h0 s hS (side_pos hv s) fun i => Int.le_refl _) h3
theorem kept_mono {l m : List Order} (hv : Valid l) (hm : Valid m) (hl : m.length = l.length) (s : Int) (hi : ∀ i : Int, 0 ≤ i → i < l.length → wk (side l s) i ≤ wk (side m s) i ∧ dueOf m i ≤ dueOf l i) : (keptOf m s).length ≤ (keptOf l s).length := by
  obtain ⟨h1, h2, h3⟩ := keptOf_facts hm s
  rw [hl] at h2
  exact feas_le hv s h1 h2 (h3.mono (side_pos hm s) (side_pos hv s) fun i hi' => hi i (h2 i hi').1 (h2 i hi').2)

/-! ### one more order -/
theorem more_eq {l : List Order} (o : Order) (s : Int) {i : Int} (h0 : 0 ≤ i) (h1 : i < l.length) : wk (side (l ++ [o]) s) i = wk (side l s) i ∧ dueOf (l ++ [o]) i = dueOf l i := by
  have hi : i.toNat < l.length := by omega
  constructor
  · have hs : i.toNat < (side l s).length := by rw [side_length]; exact hi
    simp only [wk, side, List.map_append, List.getD_eq_getElem?_getD]
    rw [List.getElem?_append_left (by simpa [side] using hs)]
  · simp only [dueOf]
    rw [List.getElem?_append_left hi]
theorem more_shortest {l : List Order} {o : Order} (hv : Valid l) (h0 : 0 < l.length) (hz : Valid (l ++ [o])) (s : Int) : shortest l s ≤ shortest (l ++ [o]) s := by
  have hq := seqOf_seq (l ++ [o])
  have hS : Seq l.length ((seqOf (l ++ [o])).filter fun i => decide (i ≠ (l.length : Int))) := by
    have hp : ((seqOf (l ++ [o])).filter fun i => decide (i ≠ (l.length : Int))).Perm (idx l.length) := by
      rw [List.perm_ext_iff_of_nodup ((seqOf_nodup _).filter _) (idx_nodup _)]
      intro a
      rw [List.mem_filter, seqOf_mem, idx_mem]
      simp
      omega
    exact ⟨by rw [hp.length_eq, idx_length], fun i hi => hp.mem_iff.2 (idx_mem.2 (by omega))⟩
  have h1 := (delay_le (w := side (l ++ [o]) s) hq (by simp) (shortest (l ++ [o]) s)).1 (Int.le_refl _)
  have h2 := wi_sub (side_pos hz s) (List.filter_sublist (p := fun i => decide (i ≠ (l.length : Int))) (l := seqOf (l ++ [o]))) 0 0 (Int.le_refl 0) h1
  have h3 : wi l (side l s) (shortest (l ++ [o]) s) 0 ((seqOf (l ++ [o])).filter fun i => decide (i ≠ (l.length : Int))) := wi_mono _ 0 0 (Int.le_refl 0) (fun i hi' => by
    have := hS.lt.1 i hi'
    obtain ⟨e1, e2⟩ := more_eq o s this.1 this.2
    omega) h2
  exact Int.le_trans (shortest_le hv h0 s hS (side_pos hv s) fun i => Int.le_refl _) ((delay_le (w := side l s) hS h0 _).2 h3)
theorem more_kept {l : List Order} {o : Order} (hv : Valid l) (hz : Valid (l ++ [o])) (s : Int) : (keptOf l s).length ≤ (keptOf (l ++ [o]) s).length ∧ (keptOf (l ++ [o]) s).length ≤ (keptOf l s).length + 1 := by
  constructor
  · obtain ⟨h1, h2, h3⟩ := keptOf_facts hv s
    refine feas_le hz s h1 (fun x hx => by have := h2 x hx; simp; omega) (h3.mono (side_pos hv s) (side_pos hz s) fun i hi => ?_)
    obtain ⟨e1, e2⟩ := more_eq o s (h2 i hi).1 (h2 i hi).2
    omega
  · obtain ⟨h1, h2, h3⟩ := keptOf_facts hz s
    have hb : ∀ x ∈ (keptOf (l ++ [o]) s).erase (l.length : Int), 0 ≤ x ∧ x < l.length := fun x hx => by
      have hx1 := h1.mem_erase_iff.1 hx
      have := h2 x hx1.2
      simp at this
      omega
    have h4 := feas_le hv s (h1.erase (l.length : Int)) hb ((h3.sub (side_pos hz s) List.erase_sublist).mono (side_pos hz s) (side_pos hv s) fun i hi => by
      obtain ⟨e1, e2⟩ := more_eq o s (hb i hi).1 (hb i hi).2
      omega)
    have h5 : (keptOf (l ++ [o]) s).length ≤ ((keptOf (l ++ [o]) s).erase (l.length : Int)).length + 1 := by
      rw [List.length_erase]
      split <;> omega
    omega

/-! ### one order changed -/
theorem set_valid {l : List Order} (hv : Valid l) (i : Nat) {o : Order} (ho : Ok o) : Valid (l.set i o) := ⟨by rw [List.length_set]; exact hv.len, fun x hx => by
  rcases List.mem_or_eq_of_mem_set hx with h | h
  · exact hv.ok x h
  · rw [h]; exact ho⟩
theorem set_at {l : List Order} {k : Nat} {a o : Order} (ha : l[k]? = some a) (s : Int) (h1 : (if s = 1 then a.hi else a.lo) ≤ (if s = 1 then o.hi else o.lo)) (h2 : o.due ≤ a.due) (i : Int) : wk (side l s) i ≤ wk (side (l.set k o) s) i ∧ dueOf (l.set k o) i ≤ dueOf l i := by
  have hk := (List.getElem?_eq_some_iff.1 ha).1
  have hw : ∀ m : List Order, wk (side m s) i = match m[i.toNat]? with | some o => (if s = 1 then o.hi else o.lo) | none => 0 := fun m => by
    rw [wk, List.getD_eq_getElem?_getD, side, List.getElem?_map]
    cases m[i.toNat]? <;> rfl
  rw [hw, hw]
  simp only [dueOf, List.getElem?_set]
  by_cases h : k = i.toNat
  · rw [if_pos h, if_pos hk, ← h, ha]
    exact ⟨h1, h2⟩
  · rw [if_neg h]
    exact ⟨Int.le_refl _, Int.le_refl _⟩

end Go.Ev.YtadneamkkepknaaC
