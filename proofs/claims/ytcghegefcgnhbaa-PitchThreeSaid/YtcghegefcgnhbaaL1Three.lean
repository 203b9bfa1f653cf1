/- At most three sizes. In plain mathematics. -/
import Derived.Test.YtcghegefcgnhbaaL1LawTurned
set_option linter.unusedSimpArgs false
set_option linter.unusedVariables false
namespace Go.Ev.YtcghegefcgnhbaaC
open Go Go.Proofs

theorem sorted_gap {l : List Nat} (hs : l.Pairwise (· < ·)) {j : Nat} (hj : j < l.length) {y : Nat} (hy : y ∈ l) (h1 : l[j] < y) (h2 : ∀ h : j + 1 < l.length, y < l[j + 1]) : False := by
  obtain ⟨k, hk, rfl⟩ := List.mem_iff_getElem.1 hy
  have hw := List.pairwise_iff_getElem.1 hs
  by_cases c1 : k ≤ j
  · by_cases c2 : k = j
    · subst c2; omega
    · have := hw k j hk hj (by omega); omega
  · have h3 := h2 (by omega)
    by_cases c2 : k = j + 1
    · subst c2; omega
    · have := hw (j + 1) k (by omega) hk (by omega); omega

theorem dst_gap {N s n : Nat} (hN : 1 ≤ N) (hn : 1 ≤ n) {x : Int} (hx : x ∈ dstL N (natI (plc N s n))) : ∃ i d : Nat, i < n ∧ x = d ∧ IsGap N s n (atC N s i) d := by
  have h0 := plc_d0 (s := s) hN hn
  have hs := plc_sorted N s n
  have hlt := plc_lt (s := s) (n := n) hN
  have hmem : ∀ i, i < n → atC N s i ∈ plc N s n := fun i hi => (mem_plc (by omega)).2 ⟨i, hi, rfl⟩
  have hpl := fun p => mem_plc (N := N) (s := s) (n := n) (p := p) (by omega)
  generalize plc N s n = l at *
  obtain ⟨j, hj, rfl⟩ := List.mem_map.1 hx
  rw [List.mem_range] at hj
  simp only [List.length_map] at hj
  have ha : (natI l)[j]? = some (l[j] : Int) := by simp [natI, hj]
  have hjN := hlt _ (List.getElem_mem hj)
  obtain ⟨i, hi, ei⟩ := (hpl _).1 (List.getElem_mem hj)
  rw [getD_of ha]
  refine ⟨i, ?_⟩
  rw [ei]
  by_cases h : j + 1 < l.length
  · have hb' : (natI l ++ [(N : Int) + (natI l).getD 0 0])[j + 1]? = some ((l[j + 1] : Nat) : Int) := by
      rw [List.getElem?_append_left (by simpa using h)]
      simp [natI, h]
    have h2 := List.pairwise_iff_getElem.1 hs j (j + 1) hj h (by omega)
    have h3 := hlt _ (List.getElem_mem h)
    obtain ⟨b, hb, eb⟩ := (hpl _).1 (List.getElem_mem h)
    rw [getD_of hb']
    refine ⟨l[j + 1] - l[j], hi, by omega, by omega, by omega, ⟨b, hb, ?_⟩, fun e e1 e2 k hk he => ?_⟩
    · rw [eb, show l[j] + (l[j + 1] - l[j]) = l[j + 1] by omega, Nat.mod_eq_of_lt h3]
    · rw [Nat.mod_eq_of_lt (by omega)] at he
      exact sorted_gap hs hj (hmem k hk) (by omega) fun _ => by omega
  · have hz : (natI l).getD 0 0 = 0 := by
      cases l with
      | nil => rfl
      | cons a r => simp at h0; simp [natI, h0]
    have hb' : (natI l ++ [(N : Int) + (natI l).getD 0 0])[j + 1]? = some (N : Int) := by
      rw [List.getElem?_append_right (by simp; omega), hz]
      simp [show j + 1 - l.length = 0 by omega]
    rw [getD_of hb']
    refine ⟨N - l[j], hi, by omega, by omega, by omega, ⟨0, by omega, ?_⟩, fun e e1 e2 k hk he => ?_⟩
    · rw [show l[j] + (N - l[j]) = N by omega, Nat.mod_self, at_zero]
    · rw [Nat.mod_eq_of_lt (by omega)] at he
      exact sorted_gap hs hj (hmem k hk) (by omega) fun hh => absurd hh h

theorem at_period {N s k : Nat} (hN : 0 < N) (hk : atC N s k = 0) (hk0 : 0 < k) : ∀ i, ∃ j, j < k ∧ atC N s j = atC N s i := by
  intro i
  induction i using Nat.strongRecOn with
  | _ i ih =>
    by_cases h : i < k
    · exact ⟨i, h, rfl⟩
    · obtain ⟨j, h1, h2⟩ := ih (i - k) (by omega)
      refine ⟨j, h1, ?_⟩
      have h3 := at_add hN s (i - k) k
      rw [show i - k + k = i by omega, hk] at h3
      have := at_lt hN s (i - k)
      rw [if_pos (by omega)] at h3
      omega
theorem plc_period {N s : Nat} (hN : 0 < N) (n : Nat) (hn : 1 ≤ n) : ∃ n', 1 ≤ n' ∧ n' ≤ n ∧ Dis N s n' ∧ plc N s n = plc N s n' := by
  induction n using Nat.strongRecOn with
  | _ n ih =>
    by_cases hd : Dis N s n
    · exact ⟨n, hn, Nat.le_refl _, hd, rfl⟩
    · obtain ⟨k, hk⟩ := Classical.not_forall.1 hd
      obtain ⟨h1, hk⟩ := Classical.not_imp.1 hk
      obtain ⟨h2, hk⟩ := Classical.not_imp.1 hk
      have hk0 := Classical.not_not.1 hk
      obtain ⟨n', g1, g2, g3, g4⟩ := ih k h2 (by omega)
      refine ⟨n', g1, by omega, g3, ?_⟩
      rw [← g4]
      unfold plc
      apply List.filter_congr
      intro p _
      rw [Bool.eq_iff_iff, isPl_iff, isPl_iff]
      constructor
      · rintro ⟨i, _, e⟩
        obtain ⟨j, j1, j2⟩ := at_period hN hk0 h1 i
        exact ⟨j, j1, by rw [j2, e]⟩
      · rintro ⟨i, e1, e⟩
        exact ⟨i, by omega, e⟩
theorem sizes_three {N s n : Nat} (hN : 1 ≤ N) (hn : 1 ≤ n) : ∃ a b : Int, 0 < a ∧ 0 < b ∧ ∀ x ∈ dstL N (natI (plc N s n)), x = a ∨ x = b ∨ x = a + b := by
  obtain ⟨m, h1, h2, hd, e⟩ := plc_period (N := N) (s := s) (by omega) n hn
  rw [e]
  clear e h2 hn
  by_cases hm : m = 1
  · subst hm
    refine ⟨N, 1, by omega, by omega, fun x hx => ?_⟩
    obtain ⟨i, d, hi, rfl, hg⟩ := dst_gap hN (by omega) hx
    obtain rfl : i = 0 := by omega
    rw [at_zero] at hg
    obtain ⟨j, hj, hh⟩ := hg.there
    obtain rfl : j = 0 := by omega
    have h3 := hg.pos
    have h4 := hg.le
    rw [at_zero] at hh
    by_cases h5 : d < N
    · rw [Nat.mod_eq_of_lt (by omega)] at hh; omega
    · exact .inl (by omega)
  · obtain ⟨⟨A1, A2⟩, A3, _⟩ := bstN_spec (fun i => (atC N s i : Int)) m (by omega)
    obtain ⟨⟨B1, B2⟩, B3, _⟩ := bstN_spec (fun i => -(atC N s i : Int)) m (by omega)
    generalize bstN (fun i => (atC N s i : Int)) m = A at A1 A2 A3
    generalize bstN (fun i => -(atC N s i : Int)) m = B at B1 B2 B3
    have lB := at_lt (show 0 < N by omega) s B
    have pA := hd A (by omega) A2
    refine ⟨atC N s A, (N : Int) - atC N s B, by omega, by omega, fun x hx => ?_⟩
    obtain ⟨i, d, hi, rfl, hg⟩ := dst_gap hN h1 hx
    have ht := three (by omega) hd (A := A) (B := B) (by omega) A2 (fun k k1 k2 => by have := A3 k (by omega) k2; omega) (by omega) B2 (fun k k1 k2 => by have := B3 k (by omega) k2; omega) hi
    have := gap_uniq hg ht
    split at this
    · exact .inl (by omega)
    · split at this
      · exact .inr (.inl (by omega))
      · exact .inr (.inr (by omega))
theorem three_list {a b : Int} (ha : 0 < a) (hb : 0 < b) : ∀ l : List Int, l.Pairwise (· < ·) → (∀ x ∈ l, x = a ∨ x = b ∨ x = a + b) → l.length ≤ 3 ∧ ∀ x y z, l = [x, y, z] → z = x + y
  | [], _, _ => ⟨by simp, fun x y z h => by simp at h⟩
  | [_], _, _ => ⟨by simp, fun x y z h => by simp at h⟩
  | [_, _], _, _ => ⟨by simp, fun x y z h => by simp at h⟩
  | [x, y, z], hs, hm => by
    refine ⟨by simp, fun x' y' z' h => ?_⟩
    simp only [List.cons.injEq, and_true] at h
    obtain ⟨rfl, rfl, rfl⟩ := h
    simp only [List.pairwise_cons, List.mem_cons, List.not_mem_nil, or_false, forall_eq_or_imp, forall_eq] at hs hm
    omega
  | x :: y :: z :: w :: r, hs, hm => by
    exfalso
    simp only [List.pairwise_cons, List.mem_cons, forall_eq_or_imp] at hs hm
    omega

/-! ### one note more -/
theorem plc_sub (N s n : Nat) : (plc N s n).Sublist (plc N s (n + 1)) := by
  have : plc N s n = (plc N s (n + 1)).filter fun p => isPl N s n p := by
    unfold plc
    rw [List.filter_filter]
    apply List.filter_congr
    intro p _
    rw [Bool.eq_iff_iff, Bool.and_eq_true, isPl_iff, isPl_iff]
    constructor
    · rintro ⟨i, h1, h2⟩; exact ⟨⟨i, h1, h2⟩, ⟨i, by omega, h2⟩⟩
    · exact fun h => h.1
  rw [this]
  exact List.filter_sublist
theorem plc_one {N s n : Nat} (hN : 0 < N) : (plc N s (n + 1)).length ≤ (plc N s n).length + 1 := by
  have h1 : (plc N s (n + 1)).Nodup := (plc_sorted N s (n + 1)).imp (by omega)
  refine List.Nodup.length_le_of_subset (l₂ := atC N s n :: plc N s n) h1 fun p hp => ?_
  obtain ⟨i, h2, h3⟩ := (mem_plc hN).1 hp
  by_cases hi : i = n
  · subst hi; rw [h3]; simp
  · exact List.mem_cons_of_mem _ ((mem_plc hN).2 ⟨i, by omega, h3⟩)

end Go.Ev.YtcghegefcgnhbaaC
