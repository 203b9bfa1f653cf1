/- What a chain answers: places, distances and sizes. Contracts. -/
import Derived.Test.YtcghegefcgnhbaaL1Size
set_option linter.unusedSimpArgs false
set_option linter.unusedVariables false
namespace Go.Ev.YtcghegefcgnhbaaC
open Go Go.Proofs

/-! ### places -/
def plA (N s n : Int) : List Int × Int := if chErr N s n ≠ 0 then ([], chErr N s n) else (natI (plc N.toNat s.toNat n.toNat), 0)
theorem plA_err {N s n : Int} (h : chErr N s n ≠ 0) : plA N s n = ([], chErr N s n) := by rw [plA, if_pos h]
theorem plA_ok {N s n : Nat} (h : chErr N s n = 0) : plA N s n = (natI (plc N s n), 0) := by rw [plA, if_neg (by omega)]; rfl
theorem ch_nat {N s n : Int} (h : chErr N s n = 0) : ∃ N' s' n' : Nat, N = N' ∧ s = s' ∧ n = n' ∧ 1 ≤ N' ∧ N' ≤ 2400 ∧ s' ≤ N' ∧ 1 ≤ n' ∧ n' ≤ 60 := by
  obtain ⟨h1, h2, h3, h4, h5, h6⟩ := (chErr_zero N s n).1 h
  exact ⟨N.toNat, s.toNat, n.toNat, by omega, by omega, by omega, by omega, by omega, by omega, by omega, by omega⟩
theorem plc_cons {N s n : Nat} (hN : 1 ≤ N) (hn : 1 ≤ n) : ∃ r, plc N s n = 0 :: r := by
  have h0 : 0 ∈ plc N s n := (mem_plc (by omega)).2 ⟨0, by omega, at_zero N s⟩
  have hs := plc_sorted N s n
  cases h : plc N s n with
  | nil => rw [h] at h0; cases h0
  | cons a r =>
    rw [h] at h0 hs
    rcases List.mem_cons.1 h0 with h1 | h1
    · exact ⟨r, by rw [← h1]⟩
    · have := (List.pairwise_cons.1 hs).1 0 h1
      omega
theorem plc_len60 (N s n : Nat) (hN : 0 < N) : (plc N s n).length ≤ n := by
  have h1 : (plc N s n).Nodup := (plc_sorted N s n).imp (by omega)
  have h2 := List.Nodup.length_le_of_subset (l₂ := (List.range n).map (atC N s)) h1 fun p hp => by
    obtain ⟨i, h3, h4⟩ := (mem_plc hN).1 hp
    exact List.mem_map.2 ⟨i, List.mem_range.2 h3, h4⟩
  simpa using h2

/-! ### distances -/
def dstL (N : Int) (l : List Int) : List Int := (List.range l.length).map fun j => (l ++ [N + l.getD 0 0]).getD (j + 1) 0 - l.getD j 0
theorem dstL_length (N : Int) (l : List Int) : (dstL N l).length = l.length := by simp [dstL]
abbrev dstT (N : Int) (l : List Int) (i : Nat) : List Int := (List.range i).map fun j => (l ++ [N + l.getD 0 0]).getD (j + 1) 0 - l.getD j 0
theorem dstT_in {N : Int} {l : List Int} {i : Nat} {a b : Int} (ha : l[i]? = some a) (hb : l[i + 1]? = some b) : dstT N l (i + 1) = dstT N l i ++ [b - a] := by
  have hlt := (List.getElem?_eq_some_iff.1 hb).1
  rw [dstT, List.range_succ, List.map_append]
  have hb' : (l ++ [N + l.getD 0 0])[i + 1]? = some b := by rw [List.getElem?_append_left hlt]; exact hb
  rw [List.map_cons, List.map_nil, getD_of ha, getD_of hb']
theorem dstT_last {N : Int} {l : List Int} {i : Nat} {a z : Int} (ha : l[i]? = some a) (hi : i + 1 = l.length) (hz : l[0]? = some z) : dstT N l (i + 1) = dstT N l i ++ [N - a + z] := by
  rw [dstT, List.range_succ, List.map_append]
  have h1 : (l ++ [N + l.getD 0 0])[i + 1]? = some (N + z) := by
    rw [List.getElem?_append_right (by omega), getD_of hz, hi, Nat.sub_self]
    rfl
  rw [List.map_cons, List.map_nil, getD_of ha, getD_of h1]
  congr 2
  omega
theorem dstL_bd {N : Nat} {l : List Nat} (hs : l.Pairwise (· < ·)) (hl : ∀ p ∈ l, p < N) (h0 : l.getD 0 0 = 0) : ∀ x ∈ dstL N (natI l), 1 ≤ x ∧ x ≤ N := by
  intro x hx
  obtain ⟨j, hj, rfl⟩ := List.mem_map.1 hx
  rw [List.mem_range] at hj
  simp only [List.length_map] at hj
  have ha : l[j]? = some l[j] := List.getElem?_eq_getElem hj
  have ha' : (natI l)[j]? = some (l[j] : Int) := by simp [natI, ha]
  have hpj := hl _ (List.getElem_mem hj)
  rw [getD_of ha']
  by_cases h : j + 1 < l.length
  · have hb' : (natI l ++ [(N : Int) + (natI l).getD 0 0])[j + 1]? = some ((l[j + 1] : Nat) : Int) := by
      rw [List.getElem?_append_left (by simpa using h)]
      simp [natI, h]
    have h2 := List.pairwise_iff_getElem.1 hs j (j + 1) hj h (by omega)
    have h3 := hl _ (List.getElem_mem h)
    rw [getD_of hb']
    omega
  · have hz : (natI l).getD 0 0 = 0 := by
      cases l with
      | nil => rfl
      | cons a r => simp at h0; simp [natI, h0]
    have hb' : (natI l ++ [(N : Int) + (natI l).getD 0 0])[j + 1]? = some (N : Int) := by
      rw [List.getElem?_append_right (by simp; omega), hz]
      simp [show j + 1 - l.length = 0 by omega]
    rw [getD_of hb']
    omega

/-! ### sizes -/
def szs (N : Nat) (d : List Int) : List Int := natI ((List.range (N + 1)).filter fun p => decide (0 < p) && decide ((p : Int) ∈ d))
abbrev szT (d : List Int) (k : Nat) : List Int := natI ((List.range k).filter fun p => decide (0 < p) && decide ((p : Int) ∈ d))
theorem szT_in {d : List Int} {k : Nat} (h0 : 0 < k) (h : (k : Int) ∈ d) : szT d (k + 1) = szT d k ++ [(k : Int)] := by
  simp [szT, natI, List.range_succ, List.filter_append, List.filter_cons, h0, h]
theorem szT_out {d : List Int} {k : Nat} (h : (k : Int) ∉ d) : szT d (k + 1) = szT d k := by
  simp [szT, natI, List.range_succ, List.filter_append, List.filter_cons, h]
theorem cptN_props {l : List Int} (hs : l.Pairwise (· ≤ ·)) : ∀ k, k ≤ l.length → (cptN l k).Pairwise (· < ·) ∧ ∀ x, x ∈ cptN l k ↔ x ∈ l.take k
  | 0, _ => ⟨by simp [cptN], by simp [cptN]⟩
  | k + 1, hk => by
    obtain ⟨h1, h2⟩ := cptN_props hs k (by omega)
    have ha : l[k]? = some l[k] := List.getElem?_eq_getElem (by omega)
    have ht : l.take (k + 1) = l.take k ++ [l[k]] := by rw [List.take_add_one, ha]; rfl
    rw [ht]
    by_cases h0 : k = 0
    · subst h0
      rw [cptN_new (.inl rfl), getD_of ha]
      exact ⟨by simp [cptN], by simp [cptN]⟩
    have hb : l[k - 1]? = some l[k - 1] := List.getElem?_eq_getElem (by omega)
    have hbm : l[k - 1] ∈ l.take k := by
      rw [List.mem_take_iff_getElem]
      exact ⟨k - 1, by omega, rfl⟩
    by_cases hq : l[k] = l[k - 1]
    · rw [cptN_old h0 (by rw [getD_of ha, getD_of hb]; exact hq)]
      refine ⟨h1, fun x => ?_⟩
      rw [h2, List.mem_append, List.mem_singleton]
      constructor
      · exact .inl
      · rintro (h | rfl)
        · exact h
        · rw [hq]; exact hbm
    · rw [cptN_new (.inr (by rw [getD_of ha, getD_of hb]; exact hq)), getD_of ha]
      refine ⟨?_, fun x => by rw [List.mem_append, h2, List.mem_append]⟩
      rw [List.pairwise_append]
      refine ⟨h1, by simp, fun x hx y hy => ?_⟩
      obtain rfl : y = l[k] := by simpa using hy
      obtain ⟨j, hj, rfl⟩ := List.mem_take_iff_getElem.1 ((h2 x).1 hx)
      have h3 : l[k - 1] ≤ l[k] := List.pairwise_iff_getElem.1 hs (k - 1) k (by omega) (by omega) (by omega)
      have h4 : l[j] ≤ l[k - 1] := by
        by_cases hj' : j = k - 1
        · subst hj'; exact Int.le_refl _
        · exact List.pairwise_iff_getElem.1 hs j (k - 1) (by omega) (by omega) (by omega)
      omega
theorem strict_uniq {l m : List Int} (h1 : l.Pairwise (· < ·)) (h2 : m.Pairwise (· < ·)) (h : ∀ x, x ∈ l ↔ x ∈ m) : l = m :=
  sorted_uniq (h1.imp (by omega)) (h2.imp (by omega)) ((List.perm_ext_iff_of_nodup (h1.imp (by omega)) (h2.imp (by omega))).2 h)
theorem szs_sorted (N : Nat) (d : List Int) : (szs N d).Pairwise (· < ·) := by
  rw [szs, natI, List.pairwise_map]
  exact (List.Pairwise.filter _ List.pairwise_lt_range).imp (by omega)
theorem mem_szs {N : Nat} {d : List Int} (hd : ∀ x ∈ d, 1 ≤ x ∧ x ≤ N) (x : Int) : x ∈ szs N d ↔ x ∈ d := by
  rw [szs, mem_natI]
  constructor
  · rintro ⟨q, hq, rfl⟩
    simp at hq
    exact hq.2.2
  · intro h
    have := hd x h
    exact ⟨x.toNat, by simp; exact ⟨by omega, by omega, by rw [show max x 0 = x by omega]; exact h⟩, by omega⟩
theorem cpt_szs {N : Nat} {d : List Int} (hd : ∀ x ∈ d, 1 ≤ x ∧ x ≤ N) : cptN (isort d) (isort d).length = szs N d := by
  obtain ⟨h1, h2⟩ := cptN_props (isort_sorted d) _ (Nat.le_refl _)
  refine strict_uniq h1 (szs_sorted N d) fun x => ?_
  rw [h2, List.take_length, (isort_perm d).mem_iff, mem_szs hd]
def szA (N s n : Int) : List Int × Int := if chErr N s n ≠ 0 then ([], chErr N s n) else (szs N.toNat (dstL N (natI (plc N.toNat s.toNat n.toNat))), 0)
theorem szA_err {N s n : Int} (h : chErr N s n ≠ 0) : szA N s n = ([], chErr N s n) := by rw [szA, if_pos h]
theorem szA_ok {N s n : Nat} (h : chErr N s n = 0) : szA N s n = (szs N (dstL N (natI (plc N s n))), 0) := by rw [szA, if_neg (by omega)]; rfl

/-! ### which note comes back nearest -/
/-- the first of the notes from 1 on below k that is least -/
def bstN (f : Nat → Int) : Nat → Nat
  | 0 => 1
  | k + 1 => if 2 ≤ k ∧ f k < f (bstN f k) then k else bstN f k
theorem bstN_step {f : Nat → Int} {k : Nat} (h : 2 ≤ k) : bstN f (k + 1) = if f k < f (bstN f k) then k else bstN f k := by
  simp [bstN, h]
theorem bstN_two (f : Nat → Int) : bstN f 2 = 1 := by simp [bstN]
theorem bstN_spec (f : Nat → Int) : ∀ k, 2 ≤ k → (1 ≤ bstN f k ∧ bstN f k < k) ∧ (∀ i, 1 ≤ i → i < k → f (bstN f k) ≤ f i) ∧ ∀ i, 1 ≤ i → i < bstN f k → f (bstN f k) < f i
  | 0, h => by omega
  | 1, h => by omega
  | k + 2, h => by
    by_cases h0 : k = 0
    · subst h0
      rw [bstN_two]
      refine ⟨by omega, fun i h1 h2 => ?_, fun i h1 h2 => by omega⟩
      obtain rfl : i = 1 := by omega
      exact Int.le_refl _
    obtain ⟨h1, h2, h3⟩ := bstN_spec f (k + 1) (by omega)
    rw [show k + 2 = k + 1 + 1 from rfl, bstN_step (by omega)]
    by_cases hlt : f (k + 1) < f (bstN f (k + 1))
    · rw [if_pos hlt]
      refine ⟨by omega, fun i h4 h5 => ?_, fun i h4 h5 => ?_⟩
      · by_cases hi : i = k + 1
        · subst hi; exact Int.le_refl _
        · have := h2 i h4 (by omega); omega
      · have := h2 i h4 (by omega); omega
    · rw [if_neg hlt]
      refine ⟨by omega, fun i h4 h5 => ?_, h3⟩
      by_cases hi : i = k + 1
      · subst hi; omega
      · exact h2 i h4 (by omega)
theorem bstN_uniq {f : Nat → Int} {k b : Nat} (hk : 2 ≤ k) (h1 : 1 ≤ b) (h2 : b < k) (h3 : ∀ i, 1 ≤ i → i < k → f b ≤ f i) (h4 : ∀ i, 1 ≤ i → i < b → f b < f i) : bstN f k = b := by
  obtain ⟨⟨a1, a2⟩, a3, a4⟩ := bstN_spec f k hk
  rcases Nat.lt_trichotomy (bstN f k) b with h | h | h
  · have := h4 _ a1 h
    have := a3 b h1 h2
    omega
  · exact h
  · have := a4 b h1 h
    have := h3 _ a1 a2
    omega
def farN (N s i : Nat) : Int := min ((i * s % N : Nat) : Int) ((N : Int) - ((i * s % N : Nat) : Int))
def bkA (N s n : Int) : Int × Int := if chErr N s n ≠ 0 then (0, chErr N s n) else if n = 1 then (0, 0) else (bstN (farN N.toNat s.toNat) n.toNat, 0)

end Go.Ev.YtcghegefcgnhbaaC
