/- Chains: places round an octave, and the three distances. In plain mathematics: no program in sight. No condition. -/
set_option linter.unusedSimpArgs false
set_option linter.unusedVariables false
namespace Go.Ev

/-! ### chains: places round an octave -/
def atC (N s i : Nat) : Nat := i * s % N
theorem mod_two {N a b : Nat} (ha : a < N) (hb : b < N) : (a + b) % N = if a + b < N then a + b else a + b - N := by
  split
  · next h => exact Nat.mod_eq_of_lt h
  · next h => rw [Nat.mod_eq_sub_mod (by omega), Nat.mod_eq_of_lt (by omega)]
theorem at_lt {N : Nat} (hN : 0 < N) (s i : Nat) : atC N s i < N := Nat.mod_lt _ hN
theorem at_add {N : Nat} (hN : 0 < N) (s i k : Nat) : atC N s (i + k) = if atC N s i + atC N s k < N then atC N s i + atC N s k else atC N s i + atC N s k - N := by
  rw [← mod_two (at_lt hN s i) (at_lt hN s k)]
  simp only [atC]
  rw [← Nat.add_mod, Nat.add_mul]
theorem at_zero (N s : Nat) : atC N s 0 = 0 := by simp [atC]

/-- all different up to n -/
def Dis (N s n : Nat) : Prop := ∀ k, 0 < k → k < n → atC N s k ≠ 0
/-- how far it is from a place to the next one -/
structure IsGap (N s n p d : Nat) : Prop where
  pos : 0 < d
  le : d ≤ N
  there : ∃ j, j < n ∧ (p + d) % N = atC N s j
  none : ∀ e, 0 < e → e < d → ∀ j, j < n → (p + e) % N ≠ atC N s j
theorem gap_uniq {N s n p d e : Nat} (h1 : IsGap N s n p d) (h2 : IsGap N s n p e) : d = e := by
  rcases Nat.lt_trichotomy d e with h | h | h
  · obtain ⟨j, hj, hd⟩ := h1.there
    exact (h2.none d h1.pos h j hj hd).elim
  · exact h
  · obtain ⟨j, hj, hd⟩ := h2.there
    exact (h1.none e h2.pos h j hj hd).elim

/-- THE THREE DISTANCES -/
theorem three {N s n A B : Nat} (hN : 0 < N) (hd : Dis N s n) (hA0 : 0 < A) (hAn : A < n) (hmin : ∀ k, 0 < k → k < n → atC N s A ≤ atC N s k) (hB0 : 0 < B) (hBn : B < n) (hmax : ∀ k, 0 < k → k < n → atC N s k ≤ atC N s B) {i : Nat} (hi : i < n) :
    IsGap N s n (atC N s i) (if i + A < n then atC N s A else if B ≤ i then N - atC N s B else atC N s A + (N - atC N s B)) := by
  have lt := fun k => at_lt hN s k
  have inj : ∀ j k, 0 < k → j + k < n → atC N s (j + k) ≠ atC N s j := fun j k h1 h2 h => by
    have h3 := at_add hN s j k
    have h4 := hd k h1 (by omega)
    have := lt j
    have := lt k
    split at h3 <;> omega
  have pA := hd A hA0 hAn
  have pB := hd B hB0 hBn
  have lA := lt A
  have lB := lt B
  have li := lt i
  have hAB := hmin B hB0 hBn
  by_cases c1 : i + A < n
  · rw [if_pos c1]
    refine ⟨by omega, by omega, ⟨i + A, c1, ?_⟩, fun e e1 e2 j hj he => ?_⟩
    · rw [mod_two li lA, at_add hN s i A]
    · rw [mod_two li (by omega)] at he
      rcases Nat.lt_trichotomy i j with h | h | h
      · obtain ⟨k, rfl⟩ : ∃ k, j = i + k := ⟨j - i, by omega⟩
        have h1 := at_add hN s i k
        have h2 := hmin k (by omega) (by omega)
        have := lt k
        split at he <;> split at h1 <;> omega
      · subst h
        split at he <;> omega
      · obtain ⟨k, rfl⟩ : ∃ k, i = j + k := ⟨i - j, by omega⟩
        have h1 := at_add hN s j k
        have h2 := at_add hN s k A
        have h3 := hmin (k + A) (by omega) (by omega)
        have h4 := hd k (by omega) (by omega)
        have := lt k
        have := lt j
        split at he <;> split at h1 <;> split at h2 <;> omega
  · rw [if_neg c1]
    by_cases c2 : B ≤ i
    · rw [if_pos c2]
      refine ⟨by omega, by omega, ⟨i - B, by omega, ?_⟩, fun e e1 e2 j hj he => ?_⟩
      · obtain ⟨k, rfl⟩ : ∃ k, i = k + B := ⟨i - B, by omega⟩
        have h1 := at_add hN s k B
        have := lt k
        rw [mod_two li (by omega), Nat.add_sub_cancel]
        split at h1 <;> split <;> omega
      · rw [mod_two li (by omega)] at he
        rcases Nat.lt_trichotomy i j with h | h | h
        · obtain ⟨k, rfl⟩ : ∃ k, j = i + k := ⟨j - i, by omega⟩
          have h1 := at_add hN s i k
          have h2 := at_add hN s k B
          have h3 := hmax (k + B) (by omega) (by omega)
          have := lt k
          split at he <;> split at h1 <;> split at h2 <;> omega
        · subst h
          split at he <;> omega
        · obtain ⟨k, rfl⟩ : ∃ k, i = j + k := ⟨i - j, by omega⟩
          have h1 := at_add hN s j k
          have h2 := hmax k (by omega) (by omega)
          have h4 := hd k (by omega) (by omega)
          have := lt k
          have := lt j
          split at he <;> split at h1 <;> omega
    · rw [if_neg c2]
      refine ⟨by omega, by omega, ⟨i + A - B, by omega, ?_⟩, fun e e1 e2 j hj he => ?_⟩
      · obtain ⟨k, hk⟩ : ∃ k, i + A = k + B := ⟨i + A - B, by omega⟩
        have h1 := at_add hN s k B
        have h2 := at_add hN s i A
        rw [hk] at h2
        have := lt k
        rw [hk, Nat.add_sub_cancel]
        by_cases hz : atC N s A + (N - atC N s B) < N
        · rw [mod_two li hz]
          split at h1 <;> split at h2 <;> split <;> omega
        · have e0 : atC N s A + (N - atC N s B) = N := by omega
          rw [e0, Nat.add_mod_right, Nat.mod_eq_of_lt li]
          split at h1 <;> split at h2 <;> omega
      · rw [mod_two li (by omega)] at he
        rcases Nat.lt_trichotomy i j with h | h | h
        · obtain ⟨k, rfl⟩ : ∃ k, j = i + k := ⟨j - i, by omega⟩
          have h1 := at_add hN s i k
          have h5 := hmin k (by omega) (by omega)
          have h6 := inj k (A - k) (by omega) (by omega)
          rw [show k + (A - k) = A by omega] at h6
          have h2 := at_add hN s k (A - k)
          rw [show k + (A - k) = A by omega] at h2
          have h3 := hmax (A - k) (by omega) (by omega)
          have := lt k
          have := lt (A - k)
          split at he <;> split at h1 <;> split at h2 <;> omega
        · subst h
          split at he <;> omega
        · obtain ⟨k, rfl⟩ : ∃ k, i = j + k := ⟨i - j, by omega⟩
          have h1 := at_add hN s j k
          have h2 := at_add hN s k (B - k)
          rw [show k + (B - k) = B by omega] at h2
          have h3 := hmin (B - k) (by omega) (by omega)
          have h4 := hd k (by omega) (by omega)
          have h5 := hmax k (by omega) (by omega)
          have := lt k
          have := lt j
          have := lt (B - k)
          split at he <;> split at h1 <;> split at h2 <;> omega

end Go.Ev
