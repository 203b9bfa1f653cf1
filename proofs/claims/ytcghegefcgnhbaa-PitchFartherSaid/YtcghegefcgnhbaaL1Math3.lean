/- Paths: what is left of two numbers by turns, and step by step. In plain mathematics: no program in sight. No condition. -/
set_option linter.unusedSimpArgs false
set_option linter.unusedVariables false
namespace Go.Ev

/-! ### paths: what is left of two numbers by turns, and step by step -/
def cf (a b : Nat) : List Nat := if h : b = 0 then [] else a / b :: cf b (a % b)
termination_by b
decreasing_by exact Nat.mod_lt _ (by omega)

theorem cf_zero (a : Nat) : cf a 0 = [] := by rw [cf]; simp
theorem cf_pos {a b : Nat} (h : 0 < b) : cf a b = a / b :: cf b (a % b) := by rw [cf, dif_neg (by omega)]
theorem cf_ne {a b : Nat} (h : 0 < b) : cf a b ≠ [] := by rw [cf_pos h]; simp

/-- one step less at the end -/
def fixL : List Nat → List Nat
  | [] => []
  | [n] => if n - 1 = 0 then [] else [n - 1]
  | a :: b :: r => a :: fixL (b :: r)
theorem fixL_cons {a : Nat} {L : List Nat} (h : L ≠ []) : fixL (a :: L) = a :: fixL L := by
  cases L with
  | nil => exact (h rfl).elim
  | cons b r => rfl
theorem fixL_append : ∀ (P L : List Nat), L ≠ [] → fixL (P ++ L) = P ++ fixL L
  | [], L, _ => rfl
  | a :: P, L, h => by rw [List.cons_append, fixL_cons (by simp [h]), fixL_append P L h, List.cons_append]

def incLast : List Nat → List Nat
  | [] => []
  | [n] => [n + 1]
  | a :: b :: r => a :: incLast (b :: r)
theorem incLast_append (P : List Nat) (n : Nat) : incLast (P ++ [n]) = P ++ [n + 1] := by
  induction P with
  | nil => rfl
  | cons a P ih =>
    cases P with
    | nil => rfl
    | cons b r => simpa [incLast] using ih

/-- the list, before a step: the number with an even index is of steps to the right -/
def padL (out : List Nat) (left : Nat) : List Nat :=
  let o := if out.length = 0 then [0] else out
  if (o.length - 1) % 2 ≠ left then o ++ [0] else o
def subGo : Nat → Nat → Nat → List Nat → List Nat
  | 0, _, _, out => out
  | k + 1, u, v, out =>
    if u = v then out
    else if u < v then subGo k u (v - u) (incLast (padL out 1))
    else subGo k (u - v) v (incLast (padL out 0))

theorem padL_same {P : List Nat} {r left : Nat} (h : P.length % 2 = left) : padL (P ++ [r]) left = P ++ [r] := by
  simp [padL, h]
theorem padL_other {P : List Nat} {r left : Nat} (h : P.length % 2 ≠ left) : padL (P ++ [r]) left = P ++ [r] ++ [0] := by
  simp [padL, h]

theorem gcd_sub {u v : Nat} (h : Nat.gcd u v = 1) (hlt : v ≤ u) : Nat.gcd (u - v) v = 1 := by rw [Nat.gcd_sub_self_left hlt]; exact h
theorem one_of_eq {u : Nat} (h : Nat.gcd u u = 1) : u = 1 := by rwa [Nat.gcd_self] at h

theorem sub_div_mod {u v : Nat} (hv : 0 < v) (h : v ≤ u) : u / v = 1 + (u - v) / v ∧ u % v = (u - v) % v := by
  constructor
  · rw [Nat.div_eq_sub_div hv h]; omega
  · exact Nat.mod_eq_sub_mod h

theorem subGo_eq : ∀ (k u v r : Nat) (P : List Nat), 0 < u → 0 < v → Nat.gcd u v = 1 → 0 < r → u + v < k →
    (P.length % 2 = 0 → subGo k u v (P ++ [r]) = P ++ fixL ((r + u / v) :: cf v (u % v))) ∧
    (P.length % 2 = 1 → subGo k u v (P ++ [r]) = P ++ fixL ((r + v / u) :: cf u (v % u)))
  | 0, u, v, r, P, _, _, _, _, hk => by omega
  | k + 1, u, v, r, P, hu, hv, hg, hr, hk => by
    have hlen : ∀ x : Nat, (P ++ [x]).length = P.length + 1 := fun x => by simp
    rcases Nat.lt_trichotomy u v with h | h | h
    · -- a step to the left
      obtain ⟨d1, d2⟩ := sub_div_mod hu (Nat.le_of_lt h)
      have hg' : Nat.gcd u (v - u) = 1 := by rw [Nat.gcd_comm]; exact gcd_sub (by rw [Nat.gcd_comm]; exact hg) (by omega)
      constructor
      · intro hp
        have ih := (subGo_eq k u (v - u) 1 (P ++ [r]) hu (by omega) hg' (by omega) (by omega)).2 (by rw [hlen]; omega)
        rw [subGo, if_neg (by omega), if_pos h, padL_other (by omega), incLast_append, ih, ← d1, ← d2, Nat.div_eq_of_lt h, Nat.mod_eq_of_lt h, ← cf_pos hu, fixL_cons (cf_ne hu)]
        simp
      · intro hp
        have ih := (subGo_eq k u (v - u) (r + 1) P hu (by omega) hg' (by omega) (by omega)).2 hp
        rw [subGo, if_neg (by omega), if_pos h, padL_same hp, incLast_append, ih, ← d2, d1]
        congr 3
        omega
    · subst h
      obtain rfl := one_of_eq hg
      have e1 : fixL ((r + 1 / 1) :: cf 1 (1 % 1)) = [r] := by
        rw [show 1 % 1 = 0 from rfl, cf_zero]
        simp [fixL]
        omega
      rw [subGo, if_pos rfl, e1]
      exact ⟨fun _ => rfl, fun _ => rfl⟩
    · -- a step to the right
      obtain ⟨d1, d2⟩ := sub_div_mod hv (Nat.le_of_lt h)
      have hg' := gcd_sub hg (Nat.le_of_lt h)
      constructor
      · intro hp
        have ih := (subGo_eq k (u - v) v (r + 1) P (by omega) hv hg' (by omega) (by omega)).1 hp
        rw [subGo, if_neg (by omega), if_neg (by omega), padL_same hp, incLast_append, ih, ← d2, d1]
        congr 3
        omega
      · intro hp
        have ih := (subGo_eq k (u - v) v 1 (P ++ [r]) (by omega) hv hg' (by omega) (by omega)).1 (by rw [hlen]; omega)
        rw [subGo, if_neg (by omega), if_neg (by omega), padL_other (by omega), incLast_append, ih, ← d1, ← d2, Nat.div_eq_of_lt h, Nat.mod_eq_of_lt h, ← cf_pos hv, fixL_cons (cf_ne hv)]
        simp

def pathN (u v : Nat) : List Nat := fixL (cf u v)
theorem sub_path {k u v : Nat} (hu : 0 < u) (hv : 0 < v) (hg : Nat.gcd u v = 1) (hk : u + v < k) : subGo k u v [] = pathN u v := by
  obtain ⟨k, rfl⟩ : ∃ j, k = j + 1 := ⟨k - 1, by omega⟩
  unfold pathN
  rcases Nat.lt_trichotomy u v with h | h | h
  · obtain ⟨d1, d2⟩ := sub_div_mod hu (Nat.le_of_lt h)
    have hg' : Nat.gcd u (v - u) = 1 := by rw [Nat.gcd_comm]; exact gcd_sub (by rw [Nat.gcd_comm]; exact hg) (by omega)
    have ih := (subGo_eq k u (v - u) 1 [0] hu (by omega) hg' (by omega) (by omega)).2 rfl
    rw [subGo, if_neg (by omega), if_pos h, show incLast (padL [] 1) = [0] ++ [1] from rfl, ih, ← d1, ← d2, cf_pos hv, Nat.div_eq_of_lt h, Nat.mod_eq_of_lt h, fixL_cons (cf_ne hu), ← cf_pos hu]
    rfl
  · subst h
    obtain rfl := one_of_eq hg
    rw [subGo, if_pos rfl, cf_pos (by omega), show 1 % 1 = 0 from rfl, cf_zero]
    rfl
  · obtain ⟨d1, d2⟩ := sub_div_mod hv (Nat.le_of_lt h)
    have ih := (subGo_eq k (u - v) v 1 [] (by omega) hv (gcd_sub hg (Nat.le_of_lt h)) (by omega) (by omega)).1 rfl
    rw [subGo, if_neg (by omega), if_neg (by omega), show incLast (padL [] 0) = [] ++ [1] from rfl, ih, ← d1, ← d2, ← cf_pos hv]
    rfl

/-! ### how long, and how great -/
theorem cf_length : ∀ (k a b : Nat), b < 2 ^ k → (cf a b).length ≤ 2 * k
  | 0, a, b, h => by
    obtain rfl : b = 0 := by simp at h; omega
    rw [cf_zero]; simp
  | k + 1, a, b, h => by
    by_cases hb : b = 0
    · subst hb; rw [cf_zero]; simp
    · rw [cf_pos (by omega)]
      by_cases hr : a % b = 0
      · rw [hr, cf_zero]; simp; omega
      · have h1 := Nat.mod_lt a (show 0 < b by omega)
        have h2 := Nat.mod_lt b (show 0 < a % b by omega)
        have h3 : b % (a % b) + a % b ≤ b := by
          have := Nat.div_add_mod b (a % b)
          have h4 : 1 ≤ b / (a % b) := (Nat.one_le_div_iff (by omega)).2 (by omega)
          have h5 : a % b * 1 ≤ a % b * (b / (a % b)) := Nat.mul_le_mul_left _ h4
          omega
        rw [cf_pos (by omega)]
        have ih := cf_length k (a % b) (b % (a % b)) (by rw [Nat.pow_succ] at h; omega)
        simp
        omega
theorem fixL_length : ∀ L : List Nat, (fixL L).length ≤ L.length
  | [] => Nat.le_refl _
  | [n] => by simp only [fixL]; split <;> simp
  | a :: b :: r => by
    have := fixL_length (b :: r)
    simp only [fixL, List.length_cons] at this ⊢
    omega
theorem cf_le (N : Nat) : ∀ (a b : Nat), a ≤ N → b ≤ N → ∀ n ∈ cf a b, n ≤ N := by
  intro a b
  induction b using Nat.strongRecOn generalizing a with
  | _ b ih =>
    intro ha hb n hn
    by_cases h0 : b = 0
    · subst h0; rw [cf_zero] at hn; cases hn
    · rw [cf_pos (by omega)] at hn
      have hm := Nat.mod_lt a (show 0 < b by omega)
      rcases List.mem_cons.1 hn with rfl | hn
      · exact Nat.le_trans (Nat.div_le_self _ _) ha
      · exact ih (a % b) hm b hb (by omega) n hn
theorem fixL_le {N : Nat} : ∀ L : List Nat, (∀ n ∈ L, n ≤ N) → ∀ n ∈ fixL L, n ≤ N
  | [], _, n, hn => by cases hn
  | [m], h, n, hn => by
    have := h m (by simp)
    simp only [fixL] at hn
    split at hn
    · cases hn
    · simp at hn; omega
  | a :: b :: r, h, n, hn => by
    simp only [fixL] at hn
    rcases List.mem_cons.1 hn with rfl | hn
    · exact h _ (by simp)
    · exact fixL_le (b :: r) (fun m hm => h m (List.mem_cons_of_mem _ hm)) n hn

end Go.Ev
