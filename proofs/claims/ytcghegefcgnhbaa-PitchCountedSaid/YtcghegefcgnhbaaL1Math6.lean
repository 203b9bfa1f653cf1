/- How many fractions there are between two, in plain mathematics: no program in sight. No condition. -/
import Derived.Test.YtcghegefcgnhbaaL1Math5
set_option linter.unusedSimpArgs false
set_option linter.unusedVariables false
namespace Go.Ev

/-! ### how many there are -/
def okC (lo hi : Frac) (n d : Nat) : Bool := decide (Nat.gcd n d = 1) && decide (0 ≤ gapF lo ⟨n, d⟩) && decide (0 ≤ gapF ⟨n, d⟩ hi)
def cntD (lo hi : Frac) (d : Nat) : Nat := ((List.range (4 * d + 1)).filter fun n => okC lo hi n d).length
def cntM (lo hi : Frac) : Nat → Nat
  | 0 => 0
  | m + 1 => cntM lo hi m + cntD lo hi (m + 1)

def allD (d : Nat) : Nat := ((List.range (4 * d + 1)).filter fun n => decide (Nat.gcd n d = 1)).length
def allM : Nat → Nat
  | 0 => 0
  | m + 1 => allM m + allD (m + 1)
theorem filter_len_le {α : Type} {p q : α → Bool} (h : ∀ a, p a = true → q a = true) : ∀ L : List α, (L.filter p).length ≤ (L.filter q).length
  | [] => Nat.le_refl _
  | a :: r => by
    have ih := filter_len_le h r
    rw [List.filter_cons, List.filter_cons]
    by_cases hp : p a = true
    · rw [if_pos hp, if_pos (h a hp)]; simp; omega
    · rw [if_neg hp]
      split
      · simp; omega
      · exact ih
theorem cntM_le (lo hi : Frac) : ∀ m, cntM lo hi m ≤ allM m
  | 0 => Nat.le_refl _
  | m + 1 => by
    have ih := cntM_le lo hi m
    have : cntD lo hi (m + 1) ≤ allD (m + 1) := filter_len_le (fun n h => by
      simp only [okC, Bool.and_eq_true] at h
      exact h.1.1) _
    simp only [cntM, allM]
    omega
theorem allM_mono {m n : Nat} (h : m ≤ n) : allM m ≤ allM n := by
  induction h with
  | refl => exact Nat.le_refl _
  | step _ ih => simp only [allM]; omega
theorem allM_50 : allM 50 ≤ 5000 := by decide +kernel
theorem cntM_5000 (lo hi : Frac) {m : Nat} (h : m ≤ 50) : cntM lo hi m ≤ 5000 := Nat.le_trans (cntM_le lo hi m) (Nat.le_trans (allM_mono h) allM_50)

/-! ### parts -/
theorem filter_add {α : Type} {p q r s : α → Bool} : ∀ L : List α, (∀ a ∈ L, (p a).toNat + (q a).toNat = (r a).toNat + (s a).toNat) → (L.filter p).length + (L.filter q).length = (L.filter r).length + (L.filter s).length
  | [], _ => rfl
  | a :: t, h => by
    have ih := filter_add t fun b hb => h b (List.mem_cons_of_mem _ hb)
    have h1 := h a (by simp)
    rw [List.filter_cons, List.filter_cons, List.filter_cons, List.filter_cons]
    cases hp : p a <;> cases hq : q a <;> cases hr : r a <;> cases hs : s a <;> simp [hp, hq, hr, hs] at h1 ⊢ <;> omega
theorem filter_one (k : Nat) : ∀ n : Nat, ((List.range n).filter fun i => decide (i = k)).length = if k < n then 1 else 0
  | 0 => by simp
  | n + 1 => by
    rw [List.range_succ, List.filter_append, List.length_append, filter_one k n, List.filter_cons, List.filter_nil]
    rcases Nat.lt_trichotomy n k with h | h | h
    · rw [if_neg (by omega), if_neg (by simp; omega), if_neg (by omega)]; rfl
    · subst h; simp
    · rw [if_pos (by omega), if_neg (by simp; omega), if_pos (by omega)]; rfl

theorem cntD_parts {x y z : Frac} (hx : 0 < x.den) (hy : 0 < y.den) (hz : 0 < z.den) (hyn : 0 ≤ y.num) (hyp : Prim y) (hy4 : y.num ≤ 4 * y.den) (h1 : 0 ≤ gapF x y) (h2 : 0 ≤ gapF y z) {d : Nat} (hd : 0 < d) :
    cntD x y d + cntD y z d = cntD x z d + if (d : Int) = y.den then 1 else 0 := by
  have e : ∀ n ∈ List.range (4 * d + 1), (okC x y n d).toNat + (okC y z n d).toNat = (okC x z n d).toNat + (decide (Nat.gcd n d = 1) && decide (gapF y ⟨n, d⟩ = 0)).toNat := by
    intro n _
    unfold okC
    by_cases hg : Nat.gcd n d = 1
    · have e1 : gapF ⟨n, d⟩ y = -gapF y ⟨n, d⟩ := by simp only [gapF]; omega
      -- x ≤ y ≤ f, or f ≤ y ≤ z
      have u1 : 0 ≤ gapF y ⟨n, d⟩ → 0 ≤ gapF x ⟨n, d⟩ := fun h => by
        simp only [gapF] at h h1 ⊢
        have := le_of_step (a := x.num) (b := x.den) (c := y.num) (d := y.den) (e := n) (f := d) hx hy (by omega) (by omega) (by omega)
        omega
      have u2 : 0 ≤ gapF ⟨n, d⟩ y → 0 ≤ gapF ⟨n, d⟩ z := fun h => by
        simp only [gapF] at h h2 ⊢
        have := le_of_step (a := n) (b := d) (c := y.num) (d := y.den) (e := z.num) (f := z.den) (by omega) hy hz (by omega) (by omega)
        omega
      rw [e1] at u2 ⊢
      generalize gapF x ⟨n, d⟩ = a at *
      generalize gapF ⟨n, d⟩ z = c at *
      generalize gapF y ⟨n, d⟩ = b at *
      by_cases ha : 0 ≤ a <;> by_cases hb : 0 ≤ b <;> by_cases hb' : 0 ≤ -b <;> by_cases hc : 0 ≤ c <;> by_cases hz : b = 0 <;> simp [hg, ha, hb, hb', hc, hz] <;> omega
    · simp [hg]
  have h := filter_add _ e
  have h3 : ((List.range (4 * d + 1)).filter fun n => decide (Nat.gcd n d = 1) && decide (gapF y ⟨n, d⟩ = 0)).length = if (d : Int) = y.den then 1 else 0 := by
    by_cases hdy : (d : Int) = y.den
    · rw [if_pos hdy]
      have h4 : (List.range (4 * d + 1)).filter (fun n => decide (Nat.gcd n d = 1) && decide (gapF y ⟨n, d⟩ = 0)) = (List.range (4 * d + 1)).filter fun n => decide (n = y.num.toNat) := by
        apply List.filter_congr
        intro n _
        rw [Bool.eq_iff_iff, Bool.and_eq_true, decide_eq_true_eq, decide_eq_true_eq, decide_eq_true_eq]
        simp only [gapF]
        constructor
        · rintro ⟨_, h⟩
          rw [hdy] at h
          have : (n : Int) = y.num := Int.eq_of_mul_eq_mul_right (a := y.den) (by omega) (by omega)
          omega
        · intro h
          have hn : (n : Int) = y.num := by omega
          refine ⟨?_, by rw [hn, hdy]; omega⟩
          have : d = y.den.toNat := by omega
          rw [h, this]
          exact hyp
      rw [h4, filter_one, if_pos (by omega)]
    · rw [if_neg hdy]
      have h4 : (List.range (4 * d + 1)).filter (fun n => decide (Nat.gcd n d = 1) && decide (gapF y ⟨n, d⟩ = 0)) = [] := by
        rw [List.filter_eq_nil_iff]
        intro n _ hh
        rw [Bool.and_eq_true, decide_eq_true_eq, decide_eq_true_eq] at hh
        have := prim_eq (x := y) (y := ⟨n, d⟩) hyp (by simpa [Prim] using hh.1) hyn hy (by simp) (by simpa using hd) (by have := hh.2; simp only [gapF] at this ⊢; omega)
        apply hdy
        rw [this]
      rw [h4]
      rfl
  unfold cntD
  omega

theorem cntM_parts {x y z : Frac} (hx : 0 < x.den) (hy : 0 < y.den) (hz : 0 < z.den) (hyn : 0 ≤ y.num) (hyp : Prim y) (hy4 : y.num ≤ 4 * y.den) (h1 : 0 ≤ gapF x y) (h2 : 0 ≤ gapF y z) : ∀ m : Nat,
    cntM x y m + cntM y z m = cntM x z m + if y.den ≤ (m : Int) then 1 else 0
  | 0 => by rw [if_neg (by simp; omega)]; rfl
  | m + 1 => by
    have ih := cntM_parts hx hy hz hyn hyp hy4 h1 h2 m
    have hd := cntD_parts hx hy hz hyn hyp hy4 h1 h2 (show 0 < m + 1 by omega)
    simp only [cntM]
    split at ih <;> split at hd <;> split <;> push_cast at * <;> omega

/-! ### turned round 1 -/
theorem gcd_turn {n d : Nat} (h : n ≤ 2 * d) : Nat.gcd (2 * d - n) d = Nat.gcd n d := by
  apply Nat.dvd_antisymm
  · refine Nat.dvd_gcd ?_ (Nat.gcd_dvd_right _ _)
    have h1 := Nat.gcd_dvd_left (2 * d - n) d
    have h2 := Nat.gcd_dvd_right (2 * d - n) d
    have h3 := Nat.dvd_sub (Nat.dvd_mul_left_of_dvd h2 2) h1
    rwa [show 2 * d - (2 * d - n) = n by omega] at h3
  · exact Nat.dvd_gcd (Nat.dvd_sub (Nat.dvd_mul_left_of_dvd (Nat.gcd_dvd_right n d) 2) (Nat.gcd_dvd_left n d)) (Nat.gcd_dvd_right _ _)
theorem range_turn (k : Nat) : (List.range (k + 1)).map (fun n => k - n) = (List.range (k + 1)).reverse := by
  apply List.ext_getElem
  · simp
  · intro i h1 h2
    simp only [List.length_map, List.length_range] at h1
    simp [List.getElem_reverse]
theorem filter_range_cut {p : Nat → Bool} {a : Nat} : ∀ b : Nat, (∀ n, a ≤ n → p n = false) → a ≤ b → ((List.range b).filter p).length = ((List.range a).filter p).length
  | 0, _, h => by obtain rfl : a = 0 := by omega
                  rfl
  | b + 1, hp, h => by
    by_cases hab : a = b + 1
    · rw [hab]
    · rw [List.range_succ, List.filter_append, List.length_append, filter_range_cut b hp (by omega), List.filter_cons, hp b (by omega)]
      simp
def turn (x : Frac) : Frac := ⟨2 * x.den - x.num, x.den⟩
theorem cntD_turn {x z : Frac} (hx : 0 < x.den) (hz : 0 < z.den) (hz2 : z.num < 2 * z.den) (hx1 : 0 < x.num) (d : Nat) : cntD (turn z) (turn x) d = cntD x z d := by
  by_cases hd0 : d = 0
  · subst hd0
    unfold cntD okC
    simp [gapF, turn]
  have hd : 0 < d := by omega
  have big : ∀ {x z : Frac}, 0 < z.den → z.num < 2 * z.den → ∀ n, 2 * d + 1 ≤ n → okC x z n d = false := fun {x z} hz hz2 n hn => by
    rw [Bool.eq_false_iff]
    intro h
    simp only [okC, Bool.and_eq_true, decide_eq_true_eq] at h
    have h1 := h.2
    simp only [gapF] at h1
    have h2 : z.num * d ≤ (2 * z.den) * d := Int.mul_le_mul_of_nonneg_right (by omega) (by omega)
    have h3 : (2 * (d : Int) + 1) * z.den ≤ n * z.den := Int.mul_le_mul_of_nonneg_right (by omega) (by omega)
    have e1 : (2 * z.den) * d = 2 * (d * z.den) := by grind
    have e2 : (2 * (d : Int) + 1) * z.den = 2 * (d * z.den) + z.den := by grind
    omega
  unfold cntD
  rw [filter_range_cut (4 * d + 1) (big hz hz2) (by omega), filter_range_cut (a := 2 * d + 1) (4 * d + 1) (big (x := turn z) (z := turn x) hx (by simp only [turn]; omega)) (by omega)]
  have h1 : ((List.range (2 * d + 1)).filter fun n => okC x z n d).length = (((List.range (2 * d + 1)).reverse).filter fun n => okC x z n d).length := by
    rw [List.filter_reverse, List.length_reverse]
  rw [h1, ← range_turn, List.filter_map, List.length_map]
  congr 1
  apply List.filter_congr
  intro n hn
  have hn' : n ≤ 2 * d := by have := List.mem_range.1 hn; omega
  simp only [okC, Function.comp_apply, gcd_turn hn']
  have e : ((2 * d - n : Nat) : Int) = 2 * d - n := by omega
  have e1 : gapF (turn z) ⟨n, d⟩ = gapF ⟨(2 * d - n : Nat), d⟩ z := by simp only [gapF, turn, e]; grind
  have e2 : gapF ⟨n, d⟩ (turn x) = gapF x ⟨(2 * d - n : Nat), d⟩ := by simp only [gapF, turn, e]; grind
  rw [e1, e2, Bool.and_assoc, Bool.and_assoc, Bool.and_comm (decide (0 ≤ gapF ⟨_, _⟩ z))]
theorem cntM_turn {x z : Frac} (hx : 0 < x.den) (hz : 0 < z.den) (hz2 : z.num < 2 * z.den) (hx1 : 0 < x.num) : ∀ m, cntM (turn z) (turn x) m = cntM x z m
  | 0 => rfl
  | m + 1 => by rw [cntM, cntM, cntM_turn hx hz hz2 hx1 m, cntD_turn hx hz hz2 hx1]

end Go.Ev
