/- The simplest fraction of an interval, in plain mathematics: no program in sight. No condition. -/
import Derived.Test.YtcghegefcgnhbaaL1Math1
set_option linter.unusedSimpArgs false
set_option linter.unusedVariables false
namespace Go.Ev

/-- the simplest one from lo to hi: no other has a lesser denominator, nor a lesser numerator -/
structure SimpF (lo hi s : Frac) : Prop where
  d1 : 1 ≤ s.den
  n0 : 0 ≤ s.num
  ge : lo.num * s.den ≤ s.num * lo.den
  le : s.num * hi.den ≤ hi.num * s.den
  min : ∀ c d : Int, 1 ≤ d → lo.num * d ≤ c * lo.den → c * hi.den ≤ hi.num * d → s.den ≤ d ∧ s.num ≤ c

theorem simp_uniq {lo hi s t : Frac} (hs : SimpF lo hi s) (ht : SimpF lo hi t) : s = t := by
  have h1 := hs.min t.num t.den ht.d1 ht.ge ht.le
  have h2 := ht.min s.num s.den hs.d1 hs.ge hs.le
  exact Frac.ext' (by omega) (by omega)

/-- by what is left of both, turned over -/
def simpP : Nat → Frac → Frac → Frac
  | 0, _, _ => ⟨0, 1⟩
  | k + 1, lo, hi =>
    if lo.num / lo.den * lo.den = lo.num then ⟨lo.num / lo.den, 1⟩
    else if (lo.num / lo.den + 1) * hi.den ≤ hi.num then ⟨lo.num / lo.den + 1, 1⟩
    else
      let x := simpP k ⟨hi.den, hi.num - lo.num / lo.den * hi.den⟩ ⟨lo.den, lo.num - lo.num / lo.den * lo.den⟩
      ⟨lo.num / lo.den * x.num + x.den, x.num⟩

/-- what is left of two that lie between the same whole numbers -/
theorem rest_ok {lo hi : Frac} (hl : 0 < lo.den) (hh : 0 < hi.den) (hp : 0 ≤ lo.num) (hle : lo.num * hi.den ≤ hi.num * lo.den) (g1 : ¬ lo.num / lo.den * lo.den = lo.num) (g2 : ¬ (lo.num / lo.den + 1) * hi.den ≤ hi.num) :
    0 ≤ lo.num / lo.den ∧ 0 < hi.num - lo.num / lo.den * hi.den ∧ hi.num - lo.num / lo.den * hi.den < hi.den ∧ 0 < lo.num - lo.num / lo.den * lo.den ∧ lo.num - lo.num / lo.den * lo.den < lo.den := by
  have h1 := Int.ediv_nonneg hp (show 0 ≤ lo.den by omega)
  have h2 := Int.ediv_mul_le lo.num (show lo.den ≠ 0 by omega)
  have h3 := Int.lt_ediv_add_one_mul_self lo.num hl
  generalize lo.num / lo.den = n at *
  have h4 : (n + 1) * hi.den = n * hi.den + hi.den := by grind
  have h5 : (n + 1) * lo.den = n * lo.den + lo.den := by grind
  have h6 : n * lo.den < lo.num := by omega
  have h7 : n * hi.den < hi.num := by
    have a1 : n * lo.den * hi.den < lo.num * hi.den := Int.mul_lt_mul_of_pos_right h6 hh
    have a2 : (n * hi.den) * lo.den < hi.num * lo.den := by
      have e : (n * hi.den) * lo.den = n * lo.den * hi.den := by grind
      omega
    exact Int.lt_of_mul_lt_mul_right a2 (by omega)
  exact ⟨h1, by omega, by omega, by omega, by omega⟩

theorem simpP_spec : ∀ (k : Nat) (lo hi : Frac), 0 < lo.den → 0 < hi.den → 0 ≤ lo.num → lo.num * hi.den ≤ hi.num * lo.den → lo.den + hi.den < k → SimpF lo hi (simpP k lo hi)
  | 0, lo, hi, _, _, _, _, h => by omega
  | k + 1, lo, hi, hl, hh, hp, hle, hk => by
    have h1 := Int.ediv_nonneg hp (show 0 ≤ lo.den by omega)
    have h2 := Int.ediv_mul_le lo.num (show lo.den ≠ 0 by omega)
    have h3 := Int.lt_ediv_add_one_mul_self lo.num hl
    rw [simpP]
    by_cases g1 : lo.num / lo.den * lo.den = lo.num
    · rw [if_pos g1]
      generalize lo.num / lo.den = n at *
      refine ⟨by simp, h1, by simp only; omega, ?_, fun c d hd a b => ⟨by simp only; omega, ?_⟩⟩
      · simp only
        have e : n * hi.den * lo.den ≤ hi.num * lo.den := by
          have : n * hi.den * lo.den = lo.num * hi.den := by rw [← g1]; grind
          omega
        have := Int.le_of_mul_le_mul_right e hl
        omega
      · simp only
        have e : n * lo.den ≤ c * lo.den := by
          rw [g1]
          have : lo.num * 1 ≤ lo.num * d := mul_le hp hd
          omega
        exact Int.le_of_mul_le_mul_right e hl
    · rw [if_neg g1]
      by_cases g2 : (lo.num / lo.den + 1) * hi.den ≤ hi.num
      · rw [if_pos g2]
        generalize lo.num / lo.den = n at *
        refine ⟨by simp, by simp only; omega, by simp only; omega, by simp only; omega, fun c d hd a b => ⟨by simp only; omega, ?_⟩⟩
        simp only
        have e : n * lo.den < c * lo.den := by
          have : lo.num * 1 ≤ lo.num * d := mul_le hp hd
          omega
        have := Int.lt_of_mul_lt_mul_right e (by omega)
        omega
      · rw [if_neg g2]
        obtain ⟨_, r1, r2, r3, r4⟩ := rest_ok hl hh hp hle g1 g2
        have ih := simpP_spec k ⟨hi.den, hi.num - lo.num / lo.den * hi.den⟩ ⟨lo.den, lo.num - lo.num / lo.den * lo.den⟩ r1 r3 (by simp only; omega) (by simp only; grind) (by simp only; omega)
        generalize simpP k ⟨hi.den, hi.num - lo.num / lo.den * hi.den⟩ ⟨lo.den, lo.num - lo.num / lo.den * lo.den⟩ = x at *
        generalize lo.num / lo.den = n at *
        have i1 := ih.d1
        have i2 := ih.n0
        have i3 := ih.ge
        have i4 := ih.le
        simp only at i3 i4
        have hx1 : 1 ≤ x.num := by
          refine Classical.byContradiction fun hlt => ?_
          have e : x.num = 0 := by omega
          rw [e] at i3
          have : hi.den * 1 ≤ hi.den * x.den := mul_le (by omega) i1
          omega
        refine ⟨hx1, by have := Int.mul_nonneg h1 i2; simp only; omega, by simp only; grind, by simp only; grind, fun c d hd a b => ?_⟩
        have hcd : 1 ≤ c - n * d := by
          have a1 : n * lo.den * d < lo.num * d := Int.mul_lt_mul_of_pos_right (by omega) (by omega)
          have a2 : (n * d) * lo.den < c * lo.den := by
            have e : (n * d) * lo.den = n * lo.den * d := by grind
            omega
          have := Int.lt_of_mul_lt_mul_right a2 (by omega)
          omega
        have hm := ih.min d (c - n * d) hcd (by simp only; grind) (by simp only; grind)
        obtain ⟨m1, m2⟩ := hm
        refine ⟨m2, ?_⟩
        simp only
        have : n * x.num ≤ n * d := mul_le h1 m2
        omega

/-! ### by trying all denominators -/
def ceilF (lo : Frac) (d : Int) : Int := (lo.num * d + lo.den - 1) / lo.den
theorem ceil_ge {lo : Frac} (hl : 0 < lo.den) (d : Int) : lo.num * d ≤ ceilF lo d * lo.den := by
  have := Int.lt_ediv_add_one_mul_self (lo.num * d + lo.den - 1) hl
  unfold ceilF
  generalize (lo.num * d + lo.den - 1) / lo.den = n at *
  have e : (n + 1) * lo.den = n * lo.den + lo.den := by grind
  omega
theorem ceil_least {lo : Frac} (hl : 0 < lo.den) {d c : Int} (h : lo.num * d ≤ c * lo.den) : ceilF lo d ≤ c := by
  unfold ceilF
  have h1 : lo.num * d + lo.den - 1 < (c + 1) * lo.den := by
    have e : (c + 1) * lo.den = c * lo.den + lo.den := by grind
    omega
  have := (Int.ediv_lt_iff_lt_mul hl).2 h1
  omega
/-- the first denominator that does gives the simplest one -/
theorem first_den {lo hi s : Frac} (hl : 0 < lo.den) (hh : 0 < hi.den) (hs : SimpF lo hi s) {d : Int} (hd : 1 ≤ d) (hle : d ≤ s.den) : (ceilF lo d * hi.den ≤ hi.num * d ↔ d = s.den) ∧ (d = s.den → ceilF lo d = s.num) := by
  have h1 := ceil_ge hl d
  have h0 : d = s.den → ceilF lo d * hi.den ≤ hi.num * d := fun h => by
    subst h
    have h2 := ceil_least hl hs.ge
    have h3 := hs.le
    have : ceilF lo s.den * hi.den ≤ s.num * hi.den := Int.mul_le_mul_of_nonneg_right h2 (by omega)
    omega
  refine ⟨⟨fun h => ?_, h0⟩, fun h => ?_⟩
  · have := hs.min _ _ hd h1 h
    omega
  · have h2 := hs.min _ _ hd h1 (h0 h)
    subst h
    have h3 := ceil_least hl hs.ge
    omega

end Go.Ev
