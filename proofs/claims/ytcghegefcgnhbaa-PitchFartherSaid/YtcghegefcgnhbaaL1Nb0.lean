/- Bounds that move to an interval: what one round does to them. In plain mathematics. Conditions stand in each. -/
import Derived.Test.YtcghegefcgnhbaaL1Math5
set_option linter.unusedSimpArgs false
set_option linter.unusedVariables false
namespace Go.Ev

/-- bounds below and above an interval x, of denominators up to m, that have the gap 1 -/
structure Bnd (x : Frac) (m a b c d : Int) : Prop where
  a0 : 0 ≤ a
  b1 : 1 ≤ b
  bm : b ≤ m
  c0 : 1 ≤ c
  d0 : 0 ≤ d
  dm : d ≤ m
  det : c * b - a * d = 1
  lt1 : a * x.den < x.num * b
  lt2 : x.num * d < c * x.den

theorem bnd_whole {x : Frac} {m : Int} (hp : 1 ≤ x.num) (hq : 0 < x.den) (hm : 1 ≤ m) : Bnd x m 0 1 1 0 :=
  ⟨by omega, by omega, by omega, by omega, by omega, by omega, by omega, by omega, by omega⟩

section
variable {x : Frac} {m a b c d : Int} (h : Bnd x m a b c d) (hx : Prim x) (hp : 1 ≤ x.num) (hp2 : x.num ≤ 10000) (hq : m < x.den) (hq2 : x.den ≤ 10000) (hm : 1 ≤ m) (hm2 : m ≤ 1000)
include h

theorem Bnd.a_lt (hp : 1 ≤ x.num) (hq : m < x.den) : a < x.num := by
  have h1 : x.num * b ≤ x.num * x.den := mul_le (by omega) (by have := h.bm; omega)
  have h2 := h.lt1
  refine Classical.byContradiction fun hlt => ?_
  have h3 : x.den * x.num ≤ x.den * a := mul_le (by have := h.bm; have := h.b1; omega) (by omega)
  grind
theorem Bnd.c_le (hp : 1 ≤ x.num) (hp2 : x.num ≤ 10000) (hq : m < x.den) (hm2 : m ≤ 1000) : c ≤ 10000001 := by
  have h1 := h.a_lt hp hq
  have h2 : a * d ≤ 10000 * 1000 := by
    have h3 : a * d ≤ a * 1000 := mul_le h.a0 (by have := h.dm; omega)
    omega
  have h4 : c ≤ c * b := le_mul (by have := h.c0; omega) h.b1
  have := h.det
  omega

omit h in
theorem prod_le {u v U V : Int} (hu : 0 ≤ u) (hU : u ≤ U) (hv : 0 ≤ v) (hV : v ≤ V) : 0 ≤ u * v ∧ u * v ≤ U * V :=
  ⟨Int.mul_nonneg hu hv, Int.le_trans (mul_le hu hV) (Int.mul_le_mul_of_nonneg_right hU (by omega))⟩

omit h in
theorem quo_mul {u v : Int} (hu : 0 ≤ u) (hv : 0 < v) : 0 ≤ u / v ∧ u / v * v ≤ u ∧ u < (u / v + 1) * v :=
  ⟨Int.ediv_nonneg hu (by omega), Int.ediv_mul_le u (by omega), Int.lt_ediv_add_one_mul_self u hv⟩

/-- so many times the upper bound is added to the lower one -/
theorem Bnd.down (hx : Prim x) (hp : 1 ≤ x.num) (hq : m < x.den) {n : Int} (n0 : 0 ≤ n) (hn1 : n * (c * x.den - x.num * d) ≤ x.num * b - a * x.den) (hn2 : n * d ≤ m - b) : Bnd x m (a + n * c) (b + n * d) c d := by
  have e1 := Int.mul_nonneg n0 (show 0 ≤ c by have := h.c0; omega)
  have e2 := Int.mul_nonneg n0 h.d0
  have hb1 := h.b1
  have key : (a + n * c) * x.den ≤ x.num * (b + n * d) := by grind
  have hne : (a + n * c) * x.den ≠ x.num * (b + n * d) := fun he => by
    have := prim_dvd hx (by omega) (by omega) (show 1 ≤ b + n * d by omega) he
    omega
  exact ⟨by have := h.a0; omega, by omega, by omega, h.c0, h.d0, h.dm, by have := h.det; grind, by omega, h.lt2⟩
/-- so many times the lower bound is added to the upper one -/
theorem Bnd.up (hx : Prim x) (hp : 1 ≤ x.num) (hq : m < x.den) {n : Int} (n0 : 0 ≤ n) (hn1 : n * (x.num * b - a * x.den) ≤ c * x.den - x.num * d) (hn2 : n * b ≤ m - d) : Bnd x m a b (c + n * a) (d + n * b) := by
  have e1 := Int.mul_nonneg n0 h.a0
  have e2 := Int.mul_nonneg n0 (show 0 ≤ b by have := h.b1; omega)
  have hb1 := h.b1
  have hd0 := h.d0
  have hc0 := h.c0
  have hbm := h.bm
  have key : x.num * (d + n * b) ≤ (c + n * a) * x.den := by grind
  have hlt : x.num * (d + n * b) < (c + n * a) * x.den := by
    by_cases hz : d + n * b = 0
    · rw [hz, Int.mul_zero]
      exact Int.mul_pos (by omega) (by omega)
    · have hne : (c + n * a) * x.den ≠ x.num * (d + n * b) := fun he => by
        have := prim_dvd hx (by omega) (by omega) (show 1 ≤ d + n * b by omega) he
        omega
      omega
  exact ⟨h.a0, h.b1, h.bm, by omega, by omega, by omega, by have := h.det; grind, h.lt1, hlt⟩
end

def mn (a b : Int) : Int := if b < a then b else a
theorem mn_le (a b : Int) : mn a b ≤ a ∧ mn a b ≤ b := by unfold mn; split <;> omega
theorem mn_or (a b : Int) : mn a b = a ∨ mn a b = b := by unfold mn; split <;> simp

/-- the first half of a round -/
def dnA (x : Frac) (m a b c d : Int) : Int := if d = 0 then x.num / x.den else a + mn ((x.num * b - a * x.den) / (c * x.den - x.num * d)) ((m - b) / d) * c
def dnB (x : Frac) (m a b c d : Int) : Int := if d = 0 then b else b + mn ((x.num * b - a * x.den) / (c * x.den - x.num * d)) ((m - b) / d) * d
/-- the second half -/
def upN (x : Frac) (m a b c d : Int) : Int := mn ((c * x.den - x.num * d) / (x.num * b - a * x.den)) ((m - d) / b)

theorem Bnd.dn {x : Frac} {m a b c d : Int} (h : Bnd x m a b c d) (hx : Prim x) (hp : 1 ≤ x.num) (hq : m < x.den) (hm : 1 ≤ m) : Bnd x m (dnA x m a b c d) (dnB x m a b c d) c d := by
  have h1 := h.lt1
  have h2 := h.lt2
  have hb1 := h.b1
  have hc1 := h.c0
  unfold dnA dnB
  split
  · next hz =>
    subst hz
    have hcb := h.det
    rw [Int.mul_zero] at hcb
    obtain ⟨q0, q1, q2⟩ := quo_mul (u := x.num) (v := x.den) (by omega) (by omega)
    have hb : b = 1 := by
      have := le_mul (c := b) (a := c) (by omega) hc1
      have hcomm : b * c = c * b := Int.mul_comm b c
      omega
    subst hb
    have hne : x.num / x.den * x.den ≠ x.num * 1 := fun he => by
      have := prim_dvd hx (by omega) (by omega) (show (1 : Int) ≤ 1 by omega) he
      omega
    exact ⟨q0, by omega, h.bm, h.c0, h.d0, h.dm, by omega, by omega, by rw [Int.mul_zero]; exact Int.mul_pos (by omega) (by omega)⟩
  · next hz =>
    have hd := h.d0
    have hbm := h.bm
    obtain ⟨q0, q1, q2⟩ := quo_mul (u := x.num * b - a * x.den) (v := c * x.den - x.num * d) (by omega) (by omega)
    obtain ⟨r0, r1, r2⟩ := quo_mul (u := m - b) (v := d) (by omega) (by omega)
    obtain ⟨l1, l2⟩ := mn_le ((x.num * b - a * x.den) / (c * x.den - x.num * d)) ((m - b) / d)
    have l0 : 0 ≤ mn ((x.num * b - a * x.den) / (c * x.den - x.num * d)) ((m - b) / d) := by
      rcases mn_or ((x.num * b - a * x.den) / (c * x.den - x.num * d)) ((m - b) / d) with e | e <;> rw [e] <;> assumption
    exact h.down hx hp hq l0 (Int.le_trans (Int.mul_le_mul_of_nonneg_right l1 (by omega)) q1) (Int.le_trans (Int.mul_le_mul_of_nonneg_right l2 (by omega)) r1)
theorem Bnd.upn0 {x : Frac} {m a b c d : Int} (h : Bnd x m a b c d) : 0 ≤ upN x m a b c d := by
  have h1 := h.lt1
  have h2 := h.lt2
  have hb1 := h.b1
  have hdm := h.dm
  obtain ⟨q0, q1, q2⟩ := quo_mul (u := c * x.den - x.num * d) (v := x.num * b - a * x.den) (by omega) (by omega)
  obtain ⟨r0, r1, r2⟩ := quo_mul (u := m - d) (v := b) (by omega) (by omega)
  unfold upN
  rcases mn_or ((c * x.den - x.num * d) / (x.num * b - a * x.den)) ((m - d) / b) with e | e <;> rw [e] <;> assumption
theorem Bnd.upn {x : Frac} {m a b c d : Int} (h : Bnd x m a b c d) (hx : Prim x) (hp : 1 ≤ x.num) (hq : m < x.den) : Bnd x m a b (c + upN x m a b c d * a) (d + upN x m a b c d * b) := by
  have h1 := h.lt1
  have h2 := h.lt2
  have hb1 := h.b1
  have hdm := h.dm
  obtain ⟨q0, q1, q2⟩ := quo_mul (u := c * x.den - x.num * d) (v := x.num * b - a * x.den) (by omega) (by omega)
  obtain ⟨r0, r1, r2⟩ := quo_mul (u := m - d) (v := b) (by omega) (by omega)
  obtain ⟨l1, l2⟩ := mn_le ((c * x.den - x.num * d) / (x.num * b - a * x.den)) ((m - d) / b)
  exact h.up hx hp hq h.upn0 (Int.le_trans (Int.mul_le_mul_of_nonneg_right l1 (by omega)) q1) (Int.le_trans (Int.mul_le_mul_of_nonneg_right l2 (by omega)) r1)

/-- a round that leaves the bounds ends with neighbours; each other one makes a denominator greater -/
theorem Bnd.round {x : Frac} {m a b c d : Int} (h : Bnd x m a b c d) (hx : Prim x) (hp : 1 ≤ x.num) (hq : m < x.den) (hm : 1 ≤ m) {a' b' n : Int} (ha : a' = dnA x m a b c d) (hb : b' = dnB x m a b c d) (hn : n = upN x m a' b' c d) :
    (a' = a → b' = b → c + n * a' = c → d + n * b' = d → m < b + d ∧ 1 ≤ d) ∧ (¬ (a' = a ∧ b' = b ∧ c + n * a' = c ∧ d + n * b' = d) → b + d < b' + (d + n * b')) := by
  have h' := h.dn hx hp hq hm
  rw [← ha, ← hb] at h'
  have n0 := h'.upn0
  rw [← hn] at n0
  have h1 := h.lt1
  have h2 := h.lt2
  have h1' := h'.lt1
  have hb1 := h.b1
  have hb1' := h'.b1
  have hc1 := h.c0
  have hd0 := h.d0
  have hdm := h.dm
  have hbm := h.bm
  have hbm' := h'.bm
  obtain ⟨q0, q1, q2⟩ := quo_mul (u := c * x.den - x.num * d) (v := x.num * b' - a' * x.den) (by omega) (by omega)
  obtain ⟨r0, r1, r2⟩ := quo_mul (u := m - d) (v := b') (by omega) (by omega)
  have nb := Int.mul_nonneg n0 (show 0 ≤ b' by omega)
  -- no step up: one of both is 0
  have nz : n = 0 → (c * x.den - x.num * d) < (x.num * b' - a' * x.den) ∨ m - d < b' := fun hz => by
    have hz' : upN x m a' b' c d = 0 := by rw [← hn]; exact hz
    unfold upN at hz'
    rcases mn_or ((c * x.den - x.num * d) / (x.num * b' - a' * x.den)) ((m - d) / b') with e | e <;> rw [e] at hz'
    · left; rw [hz'] at q2; omega
    · right; rw [hz'] at r2; omega
  have nd : d = 0 → 1 ≤ n := fun hz => by
    refine Classical.byContradiction fun hlt => ?_
    have hz0 : n = 0 := by omega
    subst hz
    have hcb := h.det
    rw [Int.mul_zero] at hcb
    have hb0 : b = 1 := by
      have := le_mul (c := b) (a := c) (by omega) hc1
      have hcomm : b * c = c * b := Int.mul_comm b c
      omega
    have hc0 : c = 1 := by rw [hb0] at hcb; omega
    have hbb : b' = 1 := by rw [hb]; unfold dnB; rw [if_pos rfl]; exact hb0
    have haa : a' = x.num / x.den := by rw [ha]; unfold dnA; rw [if_pos rfl]
    obtain ⟨s0, s1, s2⟩ := quo_mul (u := x.num) (v := x.den) (by omega) (by omega)
    rw [← haa] at s0 s1 s2
    rw [hc0, hbb] at nz
    rcases nz hz0 with e | e
    · have : (a' + 1) * x.den = a' * x.den + x.den := by rw [Int.add_mul, Int.one_mul]
      omega
    · omega
  constructor
  · intro e1 e2 e3 e4
    have hz : n * b' = 0 := by omega
    have hn0 : n = 0 := by
      rcases Int.mul_eq_zero.1 hz with e | e
      · exact e
      · omega
    have hd1 : d ≠ 0 := fun e => by have := nd e; omega
    refine ⟨?_, by omega⟩
    refine Classical.byContradiction fun hlt => ?_
    subst e1 e2
    rcases nz hn0 with e | e
    · -- then a step down was there
      have hdn : b' = dnB x m a' b' c d := hb
      unfold dnB at hdn
      rw [if_neg hd1] at hdn
      have hzz : mn ((x.num * b' - a' * x.den) / (c * x.den - x.num * d)) ((m - b') / d) = 0 := by
        have : mn ((x.num * b' - a' * x.den) / (c * x.den - x.num * d)) ((m - b') / d) * d = 0 := by omega
        rcases Int.mul_eq_zero.1 this with e | e
        · exact e
        · omega
      obtain ⟨s0, s1, s2⟩ := quo_mul (u := x.num * b' - a' * x.den) (v := c * x.den - x.num * d) (by omega) (by omega)
      obtain ⟨u0, u1, u2⟩ := quo_mul (u := m - b') (v := d) (by omega) (by omega)
      rcases mn_or ((x.num * b' - a' * x.den) / (c * x.den - x.num * d)) ((m - b') / d) with g | g <;> rw [g] at hzz
      · rw [hzz] at s2; omega
      · rw [hzz] at u2; omega
    · omega
  · intro hne
    refine Classical.byContradiction fun hge => hne ?_
    have hbb : b ≤ b' := by
      rw [hb]; unfold dnB
      split
      · exact Int.le_refl _
      · have l0 : 0 ≤ mn ((x.num * b - a * x.den) / (c * x.den - x.num * d)) ((m - b) / d) := by
          obtain ⟨s0, _⟩ := quo_mul (u := x.num * b - a * x.den) (v := c * x.den - x.num * d) (by omega) (by omega)
          obtain ⟨u0, _⟩ := quo_mul (u := m - b) (v := d) (by omega) (by omega)
          rcases mn_or ((x.num * b - a * x.den) / (c * x.den - x.num * d)) ((m - b) / d) with g | g <;> rw [g] <;> assumption
        have := Int.mul_nonneg l0 hd0
        omega
    have hz : n * b' = 0 := by omega
    have hn0 : n = 0 := by
      rcases Int.mul_eq_zero.1 hz with e | e
      · exact e
      · omega
    have hd1 : d ≠ 0 := fun e => by have := nd e; omega
    have hbe : b' = b := by omega
    have hae : a' = a := by
      rw [hb] at hbe
      unfold dnB at hbe
      rw [if_neg hd1] at hbe
      have hzz : mn ((x.num * b - a * x.den) / (c * x.den - x.num * d)) ((m - b) / d) = 0 := by
        have : mn ((x.num * b - a * x.den) / (c * x.den - x.num * d)) ((m - b) / d) * d = 0 := by omega
        rcases Int.mul_eq_zero.1 this with e | e
        · exact e
        · omega
      rw [ha]; unfold dnA
      rw [if_neg hd1, hzz]
      omega
    exact ⟨hae, hbe, by rw [hn0]; omega, by rw [hn0]; omega⟩

theorem Bnd.nb {x : Frac} {m a b c d : Int} (h : Bnd x m a b c d) (h1 : m < b + d) (h2 : 1 ≤ d) : Nb x m ⟨a, b⟩ ⟨c, d⟩ :=
  ⟨h.b1, h.bm, h2, h.dm, h.a0, h.det, h1, h.lt1, h.lt2⟩

end Go.Ev
