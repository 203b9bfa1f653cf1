/- Neighbours are there; the nearest fraction. In plain mathematics: no program in sight. No condition. -/
import Derived.Test.YtcghegefcgnhbaaL1Math1
set_option linter.unusedSimpArgs false
set_option linter.unusedVariables false
namespace Go.Ev

/-! ### neighbours are there -/
theorem nb_exists {x : Frac} {m : Int} (hx : Prim x) (hp : 0 ≤ x.num) (hm : 1 ≤ m) (hq : m < x.den) : ∃ lo hi, Nb x m lo hi := by
  have ne : ∀ c e : Int, 1 ≤ e → e ≤ m → c * x.den ≠ x.num * e := fun c e h1 h2 h => by
    have := prim_dvd hx hp (by omega) h1 h
    omega
  have main : ∀ (k : Nat) (lo hi : Frac), 1 ≤ lo.den → lo.den ≤ m → 1 ≤ hi.den → hi.den ≤ m → 0 ≤ lo.num → hi.num * lo.den - lo.num * hi.den = 1 → lo.num * x.den < x.num * lo.den → x.num * hi.den < hi.num * x.den → 2 * m < lo.den + hi.den + k → ∃ lo hi, Nb x m lo hi := by
    intro k
    induction k with
    | zero => intro lo hi a1 a2 a3 a4 _ _ _ _ h; omega
    | succ k ih =>
      intro lo hi a1 a2 a3 a4 a5 a6 a7 a8 h
      by_cases hs : m < lo.den + hi.den
      · exact ⟨lo, hi, a1, a2, a3, a4, a5, a6, hs, a7, a8⟩
      · have hne := ne (lo.num + hi.num) (lo.den + hi.den) (by omega) (by omega)
        have n0 : 0 ≤ hi.num := by
          refine Classical.byContradiction fun hlt => ?_
          have h6 : hi.num * x.den ≤ (-1) * x.den := Int.mul_le_mul_of_nonneg_right (by omega) (by omega)
          have h7 := Int.mul_nonneg hp (show 0 ≤ hi.den by omega)
          omega
        rcases Int.lt_or_gt_of_ne hne with h1 | h1
        · exact ih ⟨lo.num + hi.num, lo.den + hi.den⟩ hi (by simp only; omega) (by simp only; omega) a3 a4 (by simp only; omega) (by simp only; grind) (by simpa using h1) a8 (by simp only; omega)
        · exact ih lo ⟨lo.num + hi.num, lo.den + hi.den⟩ a1 a2 (by simp only; omega) (by simp only; omega) a5 (by simp only; grind) a7 (by simpa using h1) (by simp only; omega)
  have h1 := Int.ediv_nonneg hp (show 0 ≤ x.den by omega)
  have h2 := Int.ediv_mul_le x.num (show x.den ≠ 0 by omega)
  have h3 := Int.lt_ediv_add_one_mul_self x.num (show 0 < x.den by omega)
  have h4 := ne (x.num / x.den) 1 (by omega) hm
  exact main (2 * m).toNat ⟨x.num / x.den, 1⟩ ⟨x.num / x.den + 1, 1⟩ (by simp) (by simpa using hm) (by simp) (by simpa using hm) h1 (by simp only; omega) (by simp only; omega) (by simp only; omega) (by simp only; omega)

/-- the two next to x -/
theorem next_nb {x : Frac} {m : Nat} (hx : Prim x) (hp : 0 ≤ x.num) (hm : 1 ≤ m) (hq : (m : Int) < x.den) : Nb x m (lowN x m) (highN x m) := by
  obtain ⟨lo, hi, h⟩ := nb_exists hx hp (m := m) (by omega) hq
  obtain ⟨rfl, rfl⟩ := beside_eq hm hx hp (by omega) (.inr h)
  exact h
theorem next_self {x : Frac} {m : Nat} (hx : Prim x) (hp : 0 ≤ x.num) (hm : 1 ≤ m) (h0 : 0 < x.den) (hq : x.den ≤ (m : Int)) : lowN x m = x ∧ highN x m = x := by
  obtain ⟨h1, h2⟩ := beside_eq hm hx hp h0 (.inl ⟨hq, rfl, rfl⟩)
  exact ⟨h1.symm, h2.symm⟩

theorem prim_of_fst {f : Frac} (hd : 1 ≤ f.den) (hn : 0 ≤ f.num) (h : ∀ c e : Int, 0 ≤ c → 1 ≤ e → e < f.den → c * f.den = f.num * e → False) : Prim f := by
  unfold Prim
  have g1 := Nat.gcd_dvd_left f.num.toNat f.den.toNat
  have g2 := Nat.gcd_dvd_right f.num.toNat f.den.toNat
  have gp : 0 < Nat.gcd f.num.toNat f.den.toNat := Nat.gcd_pos_of_pos_right _ (by omega)
  generalize Nat.gcd f.num.toNat f.den.toNat = g at *
  obtain ⟨a, ha⟩ := g1
  obtain ⟨b, hb⟩ := g2
  have ha' : f.num = (g : Int) * a := by rw [← Int.toNat_of_nonneg hn, ha]; simp
  have hb' : f.den = (g : Int) * b := by rw [← Int.toNat_of_nonneg (show 0 ≤ f.den by omega), hb]; simp
  refine Classical.byContradiction fun hg => ?_
  have hg2 : 2 ≤ g := by omega
  have hb0 : 0 < b := by
    refine Nat.pos_of_ne_zero fun h0 => ?_
    subst h0
    simp at hb'
    omega
  refine h a b (by omega) (by omega) ?_ ?_
  · rw [hb']
    have : (2 : Int) * b ≤ g * b := Int.mul_le_mul_of_nonneg_right (by omega) (by omega)
    omega
  · rw [ha', hb']; grind
theorem IsLow.prim {x f : Frac} {m : Int} (h : IsLow x m f) : Prim f := prim_of_fst h.d1 h.n0 fun c e h0 h1 h2 h3 => by
  have a1 := h.d1
  have h4 : c * x.den ≤ x.num * e := by
    have h5 : (c * x.den) * f.den ≤ (x.num * e) * f.den := by
      have h6 : f.num * x.den * e ≤ x.num * f.den * e := Int.mul_le_mul_of_nonneg_right h.le (by omega)
      have e1 : (c * x.den) * f.den = f.num * x.den * e := by
        have : (c * x.den) * f.den = (c * f.den) * x.den := by grind
        rw [this, h3]; grind
      have e2 : (x.num * e) * f.den = x.num * f.den * e := by grind
      omega
    exact Int.le_of_mul_le_mul_right h5 (by omega)
  have := h.fst c e h1 h2 h4
  omega
theorem IsHigh.prim {x f : Frac} {m : Int} (h : IsHigh x m f) : Prim f := prim_of_fst h.d1 h.n0 fun c e h0 h1 h2 h3 => by
  have a1 := h.d1
  have h4 : x.num * e ≤ c * x.den := by
    have h5 : (x.num * e) * f.den ≤ (c * x.den) * f.den := by
      have h6 : x.num * f.den * e ≤ f.num * x.den * e := Int.mul_le_mul_of_nonneg_right h.le (by omega)
      have e1 : (c * x.den) * f.den = f.num * x.den * e := by
        have : (c * x.den) * f.den = (c * f.den) * x.den := by grind
        rw [this, h3]; grind
      have e2 : (x.num * e) * f.den = x.num * f.den * e := by grind
      omega
    exact Int.le_of_mul_le_mul_right h5 (by omega)
  have := h.fst c e h1 h2 h4
  omega
theorem prim_eq {x y : Frac} (hx : Prim x) (hy : Prim y) (hxn : 0 ≤ x.num) (hxd : 0 < x.den) (hyn : 0 ≤ y.num) (hyd : 0 < y.den) (h : x.num * y.den = y.num * x.den) : x = y := by
  have h1 := prim_dvd hx hxn hxd (c := y.num) (e := y.den) (by omega) h.symm
  have h2 := prim_dvd hy hyn hyd (c := x.num) (e := x.den) (by omega) h
  have hd : x.den = y.den := by omega
  rw [hd] at h
  exact Frac.ext' (Int.eq_of_mul_eq_mul_right (by omega) h) hd

/-! ### the nearest one -/
def iabs (a : Int) : Int := if -a > a then -a else a
def nearer (x f g : Frac) : Bool := decide (iabs (gapF x f) * g.den < iabs (gapF x g) * f.den)
def nearestOf (x : Frac) (m : Nat) : Frac := if nearer x (highN x m) (lowN x m) = true ∨ (nearer x (lowN x m) (highN x m) = false ∧ (highN x m).den < (lowN x m).den) then highN x m else lowN x m

theorem nearest_cases (x : Frac) (m : Nat) : (nearestOf x m = lowN x m ∨ nearestOf x m = highN x m) ∧ nearer x (lowN x m) (nearestOf x m) = false ∧ nearer x (highN x m) (nearestOf x m) = false := by
  have irr : ∀ f, nearer x f f = false := fun f => by simp [nearer]
  unfold nearestOf
  split
  · next h =>
    refine ⟨.inr rfl, ?_, irr _⟩
    rcases h with h | h
    · unfold nearer at h ⊢
      simp only [decide_eq_true_eq, decide_eq_false_iff_not] at h ⊢
      omega
    · exact h.1
  · next h =>
    refine ⟨.inl rfl, irr _, ?_⟩
    simp only [not_or] at h
    simpa using h.1

theorem iabs_of_nonneg {a : Int} (h : 0 ≤ a) : iabs a = a := by unfold iabs; rw [if_neg (by omega)]
theorem iabs_of_nonpos {a : Int} (h : a ≤ 0) : iabs a = -a := by unfold iabs; split <;> omega
theorem iabs_nonneg (a : Int) : 0 ≤ iabs a := by unfold iabs; split <;> omega

/-- no fraction up to the bound is nearer -/
theorem nearest_best {x : Frac} {m : Nat} (hp : 0 ≤ x.num) (hq : 0 < x.den) (hm : 0 < m) {f : Frac} (h1 : 1 ≤ f.den) (h2 : f.den ≤ m) : nearer x f (nearestOf x m) = false := by
  obtain ⟨hc, n1, n2⟩ := nearest_cases x m
  have hl := lowN_spec hp hq m hm
  have hh := highN_spec hp hq m hm
  have ad : 1 ≤ (nearestOf x m).den := by rcases hc with h | h <;> rw [h]; exact hl.d1; exact hh.d1
  generalize nearestOf x m = a at *
  unfold nearer at n1 n2 ⊢
  simp only [decide_eq_false_iff_not] at n1 n2 ⊢
  have l1 := hl.d1
  have g1 := hh.d1
  generalize lowN x m = lo at *
  generalize highN x m = hi at *
  have step : ∀ g : Frac, 1 ≤ g.den → ¬ iabs (gapF x g) * a.den < iabs (gapF x a) * g.den → iabs (gapF x g) * f.den ≤ iabs (gapF x f) * g.den → ¬ iabs (gapF x f) * a.den < iabs (gapF x a) * f.den := fun g h3 h4 h5 h6 => by
    have := le_of_step (a := iabs (gapF x a)) (b := a.den) (c := iabs (gapF x g)) (d := g.den) (e := iabs (gapF x f)) (f := f.den) (by omega) (by omega) (by omega) (by omega) h5
    omega
  by_cases hle : f.num * x.den ≤ x.num * f.den
  · refine step lo l1 n1 ?_
    have t := hl.top f.num f.den h1 h2 hle
    have a1 : gapF x lo ≤ 0 := by have := hl.le; simp only [gapF]; omega
    have a2 : gapF x f ≤ 0 := by simp only [gapF]; omega
    rw [iabs_of_nonpos a1, iabs_of_nonpos a2]
    have t2 : f.num * lo.den * x.den ≤ lo.num * f.den * x.den := Int.mul_le_mul_of_nonneg_right t (by omega)
    simp only [gapF]
    grind
  · refine step hi g1 n2 ?_
    have t := hh.top f.num f.den h1 h2 (by omega)
    have a1 : 0 ≤ gapF x hi := by have := hh.le; simp only [gapF]; omega
    have a2 : 0 ≤ gapF x f := by simp only [gapF]; omega
    rw [iabs_of_nonneg a1, iabs_of_nonneg a2]
    have t2 : hi.num * f.den * x.den ≤ f.num * hi.den * x.den := Int.mul_le_mul_of_nonneg_right t (by omega)
    simp only [gapF]
    grind

theorem nearest_facts {x : Frac} {m : Nat} (hp : 0 ≤ x.num) (hq : 0 < x.den) (hm : 0 < m) : 1 ≤ (nearestOf x m).den ∧ (nearestOf x m).den ≤ m ∧ 0 ≤ (nearestOf x m).num ∧ Prim (nearestOf x m) := by
  have hl := lowN_spec hp hq m hm
  have hh := highN_spec hp hq m hm
  rcases (nearest_cases x m).1 with h | h <;> rw [h]
  · exact ⟨hl.d1, hl.dm, hl.n0, hl.prim⟩
  · exact ⟨hh.d1, hh.dm, hh.n0, hh.prim⟩

/-- it is no farther than 1 by 2 times the bound -/
theorem nearest_half {x : Frac} {m : Nat} (hp : 0 ≤ x.num) (hq : 0 < x.den) (hm : 0 < m) : iabs (gapF x (nearestOf x m)) * 2 * m ≤ (nearestOf x m).den * x.den := by
  obtain ⟨k, hk⟩ : ∃ k : Int, 2 * iabs (k * x.den - x.num * m) ≤ x.den := by
    refine ⟨(2 * (x.num * m) + x.den) / (2 * x.den), ?_⟩
    have h1 := Int.ediv_mul_le (2 * (x.num * m) + x.den) (show 2 * x.den ≠ 0 by omega)
    have h2 := Int.lt_ediv_add_one_mul_self (2 * (x.num * m) + x.den) (show 0 < 2 * x.den by omega)
    generalize (2 * (x.num * m) + x.den) / (2 * x.den) = k at *
    have e1 : k * (2 * x.den) = 2 * (k * x.den) := by grind
    have e2 : (k + 1) * (2 * x.den) = 2 * (k * x.den) + 2 * x.den := by grind
    unfold iabs
    split <;> omega
  obtain ⟨d1, _, _, _⟩ := nearest_facts hp hq hm
  have h1 := nearest_best hp hq hm (f := ⟨k, m⟩) (by simp only; omega) (by simp only; omega)
  generalize nearestOf x m = a at *
  unfold nearer at h1
  simp only [decide_eq_false_iff_not] at h1
  have e : gapF x ⟨k, m⟩ = k * x.den - x.num * m := rfl
  rw [e] at h1
  have h2 : 2 * iabs (k * x.den - x.num * m) * a.den ≤ x.den * a.den := Int.mul_le_mul_of_nonneg_right hk (by omega)
  have e3 : 2 * iabs (k * x.den - x.num * m) * a.den = 2 * (iabs (k * x.den - x.num * m) * a.den) := by grind
  have e4 : iabs (gapF x a) * 2 * m = 2 * (iabs (gapF x a) * m) := by grind
  have e5 : a.den * x.den = x.den * a.den := by grind
  omega

end Go.Ev
