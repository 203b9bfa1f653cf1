/- Fractions and their neighbours, in plain mathematics: no program in sight. No condition. -/
set_option linter.unusedSimpArgs false
set_option linter.unusedVariables false
namespace Go.Ev

structure Frac where
  num : Int
  den : Int

theorem Frac.ext' {x y : Frac} (h1 : x.num = y.num) (h2 : x.den = y.den) : x = y := by
  cases x; cases y; simp_all

def gapF (x y : Frac) : Int := y.num * x.den - x.num * y.den

theorem mul_le {a b c : Int} (hc : 0 ≤ c) (h : a ≤ b) : c * a ≤ c * b := Int.mul_le_mul_of_nonneg_left h hc
theorem le_mul {a c : Int} (hc : 0 ≤ c) (h : 1 ≤ a) : c ≤ c * a := by have := mul_le hc h; omega

/-- between two neighbours there is none whose denominator is less than the sum of theirs -/
theorem between_den {a b c d p q : Int} (hb : 0 ≤ b) (hd : 0 ≤ d) (hdet : c * b - a * d = 1) (h1 : a * q < p * b) (h2 : p * d < c * q) : b + d ≤ q := by
  have e : q = b * (c * q - p * d) + d * (p * b - a * q) := by grind
  have h3 := le_mul hb (a := c * q - p * d) (by omega)
  have h4 := le_mul hd (a := p * b - a * q) (by omega)
  omega

/-- neighbours have nothing in common: what divides .. -/
theorem nb_dvd {a b c d n e : Int} (hdet : c * b - a * d = 1) (h : a * e = n * b) : ∃ k, e = b * k := ⟨c * e - n * d, by grind⟩
theorem nb_dvd' {a b c d n e : Int} (hdet : c * b - a * d = 1) (h : c * e = n * d) : ∃ k, e = d * k := ⟨n * b - a * e, by grind⟩

/-! ### the lower one, and the upper one, by trying all denominators -/
def downF (x : Frac) (d : Int) : Frac := ⟨x.num * d / x.den, d⟩
def upF (x : Frac) (d : Int) : Frac := if gapF (downF x d) x = 0 then downF x d else ⟨x.num * d / x.den + 1, d⟩
def lowN (x : Frac) : Nat → Frac
  | 0 => ⟨0, 0⟩
  | k + 1 => if k = 0 ∨ gapF (lowN x k) (downF x (k + 1)) > 0 then downF x (k + 1) else lowN x k
def highN (x : Frac) : Nat → Frac
  | 0 => ⟨0, 0⟩
  | k + 1 => if k = 0 ∨ gapF (highN x k) (upF x (k + 1)) < 0 then upF x (k + 1) else highN x k

/-- a fraction up to a bound, not above x, such that none of them is greater, and none with a lesser denominator is as great -/
structure IsLow (x : Frac) (m : Int) (f : Frac) : Prop where
  d1 : 1 ≤ f.den
  dm : f.den ≤ m
  n0 : 0 ≤ f.num
  le : f.num * x.den ≤ x.num * f.den
  top : ∀ c e : Int, 1 ≤ e → e ≤ m → c * x.den ≤ x.num * e → c * f.den ≤ f.num * e
  fst : ∀ c e : Int, 1 ≤ e → e < f.den → c * x.den ≤ x.num * e → c * f.den < f.num * e
structure IsHigh (x : Frac) (m : Int) (f : Frac) : Prop where
  d1 : 1 ≤ f.den
  dm : f.den ≤ m
  n0 : 0 ≤ f.num
  le : x.num * f.den ≤ f.num * x.den
  top : ∀ c e : Int, 1 ≤ e → e ≤ m → x.num * e ≤ c * x.den → f.num * e ≤ c * f.den
  fst : ∀ c e : Int, 1 ≤ e → e < f.den → x.num * e ≤ c * x.den → f.num * e < c * f.den

theorem down_le {x : Frac} (hq : 0 < x.den) (d : Int) : (downF x d).num * x.den ≤ x.num * d := by
  rw [downF, Int.mul_comm]
  exact Int.mul_ediv_self_le (by omega)
theorem down_top {x : Frac} (hq : 0 < x.den) {d c : Int} (h : c * x.den ≤ x.num * d) : c ≤ (downF x d).num := by
  rw [downF]
  exact (Int.le_ediv_iff_mul_le hq).2 h
theorem up_le {x : Frac} (hq : 0 < x.den) (d : Int) : x.num * d ≤ (upF x d).num * x.den ∧ (upF x d).den = d := by
  unfold upF
  split
  · next h =>
    simp only [gapF, downF] at h ⊢
    exact ⟨by omega, trivial⟩
  · refine ⟨?_, rfl⟩
    have := Int.lt_ediv_add_one_mul_self (x.num * d) hq
    simp only
    omega
theorem up_top {x : Frac} (hq : 0 < x.den) {d c : Int} (h : x.num * d ≤ c * x.den) : (upF x d).num ≤ c := by
  unfold upF
  have h1 := down_le hq d
  split
  · next h2 =>
    simp only [gapF, downF] at h2 h1 ⊢
    have : x.num * d / x.den * x.den ≤ c * x.den := by omega
    exact Int.le_of_mul_le_mul_right this hq
  · next h2 =>
    simp only [gapF, downF] at h2 h1 ⊢
    have : x.num * d / x.den * x.den < c * x.den := by omega
    have := Int.lt_of_mul_lt_mul_right this (by omega)
    omega

theorem lt_of_step {a b c d e f : Int} (hb : 0 < b) (hd : 0 < d) (hf : 0 < f) (h1 : a * d ≤ c * b) (h2 : c * f < e * d) : a * f < e * b := by
  -- a/b ≤ c/d < e/f
  have h3 : a * d * f ≤ c * b * f := Int.mul_le_mul_of_nonneg_right h1 (by omega)
  have h4 : c * f * b < e * d * b := Int.mul_lt_mul_of_pos_right h2 hb
  have h5 : (a * f) * d < (e * b) * d := by grind
  exact Int.lt_of_mul_lt_mul_right h5 (by omega)
theorem le_of_step {a b c d e f : Int} (hb : 0 < b) (hd : 0 < d) (hf : 0 < f) (h1 : a * d ≤ c * b) (h2 : c * f ≤ e * d) : a * f ≤ e * b := by
  have h3 : a * d * f ≤ c * b * f := Int.mul_le_mul_of_nonneg_right h1 (by omega)
  have h4 : c * f * b ≤ e * d * b := Int.mul_le_mul_of_nonneg_right h2 (by omega)
  have h5 : (a * f) * d ≤ (e * b) * d := by grind
  exact Int.le_of_mul_le_mul_right h5 hd

theorem lowN_den (x : Frac) : ∀ k : Nat, 0 < k → 1 ≤ (lowN x k).den ∧ (lowN x k).den ≤ k
  | 0, h => by omega
  | k + 1, _ => by
    rw [lowN]
    split
    · simp only [downF]; omega
    · next h =>
      have := lowN_den x k (by omega)
      omega

theorem lowN_spec {x : Frac} (hp : 0 ≤ x.num) (hq : 0 < x.den) : ∀ k : Nat, 0 < k → IsLow x k (lowN x k)
  | 0, h => by omega
  | k + 1, _ => by
    have hdl := down_le hq (k + 1 : Int)
    have hdn : 0 ≤ (downF x (k + 1)).num := Int.ediv_nonneg (Int.mul_nonneg hp (by omega)) (by omega)
    have hdd : (downF x (k + 1)).den = k + 1 := rfl
    have hdt : ∀ c : Int, c * x.den ≤ x.num * (k + 1) → c ≤ (downF x (k + 1)).num := fun c h => down_top hq h
    have hd0 := lowN_den x (k + 1) (by omega)
    rw [lowN] at hd0 ⊢
    by_cases hk : k = 0
    · subst hk
      rw [if_pos (.inl rfl)]
      refine ⟨by rw [hdd]; omega, by rw [hdd]; omega, hdn, by rw [hdd]; exact hdl, fun c e h1 h2 h3 => ?_, fun c e h1 h2 _ => ?_⟩
      · obtain rfl : e = 1 := by simp at h2; omega
        rw [hdd]
        have := hdt c (by simpa using h3)
        simp at this ⊢
        exact this
      · rw [hdd] at h2; omega
    · have ih := lowN_spec hp hq k (by omega)
      generalize downF x (k + 1) = f at *
      by_cases hg : gapF (lowN x k) f > 0
      · rw [if_pos (.inr hg)]
        simp only [gapF] at hg
        generalize lowN x k = g at *
        have i1 := ih.d1
        refine ⟨by omega, by rw [hdd]; simp, hdn, by rw [hdd]; exact hdl, fun c e h1 h2 h3 => ?_, fun c e h1 h2 h3 => ?_⟩
        · by_cases he : e = k + 1
          · subst he
            have := hdt c h3
            rw [hdd]
            exact Int.mul_le_mul_of_nonneg_right this (by omega)
          · have := ih.top c e h1 (by simp at h2; omega) h3
            exact Int.le_of_lt (lt_of_step (by omega) (by omega) (by omega) this (by omega))
        · rw [hdd] at h2
          have := ih.top c e h1 (by omega) h3
          exact lt_of_step (by omega) (by omega) (by omega) this (by omega)
      · rw [if_neg (by omega)] at hd0 ⊢
        simp only [gapF] at hg
        generalize lowN x k = g at *
        have i1 := ih.d1
        refine ⟨ih.d1, by have := ih.dm; simp; omega, ih.n0, ih.le, fun c e h1 h2 h3 => ?_, ih.fst⟩
        by_cases he : e = k + 1
        · subst he
          have h4 := hdt c h3
          have h5 : c * g.den ≤ f.num * g.den := Int.mul_le_mul_of_nonneg_right h4 (by omega)
          rw [hdd] at hg
          omega
        · exact ih.top c e h1 (by simp at h2; omega) h3

theorem highN_den (x : Frac) (hq : 0 < x.den) : ∀ k : Nat, 0 < k → 1 ≤ (highN x k).den ∧ (highN x k).den ≤ k
  | 0, h => by omega
  | k + 1, _ => by
    have h1 := (up_le hq (k + 1 : Int)).2
    rw [highN]
    split
    · omega
    · next h =>
      have := highN_den x hq k (by omega)
      omega

theorem highN_spec {x : Frac} (hp : 0 ≤ x.num) (hq : 0 < x.den) : ∀ k : Nat, 0 < k → IsHigh x k (highN x k)
  | 0, h => by omega
  | k + 1, _ => by
    obtain ⟨hdl, hdd⟩ := up_le hq (k + 1 : Int)
    have hdt : ∀ c : Int, x.num * (k + 1) ≤ c * x.den → (upF x (k + 1)).num ≤ c := fun c h => up_top hq h
    have hdn : 0 ≤ (upF x (k + 1)).num := by
      refine Classical.byContradiction fun hlt => ?_
      have h1 := Int.mul_nonneg hp (show (0 : Int) ≤ k + 1 by omega)
      have h2 : (upF x (k + 1)).num * x.den ≤ (-1) * x.den := Int.mul_le_mul_of_nonneg_right (by omega) (by omega)
      omega
    have hd0 := highN_den x hq (k + 1) (by omega)
    rw [highN] at hd0 ⊢
    by_cases hk : k = 0
    · subst hk
      rw [if_pos (.inl rfl)]
      refine ⟨by rw [hdd]; omega, by rw [hdd]; omega, hdn, by rw [hdd]; exact hdl, fun c e h1 h2 h3 => ?_, fun c e h1 h2 _ => ?_⟩
      · obtain rfl : e = 1 := by simp at h2; omega
        rw [hdd]
        have := hdt c (by simpa using h3)
        simp at this ⊢
        exact this
      · rw [hdd] at h2; omega
    · have ih := highN_spec hp hq k (by omega)
      generalize upF x (k + 1) = f at *
      by_cases hg : gapF (highN x k) f < 0
      · rw [if_pos (.inr hg)]
        simp only [gapF] at hg
        generalize highN x k = g at *
        have i1 := ih.d1
        refine ⟨by omega, by rw [hdd]; simp, hdn, by rw [hdd]; exact hdl, fun c e h1 h2 h3 => ?_, fun c e h1 h2 h3 => ?_⟩
        · by_cases he : e = k + 1
          · subst he
            have := hdt c h3
            rw [hdd]
            exact Int.mul_le_mul_of_nonneg_right this (by omega)
          · have := ih.top c e h1 (by simp at h2; omega) h3
            have h6 : f.num * g.den < g.num * f.den := by omega
            have := lt_of_step (a := -c) (b := e) (c := -g.num) (d := g.den) (e := -f.num) (f := f.den) (by omega) (by omega) (by omega) (by grind) (by grind)
            grind
        · rw [hdd] at h2
          have := ih.top c e h1 (by omega) h3
          have h6 : f.num * g.den < g.num * f.den := by omega
          have := lt_of_step (a := -c) (b := e) (c := -g.num) (d := g.den) (e := -f.num) (f := f.den) (by omega) (by omega) (by omega) (by grind) (by grind)
          grind
      · rw [if_neg (by omega)] at hd0 ⊢
        simp only [gapF] at hg
        generalize highN x k = g at *
        have i1 := ih.d1
        refine ⟨ih.d1, by have := ih.dm; simp; omega, ih.n0, ih.le, fun c e h1 h2 h3 => ?_, ih.fst⟩
        by_cases he : e = k + 1
        · subst he
          have h4 := hdt c h3
          have h5 : f.num * g.den ≤ c * g.den := Int.mul_le_mul_of_nonneg_right h4 (by omega)
          rw [hdd] at hg
          omega
        · exact ih.top c e h1 (by simp at h2; omega) h3

/-! ### there is one -/
theorem low_uniq {x f g : Frac} {m : Int} (hf : IsLow x m f) (hg : IsLow x m g) : f = g := by
  have f1 := hf.d1
  have g1 := hg.d1
  have h1 := hg.top f.num f.den hf.d1 hf.dm hf.le
  have h2 := hf.top g.num g.den hg.d1 hg.dm hg.le
  have hd : f.den = g.den := by
    rcases Int.lt_trichotomy f.den g.den with h | h | h
    · have := hg.fst f.num f.den hf.d1 h hf.le
      omega
    · exact h
    · have := hf.fst g.num g.den hg.d1 h hg.le
      omega
  rw [hd] at h1 h2
  exact Frac.ext' (Int.le_antisymm (Int.le_of_mul_le_mul_right h1 (by omega)) (Int.le_of_mul_le_mul_right h2 (by omega))) hd
theorem high_uniq {x f g : Frac} {m : Int} (hf : IsHigh x m f) (hg : IsHigh x m g) : f = g := by
  have f1 := hf.d1
  have g1 := hg.d1
  have h1 := hg.top f.num f.den hf.d1 hf.dm hf.le
  have h2 := hf.top g.num g.den hg.d1 hg.dm hg.le
  have hd : f.den = g.den := by
    rcases Int.lt_trichotomy f.den g.den with h | h | h
    · have := hg.fst f.num f.den hf.d1 h hf.le
      omega
    · exact h
    · have := hf.fst g.num g.den hg.d1 h hg.le
      omega
  rw [hd] at h1 h2
  exact Frac.ext' (Int.le_antisymm (Int.le_of_mul_le_mul_right h2 (by omega)) (Int.le_of_mul_le_mul_right h1 (by omega))) hd

/-- x itself, if it is up to the bound -/
def Prim (x : Frac) : Prop := Nat.gcd x.num.toNat x.den.toNat = 1
theorem prim_dvd {x : Frac} (hx : Prim x) (hp : 0 ≤ x.num) (hq : 0 < x.den) {c e : Int} (he : 1 ≤ e) (h : c * x.den = x.num * e) : x.den ≤ e := by
  obtain ⟨p, hp'⟩ := Int.eq_ofNat_of_zero_le hp
  obtain ⟨q, hq'⟩ := Int.eq_ofNat_of_zero_le (show 0 ≤ x.den by omega)
  obtain ⟨k, rfl⟩ := Int.eq_ofNat_of_zero_le (show 0 ≤ e by omega)
  have hc : 0 ≤ c := by
    refine Classical.byContradiction fun hlt => ?_
    have h1 : c * x.den ≤ (-1) * x.den := Int.mul_le_mul_of_nonneg_right (by omega) (by omega)
    have h2 : 0 ≤ x.num * k := Int.mul_nonneg hp (by omega)
    omega
  obtain ⟨n, rfl⟩ := Int.eq_ofNat_of_zero_le hc
  unfold Prim at hx
  rw [hp', hq'] at hx h
  rw [hq']
  simp only [Int.toNat_natCast] at hx
  have h2 : n * q = p * k := by exact_mod_cast h
  have h3 : q ∣ p * k := ⟨n, by rw [← h2, Nat.mul_comm]⟩
  have h4 : q ∣ k := Nat.Coprime.dvd_of_dvd_mul_left (Nat.Coprime.symm hx) h3
  have h5 := Nat.le_of_dvd (by omega) h4
  omega
theorem self_low {x : Frac} {m : Int} (hx : Prim x) (hp : 0 ≤ x.num) (hq : 0 < x.den) (hm : x.den ≤ m) : IsLow x m x :=
  ⟨by omega, hm, hp, Int.le_refl _, fun c e _ _ h => h, fun c e h1 h2 h3 => by
    rcases Int.lt_or_eq_of_le h3 with h | h
    · exact h
    · have := prim_dvd hx hp hq h1 h
      omega⟩
theorem self_high {x : Frac} {m : Int} (hx : Prim x) (hp : 0 ≤ x.num) (hq : 0 < x.den) (hm : x.den ≤ m) : IsHigh x m x :=
  ⟨by omega, hm, hp, Int.le_refl _, fun c e _ _ h => h, fun c e h1 h2 h3 => by
    rcases Int.lt_or_eq_of_le h3 with h | h
    · exact h
    · have := prim_dvd hx hp hq h1 h.symm
      omega⟩

/-- neighbours with x strictly between them -/
structure Nb (x : Frac) (m : Int) (lo hi : Frac) : Prop where
  l1 : 1 ≤ lo.den
  lm : lo.den ≤ m
  h1 : 1 ≤ hi.den
  hm : hi.den ≤ m
  n0 : 0 ≤ lo.num
  det : hi.num * lo.den - lo.num * hi.den = 1
  sum : m < lo.den + hi.den
  lt1 : lo.num * x.den < x.num * lo.den
  lt2 : x.num * hi.den < hi.num * x.den

theorem Nb.low {x lo hi : Frac} {m : Int} (h : Nb x m lo hi) (hq : 0 < x.den) : IsLow x m lo := by
  have a1 := h.l1
  have a2 := h.h1
  have a3 := h.sum
  have top : ∀ c e : Int, 1 ≤ e → e ≤ m → c * x.den ≤ x.num * e → c * lo.den ≤ lo.num * e := fun c e h1 h2 h3 => by
    refine Classical.byContradiction fun hlt => ?_
    have h4 : c * hi.den < hi.num * e := lt_of_step (b := e) (d := x.den) (f := hi.den) (by omega) hq (by omega) h3 h.lt2
    have := between_den (a := lo.num) (b := lo.den) (c := hi.num) (d := hi.den) (p := c) (q := e) (by omega) (by omega) h.det (by omega) h4
    omega
  refine ⟨h.l1, h.lm, h.n0, Int.le_of_lt h.lt1, top, fun c e h1 h2 h3 => ?_⟩
  have h4 := top c e h1 (by have := h.lm; omega) h3
  rcases Int.lt_or_eq_of_le h4 with h5 | h5
  · exact h5
  · obtain ⟨k, hk⟩ := nb_dvd h.det h5.symm
    exfalso
    have : 1 ≤ k := by
      refine Classical.byContradiction fun hlt => ?_
      have h6 : lo.den * k ≤ lo.den * 0 := mul_le (by omega) (by omega)
      omega
    have := le_mul (c := lo.den) (by omega) this
    omega
theorem Nb.high {x lo hi : Frac} {m : Int} (h : Nb x m lo hi) (hq : 0 < x.den) (hp : 0 ≤ x.num) : IsHigh x m hi := by
  have a1 := h.l1
  have a2 := h.h1
  have a3 := h.sum
  have top : ∀ c e : Int, 1 ≤ e → e ≤ m → x.num * e ≤ c * x.den → hi.num * e ≤ c * hi.den := fun c e h1 h2 h3 => by
    refine Classical.byContradiction fun hlt => ?_
    have h4 : lo.num * e < c * lo.den := by
      have := lt_of_step (a := -c) (b := e) (c := -x.num) (d := x.den) (e := -lo.num) (f := lo.den) (by omega) hq (by omega) (by grind) (by have := h.lt1; grind)
      grind
    have := between_den (a := lo.num) (b := lo.den) (c := hi.num) (d := hi.den) (p := c) (q := e) (by omega) (by omega) h.det h4 (by omega)
    omega
  have n0 : 0 ≤ hi.num := by
    refine Classical.byContradiction fun hlt => ?_
    have h6 : hi.num * x.den ≤ (-1) * x.den := Int.mul_le_mul_of_nonneg_right (by omega) (by omega)
    have h7 := Int.mul_nonneg hp (show 0 ≤ hi.den by omega)
    have := h.lt2
    omega
  refine ⟨h.h1, h.hm, n0, Int.le_of_lt h.lt2, top, fun c e h1 h2 h3 => ?_⟩
  have h4 := top c e h1 (by have := h.hm; omega) h3
  rcases Int.lt_or_eq_of_le h4 with h5 | h5
  · exact h5
  · obtain ⟨k, hk⟩ := nb_dvd' h.det h5
    exfalso
    have : 1 ≤ k := by
      refine Classical.byContradiction fun hlt => ?_
      have h6 : hi.den * k ≤ hi.den * 0 := mul_le (by omega) (by omega)
      omega
    have := le_mul (c := hi.den) (by omega) this
    omega

/-- what is next to x is what trying all denominators finds -/
theorem beside_eq {x lo hi : Frac} {m : Nat} (hm : 0 < m) (hx : Prim x) (hp : 0 ≤ x.num) (hq : 0 < x.den) (h : (x.den ≤ m ∧ lo = x ∧ hi = x) ∨ Nb x m lo hi) : lo = lowN x m ∧ hi = highN x m := by
  have h1 := lowN_spec hp hq m hm
  have h2 := highN_spec hp hq m hm
  rcases h with ⟨h, rfl, rfl⟩ | h
  · exact ⟨low_uniq (self_low hx hp hq h) h1, high_uniq (self_high hx hp hq h) h2⟩
  · exact ⟨low_uniq (h.low hq) h1, high_uniq (h.high hq hp) h2⟩

end Go.Ev
