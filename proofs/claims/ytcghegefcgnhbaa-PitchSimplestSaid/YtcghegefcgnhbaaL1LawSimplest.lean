/- PitchSimplest returns true. -/
import Derived.Test.YtcghegefcgnhbaaL1Simp
import Derived.Test.YtcghegefcgnhbaaL1Fine
set_option linter.unusedSimpArgs false
set_option linter.unusedVariables false
namespace Go.Ev.YtcghegefcgnhbaaC
open Go Go.Proofs

theorem gap_flip (x y : Frac) : gapF y x = -gapF x y := by simp only [gapF]; omega
theorem simp_prim {p q s : Frac} (h : SimpF p q s) (hp : 0 < p.den) (hq : 0 < q.den) : Prim s := by
  have h1 := h.d1
  have h2 := h.n0
  have h3 := h.ge
  have h4 := h.le
  obtain ⟨a, ha⟩ := Int.eq_ofNat_of_zero_le h2
  obtain ⟨b, hb⟩ := Int.eq_ofNat_of_zero_le (show 0 ≤ s.den by omega)
  unfold Prim
  rw [ha, hb, Int.toNat_natCast, Int.toNat_natCast]
  have hg0 : 0 < Nat.gcd a b := Nat.gcd_pos_of_pos_right _ (by omega)
  obtain ⟨c, hc⟩ := Nat.gcd_dvd_left a b
  obtain ⟨d, hd⟩ := Nat.gcd_dvd_right a b
  generalize Nat.gcd a b = g at hg0 hc hd
  have hd1 : 1 ≤ d := by
    refine Nat.pos_of_ne_zero fun h0 => ?_
    rw [h0, Nat.mul_zero] at hd
    omega
  have e1 : (a : Int) = (g : Int) * c := by rw [hc]; simp
  have e2 : (b : Int) = (g : Int) * d := by rw [hd]; simp
  rw [ha, hb, e1, e2] at h3 h4
  have hgp : (0 : Int) < g := by omega
  have u1 : p.num * d ≤ c * p.den := by
    refine Int.le_of_mul_le_mul_left (a := (g : Int)) ?_ hgp
    calc (g : Int) * (p.num * d) = p.num * (g * d) := by grind
      _ ≤ g * c * p.den := h3
      _ = g * (c * p.den) := by grind
  have u2 : c * q.den ≤ q.num * d := by
    refine Int.le_of_mul_le_mul_left (a := (g : Int)) ?_ hgp
    calc (g : Int) * (c * q.den) = g * c * q.den := by grind
      _ ≤ q.num * (g * d) := h4
      _ = g * (q.num * d) := by grind
  have h5 := (h.min c d (by omega) u1 u2).1
  rw [hb] at h5
  have h6 : g * d ≤ 1 * d := by omega
  have := Nat.le_of_mul_le_mul_right h6 (by omega)
  omega

structure SimpOk (p q s : Frac) : Prop where
  sf : SimpF p q s
  up : FracUp s 10000
  nb : NB s
  ge : 0 ≤ gapF p s
  le : 0 ≤ gapF s q
  an : smpl p q = (s, 0)
  eq : p = q → s = p
  back : p ≠ q → smpl q p = (zeroF, 2)
theorem simp_ok {p q : Frac} (op : OkI p) (oq : OkI q) (h : 0 ≤ gapF p q) : SimpOk p q (simpOf p q) := by
  have p1 := op.d1; have p2 := op.d2; have p3 := op.n1; have p4 := op.n2
  have q1 := oq.d1; have q2 := oq.d2; have q3 := oq.n1; have q4 := oq.n2
  have hle : p.num * q.den ≤ q.num * p.den := by simp only [gapF] at h; omega
  have hs := simpOf_spec (lo := p) (hi := q) (by omega) (by omega) (by omega) hle
  have hm := hs.min p.num p.den (by omega) (Int.le_refl _) hle
  have h1 := hs.d1
  have h2 := hs.n0
  have h3 := hs.ge
  have h4 := hs.le
  have hpr := simp_prim hs (by omega) (by omega)
  have he : openErr [p, q] = 0 := (open_two_zero p q).2 ⟨op, oq⟩
  have he2 : openErr [q, p] = 0 := (open_two_zero q p).2 ⟨oq, op⟩
  refine ⟨hs, ⟨h2, by omega, h1, by omega, hpr⟩, ⟨by unfold BF Bn; omega, by omega, by omega⟩, by simp only [gapF]; omega, by simp only [gapF]; omega, ?_, ?_, ?_⟩
  · unfold smpl
    rw [if_neg (by omega), if_neg (by omega)]
  · rintro rfl
    exact (prim_eq op.pr hpr (by omega) (by omega) h2 (by omega) (by omega)).symm
  · intro hne
    have hf := gap_flip p q
    have h0 : gapF p q ≠ 0 := fun h0 => hne (prim_eq op.pr oq.pr (by omega) (by omega) (by omega) (by omega) (by simp only [gapF] at h0; omega))
    unfold smpl
    rw [if_neg (by omega), if_pos (by omega)]

attribute [local irreducible] Res.all evC evLoop evOps evOper evOp evFn evCall freeze G GO GV GP GC R
set_option maxRecDepth 100000

set_option maxHeartbeats 4000000 in
theorem pitchSimplest_at (n0 : Nat) (hn : n0 = 20000) (x y : Frac) (num den : Int) (_ : RWf x) (_ : RWf y) (hnum : (Lit.int .u16 num).wf = true) (hden : (Lit.int .u16 den).wf = true) :
    (evFn (evCall T n0) c11 [rAV x, rAV y, .int .u16 num, .int .u16 den] []).all fun p => p.1 = .bool true := by
  rw [m_fn]
  obtain ⟨n1, n2⟩ := u16_bounds hnum
  obtain ⟨d1, d2⟩ := u16_bounds hden
  have nf : (¬ False) = True := not_false_eq_true
  by_cases hx : chkI x = 0
  case neg =>
    have hx' : (chkI x == 0) = false := by simp [hx]
    simp (disch := first | assumption | omega) only [c11, go_sem, ↓reduceIte, reduceIte, Nat.reduceEqDiff, Nat.reduceAdd, Nat.reduceMul, reduceCtorEq, Nat.reduceDiv, Nat.reduceLeDiff, Nat.reduceLT, Nat.reduceSub, cs_fine, hx', cs_Works]
  have hx' : (chkI x == 0) = true := by simp [hx]
  by_cases hy : chkI y = 0
  case neg =>
    have hy' : (chkI y == 0) = false := by simp [hy]
    simp (disch := first | assumption | omega) only [c11, go_sem, ↓reduceIte, reduceIte, Nat.reduceEqDiff, Nat.reduceAdd, Nat.reduceMul, reduceCtorEq, Nat.reduceDiv, Nat.reduceLeDiff, Nat.reduceLT, Nat.reduceSub, cs_fine, hx', hy', cs_Works]
  have hy' : (chkI y == 0) = true := by simp [hy]
  have ox := (chkI_zero x).1 hx
  have oy := (chkI_zero y).1 hy
  have bx := ox.bf
  have by' := oy.bf
  have hflip := gap_flip x y
  by_cases hg : gapF x y < 0
  · have hgr := hg
    have ok := simp_ok (p := y) (q := x) oy ox (by omega)
    obtain ⟨S, hS⟩ : ∃ S, simpOf y x = S := ⟨_, rfl⟩
    rw [hS] at ok
    obtain ⟨sf, up, nb, ge, le, an, eq, back⟩ := ok
    have bS := nb.1
    have s1 := up.d1
    have s2 := up.d2
    have r1 := Int.emod_nonneg den (show S.den ≠ 0 by omega)
    have r2 := Int.emod_lt_of_pos den (show 0 < S.den by omega)
    obtain ⟨F, hf1, hf2⟩ : ∃ F : Frac, num = F.num ∧ 1 + den % S.den = F.den := ⟨⟨_, _⟩, rfl, rfl⟩
    have bF : BF F := by unfold BF Bn; omega
    have hmin : gapF y F ≥ 0 → gapF F x ≥ 0 → S.den ≤ F.den ∧ S.num ≤ F.num := fun k1 k2 => sf.min F.num F.den (by omega) (by simp only [gapF] at k1; omega) (by simp only [gapF] at k2; omega)
    have g1 : ¬ gapF y S < 0 := by omega
    have g2 : ¬ gapF S x < 0 := by omega
    have zz : ((2 : Int) == 2) = true := rfl
    by_cases hPQ : y = x
    · have hSP := eq hPQ
      have dPQ : decide (y = x) = true := decide_eq_true hPQ
      have dSP : decide (S = y) = true := decide_eq_true hSP
      by_cases k1 : gapF y F ≥ 0
      · by_cases k2 : gapF F x ≥ 0
        · obtain ⟨m1, m2⟩ := hmin k1 k2
          have m3 : ¬ F.den < S.den := by omega
          have m4 : ¬ F.num < S.num := by omega
          simp (disch := first | assumption | omega) only [c11, go_sem, ↓reduceIte, reduceIte, Nat.reduceEqDiff, Nat.reduceAdd, Nat.reduceMul, reduceCtorEq, Nat.reduceDiv, Nat.reduceLeDiff, Nat.reduceLT, Nat.reduceSub, cs_fine, hx', hy', nf, Bool.and_self, Nat.zero_add, cs_GapOf, hg, cs_Simplest, an, bne_self_eq_false, cs_isFraction, g1, g2, b_remI, hf1, hf2, cs_by F, eaA_rat, cs_Works, beq_self_eq_true, k1, k2, m3, m4, dPQ, dSP]
        · simp (disch := first | assumption | omega) only [c11, go_sem, ↓reduceIte, reduceIte, Nat.reduceEqDiff, Nat.reduceAdd, Nat.reduceMul, reduceCtorEq, Nat.reduceDiv, Nat.reduceLeDiff, Nat.reduceLT, Nat.reduceSub, cs_fine, hx', hy', nf, Bool.and_self, Nat.zero_add, cs_GapOf, hg, cs_Simplest, an, bne_self_eq_false, cs_isFraction, g1, g2, b_remI, hf1, hf2, cs_by F, eaA_rat, cs_Works, beq_self_eq_true, k1, k2, dPQ, dSP]
      · simp (disch := first | assumption | omega) only [c11, go_sem, ↓reduceIte, reduceIte, Nat.reduceEqDiff, Nat.reduceAdd, Nat.reduceMul, reduceCtorEq, Nat.reduceDiv, Nat.reduceLeDiff, Nat.reduceLT, Nat.reduceSub, cs_fine, hx', hy', nf, Bool.and_self, Nat.zero_add, cs_GapOf, hg, cs_Simplest, an, bne_self_eq_false, cs_isFraction, g1, g2, b_remI, hf1, hf2, cs_by F, eaA_rat, cs_Works, beq_self_eq_true, k1, dPQ, dSP]
    · have hb := back hPQ
      have dPQ : decide (y = x) = false := decide_eq_false hPQ
      by_cases k1 : gapF y F ≥ 0
      · by_cases k2 : gapF F x ≥ 0
        · obtain ⟨m1, m2⟩ := hmin k1 k2
          have m3 : ¬ F.den < S.den := by omega
          have m4 : ¬ F.num < S.num := by omega
          simp (disch := first | assumption | omega) only [c11, go_sem, ↓reduceIte, reduceIte, Nat.reduceEqDiff, Nat.reduceAdd, Nat.reduceMul, reduceCtorEq, Nat.reduceDiv, Nat.reduceLeDiff, Nat.reduceLT, Nat.reduceSub, cs_fine, hx', hy', nf, Bool.and_self, Nat.zero_add, cs_GapOf, hg, cs_Simplest, an, bne_self_eq_false, cs_isFraction, g1, g2, b_remI, hf1, hf2, cs_by F, eaA_rat, cs_Works, beq_self_eq_true, k1, k2, m3, m4, dPQ, hb, zz]
        · simp (disch := first | assumption | omega) only [c11, go_sem, ↓reduceIte, reduceIte, Nat.reduceEqDiff, Nat.reduceAdd, Nat.reduceMul, reduceCtorEq, Nat.reduceDiv, Nat.reduceLeDiff, Nat.reduceLT, Nat.reduceSub, cs_fine, hx', hy', nf, Bool.and_self, Nat.zero_add, cs_GapOf, hg, cs_Simplest, an, bne_self_eq_false, cs_isFraction, g1, g2, b_remI, hf1, hf2, cs_by F, eaA_rat, cs_Works, beq_self_eq_true, k1, k2, dPQ, hb, zz]
      · simp (disch := first | assumption | omega) only [c11, go_sem, ↓reduceIte, reduceIte, Nat.reduceEqDiff, Nat.reduceAdd, Nat.reduceMul, reduceCtorEq, Nat.reduceDiv, Nat.reduceLeDiff, Nat.reduceLT, Nat.reduceSub, cs_fine, hx', hy', nf, Bool.and_self, Nat.zero_add, cs_GapOf, hg, cs_Simplest, an, bne_self_eq_false, cs_isFraction, g1, g2, b_remI, hf1, hf2, cs_by F, eaA_rat, cs_Works, beq_self_eq_true, k1, dPQ, hb, zz]
  · have hgr := hg
    have ok := simp_ok (p := x) (q := y) ox oy (by omega)
    obtain ⟨S, hS⟩ : ∃ S, simpOf x y = S := ⟨_, rfl⟩
    rw [hS] at ok
    obtain ⟨sf, up, nb, ge, le, an, eq, back⟩ := ok
    have bS := nb.1
    have s1 := up.d1
    have s2 := up.d2
    have r1 := Int.emod_nonneg den (show S.den ≠ 0 by omega)
    have r2 := Int.emod_lt_of_pos den (show 0 < S.den by omega)
    obtain ⟨F, hf1, hf2⟩ : ∃ F : Frac, num = F.num ∧ 1 + den % S.den = F.den := ⟨⟨_, _⟩, rfl, rfl⟩
    have bF : BF F := by unfold BF Bn; omega
    have hmin : gapF x F ≥ 0 → gapF F y ≥ 0 → S.den ≤ F.den ∧ S.num ≤ F.num := fun k1 k2 => sf.min F.num F.den (by omega) (by simp only [gapF] at k1; omega) (by simp only [gapF] at k2; omega)
    have g1 : ¬ gapF x S < 0 := by omega
    have g2 : ¬ gapF S y < 0 := by omega
    have zz : ((2 : Int) == 2) = true := rfl
    by_cases hPQ : x = y
    · have hSP := eq hPQ
      have dPQ : decide (x = y) = true := decide_eq_true hPQ
      have dSP : decide (S = x) = true := decide_eq_true hSP
      by_cases k1 : gapF x F ≥ 0
      · by_cases k2 : gapF F y ≥ 0
        · obtain ⟨m1, m2⟩ := hmin k1 k2
          have m3 : ¬ F.den < S.den := by omega
          have m4 : ¬ F.num < S.num := by omega
          simp (disch := first | assumption | omega) only [c11, go_sem, ↓reduceIte, reduceIte, Nat.reduceEqDiff, Nat.reduceAdd, Nat.reduceMul, reduceCtorEq, Nat.reduceDiv, Nat.reduceLeDiff, Nat.reduceLT, Nat.reduceSub, cs_fine, hx', hy', nf, Bool.and_self, Nat.zero_add, cs_GapOf, hg, cs_Simplest, an, bne_self_eq_false, cs_isFraction, g1, g2, b_remI, hf1, hf2, cs_by F, eaA_rat, cs_Works, beq_self_eq_true, k1, k2, m3, m4, dPQ, dSP]
        · simp (disch := first | assumption | omega) only [c11, go_sem, ↓reduceIte, reduceIte, Nat.reduceEqDiff, Nat.reduceAdd, Nat.reduceMul, reduceCtorEq, Nat.reduceDiv, Nat.reduceLeDiff, Nat.reduceLT, Nat.reduceSub, cs_fine, hx', hy', nf, Bool.and_self, Nat.zero_add, cs_GapOf, hg, cs_Simplest, an, bne_self_eq_false, cs_isFraction, g1, g2, b_remI, hf1, hf2, cs_by F, eaA_rat, cs_Works, beq_self_eq_true, k1, k2, dPQ, dSP]
      · simp (disch := first | assumption | omega) only [c11, go_sem, ↓reduceIte, reduceIte, Nat.reduceEqDiff, Nat.reduceAdd, Nat.reduceMul, reduceCtorEq, Nat.reduceDiv, Nat.reduceLeDiff, Nat.reduceLT, Nat.reduceSub, cs_fine, hx', hy', nf, Bool.and_self, Nat.zero_add, cs_GapOf, hg, cs_Simplest, an, bne_self_eq_false, cs_isFraction, g1, g2, b_remI, hf1, hf2, cs_by F, eaA_rat, cs_Works, beq_self_eq_true, k1, dPQ, dSP]
    · have hb := back hPQ
      have dPQ : decide (x = y) = false := decide_eq_false hPQ
      by_cases k1 : gapF x F ≥ 0
      · by_cases k2 : gapF F y ≥ 0
        · obtain ⟨m1, m2⟩ := hmin k1 k2
          have m3 : ¬ F.den < S.den := by omega
          have m4 : ¬ F.num < S.num := by omega
          simp (disch := first | assumption | omega) only [c11, go_sem, ↓reduceIte, reduceIte, Nat.reduceEqDiff, Nat.reduceAdd, Nat.reduceMul, reduceCtorEq, Nat.reduceDiv, Nat.reduceLeDiff, Nat.reduceLT, Nat.reduceSub, cs_fine, hx', hy', nf, Bool.and_self, Nat.zero_add, cs_GapOf, hg, cs_Simplest, an, bne_self_eq_false, cs_isFraction, g1, g2, b_remI, hf1, hf2, cs_by F, eaA_rat, cs_Works, beq_self_eq_true, k1, k2, m3, m4, dPQ, hb, zz]
        · simp (disch := first | assumption | omega) only [c11, go_sem, ↓reduceIte, reduceIte, Nat.reduceEqDiff, Nat.reduceAdd, Nat.reduceMul, reduceCtorEq, Nat.reduceDiv, Nat.reduceLeDiff, Nat.reduceLT, Nat.reduceSub, cs_fine, hx', hy', nf, Bool.and_self, Nat.zero_add, cs_GapOf, hg, cs_Simplest, an, bne_self_eq_false, cs_isFraction, g1, g2, b_remI, hf1, hf2, cs_by F, eaA_rat, cs_Works, beq_self_eq_true, k1, k2, dPQ, hb, zz]
      · simp (disch := first | assumption | omega) only [c11, go_sem, ↓reduceIte, reduceIte, Nat.reduceEqDiff, Nat.reduceAdd, Nat.reduceMul, reduceCtorEq, Nat.reduceDiv, Nat.reduceLeDiff, Nat.reduceLT, Nat.reduceSub, cs_fine, hx', hy', nf, Bool.and_self, Nat.zero_add, cs_GapOf, hg, cs_Simplest, an, bne_self_eq_false, cs_isFraction, g1, g2, b_remI, hf1, hf2, cs_by F, eaA_rat, cs_Works, beq_self_eq_true, k1, dPQ, hb, zz]

def pitchSimplest_n : Nat := 20000
theorem pitchSimplest_ev (x y : Frac) (num den : Int) (h1 : RWf x) (h2 : RWf y) (hnum : (Lit.int .u16 num).wf = true) (hden : (Lit.int .u16 den).wf = true) :
    (evFn (evCall T pitchSimplest_n) c11 [rAV x, rAV y, .int .u16 num, .int .u16 den] []).all fun p => p.1 = .bool true := pitchSimplest_at _ rfl x y num den h1 h2 hnum hden

end Go.Ev.YtcghegefcgnhbaaC
