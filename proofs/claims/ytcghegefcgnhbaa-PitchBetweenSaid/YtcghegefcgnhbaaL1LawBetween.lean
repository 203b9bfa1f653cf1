/- The law PitchBetween answers true, whatever it is handed. Conditions: the arguments are integers that fit their kinds. -/
import Derived.Test.YtcghegefcgnhbaaL1LawProved
import Derived.Test.YtcghegefcgnhbaaL1Math7
set_option linter.unusedSimpArgs false
set_option linter.unusedVariables false
namespace Go.Ev.YtcghegefcgnhbaaC
open Go Go.Proofs

attribute [local irreducible] Res.all evC evLoop evOps evOper evOp evFn evCall freeze G GO GV GP GC R
set_option maxRecDepth 100000

set_option maxHeartbeats 1000000 in
theorem pitchBetween_at (n0 : Nat) (hn : n0 = 20000) (x : Frac) (bound num den : Int) (_ : RWf x) (hb : (Lit.int .u16 bound).wf = true) (hnum : (Lit.int .u16 num).wf = true) (hden : (Lit.int .u16 den).wf = true) :
    (evFn (evCall T n0) c12 [rAV x, .int .u16 bound, .int .u16 num, .int .u16 den] []).all fun p => p.1 = .bool true := by
  rw [m_fn]
  obtain ⟨b1, b2⟩ := u16_bounds hb
  obtain ⟨n1, n2⟩ := u16_bounds hnum
  obtain ⟨d1, d2⟩ := u16_bounds hden
  by_cases hc : chkI x = 0
  case neg =>
    have hc' : (chkI x == 0) = false := by simp [hc]
    simp (disch := first | assumption | omega) only [c12, go_sem, ↓reduceIte, reduceIte, Nat.reduceEqDiff, Nat.reduceAdd, Nat.reduceMul, reduceCtorEq, Nat.reduceDiv, Nat.reduceLeDiff, Nat.reduceLT, Nat.reduceSub, cs_fine, hc', cs_Works]
  have hc' : (chkI x == 0) = true := by simp [hc]
  have hx := (chkI_zero x).1 hc
  have x1 := hx.n1
  have x2 := hx.d1
  have r1 := Int.emod_nonneg bound (show (1000 : Int) ≠ 0 by omega)
  have r2 := Int.emod_lt_of_pos bound (show (0 : Int) < 1000 by omega)
  obtain ⟨m, hm⟩ := Int.eq_ofNat_of_zero_le (show 0 ≤ 1 + bound % 1000 by omega)
  have m1 : 1 ≤ m := by omega
  have m2 : m ≤ 1000 := by omega
  have hne := nbs_ok hx m1 m2
  have fl := fup_low hx m1 m2
  have fh := fup_high hx m1 m2
  have bl := fl.bf (by omega)
  have bh := fh.bf (by omega)
  have hm2 : (m : Int) ≤ 1073741824 := by omega
  have hcase := next_cases hx m1
  obtain ⟨s1, s2, s3, s4, s5⟩ := fl
  obtain ⟨t1, t2, t3, t4, t5⟩ := fh
  have fl := fup_low hx m1 m2
  have fh := fup_high hx m1 m2
  have na : (lowN x m).num ≤ 10000000 := by
    have := (lowN_isF hx m1).le
    have h1 : (lowN x m).num * 1 ≤ (lowN x m).num * x.den := mul_le (by omega) (by omega)
    have h2 := prod_le (u := x.num) (U := 10000) (v := (lowN x m).den) (V := 1000) (by omega) hx.n2 (by omega) (by omega)
    omega
  have nb : (highN x m).num ≤ 10000001 := by
    rcases highN_mem x m with h | ⟨d, h2, h⟩
    · rw [h]; simp only; omega
    · rw [h]
      have := down_bounds hx (d := (d : Int)) (by omega) (by omega)
      unfold upF downF
      split <;> simp only <;> omega
  rcases hcase with ⟨hq, ha, hbx⟩ | ⟨hq, hnb, hne2⟩
  · rw [ha, hbx] at hne
    rw [ha] at fl
    simp (disch := first | assumption | omega) only [c12, go_sem, ↓reduceIte, reduceIte, Nat.reduceEqDiff, Nat.reduceAdd, Nat.reduceMul, reduceCtorEq, Nat.reduceDiv, Nat.reduceLeDiff, Nat.reduceLT, Nat.reduceSub, cs_fine, hc', b_remI, hm, cs_Neighbours, hne, bne_self_eq_false, cs_isFraction, eaA_rat, cs_Works]
  · have e1 : ¬ lowN x m = highN x m := hne2
    obtain ⟨M, hM1, hM2⟩ : ∃ M : Frac, (lowN x m).num + (highN x m).num = M.num ∧ (lowN x m).den + (highN x m).den = M.den := ⟨⟨_, _⟩, rfl, rfl⟩
    have q1 := Int.emod_nonneg den (show M.den ≠ 0 by omega)
    have q2 := Int.emod_lt_of_pos den (show (0 : Int) < M.den by omega)
    obtain ⟨f, hf1, hf2⟩ : ∃ f : Frac, num = f.num ∧ 1 + den % M.den = f.den := ⟨⟨_, _⟩, rfl, rfl⟩
    have bM : BF M := by unfold BF Bn; omega
    have bf : BF f := by unfold BF Bn; omega
    have hdet : gapF (lowN x m) (highN x m) = 1 := hnb.det
    have e2 : gapF (lowN x m) M = 1 := by unfold gapF at *; rw [← hM1, ← hM2]; grind
    have e3 : gapF M (highN x m) = 1 := by unfold gapF at *; rw [← hM1, ← hM2]; grind
    have e4 : f.den < M.den → ¬ (gapF (lowN x m) f > 0 ∧ gapF f (highN x m) > 0) := fun hlt => none_between (m := f.den) s3 t3 hdet (by omega) (Int.le_refl _)
    have two : (f.den < M.den ∧ gapF (lowN x m) f > 0 ∧ ¬ gapF f (highN x m) > 0) ∨ (f.den < M.den ∧ ¬ gapF (lowN x m) f > 0) ∨ ¬ f.den < M.den := by
      by_cases h1 : f.den < M.den
      · by_cases h2 : gapF (lowN x m) f > 0
        · exact .inl ⟨h1, h2, fun h => e4 h1 ⟨h2, h⟩⟩
        · exact .inr (.inl ⟨h1, h2⟩)
      · exact .inr (.inr h1)
    by_cases hbig : M.den > 1000
    · rcases two with ⟨w1, w2, w3⟩ | ⟨w1, w2⟩ | w1
      · simp (disch := first | assumption | omega) only [c12, go_sem, ↓reduceIte, reduceIte, Nat.reduceEqDiff, Nat.reduceAdd, Nat.reduceMul, reduceCtorEq, Nat.reduceDiv, Nat.reduceLeDiff, Nat.reduceLT, Nat.reduceSub, cs_fine, hc', b_remI, hm, cs_Neighbours, hne, bne_self_eq_false, cs_isFraction, cs_GapOf, hM1, hM2, cs_by M, cs_by f, eaA_rat, cs_Works, e1, e2, e3, w1, w2, w3, hbig]
      · simp (disch := first | assumption | omega) only [c12, go_sem, ↓reduceIte, reduceIte, Nat.reduceEqDiff, Nat.reduceAdd, Nat.reduceMul, reduceCtorEq, Nat.reduceDiv, Nat.reduceLeDiff, Nat.reduceLT, Nat.reduceSub, cs_fine, hc', b_remI, hm, cs_Neighbours, hne, bne_self_eq_false, cs_isFraction, cs_GapOf, hM1, hM2, cs_by M, cs_by f, eaA_rat, cs_Works, e1, e2, e3, w1, w2, hbig]
      · simp (disch := first | assumption | omega) only [c12, go_sem, ↓reduceIte, reduceIte, Nat.reduceEqDiff, Nat.reduceAdd, Nat.reduceMul, reduceCtorEq, Nat.reduceDiv, Nat.reduceLeDiff, Nat.reduceLT, Nat.reduceSub, cs_fine, hc', b_remI, hm, cs_Neighbours, hne, bne_self_eq_false, cs_isFraction, cs_GapOf, hM1, hM2, cs_by M, cs_by f, eaA_rat, cs_Works, e1, e2, e3, w1, hbig]
    · obtain ⟨k, hk⟩ := Int.eq_ofNat_of_zero_le (show 0 ≤ M.den by omega)
      have hmed := med_next hnb hx.pr (by omega) (by omega) (M := k) (by omega)
      have hne3 := nbs_ok hx (show 1 ≤ k by omega) (show k ≤ 1000 by omega)
      rw [← hk] at hne3
      have hMe : (⟨(lowN x m).num + (highN x m).num, (lowN x m).den + (highN x m).den⟩ : Frac) = M := Frac.ext' hM1 hM2
      rw [hMe] at hmed
      have f1 : ¬ lowN x m = M := fun h => by rw [h] at e2; unfold gapF at e2; omega
      have f2 : ¬ highN x m = M := fun h => by rw [h] at e3; unfold gapF at e3; omega
      rcases hmed with ⟨hx1, hl, hh⟩ | ⟨hl, hh⟩ | ⟨hl, hh⟩
      · rw [hl, hh] at hne3
        have f3 : (x = M) = True := eq_true hx1
        have f4 : (M = x) = True := eq_true hx1.symm
        rcases two with ⟨w1, w2, w3⟩ | ⟨w1, w2⟩ | w1
        · simp (disch := first | assumption | omega) only [c12, go_sem, ↓reduceIte, reduceIte, Nat.reduceEqDiff, Nat.reduceAdd, Nat.reduceMul, reduceCtorEq, Nat.reduceDiv, Nat.reduceLeDiff, Nat.reduceLT, Nat.reduceSub, cs_fine, hc', b_remI, hm, cs_Neighbours, hne, hne3, bne_self_eq_false, cs_isFraction, cs_GapOf, hM1, hM2, cs_by M, cs_by f, eaA_rat, beq_self_eq_true, cs_Works, e1, e2, e3, w1, w2, w3, hbig, f3, f4]
        · simp (disch := first | assumption | omega) only [c12, go_sem, ↓reduceIte, reduceIte, Nat.reduceEqDiff, Nat.reduceAdd, Nat.reduceMul, reduceCtorEq, Nat.reduceDiv, Nat.reduceLeDiff, Nat.reduceLT, Nat.reduceSub, cs_fine, hc', b_remI, hm, cs_Neighbours, hne, hne3, bne_self_eq_false, cs_isFraction, cs_GapOf, hM1, hM2, cs_by M, cs_by f, eaA_rat, beq_self_eq_true, cs_Works, e1, e2, e3, w1, w2, hbig, f3, f4]
        · simp (disch := first | assumption | omega) only [c12, go_sem, ↓reduceIte, reduceIte, Nat.reduceEqDiff, Nat.reduceAdd, Nat.reduceMul, reduceCtorEq, Nat.reduceDiv, Nat.reduceLeDiff, Nat.reduceLT, Nat.reduceSub, cs_fine, hc', b_remI, hm, cs_Neighbours, hne, hne3, bne_self_eq_false, cs_isFraction, cs_GapOf, hM1, hM2, cs_by M, cs_by f, eaA_rat, beq_self_eq_true, cs_Works, e1, e2, e3, w1, hbig, f3, f4]
      · rw [hl, hh] at hne3
        rcases two with ⟨w1, w2, w3⟩ | ⟨w1, w2⟩ | w1
        · simp (disch := first | assumption | omega) only [c12, go_sem, ↓reduceIte, reduceIte, Nat.reduceEqDiff, Nat.reduceAdd, Nat.reduceMul, reduceCtorEq, Nat.reduceDiv, Nat.reduceLeDiff, Nat.reduceLT, Nat.reduceSub, cs_fine, hc', b_remI, hm, cs_Neighbours, hne, hne3, bne_self_eq_false, cs_isFraction, cs_GapOf, hM1, hM2, cs_by M, cs_by f, eaA_rat, beq_self_eq_true, cs_Works, e1, e2, e3, w1, w2, w3, hbig, f2]
        · simp (disch := first | assumption | omega) only [c12, go_sem, ↓reduceIte, reduceIte, Nat.reduceEqDiff, Nat.reduceAdd, Nat.reduceMul, reduceCtorEq, Nat.reduceDiv, Nat.reduceLeDiff, Nat.reduceLT, Nat.reduceSub, cs_fine, hc', b_remI, hm, cs_Neighbours, hne, hne3, bne_self_eq_false, cs_isFraction, cs_GapOf, hM1, hM2, cs_by M, cs_by f, eaA_rat, beq_self_eq_true, cs_Works, e1, e2, e3, w1, w2, hbig, f2]
        · simp (disch := first | assumption | omega) only [c12, go_sem, ↓reduceIte, reduceIte, Nat.reduceEqDiff, Nat.reduceAdd, Nat.reduceMul, reduceCtorEq, Nat.reduceDiv, Nat.reduceLeDiff, Nat.reduceLT, Nat.reduceSub, cs_fine, hc', b_remI, hm, cs_Neighbours, hne, hne3, bne_self_eq_false, cs_isFraction, cs_GapOf, hM1, hM2, cs_by M, cs_by f, eaA_rat, beq_self_eq_true, cs_Works, e1, e2, e3, w1, hbig, f2]
      · rw [hl, hh] at hne3
        rcases two with ⟨w1, w2, w3⟩ | ⟨w1, w2⟩ | w1
        · simp (disch := first | assumption | omega) only [c12, go_sem, ↓reduceIte, reduceIte, Nat.reduceEqDiff, Nat.reduceAdd, Nat.reduceMul, reduceCtorEq, Nat.reduceDiv, Nat.reduceLeDiff, Nat.reduceLT, Nat.reduceSub, cs_fine, hc', b_remI, hm, cs_Neighbours, hne, hne3, bne_self_eq_false, cs_isFraction, cs_GapOf, hM1, hM2, cs_by M, cs_by f, eaA_rat, beq_self_eq_true, cs_Works, e1, e2, e3, w1, w2, w3, hbig, f1]
        · simp (disch := first | assumption | omega) only [c12, go_sem, ↓reduceIte, reduceIte, Nat.reduceEqDiff, Nat.reduceAdd, Nat.reduceMul, reduceCtorEq, Nat.reduceDiv, Nat.reduceLeDiff, Nat.reduceLT, Nat.reduceSub, cs_fine, hc', b_remI, hm, cs_Neighbours, hne, hne3, bne_self_eq_false, cs_isFraction, cs_GapOf, hM1, hM2, cs_by M, cs_by f, eaA_rat, beq_self_eq_true, cs_Works, e1, e2, e3, w1, w2, hbig, f1]
        · simp (disch := first | assumption | omega) only [c12, go_sem, ↓reduceIte, reduceIte, Nat.reduceEqDiff, Nat.reduceAdd, Nat.reduceMul, reduceCtorEq, Nat.reduceDiv, Nat.reduceLeDiff, Nat.reduceLT, Nat.reduceSub, cs_fine, hc', b_remI, hm, cs_Neighbours, hne, hne3, bne_self_eq_false, cs_isFraction, cs_GapOf, hM1, hM2, cs_by M, cs_by f, eaA_rat, beq_self_eq_true, cs_Works, e1, e2, e3, w1, hbig, f1]

def pitchBetween_n : Nat := 20000
theorem pitchBetween_ev (x : Frac) (bound num den : Int) (h1 : RWf x) (hb : (Lit.int .u16 bound).wf = true) (hnum : (Lit.int .u16 num).wf = true) (hden : (Lit.int .u16 den).wf = true) :
    (evFn (evCall T pitchBetween_n) c12 [rAV x, .int .u16 bound, .int .u16 num, .int .u16 den] []).all fun p => p.1 = .bool true := pitchBetween_at _ rfl x bound num den h1 hb hnum hden

end Go.Ev.YtcghegefcgnhbaaC
