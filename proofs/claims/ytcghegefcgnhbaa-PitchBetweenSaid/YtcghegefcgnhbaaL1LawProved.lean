/- The law PitchProved answers true, whatever it is handed. Conditions: the arguments are integers that fit their kinds. -/
import Derived.Test.YtcghegefcgnhbaaL1Fine
import Derived.Test.YtcghegefcgnhbaaL1LawNeighbours
set_option linter.unusedSimpArgs false
set_option linter.unusedVariables false
namespace Go.Ev.YtcghegefcgnhbaaC
open Go Go.Proofs

theorem chkNb_zero (lo hi : Frac) (m : Int) : chkNb lo hi m = 0 ↔ 1 ≤ m ∧ m ≤ 1000 ∧ wideB lo ∧ wideB hi ∧ gapF lo hi = 1 ∧ m < lo.den + hi.den := by
  unfold chkNb
  split
  · constructor <;> intro h <;> omega
  · split
    · next h1 h2 =>
      constructor
      · intro h; cases h
      · intro h; exact (h2 ⟨h.2.2.1, h.2.2.2.1⟩).elim
    · next h1 h2 =>
      have h3 : wideB lo ∧ wideB hi := Classical.byContradiction fun h => h2 h
      split
      · constructor <;> intro h <;> omega
      · exact ⟨fun _ => ⟨by omega, by omega, h3.1, h3.2, by omega, by omega⟩, fun _ => rfl⟩
/-- no fraction up to the bound is strictly between neighbours -/
theorem none_between {lo hi f : Frac} {m : Int} (hl : 1 ≤ lo.den) (hh : 1 ≤ hi.den) (hg : gapF lo hi = 1) (hs : m < lo.den + hi.den) (hf : f.den ≤ m) : ¬ (gapF lo f > 0 ∧ gapF f hi > 0) := fun ⟨h1, h2⟩ => by
  unfold gapF at *
  have := between_den (a := lo.num) (b := lo.den) (c := hi.num) (d := hi.den) (p := f.num) (q := f.den) (by omega) (by omega) hg (by omega) (by omega)
  omega

attribute [local irreducible] Res.all evC evLoop evOps evOper evOp evFn evCall freeze G GO GV GP GC R
set_option maxRecDepth 100000

set_option maxHeartbeats 1000000 in
theorem pitchProved_at (n0 : Nat) (hn : n0 = 20000) (x lo hi : Frac) (bound num den : Int) (_ : RWf x) (_ : RWf lo) (_ : RWf hi) (hb : (Lit.int .u16 bound).wf = true) (hnum : (Lit.int .u16 num).wf = true) (hden : (Lit.int .u16 den).wf = true) :
    (evFn (evCall T n0) c9 [rAV x, rAV lo, rAV hi, .int .u16 bound, .int .u16 num, .int .u16 den] []).all fun p => p.1 = .bool true := by
  rw [m_fn]
  obtain ⟨b1, b2⟩ := u16_bounds hb
  obtain ⟨n1, n2⟩ := u16_bounds hnum
  obtain ⟨d1, d2⟩ := u16_bounds hden
  by_cases hc : chkI x = 0
  case neg =>
    have hc' : (chkI x == 0) = false := by simp [hc]
    simp (disch := first | assumption | omega) only [c9, go_sem, ↓reduceIte, reduceIte, Nat.reduceEqDiff, Nat.reduceAdd, Nat.reduceMul, reduceCtorEq, Nat.reduceDiv, Nat.reduceLeDiff, Nat.reduceLT, Nat.reduceSub, cs_fine, hc', cs_Works]
  have hc' : (chkI x == 0) = true := by simp [hc]
  have hx := (chkI_zero x).1 hc
  have bx := hx.bf
  have r1 := Int.emod_nonneg bound (show (1000 : Int) ≠ 0 by omega)
  have r2 := Int.emod_lt_of_pos bound (show (0 : Int) < 1000 by omega)
  obtain ⟨m, hm⟩ := Int.eq_ofNat_of_zero_le (show 0 ≤ 1 + bound % 1000 by omega)
  have m1 : 1 ≤ m := by omega
  have m2 : m ≤ 1000 := by omega
  have q1 := Int.emod_nonneg den (show (m : Int) ≠ 0 by omega)
  have q2 := Int.emod_lt_of_pos den (show (0 : Int) < m by omega)
  obtain ⟨f, hf1, hf2⟩ : ∃ f : Frac, num = f.num ∧ 1 + den % m = f.den := ⟨⟨_, _⟩, rfl, rfl⟩
  have hfd : f.den ≤ m := by omega
  have bf : BF f := by unfold BF Bn; omega
  have hne := nbs_ok hx m1 m2
  have fl := fup_low hx m1 m2
  have fh := fup_high hx m1 m2
  have bl := fl.bf (by omega)
  have bh := fh.bf (by omega)
  have il := lowN_isF hx m1
  have ih := highN_isF hx m1
  have g1 : ¬ gapF (lowN x m) x < 0 := by have := il.le; unfold gapF; omega
  have g2 : ¬ gapF x (highN x m) < 0 := by have := ih.le; unfold gapF; omega
  have hm2 : (m : Int) ≤ 1073741824 := by omega
  have hcase := next_cases hx m1
  generalize lowN x m = a at *
  generalize highN x m = b at *
  have fin : (chkNb lo hi m = 0 ∧ BF lo ∧ BF hi ∧ (gapF lo f ≤ 0 ∨ gapF f hi ≤ 0)) ∨ chkNb lo hi m ≠ 0 := by
    by_cases h0 : chkNb lo hi m = 0
    · obtain ⟨_, _, w1, w2, w3, w4⟩ := (chkNb_zero lo hi m).1 h0
      have w5 := none_between (f := f) w1.2.2.1 w2.2.2.1 w3 w4 hfd
      exact .inl ⟨h0, w1.bf, w2.bf, by omega⟩
    · exact .inr h0
  rcases hcase with ⟨hq, rfl, hbx⟩ | ⟨hq, hnb, hne2⟩
  · subst hbx
    rcases fin with ⟨h0, w1, w2, w3⟩ | h0
    · by_cases w4 : gapF lo f ≤ 0
      · simp (disch := first | assumption | omega) only [c9, go_sem, ↓reduceIte, reduceIte, Nat.reduceEqDiff, Nat.reduceAdd, Nat.reduceMul, reduceCtorEq, Nat.reduceDiv, Nat.reduceLeDiff, Nat.reduceLT, Nat.reduceSub, cs_fine, hc', b_remI, hm, cs_Neighbours, hne, bne_self_eq_false, cs_isFraction, cs_GapOf, g1, g2, cs_by f, eaA_rat, eaA_ratN, cs_CheckNb, cs_refCheckNb, beq_self_eq_true, cs_Works, h0, w4]
      · have w5 : gapF f hi ≤ 0 := by omega
        simp (disch := first | assumption | omega) only [c9, go_sem, ↓reduceIte, reduceIte, Nat.reduceEqDiff, Nat.reduceAdd, Nat.reduceMul, reduceCtorEq, Nat.reduceDiv, Nat.reduceLeDiff, Nat.reduceLT, Nat.reduceSub, cs_fine, hc', b_remI, hm, cs_Neighbours, hne, bne_self_eq_false, cs_isFraction, cs_GapOf, g1, g2, cs_by f, eaA_rat, eaA_ratN, cs_CheckNb, cs_refCheckNb, beq_self_eq_true, cs_Works, h0, w4, w5]
    · have h0' : (chkNb lo hi m != 0) = true := by simp [h0]
      simp (disch := first | assumption | omega) only [c9, go_sem, ↓reduceIte, reduceIte, Nat.reduceEqDiff, Nat.reduceAdd, Nat.reduceMul, reduceCtorEq, Nat.reduceDiv, Nat.reduceLeDiff, Nat.reduceLT, Nat.reduceSub, cs_fine, hc', b_remI, hm, cs_Neighbours, hne, bne_self_eq_false, cs_isFraction, cs_GapOf, g1, g2, cs_by f, eaA_rat, eaA_ratN, cs_CheckNb, cs_refCheckNb, beq_self_eq_true, cs_Works, h0']
  · have e1 : ¬ a = b := hne2
    have e2 : ¬ x.den ≤ m := by omega
    have wl : wideB a := ⟨fl.n0, fl.n1, fl.d1, by have := fl.d2; omega⟩
    have wh : wideB b := ⟨fh.n0, fh.n1, fh.d1, by have := fh.d2; omega⟩
    have hdet : gapF a b = 1 := hnb.det
    have e3 : chkNb a b m = 0 := (chkNb_zero a b m).2 ⟨by omega, by omega, wl, wh, hdet, hnb.sum⟩
    have e4 := none_between (f := f) fl.d1 fh.d1 hdet hnb.sum hfd
    by_cases e5 : gapF a f > 0
    · have e6 : ¬ gapF f b > 0 := fun h => e4 ⟨e5, h⟩
      rcases fin with ⟨h0, w1, w2, w3⟩ | h0
      · by_cases w4 : gapF lo f ≤ 0
        · simp (disch := first | assumption | omega) only [c9, go_sem, ↓reduceIte, reduceIte, Nat.reduceEqDiff, Nat.reduceAdd, Nat.reduceMul, reduceCtorEq, Nat.reduceDiv, Nat.reduceLeDiff, Nat.reduceLT, Nat.reduceSub, cs_fine, hc', b_remI, hm, cs_Neighbours, hne, bne_self_eq_false, cs_isFraction, cs_GapOf, g1, g2, cs_by f, eaA_rat, eaA_ratN, cs_CheckNb, cs_refCheckNb, beq_self_eq_true, cs_Works, e1, e2, e3, e5, e6, h0, w4]
        · have w5 : gapF f hi ≤ 0 := by omega
          simp (disch := first | assumption | omega) only [c9, go_sem, ↓reduceIte, reduceIte, Nat.reduceEqDiff, Nat.reduceAdd, Nat.reduceMul, reduceCtorEq, Nat.reduceDiv, Nat.reduceLeDiff, Nat.reduceLT, Nat.reduceSub, cs_fine, hc', b_remI, hm, cs_Neighbours, hne, bne_self_eq_false, cs_isFraction, cs_GapOf, g1, g2, cs_by f, eaA_rat, eaA_ratN, cs_CheckNb, cs_refCheckNb, beq_self_eq_true, cs_Works, e1, e2, e3, e5, e6, h0, w4, w5]
      · have h0' : (chkNb lo hi m != 0) = true := by simp [h0]
        simp (disch := first | assumption | omega) only [c9, go_sem, ↓reduceIte, reduceIte, Nat.reduceEqDiff, Nat.reduceAdd, Nat.reduceMul, reduceCtorEq, Nat.reduceDiv, Nat.reduceLeDiff, Nat.reduceLT, Nat.reduceSub, cs_fine, hc', b_remI, hm, cs_Neighbours, hne, bne_self_eq_false, cs_isFraction, cs_GapOf, g1, g2, cs_by f, eaA_rat, eaA_ratN, cs_CheckNb, cs_refCheckNb, beq_self_eq_true, cs_Works, e1, e2, e3, e5, e6, h0']
    · rcases fin with ⟨h0, w1, w2, w3⟩ | h0
      · by_cases w4 : gapF lo f ≤ 0
        · simp (disch := first | assumption | omega) only [c9, go_sem, ↓reduceIte, reduceIte, Nat.reduceEqDiff, Nat.reduceAdd, Nat.reduceMul, reduceCtorEq, Nat.reduceDiv, Nat.reduceLeDiff, Nat.reduceLT, Nat.reduceSub, cs_fine, hc', b_remI, hm, cs_Neighbours, hne, bne_self_eq_false, cs_isFraction, cs_GapOf, g1, g2, cs_by f, eaA_rat, eaA_ratN, cs_CheckNb, cs_refCheckNb, beq_self_eq_true, cs_Works, e1, e2, e3, e5, h0, w4]
        · have w5 : gapF f hi ≤ 0 := by omega
          simp (disch := first | assumption | omega) only [c9, go_sem, ↓reduceIte, reduceIte, Nat.reduceEqDiff, Nat.reduceAdd, Nat.reduceMul, reduceCtorEq, Nat.reduceDiv, Nat.reduceLeDiff, Nat.reduceLT, Nat.reduceSub, cs_fine, hc', b_remI, hm, cs_Neighbours, hne, bne_self_eq_false, cs_isFraction, cs_GapOf, g1, g2, cs_by f, eaA_rat, eaA_ratN, cs_CheckNb, cs_refCheckNb, beq_self_eq_true, cs_Works, e1, e2, e3, e5, h0, w4, w5]
      · have h0' : (chkNb lo hi m != 0) = true := by simp [h0]
        simp (disch := first | assumption | omega) only [c9, go_sem, ↓reduceIte, reduceIte, Nat.reduceEqDiff, Nat.reduceAdd, Nat.reduceMul, reduceCtorEq, Nat.reduceDiv, Nat.reduceLeDiff, Nat.reduceLT, Nat.reduceSub, cs_fine, hc', b_remI, hm, cs_Neighbours, hne, bne_self_eq_false, cs_isFraction, cs_GapOf, g1, g2, cs_by f, eaA_rat, eaA_ratN, cs_CheckNb, cs_refCheckNb, beq_self_eq_true, cs_Works, e1, e2, e3, e5, h0']

def pitchProved_n : Nat := 20000
theorem pitchProved_ev (x lo hi : Frac) (bound num den : Int) (h1 : RWf x) (h2 : RWf lo) (h3 : RWf hi) (hb : (Lit.int .u16 bound).wf = true) (hnum : (Lit.int .u16 num).wf = true) (hden : (Lit.int .u16 den).wf = true) :
    (evFn (evCall T pitchProved_n) c9 [rAV x, rAV lo, rAV hi, .int .u16 bound, .int .u16 num, .int .u16 den] []).all fun p => p.1 = .bool true := pitchProved_at _ rfl x lo hi bound num den h1 h2 h3 hb hnum hden

end Go.Ev.YtcghegefcgnhbaaC
