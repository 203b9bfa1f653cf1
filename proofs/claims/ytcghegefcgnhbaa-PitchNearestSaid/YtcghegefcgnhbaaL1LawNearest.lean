/- The law PitchNearest answers true, whatever it is handed. Conditions: the arguments are integers that fit their kinds. -/
import Derived.Test.YtcghegefcgnhbaaL1Fine
import Derived.Test.YtcghegefcgnhbaaL1LawNears
set_option linter.unusedSimpArgs false
set_option linter.unusedVariables false
namespace Go.Ev.YtcghegefcgnhbaaC
open Go Go.Proofs

theorem nearest_fup {x : Frac} (hx : OkI x) {m : Nat} (h1 : 1 ≤ m) (h2 : m ≤ 1000) : FracUp (nearestOf x m) m := by
  rcases (nearest_cases x m).1 with e | e <;> rw [e]
  · exact fup_low hx h1 h2
  · exact fup_high hx h1 h2
theorem nearest_nb {x : Frac} (hx : OkI x) {m : Nat} (h1 : 1 ≤ m) (h2 : m ≤ 1000) : NB (nearestOf x m) := by
  rcases (nearest_cases x m).1 with e | e <;> rw [e]
  · exact low_nb hx h1 h2
  · exact high_nb hx h1 h2

attribute [local irreducible] Res.all evC evLoop evOps evOper evOp evFn evCall freeze G GO GV GP GC R
set_option maxRecDepth 100000

set_option maxHeartbeats 1000000 in
theorem pitchNearest_at (n0 : Nat) (hn : n0 = 20000) (x : Frac) (bound more num den : Int) (_ : RWf x) (hb : (Lit.int .u16 bound).wf = true) (hmore : (Lit.int .u16 more).wf = true) (hnum : (Lit.int .u16 num).wf = true) (hden : (Lit.int .u16 den).wf = true) :
    (evFn (evCall T n0) c10 [rAV x, .int .u16 bound, .int .u16 more, .int .u16 num, .int .u16 den] []).all fun p => p.1 = .bool true := by
  rw [m_fn]
  obtain ⟨b1, b2⟩ := u16_bounds hb
  obtain ⟨k1, k2⟩ := u16_bounds hmore
  obtain ⟨n1, n2⟩ := u16_bounds hnum
  obtain ⟨d1, d2⟩ := u16_bounds hden
  by_cases hc : chkI x = 0
  case neg =>
    have hc' : (chkI x == 0) = false := by simp [hc]
    simp (disch := first | assumption | omega) only [c10, go_sem, ↓reduceIte, reduceIte, Nat.reduceEqDiff, Nat.reduceAdd, Nat.reduceMul, reduceCtorEq, Nat.reduceDiv, Nat.reduceLeDiff, Nat.reduceLT, Nat.reduceSub, cs_fine, hc', cs_Works]
  have hc' : (chkI x == 0) = true := by simp [hc]
  have hx := (chkI_zero x).1 hc
  have bx := hx.bf
  have x1 := hx.n1
  have x2 := hx.d1
  have x3 := hx.d2
  have r1 := Int.emod_nonneg bound (show (1000 : Int) ≠ 0 by omega)
  have r2 := Int.emod_lt_of_pos bound (show (0 : Int) < 1000 by omega)
  obtain ⟨m, hm⟩ := Int.eq_ofNat_of_zero_le (show 0 ≤ 1 + bound % 1000 by omega)
  have m1 : 1 ≤ m := by omega
  have m2 : m ≤ 1000 := by omega
  obtain ⟨M, hM⟩ := Int.eq_ofNat_of_zero_le (show 0 ≤ mn 1000 ((m : Int) + more) by unfold mn; split <;> omega)
  have M1 : m ≤ M := by unfold mn at hM; split at hM <;> omega
  have M2 : M ≤ 1000 := by unfold mn at hM; split at hM <;> omega
  have q1 := Int.emod_nonneg den (show (m : Int) ≠ 0 by omega)
  have q2 := Int.emod_lt_of_pos den (show (0 : Int) < m by omega)
  obtain ⟨f, hf1, hf2⟩ : ∃ f : Frac, num = f.num ∧ 1 + den % m = f.den := ⟨⟨_, _⟩, rfl, rfl⟩
  have hfd : f.den ≤ m := by omega
  have nbf : NB f := ⟨by unfold BF Bn; omega, by omega, by omega⟩
  have hne := nrs_ok hx m1 m2
  have hne2 := nrs_ok hx (show 1 ≤ M by omega) M2
  have fa := nearest_fup hx m1 m2
  have fb := nearest_fup hx (show 1 ≤ M by omega) M2
  have na := nearest_nb hx m1 m2
  have nb := nearest_nb hx (show 1 ≤ M by omega) M2
  have hm2 : (m : Int) ≤ 1073741824 := by omega
  have hM2 : (M : Int) ≤ 1073741824 := by omega
  have g1 : nearer x f (nearestOf x m) = false := nearest_best (by omega) (by omega) (by omega) (by omega) hfd
  have g2 : nearer x (nearestOf x m) (nearestOf x M) = false := nearest_best (by omega) (by omega) (by omega) fa.d1 (by have := fa.d2; omega)
  have g3 := nearest_half (x := x) (m := m) (by omega) (by omega) (by omega)
  have bfa := na.1
  obtain ⟨v1, v2⟩ := gap_nb hx na
  have v3 := iabs_le (b := 11000000000000) v1 v2
  have v4 := prod_le (u := iabs (gapF x (nearestOf x m)) * 2) (U := 22000000000000) (v := m) (V := 1000) (by omega) (by omega) (by omega) (by omega)
  have v5 := prod_le (u := (nearestOf x m).den) (U := 1000) (v := x.den) (V := 10000) (by have := fa.d1; omega) (by have := fa.d2; omega) (by omega) x3
  have g4 : ¬ iabs (gapF x (nearestOf x m)) * 2 * m > (nearestOf x m).den * x.den := by omega
  have hB : boundErr x m = 0 := (boundErr_zero x m).2 ⟨hx, by omega, by omega⟩
  have g5 : chkNr x (nearestOf x m) m = 0 := by
    unfold chkNr
    rw [if_neg (by omega), if_neg (by have := fa.n0; have := fa.n1; have := fa.d1; have := fa.d2; omega), if_neg]
    have : nearer x (nearestOf x m) (nearestOf x m) = false := by simp [nearer]
    show ¬ nearer x (nearestOf x ((m : Int).toNat)) (nearestOf x m) = true
    rw [show ((m : Int).toNat) = m from rfl, this]
    simp
  have g6 : chkNr x f m = if nearer x (nearestOf x m) f = true then 17 else 0 := by
    unfold chkNr
    rw [if_neg (by omega), if_neg (by omega)]
    rfl
  have z1 : ((17 : Int) == 0) = false := rfl
  have z3 : (true != false) = true := rfl
  have z4 : (false == false) = true := rfl
  have z2 : ((0 : Int) == 17) = false := rfl
  generalize nearestOf x m = a at *
  generalize nearestOf x M = b at *
  by_cases hr : nearer x a f = true
  · rw [if_pos hr] at g6
    set_option pp.deepTerms true in
    simp (disch := first | assumption | omega) only [c10, go_sem, ↓reduceIte, reduceIte, Nat.reduceEqDiff, Nat.reduceAdd, Nat.reduceMul, reduceCtorEq, Nat.reduceDiv, Nat.reduceLeDiff, Nat.reduceLT, Nat.reduceSub, cs_fine, hc', b_remI, hm, hM, cs_Nearest, hne, hne2, bne_self_eq_false, cs_isFraction, cs_GapOf, cs_by f, cs_Nearer, cs_CheckNearest, g1, g2, max_abs, min_mn, beq_self_eq_true, cs_Works, g4, g5, g6, hr, z1, z3]
  · rw [if_neg hr] at g6
    have hr' : nearer x a f = false := by simpa using hr
    simp (disch := first | assumption | omega) only [c10, go_sem, ↓reduceIte, reduceIte, Nat.reduceEqDiff, Nat.reduceAdd, Nat.reduceMul, reduceCtorEq, Nat.reduceDiv, Nat.reduceLeDiff, Nat.reduceLT, Nat.reduceSub, cs_fine, hc', b_remI, hm, hM, cs_Nearest, hne, hne2, bne_self_eq_false, cs_isFraction, cs_GapOf, cs_by f, cs_Nearer, cs_CheckNearest, g1, g2, max_abs, min_mn, beq_self_eq_true, cs_Works, g4, g5, g6, hr', z2, z3, z4]

def pitchNearest_n : Nat := 20000
theorem pitchNearest_ev (x : Frac) (bound more num den : Int) (h1 : RWf x) (hb : (Lit.int .u16 bound).wf = true) (hmore : (Lit.int .u16 more).wf = true) (hnum : (Lit.int .u16 num).wf = true) (hden : (Lit.int .u16 den).wf = true) :
    (evFn (evCall T pitchNearest_n) c10 [rAV x, .int .u16 bound, .int .u16 more, .int .u16 num, .int .u16 den] []).all fun p => p.1 = .bool true := pitchNearest_at _ rfl x bound more num den h1 hb hmore hnum hden

end Go.Ev.YtcghegefcgnhbaaC
