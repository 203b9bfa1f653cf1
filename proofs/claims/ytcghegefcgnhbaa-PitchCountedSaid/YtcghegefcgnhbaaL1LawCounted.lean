/- PitchCounted returns true. -/
import Derived.Test.YtcghegefcgnhbaaL1LawSimples
import Derived.Test.YtcghegefcgnhbaaL1Fine
import Derived.Test.YtcghegefcgnhbaaL1LawNeighbours
set_option linter.unusedSimpArgs false
set_option linter.unusedVariables false
namespace Go.Ev.YtcghegefcgnhbaaC
open Go Go.Proofs

structure G4 (x : Frac) : Prop where
  ok : OkI x
  le : x.num ≤ 4 * x.den
abbrev cells6 (p q r : Frac) : List AV := [.int .i64 p.num, .int .i64 p.den, .int .i64 q.num, .int .i64 q.den, .int .i64 r.num, .int .i64 r.den]
theorem gap_anti (x y : Frac) : gapF y x = -gapF x y := by simp only [gapF]; omega

theorem cnt_ok {p q : Frac} (hp : OkI p) (hq : OkI q) (h4 : q.num ≤ 4 * q.den) {m : Nat} (h1 : 1 ≤ m) (h2 : m ≤ 50) : cnt p q m = (((cntM p q m : Nat) : Int), (0 : Int)) := by
  have h0 : openErr [p, q] = 0 := (open_two_zero p q).2 ⟨hp, hq⟩
  have hE : cntErr p q m = 0 := by unfold cntErr; rw [if_neg (by omega), if_neg (by omega), if_neg (by omega)]
  unfold cnt
  rw [if_neg (by omega)]
  rfl

attribute [local irreducible] Res.all evC evLoop evOps evOper evOp evFn evCall freeze G GO GV GP GC R
set_option maxRecDepth 100000

set_option maxHeartbeats 4000000 in
theorem pitchCounted_at (n0 : Nat) (hn : n0 = 20000) (x y z : Frac) (bound : Int) (_ : RWf x) (_ : RWf y) (_ : RWf z) (hb : (Lit.int .u8 bound).wf = true) :
    (evFn (evCall T n0) c15 [rAV x, rAV y, rAV z, .int .u8 bound] []).all fun p => p.1 = .bool true := by
  rw [m_fn]
  obtain ⟨b1, b2⟩ := u8_bounds hb
  by_cases hx : chkI x = 0
  case neg =>
    have hx' : (chkI x == 0) = false := by simp [hx]
    simp (disch := first | assumption | omega) only [c15, go_sem, ↓reduceIte, reduceIte, Nat.reduceEqDiff, Nat.reduceAdd, Nat.reduceMul, reduceCtorEq, Nat.reduceDiv, Nat.reduceLeDiff, Nat.reduceLT, Nat.reduceSub, cs_fine, hx', cs_Works]
  have hx' : (chkI x == 0) = true := by simp [hx]
  by_cases hy : chkI y = 0
  case neg =>
    have hy' : (chkI y == 0) = false := by simp [hy]
    simp (disch := first | assumption | omega) only [c15, go_sem, ↓reduceIte, reduceIte, Nat.reduceEqDiff, Nat.reduceAdd, Nat.reduceMul, reduceCtorEq, Nat.reduceDiv, Nat.reduceLeDiff, Nat.reduceLT, Nat.reduceSub, cs_fine, hx', hy', cs_Works]
  have hy' : (chkI y == 0) = true := by simp [hy]
  by_cases hz : chkI z = 0
  case neg =>
    have hz' : (chkI z == 0) = false := by simp [hz]
    simp (disch := first | assumption | omega) only [c15, go_sem, ↓reduceIte, reduceIte, Nat.reduceEqDiff, Nat.reduceAdd, Nat.reduceMul, reduceCtorEq, Nat.reduceDiv, Nat.reduceLeDiff, Nat.reduceLT, Nat.reduceSub, cs_fine, hx', hy', hz', cs_Works]
  have hz' : (chkI z == 0) = true := by simp [hz]
  have ox := (chkI_zero x).1 hx
  have oy := (chkI_zero y).1 hy
  have oz := (chkI_zero z).1 hz
  have x1 := ox.d1; have x2 := ox.d2; have x3 := ox.n1; have x4 := ox.n2
  have y1 := oy.d1; have y2 := oy.d2; have y3 := oy.n1; have y4 := oy.n2
  have z1 := oz.d1; have z2 := oz.d2; have z3 := oz.n1; have z4 := oz.n2
  by_cases gx : x.num > 4 * x.den
  · simp (disch := first | assumption | omega) only [c15, go_sem, ↓reduceIte, reduceIte, Nat.reduceEqDiff, Nat.reduceAdd, Nat.reduceMul, reduceCtorEq, Nat.reduceDiv, Nat.reduceLeDiff, Nat.reduceLT, Nat.reduceSub, cs_fine, hx', hy', hz', gx, cs_Works]
  by_cases gy : y.num > 4 * y.den
  · simp (disch := first | assumption | omega) only [c15, go_sem, ↓reduceIte, reduceIte, Nat.reduceEqDiff, Nat.reduceAdd, Nat.reduceMul, reduceCtorEq, Nat.reduceDiv, Nat.reduceLeDiff, Nat.reduceLT, Nat.reduceSub, cs_fine, hx', hy', hz', gx, gy, cs_Works]
  by_cases gz : z.num > 4 * z.den
  · simp (disch := first | assumption | omega) only [c15, go_sem, ↓reduceIte, reduceIte, Nat.reduceEqDiff, Nat.reduceAdd, Nat.reduceMul, reduceCtorEq, Nat.reduceDiv, Nat.reduceLeDiff, Nat.reduceLT, Nat.reduceSub, cs_fine, hx', hy', hz', gx, gy, gz, cs_Works]
  have hnew : getH (List.replicate 238 AObj.none) 238 = .none := getH_ge _ _ (by simp)
  simp (disch := first | assumption | omega) only [c15, go_sem, ↓reduceIte, reduceIte, Nat.reduceEqDiff, Nat.reduceAdd, Nat.reduceMul, reduceCtorEq, Nat.reduceDiv, Nat.reduceLeDiff, Nat.reduceLT, Nat.reduceSub, cs_fine, hx', hy', hz', gx, gy, gz, hnew, next_none]
  refine m_loop (fun M st => ∃ p q r : Frac, G4 p ∧ G4 q ∧ G4 r ∧ getH st.heap 238 = .cells 0 (cells6 p q r) ∧
      ((M = 2 ∧ At st.env [(3, .int .u8 bound), (9, .oslice 238 0 (some 2) 0 3 (some 3)), (10, .int .i64 1)]) ∨
       (M = 1 ∧ 0 ≤ gapF p q ∧ At st.env [(3, .int .u8 bound), (9, .oslice 238 0 (some 2) 0 3 (some 3)), (10, .int .i64 2)]) ∨
       (M = 0 ∧ 0 ≤ gapF p q ∧ 0 ≤ gapF q r ∧ At st.env [(3, .int .u8 bound), (9, .oslice 238 0 (some 2) 0 3 (some 3)), (10, .int .i64 3)]))) 2 (by omega)
    ⟨x, y, z, ⟨ox, by omega⟩, ⟨oy, by omega⟩, ⟨oz, by omega⟩, by simp only [go_sem, ↓reduceIte, reduceIte, Nat.reduceEqDiff, Nat.reduceAdd, Nat.reduceMul, reduceCtorEq, Nat.reduceDiv, Nat.reduceLeDiff, Nat.reduceLT, Nat.reduceSub], .inl ⟨rfl, by simp only [go_sem, ↓reduceIte, reduceIte, Nat.reduceEqDiff, Nat.reduceAdd, Nat.reduceMul, reduceCtorEq, Nat.reduceDiv, Nat.reduceLeDiff, Nat.reduceLT, Nat.reduceSub]⟩⟩ ?_
  clear hx hy hz hx' hy' hz' ox oy oz x1 x2 x3 x4 y1 y2 y3 y4 z1 z2 z3 z4 gx gy gz
  rintro M e h hM ⟨p, q, r, gp, gq, gr, hH, hcase⟩ P hP
  simp only [At_cons, At_nil] at hcase hH
  have bp := gp.ok.bf
  have bq := gq.ok.bf
  have br := gr.ok.bf
  rcases hcase with ⟨rfl, f3, f9, f10, -⟩ | ⟨rfl, hpq, f3, f9, f10, -⟩ | ⟨rfl, hpq, hqr, f3, f9, f10, -⟩
  · simp (disch := first | assumption | omega) only [go_sem, ↓reduceIte, reduceIte, Nat.reduceEqDiff, Nat.reduceAdd, Nat.reduceMul, reduceCtorEq, Nat.reduceDiv, Nat.reduceLeDiff, Nat.reduceLT, Nat.reduceSub, f3, f9, f10, Int.reduceLT, decide_true]
    refine m_loop (fun M st => ∃ p q r : Frac, G4 p ∧ G4 q ∧ G4 r ∧ getH st.heap 238 = .cells 0 (cells6 p q r) ∧
      ((M = 1 ∧ At st.env [(3, .int .u8 bound), (9, .oslice 238 0 (some 2) 0 3 (some 3)), (10, .int .i64 1), (11, .int .i64 1)]) ∨
       (M = 0 ∧ 0 ≤ gapF p q ∧ At st.env [(3, .int .u8 bound), (9, .oslice 238 0 (some 2) 0 3 (some 3)), (10, .int .i64 1), (11, .int .i64 0)]))) 1 (by omega)
      ⟨p, q, r, gp, gq, gr, hH, .inl ⟨rfl, by simp only [go_sem, ↓reduceIte, reduceIte, Nat.reduceEqDiff, Nat.reduceAdd, Nat.reduceMul, reduceCtorEq, Nat.reduceDiv, Nat.reduceLeDiff, Nat.reduceLT, Nat.reduceSub, f3, f9, f10]⟩⟩ ?_
    clear f3 f9 f10 gp gq gr bp bq br hH
    rintro M e h hM2 ⟨p, q, r, gp, gq, gr, hH, hcase⟩ P2 hP2
    simp only [At_cons, At_nil] at hcase hH
    have bp := gp.ok.bf
    have bq := gq.ok.bf
    have br := gr.ok.bf
    have an := gap_anti p q
    rcases hcase with ⟨rfl, f3, f9, f10, f11, -⟩ | ⟨rfl, hpq, f3, f9, f10, f11, -⟩
    · by_cases hg : gapF p q < 0
      · simp (disch := first | assumption | omega) only [go_sem, ↓reduceIte, reduceIte, Nat.reduceEqDiff, Nat.reduceAdd, Nat.reduceMul, reduceCtorEq, Nat.reduceDiv, Nat.reduceLeDiff, Nat.reduceLT, Nat.reduceSub, f3, f9, f10, f11, hH, Int.reduceLT, Int.reduceGT, Int.reduceSub, decide_true, List.drop_zero, List.drop_succ_cons, List.take_succ_cons, List.take_zero, cs_GapOf, hg]
        exact hP2 0 _ (by omega) ⟨q, p, r, gq, gp, gr, by simp only [go_sem, ↓reduceIte, reduceIte, Nat.reduceEqDiff, Nat.reduceAdd, Nat.reduceMul, reduceCtorEq, Nat.reduceDiv, Nat.reduceLeDiff, Nat.reduceLT, Nat.reduceSub], .inr ⟨rfl, by omega, by simp only [go_sem, ↓reduceIte, reduceIte, Nat.reduceEqDiff, Nat.reduceAdd, Nat.reduceMul, reduceCtorEq, Nat.reduceDiv, Nat.reduceLeDiff, Nat.reduceLT, Nat.reduceSub, f3, f9, f10]⟩⟩
      · simp (disch := first | assumption | omega) only [go_sem, ↓reduceIte, reduceIte, Nat.reduceEqDiff, Nat.reduceAdd, Nat.reduceMul, reduceCtorEq, Nat.reduceDiv, Nat.reduceLeDiff, Nat.reduceLT, Nat.reduceSub, f3, f9, f10, f11, hH, Int.reduceLT, Int.reduceGT, Int.reduceSub, Int.reduceAdd, decide_true, decide_false, List.drop_zero, List.drop_succ_cons, List.take_succ_cons, List.take_zero, cs_GapOf, hg]
        exact hP 1 _ (by omega) ⟨p, q, r, gp, gq, gr, hH, .inr (.inl ⟨rfl, by omega, by simp only [go_sem, ↓reduceIte, reduceIte, Nat.reduceEqDiff, Nat.reduceAdd, Nat.reduceMul, reduceCtorEq, Nat.reduceDiv, Nat.reduceLeDiff, Nat.reduceLT, Nat.reduceSub, f3, f9, f10]⟩)⟩
    · simp (disch := first | assumption | omega) only [go_sem, ↓reduceIte, reduceIte, Nat.reduceEqDiff, Nat.reduceAdd, Nat.reduceMul, reduceCtorEq, Nat.reduceDiv, Nat.reduceLeDiff, Nat.reduceLT, Nat.reduceSub, f3, f9, f10, f11, hH, Int.reduceLT, Int.reduceGT, Int.reduceSub, Int.reduceAdd, decide_true, decide_false, List.drop_zero, List.drop_succ_cons, List.take_succ_cons, List.take_zero]
      exact hP 1 _ (by omega) ⟨p, q, r, gp, gq, gr, hH, .inr (.inl ⟨rfl, hpq, by simp only [go_sem, ↓reduceIte, reduceIte, Nat.reduceEqDiff, Nat.reduceAdd, Nat.reduceMul, reduceCtorEq, Nat.reduceDiv, Nat.reduceLeDiff, Nat.reduceLT, Nat.reduceSub, f3, f9, f10]⟩)⟩
  · simp (disch := first | assumption | omega) only [go_sem, ↓reduceIte, reduceIte, Nat.reduceEqDiff, Nat.reduceAdd, Nat.reduceMul, reduceCtorEq, Nat.reduceDiv, Nat.reduceLeDiff, Nat.reduceLT, Nat.reduceSub, f3, f9, f10, Int.reduceLT, Int.reduceGT, Int.reduceSub, Int.reduceAdd, decide_true, decide_false, List.drop_zero, List.drop_succ_cons, List.take_succ_cons, List.take_zero]
    refine m_loop (fun M st => ∃ p q r : Frac, G4 p ∧ G4 q ∧ G4 r ∧ getH st.heap 238 = .cells 0 (cells6 p q r) ∧
      ((M = 2 ∧ 0 ≤ gapF p q ∧ At st.env [(3, .int .u8 bound), (9, .oslice 238 0 (some 2) 0 3 (some 3)), (10, .int .i64 2), (11, .int .i64 2)]) ∨
       (M = 1 ∧ 0 ≤ gapF q r ∧ 0 ≤ gapF p r ∧ At st.env [(3, .int .u8 bound), (9, .oslice 238 0 (some 2) 0 3 (some 3)), (10, .int .i64 2), (11, .int .i64 1)]) ∨
       (M = 0 ∧ 0 ≤ gapF p q ∧ 0 ≤ gapF q r ∧ At st.env [(3, .int .u8 bound), (9, .oslice 238 0 (some 2) 0 3 (some 3)), (10, .int .i64 2), (11, .int .i64 0)]))) 2 (by omega)
      ⟨p, q, r, gp, gq, gr, hH, .inl ⟨rfl, hpq, by simp only [go_sem, ↓reduceIte, reduceIte, Nat.reduceEqDiff, Nat.reduceAdd, Nat.reduceMul, reduceCtorEq, Nat.reduceDiv, Nat.reduceLeDiff, Nat.reduceLT, Nat.reduceSub, f3, f9, f10]⟩⟩ ?_
    clear f3 f9 f10 gp gq gr bp bq br hH hpq
    rintro M e h hM2 ⟨p, q, r, gp, gq, gr, hH, hcase⟩ P2 hP2
    simp only [At_cons, At_nil] at hcase hH
    have bp := gp.ok.bf
    have bq := gq.ok.bf
    have br := gr.ok.bf
    have an := gap_anti p q
    have an2 := gap_anti q r
    rcases hcase with ⟨rfl, hpq, f3, f9, f10, f11, -⟩ | ⟨rfl, hqr, hpr, f3, f9, f10, f11, -⟩ | ⟨rfl, hpq, hqr, f3, f9, f10, f11, -⟩
    · by_cases hg : gapF q r < 0
      · simp (disch := first | assumption | omega) only [go_sem, ↓reduceIte, reduceIte, Nat.reduceEqDiff, Nat.reduceAdd, Nat.reduceMul, reduceCtorEq, Nat.reduceDiv, Nat.reduceLeDiff, Nat.reduceLT, Nat.reduceSub, f3, f9, f10, f11, hH, Int.reduceLT, Int.reduceGT, Int.reduceSub, Int.reduceAdd, decide_true, decide_false, List.drop_zero, List.drop_succ_cons, List.take_succ_cons, List.take_zero, cs_GapOf, hg]
        exact hP2 1 _ (by omega) ⟨p, r, q, gp, gr, gq, by simp only [go_sem, ↓reduceIte, reduceIte, Nat.reduceEqDiff, Nat.reduceAdd, Nat.reduceMul, reduceCtorEq, Nat.reduceDiv, Nat.reduceLeDiff, Nat.reduceLT, Nat.reduceSub], .inr (.inl ⟨rfl, by omega, hpq, by simp only [go_sem, ↓reduceIte, reduceIte, Nat.reduceEqDiff, Nat.reduceAdd, Nat.reduceMul, reduceCtorEq, Nat.reduceDiv, Nat.reduceLeDiff, Nat.reduceLT, Nat.reduceSub, f3, f9, f10]⟩)⟩
      · simp (disch := first | assumption | omega) only [go_sem, ↓reduceIte, reduceIte, Nat.reduceEqDiff, Nat.reduceAdd, Nat.reduceMul, reduceCtorEq, Nat.reduceDiv, Nat.reduceLeDiff, Nat.reduceLT, Nat.reduceSub, f3, f9, f10, f11, hH, Int.reduceLT, Int.reduceGT, Int.reduceSub, Int.reduceAdd, decide_true, decide_false, List.drop_zero, List.drop_succ_cons, List.take_succ_cons, List.take_zero, cs_GapOf, hg]
        exact hP 0 _ (by omega) ⟨p, q, r, gp, gq, gr, hH, .inr (.inr ⟨rfl, hpq, by omega, by simp only [go_sem, ↓reduceIte, reduceIte, Nat.reduceEqDiff, Nat.reduceAdd, Nat.reduceMul, reduceCtorEq, Nat.reduceDiv, Nat.reduceLeDiff, Nat.reduceLT, Nat.reduceSub, f3, f9, f10]⟩)⟩
    · by_cases hg : gapF p q < 0
      · simp (disch := first | assumption | omega) only [go_sem, ↓reduceIte, reduceIte, Nat.reduceEqDiff, Nat.reduceAdd, Nat.reduceMul, reduceCtorEq, Nat.reduceDiv, Nat.reduceLeDiff, Nat.reduceLT, Nat.reduceSub, f3, f9, f10, f11, hH, Int.reduceLT, Int.reduceGT, Int.reduceSub, Int.reduceAdd, decide_true, decide_false, List.drop_zero, List.drop_succ_cons, List.take_succ_cons, List.take_zero, cs_GapOf, hg]
        exact hP2 0 _ (by omega) ⟨q, p, r, gq, gp, gr, by simp only [go_sem, ↓reduceIte, reduceIte, Nat.reduceEqDiff, Nat.reduceAdd, Nat.reduceMul, reduceCtorEq, Nat.reduceDiv, Nat.reduceLeDiff, Nat.reduceLT, Nat.reduceSub], .inr (.inr ⟨rfl, by omega, hpr, by simp only [go_sem, ↓reduceIte, reduceIte, Nat.reduceEqDiff, Nat.reduceAdd, Nat.reduceMul, reduceCtorEq, Nat.reduceDiv, Nat.reduceLeDiff, Nat.reduceLT, Nat.reduceSub, f3, f9, f10]⟩)⟩
      · simp (disch := first | assumption | omega) only [go_sem, ↓reduceIte, reduceIte, Nat.reduceEqDiff, Nat.reduceAdd, Nat.reduceMul, reduceCtorEq, Nat.reduceDiv, Nat.reduceLeDiff, Nat.reduceLT, Nat.reduceSub, f3, f9, f10, f11, hH, Int.reduceLT, Int.reduceGT, Int.reduceSub, Int.reduceAdd, decide_true, decide_false, List.drop_zero, List.drop_succ_cons, List.take_succ_cons, List.take_zero, cs_GapOf, hg]
        exact hP 0 _ (by omega) ⟨p, q, r, gp, gq, gr, hH, .inr (.inr ⟨rfl, by omega, hqr, by simp only [go_sem, ↓reduceIte, reduceIte, Nat.reduceEqDiff, Nat.reduceAdd, Nat.reduceMul, reduceCtorEq, Nat.reduceDiv, Nat.reduceLeDiff, Nat.reduceLT, Nat.reduceSub, f3, f9, f10]⟩)⟩
    · simp (disch := first | assumption | omega) only [go_sem, ↓reduceIte, reduceIte, Nat.reduceEqDiff, Nat.reduceAdd, Nat.reduceMul, reduceCtorEq, Nat.reduceDiv, Nat.reduceLeDiff, Nat.reduceLT, Nat.reduceSub, f3, f9, f10, f11, hH, Int.reduceLT, Int.reduceGT, Int.reduceSub, Int.reduceAdd, decide_true, decide_false, List.drop_zero, List.drop_succ_cons, List.take_succ_cons, List.take_zero]
      exact hP 0 _ (by omega) ⟨p, q, r, gp, gq, gr, hH, .inr (.inr ⟨rfl, hpq, hqr, by simp only [go_sem, ↓reduceIte, reduceIte, Nat.reduceEqDiff, Nat.reduceAdd, Nat.reduceMul, reduceCtorEq, Nat.reduceDiv, Nat.reduceLeDiff, Nat.reduceLT, Nat.reduceSub, f3, f9, f10]⟩)⟩
  · clear hP
    have r1 := Int.emod_nonneg bound (show (50 : Int) ≠ 0 by omega)
    have r2 := Int.emod_lt_of_pos bound (show (0 : Int) < 50 by omega)
    obtain ⟨m, hm⟩ := Int.eq_ofNat_of_zero_le (show 0 ≤ 1 + bound % 50 by omega)
    have m1 : 1 ≤ m := by omega
    have m2 : m ≤ 50 := by omega
    have p1 := gp.ok.d1; have p2 := gp.ok.d2; have p3 := gp.ok.n1; have p4 := gp.ok.n2
    have q1 := gq.ok.d1; have q2 := gq.ok.d2; have q3 := gq.ok.n1; have q4 := gq.ok.n2
    have s1 := gr.ok.d1; have s2 := gr.ok.d2; have s3 := gr.ok.n1; have s4 := gr.ok.n2
    have c1 := cnt_ok gp.ok gq.ok gq.le m1 m2
    have c2 := cnt_ok gq.ok gr.ok gr.le m1 m2
    have c3 := cnt_ok gp.ok gr.ok gr.le m1 m2
    have k1 := cntM_5000 p q m2
    have k2 := cntM_5000 q r m2
    have k3 := cntM_5000 p r m2
    have hparts := cntM_parts (x := p) (y := q) (z := r) (by omega) (by omega) (by omega) (by omega) gq.ok.pr gq.le hpq hqr m
    have hturn : OkI (turn r) → cntM (turn r) (turn p) m = cntM p r m := fun ht => by
      have h1 : 1 ≤ 2 * r.den - r.num := ht.n1
      exact cntM_turn (x := p) (z := r) (by omega) (by omega) (by omega) (by omega) m
    have c4 : OkI (turn r) → OkI (turn p) → cnt (turn r) (turn p) m = (((cntM p r m : Nat) : Int), (0 : Int)) := fun h1 h2 => by
      rw [cnt_ok h1 h2 (show 2 * p.den - p.num ≤ 4 * p.den by omega) m1 m2, hturn h1]
    generalize hA : cntM p q m = A at *
    generalize hB : cntM q r m = B at *
    generalize hC : cntM p r m = C at *
    have g1 : ¬ (A : Int) < 0 := by omega
    have g2 : ¬ (A : Int) > 5000 := by omega
    have g3 : ¬ (B : Int) < 0 := by omega
    have g4 : ¬ (B : Int) > 5000 := by omega
    have e1 : 2 * r.den - r.num = (turn r).num := rfl
    have e2 : r.den = (turn r).den := rfl
    have e3 : 2 * p.den - p.num = (turn p).num := rfl
    have e4 : p.den = (turn p).den := rfl
    have nf : (¬ False) = True := not_false_eq_true
    by_cases hd : q.den ≤ (m : Int)
    · have g5 : ((A : Int) + B != (C : Int) + 1) = false := by
        rw [if_pos hd] at hparts
        simp; omega
      simp (disch := first | assumption | omega) only [go_sem, ↓reduceIte, reduceIte, Nat.reduceEqDiff, Nat.reduceAdd, Nat.reduceMul, reduceCtorEq, Nat.reduceDiv, Nat.reduceLeDiff, Nat.reduceLT, Nat.reduceSub, f3, f9, f10, hH, Int.reduceLT, Int.reduceGT, Int.reduceSub, Int.reduceAdd, decide_true, decide_false, List.drop_zero, List.drop_succ_cons, List.take_succ_cons, List.take_zero, b_remI, hm, cs_Count, c1, c2, c3, hd, bne_self_eq_false, g1, g2, g3, g4, g5, nf, Bool.and_self, cs_by (turn r), cs_by (turn p)]
      by_cases ht1 : chkI (turn r) = 0
      case neg =>
        have ht1' : (chkI (turn r) == 0) = false := by simp [ht1]
        simp (disch := first | assumption | omega) only [go_sem, ↓reduceIte, reduceIte, Nat.reduceEqDiff, Nat.reduceAdd, Nat.reduceMul, reduceCtorEq, Nat.reduceDiv, Nat.reduceLeDiff, Nat.reduceLT, Nat.reduceSub, f3, f9, f10, hH, nf, Bool.and_self, cs_fine, ht1', cs_Works]
      have ht1' : (chkI (turn r) == 0) = true := by simp [ht1]
      by_cases ht2 : chkI (turn p) = 0
      case neg =>
        have ht2' : (chkI (turn p) == 0) = false := by simp [ht2]
        simp (disch := first | assumption | omega) only [go_sem, ↓reduceIte, reduceIte, Nat.reduceEqDiff, Nat.reduceAdd, Nat.reduceMul, reduceCtorEq, Nat.reduceDiv, Nat.reduceLeDiff, Nat.reduceLT, Nat.reduceSub, f3, f9, f10, hH, nf, Bool.and_self, cs_fine, ht1', ht2', cs_Works]
      have ht2' : (chkI (turn p) == 0) = true := by simp [ht2]
      have c5 := c4 ((chkI_zero _).1 ht1) ((chkI_zero _).1 ht2)
      simp (disch := first | assumption | omega) only [go_sem, ↓reduceIte, reduceIte, Nat.reduceEqDiff, Nat.reduceAdd, Nat.reduceMul, reduceCtorEq, Nat.reduceDiv, Nat.reduceLeDiff, Nat.reduceLT, Nat.reduceSub, f3, f9, f10, hH, nf, Bool.and_self, cs_fine, ht1', ht2', cs_Count, c5, beq_self_eq_true, cs_Works]
    · have g5 : ((A : Int) + B != (C : Int) + 0) = false := by
        rw [if_neg hd] at hparts
        simp; omega
      simp (disch := first | assumption | omega) only [go_sem, ↓reduceIte, reduceIte, Nat.reduceEqDiff, Nat.reduceAdd, Nat.reduceMul, reduceCtorEq, Nat.reduceDiv, Nat.reduceLeDiff, Nat.reduceLT, Nat.reduceSub, f3, f9, f10, hH, Int.reduceLT, Int.reduceGT, Int.reduceSub, Int.reduceAdd, decide_true, decide_false, List.drop_zero, List.drop_succ_cons, List.take_succ_cons, List.take_zero, b_remI, hm, cs_Count, c1, c2, c3, hd, bne_self_eq_false, g1, g2, g3, g4, g5, nf, Bool.and_self, cs_by (turn r), cs_by (turn p)]
      by_cases ht1 : chkI (turn r) = 0
      case neg =>
        have ht1' : (chkI (turn r) == 0) = false := by simp [ht1]
        simp (disch := first | assumption | omega) only [go_sem, ↓reduceIte, reduceIte, Nat.reduceEqDiff, Nat.reduceAdd, Nat.reduceMul, reduceCtorEq, Nat.reduceDiv, Nat.reduceLeDiff, Nat.reduceLT, Nat.reduceSub, f3, f9, f10, hH, nf, Bool.and_self, cs_fine, ht1', cs_Works]
      have ht1' : (chkI (turn r) == 0) = true := by simp [ht1]
      by_cases ht2 : chkI (turn p) = 0
      case neg =>
        have ht2' : (chkI (turn p) == 0) = false := by simp [ht2]
        simp (disch := first | assumption | omega) only [go_sem, ↓reduceIte, reduceIte, Nat.reduceEqDiff, Nat.reduceAdd, Nat.reduceMul, reduceCtorEq, Nat.reduceDiv, Nat.reduceLeDiff, Nat.reduceLT, Nat.reduceSub, f3, f9, f10, hH, nf, Bool.and_self, cs_fine, ht1', ht2', cs_Works]
      have ht2' : (chkI (turn p) == 0) = true := by simp [ht2]
      have c5 := c4 ((chkI_zero _).1 ht1) ((chkI_zero _).1 ht2)
      simp (disch := first | assumption | omega) only [go_sem, ↓reduceIte, reduceIte, Nat.reduceEqDiff, Nat.reduceAdd, Nat.reduceMul, reduceCtorEq, Nat.reduceDiv, Nat.reduceLeDiff, Nat.reduceLT, Nat.reduceSub, f3, f9, f10, hH, nf, Bool.and_self, cs_fine, ht1', ht2', cs_Count, c5, beq_self_eq_true, cs_Works]

def pitchCounted_n : Nat := 20000
theorem pitchCounted_ev (x y z : Frac) (bound : Int) (h1 : RWf x) (h2 : RWf y) (h3 : RWf z) (hb : (Lit.int .u8 bound).wf = true) :
    (evFn (evCall T pitchCounted_n) c15 [rAV x, rAV y, rAV z, .int .u8 bound] []).all fun p => p.1 = .bool true := pitchCounted_at _ rfl x y z bound h1 h2 h3 hb

end Go.Ev.YtcghegefcgnhbaaC
