/- The simplest fraction of two intervals: the program's way, and the reference's. Contracts; conditions stand in each. -/
import Derived.Test.YtcghegefcgnhbaaL1Fine
import Derived.Test.YtcghegefcgnhbaaL1Math2
set_option linter.unusedSimpArgs false
set_option linter.unusedVariables false
namespace Go.Ev.YtcghegefcgnhbaaC
open Go Go.Proofs

/-- the simplest one -/
def simpOf (lo hi : Frac) : Frac := simpP (lo.den + hi.den + 1).toNat lo hi
theorem simpOf_spec {lo hi : Frac} (hl : 0 < lo.den) (hh : 0 < hi.den) (hp : 0 ≤ lo.num) (hle : lo.num * hi.den ≤ hi.num * lo.den) : SimpF lo hi (simpOf lo hi) := simpP_spec _ lo hi hl hh hp hle (by omega)

structure Sm (x : Frac) : Prop where
  n0 : 0 ≤ x.num
  n1 : x.num ≤ 10000
  d0 : 1 ≤ x.den
  d1 : x.den ≤ 10000

theorem simpOf_rec {lo hi : Frac} (hl : 0 < lo.den) (hh : 0 < hi.den) (hp : 0 ≤ lo.num) (hle : lo.num * hi.den ≤ hi.num * lo.den) (g1 : ¬ lo.num / lo.den * lo.den = lo.num) (g2 : ¬ (lo.num / lo.den + 1) * hi.den ≤ hi.num) :
    simpOf lo hi = ⟨lo.num / lo.den * (simpOf ⟨hi.den, hi.num - lo.num / lo.den * hi.den⟩ ⟨lo.den, lo.num - lo.num / lo.den * lo.den⟩).num + (simpOf ⟨hi.den, hi.num - lo.num / lo.den * hi.den⟩ ⟨lo.den, lo.num - lo.num / lo.den * lo.den⟩).den, (simpOf ⟨hi.den, hi.num - lo.num / lo.den * hi.den⟩ ⟨lo.den, lo.num - lo.num / lo.den * lo.den⟩).num⟩ := by
  obtain ⟨r1, r2, r3, r4, r5⟩ := rest_ok hl hh hp hle g1 g2
  have hle' : hi.den * (lo.num - lo.num / lo.den * lo.den) ≤ lo.den * (hi.num - lo.num / lo.den * hi.den) := by grind
  have s1 := simpOf_spec (lo := ⟨hi.den, hi.num - lo.num / lo.den * hi.den⟩) (hi := ⟨lo.den, lo.num - lo.num / lo.den * lo.den⟩) r2 r4 (by simp only; omega) hle'
  have s2 := simpP_spec (lo.den + hi.den).toNat ⟨hi.den, hi.num - lo.num / lo.den * hi.den⟩ ⟨lo.den, lo.num - lo.num / lo.den * lo.den⟩ r2 r4 (by simp only; omega) hle' (by simp only; omega)
  have e := simp_uniq s1 s2
  have k : (lo.den + hi.den + 1).toNat = (lo.den + hi.den).toNat + 1 := by omega
  rw [e]
  unfold simpOf
  rw [k, simpP, if_neg g1, if_neg g2]

attribute [local irreducible] Res.all evC evLoop evOps evOper evOp evFn evCall freeze G GO GV GP GC R
set_option maxRecDepth 100000

set_option maxHeartbeats 1000000 in
theorem con_simplest : ∀ (j : Nat) (lo hi : Frac), Sm lo → Sm hi → lo.num * hi.den ≤ hi.num * lo.den → (lo.den < j ∨ hi.den < j) → Con T j 69 [rAV lo, rAV hi] (rAV (simpOf lo hi)) := by
  intro j
  induction j with
  | zero => intro lo hi h1 h2 _ h; have := h1.d0; have := h2.d0; omega
  | succ j ih =>
    intro lo hi h1 h2 hle hj
    refine con_intro t69 fun n hn V hV => ?_
    obtain ⟨a1, a2, a3, a4⟩ := h1
    obtain ⟨b1, b2, b3, b4⟩ := h2
    have hs := simpOf_spec (by omega) (by omega) a1 hle
    have hmin := hs.min hi.num hi.den b3 (by omega) (by omega)
    have hs0 := hs.n0
    have hs1 := hs.d1
    replace hV : ∀ a b h, (⟨a, b⟩ : Frac) = simpOf lo hi → V (.agg [.int .i64 a, .int .i64 b], h) := fun a b h e1 => hV _ _ (by rw [← e1]; exact (by repeat (first | exact mz_nil _ _ | exact frz_int _ _ _ _ | exact frz_bool _ _ _ | exact frz_slice _ _ _ _ _ | exact frz_ptr _ _ _ _ | exact frz_nilptr _ _ | refine mz_cons ?_ ?_ | refine frz_agg ?_ | refine frz_two ?_ ?_ | refine frz_three ?_ ?_ ?_)))
    have k : (lo.den + hi.den + 1).toNat = (lo.den + hi.den).toNat + 1 := by omega
    obtain ⟨q0, q1, q2⟩ := quo_mul (u := lo.num) (v := lo.den) a1 (by omega)
    have q3 := Int.ediv_le_self lo.den a1
    have p1 := prod_le (u := lo.num / lo.den) (U := 10000) (v := lo.den) (V := 10000) q0 (by omega) (by omega) a4
    have p2 := prod_le (u := lo.num / lo.den) (U := 10000) (v := hi.den) (V := 10000) q0 (by omega) (by omega) b4
    have p3 := prod_le (u := lo.num / lo.den + 1) (U := 10001) (v := hi.den) (V := 10000) (by omega) (by omega) (by omega) b4
    by_cases g1 : lo.num / lo.den * lo.den = lo.num
    · have e1 : simpOf lo hi = ⟨lo.num / lo.den, 1⟩ := by unfold simpOf; rw [k, simpP, if_pos g1]
      have g1' : (lo.num / lo.den * lo.den == lo.num) = true := by simp [g1]
      simp (disch := first | assumption | omega) only [c69, go_sem, ↓reduceIte, reduceIte, Nat.reduceEqDiff, Nat.reduceAdd, Nat.reduceMul, reduceCtorEq, Nat.reduceDiv, Nat.reduceLeDiff, Nat.reduceLT, Nat.reduceSub, b_quo, g1']
      exact hV _ _ _ e1.symm
    have g1' : (lo.num / lo.den * lo.den == lo.num) = false := by simp [g1]
    by_cases g2 : (lo.num / lo.den + 1) * hi.den ≤ hi.num
    · have e1 : simpOf lo hi = ⟨lo.num / lo.den + 1, 1⟩ := by unfold simpOf; rw [k, simpP, if_neg g1, if_pos g2]
      simp (disch := first | assumption | omega) only [c69, go_sem, ↓reduceIte, reduceIte, Nat.reduceEqDiff, Nat.reduceAdd, Nat.reduceMul, reduceCtorEq, Nat.reduceDiv, Nat.reduceLeDiff, Nat.reduceLT, Nat.reduceSub, b_quo, g1', g2]
      exact hV _ _ _ e1.symm
    · have hr := simpOf_rec (by omega) (by omega) a1 hle g1 g2
      obtain ⟨r1, r2, r3, r4, r5⟩ := rest_ok (by omega) (by omega) a1 hle g1 g2
      have hle' : hi.den * (lo.num - lo.num / lo.den * lo.den) ≤ lo.den * (hi.num - lo.num / lo.den * hi.den) := by grind
      have hc := ih ⟨hi.den, hi.num - lo.num / lo.den * hi.den⟩ ⟨lo.den, lo.num - lo.num / lo.den * lo.den⟩ ⟨by simp only; omega, by simp only; omega, by simp only; omega, by simp only; omega⟩ ⟨by simp only; omega, by simp only; omega, by simp only; omega, by simp only; omega⟩ hle' (by simp only; omega)
      have ys := (simpOf_spec (lo := ⟨hi.den, hi.num - lo.num / lo.den * hi.den⟩) (hi := ⟨lo.den, lo.num - lo.num / lo.den * lo.den⟩) r2 r4 (by simp only; omega) hle').d1
      generalize simpOf ⟨hi.den, hi.num - lo.num / lo.den * hi.den⟩ ⟨lo.den, lo.num - lo.num / lo.den * lo.den⟩ = y at *
      rw [hr] at hmin hs0 hs1
      simp only at hmin hs0 hs1
      have y0 : 0 ≤ y.num := by omega
      have y1 := Int.mul_nonneg q0 y0
      simp (disch := first | assumption | omega) only [c69, go_sem, ↓reduceIte, reduceIte, Nat.reduceEqDiff, Nat.reduceAdd, Nat.reduceMul, reduceCtorEq, Nat.reduceDiv, Nat.reduceLeDiff, Nat.reduceLT, Nat.reduceSub, b_quo, g1', g2]
      refine gp_con hc (by omega) (by repeat (first | exact fz_nil _ | refine fz_cons (by repeat (first | exact mz_nil _ _ | exact frz_int _ _ _ _ | exact frz_bool _ _ _ | exact frz_slice _ _ _ _ _ | exact frz_ptr _ _ _ _ | exact frz_nilptr _ _ | refine mz_cons ?_ ?_ | refine frz_agg ?_ | refine frz_two ?_ ?_ | refine frz_three ?_ ?_ ?_)) ?_)) rfl ?_
      simp (disch := first | assumption | omega) only [go_sem, ↓reduceIte, reduceIte, Nat.reduceEqDiff, Nat.reduceAdd, Nat.reduceMul, reduceCtorEq, Nat.reduceDiv, Nat.reduceLeDiff, Nat.reduceLT, Nat.reduceSub, b_quo, g1', g2]
      exact hV _ _ _ hr.symm

theorem OkI.sm {x : Frac} (h : OkI x) : Sm x := ⟨by have := h.n1; omega, h.n2, h.d1, h.d2⟩
theorem cs_simplest {n base : Nat} {Q : EX × St → Prop} {d : Option Nat} {L : List IOper} {ks : List Kont} {e : Env} {h : Heap} {lo hi : Frac} (hn : 10001 ≤ n) (h1 : OkI lo) (h2 : OkI hi) (hle : ¬ gapF lo hi < 0) : GP (evCall T n) base Q d L ks e (evCall T n false (.fn 69) [.agg [.int .i64 lo.num, .int .i64 lo.den], .agg [.int .i64 hi.num, .int .i64 hi.den]] h) = GO (evCall T n) base Q L ks ⟨setDst e d (rAV (simpOf lo hi)), h⟩ :=
  gp_eq (con_simplest 10001 lo hi h1.sm h2.sm (by unfold gapF at hle; omega) (.inl (by have := h1.d2; omega))) hn (fz_rat _ _ (fz_rat _ _ (fz_nil _))) rfl

/-! ### Simplest -/
def smpl (lo hi : Frac) : Frac × Int := if openErr [lo, hi] ≠ 0 then (zeroF, openErr [lo, hi]) else if gapF lo hi < 0 then (zeroF, 2) else (simpOf lo hi, 0)
theorem con_Simplest (lo hi : Frac) : Con T 10004 33 [rAV lo, rAV hi] (.tuple [rAV (smpl lo hi).1, .int .i64 (smpl lo hi).2]) := by
  refine con_intro t33 fun n hn V hV => ?_
  replace hV : ∀ a c h, (a, c) = smpl lo hi → V (.tuple [rAV a, .int .i64 c], h) := fun a c h e1 => hV _ _ (by rw [← e1]; exact (by repeat (first | exact mz_nil _ _ | exact frz_int _ _ _ _ | exact frz_bool _ _ _ | exact frz_slice _ _ _ _ _ | exact frz_ptr _ _ _ _ | exact frz_nilptr _ _ | refine mz_cons ?_ ?_ | refine frz_agg ?_ | refine frz_two ?_ ?_ | refine frz_three ?_ ?_ ?_)))
  have nf : (¬ False) = True := not_false_eq_true
  unfold smpl at hV
  by_cases hc : openErr [lo, hi] = 0
  · obtain ⟨ol, oh⟩ := (open_two_zero lo hi).1 hc
    have bl := ol.bf
    have bh := oh.bf
    rw [if_neg (by omega)] at hV
    by_cases hg : gapF lo hi < 0
    · rw [if_pos hg] at hV
      simp (disch := first | assumption | omega) only [c33, go_sem, ↓reduceIte, reduceIte, Nat.reduceEqDiff, Nat.reduceAdd, Nat.reduceMul, reduceCtorEq, Nat.reduceDiv, Nat.reduceLeDiff, Nat.reduceLT, Nat.reduceSub, List.range_succ, List.range_zero, Nat.zero_mul, Nat.one_mul, cs_open2, hc, bne_self_eq_false, cs_gap, hg, resV_ct, ret_bind, nf]
      exact hV zeroF _ _ rfl
    · rw [if_neg hg] at hV
      simp (disch := first | assumption | omega) only [c33, go_sem, ↓reduceIte, reduceIte, Nat.reduceEqDiff, Nat.reduceAdd, Nat.reduceMul, reduceCtorEq, Nat.reduceDiv, Nat.reduceLeDiff, Nat.reduceLT, Nat.reduceSub, List.range_succ, List.range_zero, Nat.zero_mul, Nat.one_mul, cs_open2, hc, bne_self_eq_false, cs_gap, hg, cs_simplest, resV_ct, ret_bind, nf]
      exact hV _ _ _ rfl
  · have hc' : (openErr [lo, hi] != 0) = true := by simp [hc]
    rw [if_pos hc] at hV
    simp (disch := first | assumption | omega) only [c33, go_sem, ↓reduceIte, reduceIte, Nat.reduceEqDiff, Nat.reduceAdd, Nat.reduceMul, reduceCtorEq, Nat.reduceDiv, Nat.reduceLeDiff, Nat.reduceLT, Nat.reduceSub, List.range_succ, List.range_zero, Nat.zero_mul, Nat.one_mul, cs_open2, hc', resV_ct, ret_bind, nf]
    exact hV zeroF _ _ rfl

set_option maxHeartbeats 1000000 in
theorem con_refSimplest (lo hi : Frac) : Con T 4 34 [rAV lo, rAV hi] (.tuple [rAV (smpl lo hi).1, .int .i64 (smpl lo hi).2]) := by
  refine con_intro t34 fun n hn V hV => ?_
  replace hV : ∀ a c h, (a, c) = smpl lo hi → V (.tuple [rAV a, .int .i64 c], h) := fun a c h e1 => hV _ _ (by rw [← e1]; exact (by repeat (first | exact mz_nil _ _ | exact frz_int _ _ _ _ | exact frz_bool _ _ _ | exact frz_slice _ _ _ _ _ | exact frz_ptr _ _ _ _ | exact frz_nilptr _ _ | refine mz_cons ?_ ?_ | refine frz_agg ?_ | refine frz_two ?_ ?_ | refine frz_three ?_ ?_ ?_)))
  have nf : (¬ False) = True := not_false_eq_true
  unfold smpl at hV
  by_cases hc : openErr [lo, hi] = 0
  case neg =>
    have hc' : (openErr [lo, hi] != 0) = true := by simp [hc]
    rw [if_pos hc] at hV
    simp (disch := first | assumption | omega) only [c34, go_sem, ↓reduceIte, reduceIte, Nat.reduceEqDiff, Nat.reduceAdd, Nat.reduceMul, reduceCtorEq, Nat.reduceDiv, Nat.reduceLeDiff, Nat.reduceLT, Nat.reduceSub, cs_Two, hc', resV_ct, ret_bind, nf]
    exact hV zeroF _ _ rfl
  have hc' : (openErr [lo, hi] != 0) = false := by simp [hc]
  obtain ⟨ol, oh⟩ := (open_two_zero lo hi).1 hc
  have bl := ol.bf
  have bh := oh.bf
  rw [if_neg (by omega)] at hV
  by_cases hg : gapF lo hi < 0
  · rw [if_pos hg] at hV
    simp (disch := first | assumption | omega) only [c34, go_sem, ↓reduceIte, reduceIte, Nat.reduceEqDiff, Nat.reduceAdd, Nat.reduceMul, reduceCtorEq, Nat.reduceDiv, Nat.reduceLeDiff, Nat.reduceLT, Nat.reduceSub, cs_Two, hc', cs_GapOf, hg, resV_ct, ret_bind, nf]
    exact hV zeroF _ _ rfl
  rw [if_neg hg] at hV
  have l1 := ol.n1
  have l2 := ol.n2
  have l3 := ol.d1
  have l4 := ol.d2
  have h1 := oh.n1
  have h2 := oh.n2
  have h3 := oh.d1
  have h4 := oh.d2
  have hs := simpOf_spec (lo := lo) (hi := hi) (by omega) (by omega) (by omega) (by unfold gapF at hg; omega)
  have sd := (hs.min hi.num hi.den h3 (by unfold gapF at hg; omega) (by omega)).1
  have sd1 := hs.d1
  simp (disch := first | assumption | omega) only [c34, go_sem, ↓reduceIte, reduceIte, Nat.reduceEqDiff, Nat.reduceAdd, Nat.reduceMul, reduceCtorEq, Nat.reduceDiv, Nat.reduceLeDiff, Nat.reduceLT, Nat.reduceSub, cs_Two, hc', cs_GapOf, hg]
  refine m_loop (fun M st => ∃ (k : Int) (v2 v3 v4 : Nat) (r0 r1 : AV), M = ((simpOf lo hi).den - k).toNat ∧ 1 ≤ k ∧ k ≤ (simpOf lo hi).den ∧ At st.env [(2, .optr 2 v2 0), (3, .optr 3 v3 0), (4, .optr 4 v4 0), (6, .int .i64 k)] ∧ getH st.heap 2 = .cells v2 [.int .i64 lo.num, .int .i64 lo.den] ∧ getH st.heap 3 = .cells v3 [.int .i64 hi.num, .int .i64 hi.den] ∧ getH st.heap 4 = .cells v4 [r0, r1]) ((simpOf lo hi).den - 1).toNat (by omega)
    ⟨1, 0, 0, 0, .int .i64 0, .int .i64 0, rfl, by omega, sd1, by simp only [go_sem, ↓reduceIte, reduceIte, Nat.reduceEqDiff, Nat.reduceAdd, Nat.reduceMul, reduceCtorEq, Nat.reduceDiv, Nat.reduceLeDiff, Nat.reduceLT, Nat.reduceSub], by simp only [go_sem, ↓reduceIte, reduceIte, Nat.reduceEqDiff, Nat.reduceAdd, Nat.reduceMul, reduceCtorEq, Nat.reduceDiv, Nat.reduceLeDiff, Nat.reduceLT, Nat.reduceSub], by simp only [go_sem, ↓reduceIte, reduceIte, Nat.reduceEqDiff, Nat.reduceAdd, Nat.reduceMul, reduceCtorEq, Nat.reduceDiv, Nat.reduceLeDiff, Nat.reduceLT, Nat.reduceSub], by simp only [go_sem, ↓reduceIte, reduceIte, Nat.reduceEqDiff, Nat.reduceAdd, Nat.reduceMul, reduceCtorEq, Nat.reduceDiv, Nat.reduceLeDiff, Nat.reduceLT, Nat.reduceSub]⟩ ?_
  rintro M e h hM ⟨k, v2, v3, v4, r0, r1, rfl, k1, k2, hE, hh2, hh3, hh4⟩ P hP
  simp only [At_cons, At_nil] at hE hh2 hh3 hh4
  obtain ⟨f2, f3, f4, f6, -⟩ := hE
  obtain ⟨c1, c2⟩ := first_den (lo := lo) (hi := hi) (by omega) (by omega) hs k1 k2
  obtain ⟨p1, p2⟩ := prod_le (u := lo.num) (U := 10000) (v := k) (V := 10000) (by omega) l2 (by omega) (by omega)
  have q0 := Int.ediv_nonneg (show 0 ≤ lo.num * k + lo.den - 1 by omega) (show 0 ≤ lo.den by omega)
  have q1 := Int.ediv_le_self lo.den (show 0 ≤ lo.num * k + lo.den - 1 by omega)
  obtain ⟨F, hF1, hF2⟩ : ∃ F : Frac, (lo.num * k + lo.den - 1) / lo.den = F.num ∧ k = F.den := ⟨⟨_, _⟩, rfl, rfl⟩
  have bF : BF F := by unfold BF Bn; omega
  have hF : F = ⟨ceilF lo k, k⟩ := Frac.ext' hF1.symm hF2.symm
  have hgF : gapF F hi ≥ 0 ↔ k = (simpOf lo hi).den := by
    rw [← c1, hF]
    unfold gapF
    simp only
    omega
  by_cases hk : k = (simpOf lo hi).den
  · have hg2 : decide (gapF F hi ≥ 0) = true := decide_eq_true (hgF.2 hk)
    simp (disch := first | assumption | omega) only [go_sem, ↓reduceIte, reduceIte, Nat.reduceEqDiff, Nat.reduceAdd, Nat.reduceMul, reduceCtorEq, Nat.reduceDiv, Nat.reduceLeDiff, Nat.reduceLT, Nat.reduceSub, f2, f3, f4, f6, hh2, hh3, hh4, b_quo, hF1]
    rw [hF2]
    simp (disch := first | assumption | omega) only [go_sem, ↓reduceIte, reduceIte, Nat.reduceEqDiff, Nat.reduceAdd, Nat.reduceMul, reduceCtorEq, Nat.reduceDiv, Nat.reduceLeDiff, Nat.reduceLT, Nat.reduceSub, f2, f3, f4, f6, hh2, hh3, hh4, cs_GapOf, hg2, resV_ct, ret_bind, nf]
    refine hV F _ _ ?_
    rw [hF, Frac.ext' (x := ⟨ceilF lo k, k⟩) (y := simpOf lo hi) (c2 hk) hk]
  · have hg2 : decide (gapF F hi ≥ 0) = false := decide_eq_false (fun h => hk (hgF.1 h))
    have hex : F = ⟨F.num, k⟩ := Frac.ext' rfl hF2.symm
    have hey : hi = ⟨hi.num, hi.den⟩ := rfl
    simp (disch := first | assumption | omega) only [go_sem, ↓reduceIte, reduceIte, Nat.reduceEqDiff, Nat.reduceAdd, Nat.reduceMul, reduceCtorEq, Nat.reduceDiv, Nat.reduceLeDiff, Nat.reduceLT, Nat.reduceSub, f2, f3, f4, f6, hh2, hh3, hh4, b_quo, hF1, cs_gapA (x := F) (y := hi) F.num k hi.num hi.den, hg2]
    exact hP ((simpOf lo hi).den - (k + 1)).toNat _ (by omega) ⟨k + 1, v2, v3, v4, r0, r1, rfl, by omega, by omega, by simp only [go_sem, ↓reduceIte, reduceIte, Nat.reduceEqDiff, Nat.reduceAdd, Nat.reduceMul, reduceCtorEq, Nat.reduceDiv, Nat.reduceLeDiff, Nat.reduceLT, Nat.reduceSub, f2, f3, f4], by simp only [go_sem, ↓reduceIte, reduceIte, Nat.reduceEqDiff, Nat.reduceAdd, Nat.reduceMul, reduceCtorEq, Nat.reduceDiv, Nat.reduceLeDiff, Nat.reduceLT, Nat.reduceSub, hh2], by simp only [go_sem, ↓reduceIte, reduceIte, Nat.reduceEqDiff, Nat.reduceAdd, Nat.reduceMul, reduceCtorEq, Nat.reduceDiv, Nat.reduceLeDiff, Nat.reduceLT, Nat.reduceSub, hh3], by simp only [go_sem, ↓reduceIte, reduceIte, Nat.reduceEqDiff, Nat.reduceAdd, Nat.reduceMul, reduceCtorEq, Nat.reduceDiv, Nat.reduceLeDiff, Nat.reduceLT, Nat.reduceSub, hh4]⟩

section
variable {n base : Nat} {Q : EX × St → Prop} {d : Option Nat} {L : List IOper} {ks : List Kont} {e : Env} {h : Heap}
theorem cs_Simplest {x y : Frac} (hn : 10004 ≤ n) : GP (evCall T n) base Q d L ks e (evCall T n false (.fn 33) [.agg [.int .i64 x.num, .int .i64 x.den], .agg [.int .i64 y.num, .int .i64 y.den]] h) = GO (evCall T n) base Q L ks ⟨setDst e d (.tuple [rAV (smpl x y).1, .int .i64 (smpl x y).2]), h⟩ :=
  gp_eq (con_Simplest x y) hn (fz_rat _ _ (fz_rat _ _ (fz_nil _))) (by simp [plainB, depth])
theorem cs_refSimplest {x y : Frac} (hn : 4 ≤ n) : GP (evCall T n) base Q d L ks e (evCall T n false (.fn 34) [.agg [.int .i64 x.num, .int .i64 x.den], .agg [.int .i64 y.num, .int .i64 y.den]] h) = GO (evCall T n) base Q L ks ⟨setDst e d (.tuple [rAV (smpl x y).1, .int .i64 (smpl x y).2]), h⟩ :=
  gp_eq (con_refSimplest x y) hn (fz_rat _ _ (fz_rat _ _ (fz_nil _))) (by simp [plainB, depth])
end

end Go.Ev.YtcghegefcgnhbaaC
