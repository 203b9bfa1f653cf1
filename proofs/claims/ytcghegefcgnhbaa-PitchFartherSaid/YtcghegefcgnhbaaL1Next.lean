/- The reference's fractions next to an interval; the checks of bounds; Neighbours, the program's and the reference's. Contracts; conditions stand in each. -/
import Derived.Test.YtcghegefcgnhbaaL1Nb
set_option linter.unusedSimpArgs false
set_option linter.unusedVariables false
namespace Go.Ev.YtcghegefcgnhbaaC
open Go Go.Proofs

theorem lowN_mem (x : Frac) : ∀ k : Nat, lowN x k = ⟨0, 0⟩ ∨ ∃ d : Nat, d ≤ k ∧ lowN x k = downF x d
  | 0 => .inl rfl
  | k + 1 => by
    rw [lowN]
    split
    · exact .inr ⟨k + 1, Nat.le_refl _, by simp⟩
    · rcases lowN_mem x k with h | ⟨d, h1, h2⟩
      · exact .inl h
      · exact .inr ⟨d, by omega, h2⟩
theorem highN_mem (x : Frac) : ∀ k : Nat, highN x k = ⟨0, 0⟩ ∨ ∃ d : Nat, d ≤ k ∧ highN x k = upF x d
  | 0 => .inl rfl
  | k + 1 => by
    rw [highN]
    split
    · exact .inr ⟨k + 1, Nat.le_refl _, by simp⟩
    · rcases highN_mem x k with h | ⟨d, h1, h2⟩
      · exact .inl h
      · exact .inr ⟨d, by omega, h2⟩
theorem down_bounds {x : Frac} (hx : OkI x) {d : Int} (h0 : 0 ≤ d) (h1 : d ≤ 1000) : 0 ≤ x.num * d ∧ x.num * d ≤ 10000000 ∧ 0 ≤ x.num * d / x.den ∧ x.num * d / x.den ≤ 10000000 := by
  have g1 := hx.n1
  have g2 := hx.n2
  have g3 := hx.d1
  obtain ⟨a, b⟩ := prod_le (u := x.num) (U := 10000) (v := d) (V := 1000) (by omega) g2 h0 h1
  have c := Int.ediv_nonneg a (show 0 ≤ x.den by omega)
  have e := Int.ediv_le_self x.den a
  exact ⟨a, by omega, c, by omega⟩
theorem down_bf {x : Frac} (hx : OkI x) {d : Int} (h0 : 0 ≤ d) (h1 : d ≤ 1000) : BF (downF x d) := by
  have := down_bounds hx h0 h1
  unfold BF Bn downF
  simp only
  omega
theorem up_bf {x : Frac} (hx : OkI x) {d : Int} (h0 : 0 ≤ d) (h1 : d ≤ 1000) : BF (upF x d) := by
  unfold upF
  split
  · exact down_bf hx h0 h1
  · have := down_bounds hx h0 h1
    unfold BF Bn
    simp only
    omega
theorem low_bf {x : Frac} (hx : OkI x) {k : Nat} (h1 : k ≤ 1000) : BF (lowN x k) := by
  rcases lowN_mem x k with h | ⟨d, h2, h⟩
  · rw [h]; unfold BF Bn; simp only; omega
  · rw [h]; exact down_bf hx (by omega) (by omega)
theorem high_bf {x : Frac} (hx : OkI x) {k : Nat} (h1 : k ≤ 1000) : BF (highN x k) := by
  rcases highN_mem x k with h | ⟨d, h2, h⟩
  · rw [h]; unfold BF Bn; simp only; omega
  · rw [h]; exact up_bf hx (by omega) (by omega)

attribute [local irreducible] Res.all evC evLoop evOps evOper evOp evFn evCall freeze G GO GV GP GC R
set_option maxRecDepth 100000

theorem cs_gapA {n base : Nat} {Q : EX × St → Prop} {d : Option Nat} {L : List IOper} {ks : List Kont} {e : Env} {h : Heap} {x y : Frac} (a b c c' : Int) (hn : 1 ≤ n) (ex : x = ⟨a, b⟩) (ey : y = ⟨c, c'⟩) (hx : BF x) (hy : BF y) : GP (evCall T n) base Q d L ks e (evCall T n false (.fn 50) [.agg [.int .i64 a, .int .i64 b], .agg [.int .i64 c, .int .i64 c']] h) = GO (evCall T n) base Q L ks ⟨setDst e d (.int .i64 (gapF x y)), h⟩ := by
  subst ex ey
  exact cs_GapOf hn hx hy

theorem con_NextTo (x : Frac) (m : Nat) (hx : OkI x) (h2 : m ≤ 1000) : Con T 2 65 [rAV x, .int .i64 m] (.tuple [rAV (lowN x m), rAV (highN x m)]) := by
  refine con_intro t65 fun n hn V hV => ?_
  have g1 := hx.n1
  have g2 := hx.n2
  have g3 := hx.d1
  have g4 := hx.d2
  have bx := hx.bf
  have nf : (¬ False) = True := not_false_eq_true
  simp (disch := first | assumption | omega) only [c65, go_sem, ↓reduceIte, reduceIte, Nat.reduceEqDiff, Nat.reduceAdd, Nat.reduceMul, reduceCtorEq, Nat.reduceDiv, Nat.reduceLeDiff, Nat.reduceLT, Nat.reduceSub]
  refine m_loop (fun M st => ∃ (k : Nat) (v2 v4 v5 v6 v7 : Nat) (r40 r41 r50 r51 : AV), M = m - k ∧ k ≤ m ∧ At st.env [(1, .int .i64 m), (2, .optr 2 v2 0), (4, .optr 4 v4 0), (5, .optr 5 v5 0), (6, .optr 6 v6 0), (7, .optr 7 v7 0), (8, .int .i64 ((k : Int) + 1))] ∧
    getH st.heap 2 = .cells v2 [.int .i64 x.num, .int .i64 x.den] ∧ getH st.heap 4 = .cells v4 [r40, r41] ∧ getH st.heap 5 = .cells v5 [r50, r51] ∧ getH st.heap 6 = .cells v6 [.int .i64 (lowN x k).num, .int .i64 (lowN x k).den] ∧ getH st.heap 7 = .cells v7 [.int .i64 (highN x k).num, .int .i64 (highN x k).den]) m (by omega)
    ⟨0, 0, 0, 0, 0, 0, .int .i64 0, .int .i64 0, .int .i64 0, .int .i64 0, by omega, by omega, by simp only [go_sem, ↓reduceIte, reduceIte, Nat.reduceEqDiff, Nat.reduceAdd, Nat.reduceMul, reduceCtorEq, Nat.reduceDiv, Nat.reduceLeDiff, Nat.reduceLT, Nat.reduceSub, Int.reduceAdd], by simp only [go_sem, ↓reduceIte, reduceIte, Nat.reduceEqDiff, Nat.reduceAdd, Nat.reduceMul, reduceCtorEq, Nat.reduceDiv, Nat.reduceLeDiff, Nat.reduceLT, Nat.reduceSub], by simp only [go_sem, ↓reduceIte, reduceIte, Nat.reduceEqDiff, Nat.reduceAdd, Nat.reduceMul, reduceCtorEq, Nat.reduceDiv, Nat.reduceLeDiff, Nat.reduceLT, Nat.reduceSub], by simp only [go_sem, ↓reduceIte, reduceIte, Nat.reduceEqDiff, Nat.reduceAdd, Nat.reduceMul, reduceCtorEq, Nat.reduceDiv, Nat.reduceLeDiff, Nat.reduceLT, Nat.reduceSub], by simp only [go_sem, ↓reduceIte, reduceIte, Nat.reduceEqDiff, Nat.reduceAdd, Nat.reduceMul, reduceCtorEq, Nat.reduceDiv, Nat.reduceLeDiff, Nat.reduceLT, Nat.reduceSub, lowN], by simp only [go_sem, ↓reduceIte, reduceIte, Nat.reduceEqDiff, Nat.reduceAdd, Nat.reduceMul, reduceCtorEq, Nat.reduceDiv, Nat.reduceLeDiff, Nat.reduceLT, Nat.reduceSub, highN]⟩ ?_
  rintro M e h hM ⟨k, v2, v4, v5, v6, v7, r40, r41, r50, r51, rfl, hk, hE, hh2, hh4, hh5, hh6, hh7⟩ P hP
  simp only [At_cons, At_nil] at hE
  obtain ⟨f1, f2, f4, f5, f6, f7, f8, -⟩ := hE
  by_cases hlt : k < m
  · have hle : decide ((k : Int) + 1 ≤ m) = true := decide_eq_true (by omega)
    obtain ⟨d1, d2, d3, d4⟩ := down_bounds hx (d := (k : Int) + 1) (by omega) (by omega)
    have bd := down_bf hx (d := (k : Int) + 1) (by omega) (by omega)
    have bu := up_bf hx (d := (k : Int) + 1) (by omega) (by omega)
    have bl := low_bf hx (k := k) (by omega)
    have bh := high_bf hx (k := k) (by omega)
    obtain ⟨w1, hw1⟩ : ∃ v, (gapF (downF x ((k : Int) + 1)) x == 0) = v := ⟨_, rfl⟩
    obtain ⟨w2, hw2⟩ : ∃ v, ((k : Int) + 1 == 1) = v := ⟨_, rfl⟩
    obtain ⟨w3, hw3⟩ : ∃ v, decide (gapF (lowN x k) (downF x ((k : Int) + 1)) > 0) = v := ⟨_, rfl⟩
    obtain ⟨w4, hw4⟩ : ∃ v, decide (gapF (highN x k) (upF x ((k : Int) + 1)) < 0) = v := ⟨_, rfl⟩
    have hdn : (downF x ((k : Int) + 1)) = ⟨x.num * ((k : Int) + 1) / x.den, (k : Int) + 1⟩ := rfl
    have hex : x = ⟨x.num, x.den⟩ := rfl
    have hel : lowN x k = ⟨(lowN x k).num, (lowN x k).den⟩ := rfl
    have heh : highN x k = ⟨(highN x k).num, (highN x k).den⟩ := rfl
    have e2 : (k = 0) ↔ w2 = true := by rw [← hw2, beq_iff_eq]; omega
    have hup : upF x ((k : Int) + 1) = if w1 = true then ⟨x.num * ((k : Int) + 1) / x.den, (k : Int) + 1⟩ else ⟨x.num * ((k : Int) + 1) / x.den + 1, (k : Int) + 1⟩ := by
      unfold upF
      rw [← hw1]
      simp only [beq_iff_eq]
      rfl
    have hlow : lowN x (k + 1) = if (w2 || w3) = true then ⟨x.num * ((k : Int) + 1) / x.den, (k : Int) + 1⟩ else lowN x k := by
      rw [lowN, ← hw3]
      simp only [e2, Bool.or_eq_true, decide_eq_true_eq]
      rfl
    have hhigh : highN x (k + 1) = if (w2 || w4) = true then upF x ((k : Int) + 1) else highN x k := by
      rw [highN, ← hw4]
      simp only [e2, Bool.or_eq_true, decide_eq_true_eq]
    cases w1 <;> cases w2 <;> cases w3 <;> cases w4 <;> simp only [Bool.or_true, Bool.or_false, Bool.false_eq_true, if_true, if_false, reduceIte] at hup hlow hhigh <;> (
      simp (disch := first | assumption | omega) only [go_sem, ↓reduceIte, reduceIte, Nat.reduceEqDiff, Nat.reduceAdd, Nat.reduceMul, reduceCtorEq, Nat.reduceDiv, Nat.reduceLeDiff, Nat.reduceLT, Nat.reduceSub, f1, f2, f4, f5, f6, f7, f8, hh2, hh4, hh5, hh6, hh7, hle, b_quo, cs_gapA (x := downF x ((k : Int) + 1)) (y := x) (x.num * ((k : Int) + 1) / x.den) ((k : Int) + 1) x.num x.den, cs_gapA (x := lowN x k) (y := downF x ((k : Int) + 1)) (lowN x k).num (lowN x k).den (x.num * ((k : Int) + 1) / x.den) ((k : Int) + 1), cs_gapA (x := highN x k) (y := upF x ((k : Int) + 1)) (highN x k).num (highN x k).den (x.num * ((k : Int) + 1) / x.den) ((k : Int) + 1), cs_gapA (x := highN x k) (y := upF x ((k : Int) + 1)) (highN x k).num (highN x k).den (x.num * ((k : Int) + 1) / x.den + 1) ((k : Int) + 1), hw1, hw2, hw3, hw4, nf])
    all_goals exact hP (m - (k + 1)) _ (by omega) ⟨k + 1, v2, v4, v5, v6, v7, r40, r41, r50, r51, rfl, by omega, by simp only [go_sem, ↓reduceIte, reduceIte, Nat.reduceEqDiff, Nat.reduceAdd, Nat.reduceMul, reduceCtorEq, Nat.reduceDiv, Nat.reduceLeDiff, Nat.reduceLT, Nat.reduceSub, f1, f2, f4, f5, f6, f7], by simp only [go_sem, ↓reduceIte, reduceIte, Nat.reduceEqDiff, Nat.reduceAdd, Nat.reduceMul, reduceCtorEq, Nat.reduceDiv, Nat.reduceLeDiff, Nat.reduceLT, Nat.reduceSub, hh2], by simp only [go_sem, ↓reduceIte, reduceIte, Nat.reduceEqDiff, Nat.reduceAdd, Nat.reduceMul, reduceCtorEq, Nat.reduceDiv, Nat.reduceLeDiff, Nat.reduceLT, Nat.reduceSub, hh4], by simp only [go_sem, ↓reduceIte, reduceIte, Nat.reduceEqDiff, Nat.reduceAdd, Nat.reduceMul, reduceCtorEq, Nat.reduceDiv, Nat.reduceLeDiff, Nat.reduceLT, Nat.reduceSub, hh5], by simp only [go_sem, ↓reduceIte, reduceIte, Nat.reduceEqDiff, Nat.reduceAdd, Nat.reduceMul, reduceCtorEq, Nat.reduceDiv, Nat.reduceLeDiff, Nat.reduceLT, Nat.reduceSub, hh6, hlow], by simp only [go_sem, ↓reduceIte, reduceIte, Nat.reduceEqDiff, Nat.reduceAdd, Nat.reduceMul, reduceCtorEq, Nat.reduceDiv, Nat.reduceLeDiff, Nat.reduceLT, Nat.reduceSub, hh7, hhigh, hup]⟩
  · have hle : decide ((k : Int) + 1 ≤ m) = false := decide_eq_false (by omega)
    obtain rfl : k = m := by omega
    simp (disch := first | assumption | omega) only [go_sem, ↓reduceIte, reduceIte, Nat.reduceEqDiff, Nat.reduceAdd, Nat.reduceMul, reduceCtorEq, Nat.reduceDiv, Nat.reduceLeDiff, Nat.reduceLT, Nat.reduceSub, f1, f2, f4, f5, f6, f7, f8, hh2, hh4, hh5, hh6, hh7, hle, resV_cc, ret_bind, nf]
    exact hV _ _ (frz_rat2 _ _ _ _)

/-! ### the errors of a bound -/
def boundErr (x : Frac) (m : Int) : Int := if chkI x ≠ 0 then chkI x else if m < 1 ∨ 1000 < m then 2 else 0
theorem boundErr_zero (x : Frac) (m : Int) : boundErr x m = 0 ↔ OkI x ∧ 1 ≤ m ∧ m ≤ 1000 := by
  unfold boundErr
  rw [← chkI_zero]
  split
  · next h => constructor <;> intro h1 <;> omega
  · split
    · next h => constructor <;> intro h1 <;> omega
    · next h1 h2 => constructor <;> intro h3 <;> omega

theorem con_Bound (x : Frac) (m : Int) : Con T 3 64 [rAV x, .int .i64 m] (.int .i64 (boundErr x m)) := by
  refine con_intro t64 fun n hn V hV => ?_
  unfold boundErr at hV
  by_cases hc : chkI x = 0
  · have hc' : (chkI x != 0) = false := by simp [hc]
    rw [if_neg (by omega)] at hV
    by_cases g1 : m < 1
    · rw [if_pos (.inl g1)] at hV
      simp (disch := first | assumption | omega) only [c64, go_sem, ↓reduceIte, reduceIte, Nat.reduceEqDiff, Nat.reduceAdd, Nat.reduceMul, reduceCtorEq, Nat.reduceDiv, Nat.reduceLeDiff, Nat.reduceLT, Nat.reduceSub, cs_refCheck, hc', g1]
      exact hV _ _ (frz_int _ _ _ _)
    · by_cases g2 : m > 1000
      · rw [if_pos (.inr g2)] at hV
        simp (disch := first | assumption | omega) only [c64, go_sem, ↓reduceIte, reduceIte, Nat.reduceEqDiff, Nat.reduceAdd, Nat.reduceMul, reduceCtorEq, Nat.reduceDiv, Nat.reduceLeDiff, Nat.reduceLT, Nat.reduceSub, cs_refCheck, hc', g1, g2]
        exact hV _ _ (frz_int _ _ _ _)
      · rw [if_neg (by omega)] at hV
        simp (disch := first | assumption | omega) only [c64, go_sem, ↓reduceIte, reduceIte, Nat.reduceEqDiff, Nat.reduceAdd, Nat.reduceMul, reduceCtorEq, Nat.reduceDiv, Nat.reduceLeDiff, Nat.reduceLT, Nat.reduceSub, cs_refCheck, hc', g1, g2]
        exact hV _ _ (frz_int _ _ _ _)
  · have hc' : (chkI x != 0) = true := by simp [hc]
    rw [if_pos hc] at hV
    simp (disch := first | assumption | omega) only [c64, go_sem, ↓reduceIte, reduceIte, Nat.reduceEqDiff, Nat.reduceAdd, Nat.reduceMul, reduceCtorEq, Nat.reduceDiv, Nat.reduceLeDiff, Nat.reduceLT, Nat.reduceSub, cs_refCheck, hc']
    exact hV _ _ (frz_int _ _ _ _)

theorem con_bounded (x : Frac) (m : Int) : Con T 10004 62 [rAV x, .int .i64 m] (.tuple [if boundErr x m = 0 then forkV x else .nilptr, .int .i64 (boundErr x m)]) := by
  refine con_intro t62 fun n hn V hV => ?_
  by_cases hc : chkI x = 0
  · have hc' : (chkI x != 0) = false := by simp [hc]
    by_cases g : 1 ≤ m ∧ m ≤ 1000
    · have hb : boundErr x m = 0 := by unfold boundErr; rw [if_neg (by omega), if_neg (by omega)]
      obtain ⟨g1, g2⟩ := g
      rw [hb, if_pos rfl] at hV
      simp (disch := first | assumption | omega) only [c62, go_sem, ↓reduceIte, reduceIte, Nat.reduceEqDiff, Nat.reduceAdd, Nat.reduceMul, reduceCtorEq, Nat.reduceDiv, Nat.reduceLeDiff, Nat.reduceLT, Nat.reduceSub, List.range_zero, cs_open1, hc, hc', bne_self_eq_false, cs_within1, g1, g2]
      exact hV _ _ (by repeat (first | exact mz_nil _ _ | exact frz_int _ _ _ _ | exact frz_bool _ _ _ | exact frz_slice _ _ _ _ _ | exact frz_ptr _ _ _ _ | exact frz_nilptr _ _ | refine mz_cons ?_ ?_ | refine frz_agg ?_ | refine frz_two ?_ ?_ | refine frz_three ?_ ?_ ?_))
    · have hb : boundErr x m = 2 := by unfold boundErr; rw [if_neg (by omega), if_pos (by omega)]
      have hw : (decide (1 ≤ m) && decide (m ≤ 1000)) = false := by rw [Bool.eq_false_iff]; simp; omega
      rw [hb, if_neg (by omega)] at hV
      simp (disch := first | assumption | omega) only [c62, go_sem, ↓reduceIte, reduceIte, Nat.reduceEqDiff, Nat.reduceAdd, Nat.reduceMul, reduceCtorEq, Nat.reduceDiv, Nat.reduceLeDiff, Nat.reduceLT, Nat.reduceSub, List.range_zero, cs_open1, hc, hc', bne_self_eq_false, cs_within1, hw]
      exact hV _ _ (by repeat (first | exact mz_nil _ _ | exact frz_int _ _ _ _ | exact frz_bool _ _ _ | exact frz_slice _ _ _ _ _ | exact frz_ptr _ _ _ _ | exact frz_nilptr _ _ | refine mz_cons ?_ ?_ | refine frz_agg ?_ | refine frz_two ?_ ?_ | refine frz_three ?_ ?_ ?_))
  · have hc' : (chkI x != 0) = true := by simp [hc]
    have hb : boundErr x m = chkI x := by unfold boundErr; rw [if_pos hc]
    rw [hb, if_neg hc] at hV
    simp (disch := first | assumption | omega) only [c62, go_sem, ↓reduceIte, reduceIte, Nat.reduceEqDiff, Nat.reduceAdd, Nat.reduceMul, reduceCtorEq, Nat.reduceDiv, Nat.reduceLeDiff, Nat.reduceLT, Nat.reduceSub, List.range_zero, cs_open1, hc, hc']
    exact hV _ _ (by repeat (first | exact mz_nil _ _ | exact frz_int _ _ _ _ | exact frz_bool _ _ _ | exact frz_slice _ _ _ _ _ | exact frz_ptr _ _ _ _ | exact frz_nilptr _ _ | refine mz_cons ?_ ?_ | refine frz_agg ?_ | refine frz_two ?_ ?_ | refine frz_three ?_ ?_ ?_))

section
variable {n base : Nat} {Q : EX × St → Prop} {d : Option Nat} {L : List IOper} {ks : List Kont} {e : Env} {h : Heap}
theorem cs_Bound {x : Frac} {m : Int} (hn : 3 ≤ n) : GP (evCall T n) base Q d L ks e (evCall T n false (.fn 64) [.agg [.int .i64 x.num, .int .i64 x.den], .int .i64 m] h) = GO (evCall T n) base Q L ks ⟨setDst e d (.int .i64 (boundErr x m)), h⟩ :=
  gp_eq (con_Bound x m) hn (fz_rat _ _ (fz_int _ _ _ (fz_nil _))) (or_pi _ _ _)
theorem cs_bounded {x : Frac} {m : Int} (hn : 10004 ≤ n) : GP (evCall T n) base Q d L ks e (evCall T n false (.fn 62) [.agg [.int .i64 x.num, .int .i64 x.den], .int .i64 m] h) = GO (evCall T n) base Q L ks ⟨setDst e d (.tuple [if boundErr x m = 0 then forkV x else .nilptr, .int .i64 (boundErr x m)]), h⟩ :=
  gp_eq (con_bounded x m) hn (fz_rat _ _ (fz_int _ _ _ (fz_nil _))) rfl
theorem cs_beside {x : Frac} {m : Nat} (hn : 2 ≤ n) (hx : OkI x) (h1 : 1 ≤ m) (h2 : m ≤ 1000) : GP (evCall T n) base Q d L ks e (evCall T n false (.fn 63) [.ptr [.int .i64 x.num, .int .i64 x.den] 0, .int .i64 m] h) = GO (evCall T n) base Q L ks ⟨setDst e d (.tuple [rAV (lowN x m), rAV (highN x m)]), h⟩ :=
  gp_eq (con_beside x m hx h1 h2) hn (fz_cons (frz_ptr _ _ _ _) (fz_int _ _ _ (fz_nil _))) (by simp [plainB, depth])
theorem cs_NextTo {x : Frac} {m : Nat} (hn : 2 ≤ n) (hx : OkI x) (h2 : m ≤ 1000) : GP (evCall T n) base Q d L ks e (evCall T n false (.fn 65) [.agg [.int .i64 x.num, .int .i64 x.den], .int .i64 m] h) = GO (evCall T n) base Q L ks ⟨setDst e d (.tuple [rAV (lowN x m), rAV (highN x m)]), h⟩ :=
  gp_eq (con_NextTo x m hx h2) hn (fz_rat _ _ (fz_int _ _ _ (fz_nil _))) (by simp [plainB, depth])
end

/-! ### Neighbours -/
def zeroF : Frac := ⟨0, 0⟩
def nbs (x : Frac) (m : Int) : Frac × Frac × Int := if boundErr x m ≠ 0 then (zeroF, zeroF, boundErr x m) else (lowN x m.toNat, highN x m.toNat, 0)
theorem con_Neighbours (x : Frac) (m : Int) : Con T 10005 25 [rAV x, .int .i64 m] (.tuple [rAV (nbs x m).1, rAV (nbs x m).2.1, .int .i64 (nbs x m).2.2]) := by
  refine con_intro t25 fun n hn V hV => ?_
  replace hV : ∀ a b c h, (a, b, c) = nbs x m → V (.tuple [rAV a, rAV b, .int .i64 c], h) := fun a b c h e1 => hV _ _ (by rw [← e1]; exact (by repeat (first | exact mz_nil _ _ | exact frz_int _ _ _ _ | exact frz_bool _ _ _ | exact frz_slice _ _ _ _ _ | exact frz_ptr _ _ _ _ | exact frz_nilptr _ _ | refine mz_cons ?_ ?_ | refine frz_agg ?_ | refine frz_two ?_ ?_ | refine frz_three ?_ ?_ ?_)))
  have nf : (¬ False) = True := not_false_eq_true
  unfold nbs at hV
  by_cases hc : boundErr x m = 0
  · obtain ⟨ox, m1, m2⟩ := (boundErr_zero x m).1 hc
    obtain ⟨k, hk⟩ := Int.eq_ofNat_of_zero_le (show 0 ≤ m by omega)
    subst hk
    rw [if_neg (by omega)] at hV
    have hk1 : 1 ≤ k := by omega
    have hk2 : k ≤ 1000 := by omega
    simp (disch := first | assumption | omega) only [c25, go_sem, ↓reduceIte, reduceIte, Nat.reduceEqDiff, Nat.reduceAdd, Nat.reduceMul, reduceCtorEq, Nat.reduceDiv, Nat.reduceLeDiff, Nat.reduceLT, Nat.reduceSub, cs_bounded, hc, bne_self_eq_false, cs_beside, resV_cct, ret_bind, nf]
    exact hV _ _ _ _ (by simp)
  · have hc' : (boundErr x m != 0) = true := by simp [hc]
    rw [if_pos hc] at hV
    simp (disch := first | assumption | omega) only [c25, go_sem, ↓reduceIte, reduceIte, Nat.reduceEqDiff, Nat.reduceAdd, Nat.reduceMul, reduceCtorEq, Nat.reduceDiv, Nat.reduceLeDiff, Nat.reduceLT, Nat.reduceSub, cs_bounded, hc', resV_cct, ret_bind, nf]
    exact hV zeroF zeroF _ _ rfl
theorem con_refNeighbours (x : Frac) (m : Int) : Con T 4 26 [rAV x, .int .i64 m] (.tuple [rAV (nbs x m).1, rAV (nbs x m).2.1, .int .i64 (nbs x m).2.2]) := by
  refine con_intro t26 fun n hn V hV => ?_
  replace hV : ∀ a b c h, (a, b, c) = nbs x m → V (.tuple [rAV a, rAV b, .int .i64 c], h) := fun a b c h e1 => hV _ _ (by rw [← e1]; exact (by repeat (first | exact mz_nil _ _ | exact frz_int _ _ _ _ | exact frz_bool _ _ _ | exact frz_slice _ _ _ _ _ | exact frz_ptr _ _ _ _ | exact frz_nilptr _ _ | refine mz_cons ?_ ?_ | refine frz_agg ?_ | refine frz_two ?_ ?_ | refine frz_three ?_ ?_ ?_)))
  have nf : (¬ False) = True := not_false_eq_true
  unfold nbs at hV
  by_cases hc : boundErr x m = 0
  · obtain ⟨ox, m1, m2⟩ := (boundErr_zero x m).1 hc
    obtain ⟨k, hk⟩ := Int.eq_ofNat_of_zero_le (show 0 ≤ m by omega)
    subst hk
    rw [if_neg (by omega)] at hV
    have hk2 : k ≤ 1000 := by omega
    have hc' : (boundErr x k != 0) = false := by simp [hc]
    simp (disch := first | assumption | omega) only [c26, go_sem, ↓reduceIte, reduceIte, Nat.reduceEqDiff, Nat.reduceAdd, Nat.reduceMul, reduceCtorEq, Nat.reduceDiv, Nat.reduceLeDiff, Nat.reduceLT, Nat.reduceSub, cs_Bound, hc', cs_NextTo, resV_cct, ret_bind, nf]
    exact hV _ _ _ _ (by simp)
  · have hc' : (boundErr x m != 0) = true := by simp [hc]
    rw [if_pos hc] at hV
    simp (disch := first | assumption | omega) only [c26, go_sem, ↓reduceIte, reduceIte, Nat.reduceEqDiff, Nat.reduceAdd, Nat.reduceMul, reduceCtorEq, Nat.reduceDiv, Nat.reduceLeDiff, Nat.reduceLT, Nat.reduceSub, cs_Bound, hc', resV_cct, ret_bind, nf]
    exact hV zeroF zeroF _ _ rfl

/-! ### CheckNeighbours -/
def wideB (x : Frac) : Prop := 0 ≤ x.num ∧ x.num ≤ 1073741824 ∧ 1 ≤ x.den ∧ x.den ≤ 1073741824
instance (x : Frac) : Decidable (wideB x) := by unfold wideB; infer_instance
theorem wideB.bf {x : Frac} (h : wideB x) : BF x := by unfold wideB at h; unfold BF Bn; omega
def chkNb (lo hi : Frac) (m : Int) : Int := if m < 1 ∨ 1000 < m then 2 else if ¬ (wideB lo ∧ wideB hi) then 3 else if gapF lo hi ≠ 1 ∨ lo.den + hi.den ≤ m then 14 else 0

theorem eaA_self (a b : Int) : eaA 2 false (.agg [.int .i64 a, .int .i64 b]) (.agg [.int .i64 a, .int .i64 b]) = .ret (.bool true) := by simp [eaA, eqInts]
instance : DecidableEq Frac := fun x y => decidable_of_iff (x.num = y.num ∧ x.den = y.den) ⟨fun h => Frac.ext' h.1 h.2, fun h => by rw [h]; exact ⟨rfl, rfl⟩⟩
theorem eaA_rat (x y : Frac) : eaA 2 false (.agg [.int .i64 x.num, .int .i64 x.den]) (.agg [.int .i64 y.num, .int .i64 y.den]) = .ret (.bool (decide (x = y))) := by
  obtain ⟨a, b⟩ := x
  obtain ⟨c, d⟩ := y
  simp only [eaA, eqInts, if_true]
  have e : (⟨a, b⟩ : Frac) = ⟨c, d⟩ ↔ a = c ∧ b = d := ⟨fun h => by cases h; exact ⟨rfl, rfl⟩, fun h => by rw [h.1, h.2]⟩
  simp only [e]
  by_cases h1 : a = c <;> by_cases h2 : b = d <;> simp [h1, h2]


end Go.Ev.YtcghegefcgnhbaaC
