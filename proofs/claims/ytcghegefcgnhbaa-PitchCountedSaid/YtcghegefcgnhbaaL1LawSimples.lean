/- Count, the reference's; the law PitchSimples answers true, whatever it is handed. Conditions: the arguments are integers that fit their kinds. -/
import Derived.Test.YtcghegefcgnhbaaL1Count
set_option linter.unusedSimpArgs false
set_option linter.unusedVariables false
namespace Go.Ev.YtcghegefcgnhbaaC
open Go Go.Proofs

attribute [local irreducible] Res.all evC evLoop evOps evOper evOp evFn evCall freeze G GO GV GP GC R
set_option maxRecDepth 100000

set_option maxHeartbeats 1000000 in
theorem con_CountOf (lo hi : Frac) (m : Nat) (ol : OkI lo) (oh : OkI hi) (hm : m ≤ 50) : Con T 2 71 [rAV lo, rAV hi, .int .i64 m] (.int .i64 (cntM lo hi m : Nat)) := by
  refine con_intro t71 fun n hn V hV => ?_
  have bl := ol.bf
  have bh := oh.bf
  have nf : (¬ False) = True := not_false_eq_true
  have hfin : ∀ h, V (.int .i64 (upTo lo hi (m + 1) 0 : Nat), h) := fun h => hV _ _ (by simp [upTo]; exact (by repeat (first | exact mz_nil _ _ | exact frz_int _ _ _ _ | exact frz_bool _ _ _ | exact frz_slice _ _ _ _ _ | exact frz_ptr _ _ _ _ | exact frz_nilptr _ _ | refine mz_cons ?_ ?_ | refine frz_agg ?_ | refine frz_two ?_ ?_ | refine frz_three ?_ ?_ ?_)))
  simp (disch := first | assumption | omega) only [c71, go_sem, ↓reduceIte, reduceIte, Nat.reduceEqDiff, Nat.reduceAdd, Nat.reduceMul, reduceCtorEq, Nat.reduceDiv, Nat.reduceLeDiff, Nat.reduceLT, Nat.reduceSub]
  refine m_loop (fun M st => ∃ (d v3 v4 : Nat), M = m - d ∧ d ≤ m ∧ At st.env [(2, .int .i64 m), (3, .optr 3 v3 0), (4, .optr 4 v4 0), (7, .int .i64 (upTo lo hi (d + 1) 0 : Nat)), (8, .int .i64 ((d : Int) + 1))] ∧ getH st.heap 3 = .cells v3 [.int .i64 lo.num, .int .i64 lo.den] ∧ getH st.heap 4 = .cells v4 [.int .i64 hi.num, .int .i64 hi.den]) m (by omega)
    ⟨0, 0, 0, by omega, by omega, by simp only [go_sem, ↓reduceIte, reduceIte, Nat.reduceEqDiff, Nat.reduceAdd, Nat.reduceMul, reduceCtorEq, Nat.reduceDiv, Nat.reduceLeDiff, Nat.reduceLT, Nat.reduceSub, upTo, cntM, Nat.sub_self, List.range_zero, List.filter_nil], by simp only [go_sem, ↓reduceIte, reduceIte, Nat.reduceEqDiff, Nat.reduceAdd, Nat.reduceMul, reduceCtorEq, Nat.reduceDiv, Nat.reduceLeDiff, Nat.reduceLT, Nat.reduceSub], by simp only [go_sem, ↓reduceIte, reduceIte, Nat.reduceEqDiff, Nat.reduceAdd, Nat.reduceMul, reduceCtorEq, Nat.reduceDiv, Nat.reduceLeDiff, Nat.reduceLT, Nat.reduceSub]⟩ ?_
  rintro M e h hM ⟨d, v3, v4, rfl, hd, hE, hh3, hh4⟩ P hP
  simp only [At_cons, At_nil] at hE hh3 hh4
  obtain ⟨f2, f3, f4, f7, f8, -⟩ := hE
  by_cases hlt : d < m
  · have hle : decide ((d : Int) + 1 ≤ m) = true := decide_eq_true (by omega)
    simp (disch := first | assumption | omega) only [go_sem, ↓reduceIte, reduceIte, Nat.reduceEqDiff, Nat.reduceAdd, Nat.reduceMul, reduceCtorEq, Nat.reduceDiv, Nat.reduceLeDiff, Nat.reduceLT, Nat.reduceSub, f2, f3, f4, f7, f8, hle]
    refine m_loop (fun M st => ∃ (k v3 v4 : Nat), M = 4 * (d + 1) + 1 - k ∧ k ≤ 4 * (d + 1) + 1 ∧ At st.env [(2, .int .i64 m), (3, .optr 3 v3 0), (4, .optr 4 v4 0), (7, .int .i64 (upTo lo hi (d + 1) k : Nat)), (8, .int .i64 ((d : Int) + 1)), (9, .int .i64 k)] ∧ getH st.heap 3 = .cells v3 [.int .i64 lo.num, .int .i64 lo.den] ∧ getH st.heap 4 = .cells v4 [.int .i64 hi.num, .int .i64 hi.den]) (4 * (d + 1) + 1) (by omega)
      ⟨0, v3, v4, by omega, by omega, by simp only [go_sem, ↓reduceIte, reduceIte, Nat.reduceEqDiff, Nat.reduceAdd, Nat.reduceMul, reduceCtorEq, Nat.reduceDiv, Nat.reduceLeDiff, Nat.reduceLT, Nat.reduceSub, f2, f3, f4, f7, f8], hh3, hh4⟩ ?_
    rintro M e h hM2 ⟨k, v3, v4, rfl, hk, hE, hh3, hh4⟩ P' hP'
    simp only [At_cons, At_nil] at hE hh3 hh4
    obtain ⟨f2, f3, f4, f7, f8, f9, -⟩ := hE
    by_cases hlt2 : k ≤ 4 * (d + 1)
    · have hle2 : decide ((k : Int) ≤ 4 * ((d : Int) + 1)) = true := decide_eq_true (by omega)
      have ed : ((d : Int) + 1) = ((d + 1 : Nat) : Int) := by simp
      have hcm := con_Common k (d + 1) (by omega) (by omega)
      rw [← ed] at hcm
      have bF : BF ⟨(k : Int), (d : Int) + 1⟩ := by unfold BF Bn; simp only; omega
      have hsm := upTo_small lo hi (d := d + 1) (n := k) (by omega) (by omega)
      have eF : (⟨(k : Int), ((d + 1 : Nat) : Int)⟩ : Frac) = ⟨(k : Int), (d : Int) + 1⟩ := by rw [ed]
      have hok := okC_iff lo hi k (d + 1)
      rw [eF] at hok
      have hus := upTo_succ lo hi (d + 1) k
      obtain ⟨F, hF⟩ : ∃ F : Frac, F = ⟨(k : Int), (d : Int) + 1⟩ := ⟨_, rfl⟩
      rw [← hF] at bF hok
      have hlx : lo = ⟨lo.num, lo.den⟩ := rfl
      have hhx : hi = ⟨hi.num, hi.den⟩ := rfl
      have step : ∀ (b : Bool), okC lo hi k (d + 1) = b → upTo lo hi (d + 1) (k + 1) = upTo lo hi (d + 1) k + (if b = true then 1 else 0) := fun b hb => by rw [hus, hb]
      simp (disch := first | assumption | omega) only [go_sem, ↓reduceIte, reduceIte, Nat.reduceEqDiff, Nat.reduceAdd, Nat.reduceMul, reduceCtorEq, Nat.reduceDiv, Nat.reduceLeDiff, Nat.reduceLT, Nat.reduceSub, f2, f3, f4, f7, f8, f9, hle2]
      refine gp_con hcm (by omega) (by repeat (first | exact fz_nil _ | refine fz_slice _ _ _ _ ?_ | refine fz_int _ _ _ ?_)) (or_pi _ _ _) ?_
      by_cases hg : Nat.gcd k (d + 1) = 1
      · have hg' : (((Nat.gcd k (d + 1) : Nat) : Int) == 1) = true := by rw [hg]; rfl
        by_cases k1 : gapF lo F ≥ 0
        · by_cases k2 : gapF F hi ≥ 0
          · have hs := step true (hok.2 ⟨hg, k1, k2⟩)
            simp (disch := first | assumption | omega) only [go_sem, ↓reduceIte, reduceIte, Nat.reduceEqDiff, Nat.reduceAdd, Nat.reduceMul, reduceCtorEq, Nat.reduceDiv, Nat.reduceLeDiff, Nat.reduceLT, Nat.reduceSub, f2, f3, f4, f7, f8, f9, hh3, hh4, hg', cs_gapA (x := lo) (y := F) lo.num lo.den k ((d : Int) + 1), cs_gapA (x := F) (y := hi) k ((d : Int) + 1) hi.num hi.den, k1, k2]
            exact hP' (4 * (d + 1) + 1 - (k + 1)) _ (by omega) ⟨k + 1, v3, v4, rfl, by omega, by simp only [go_sem, ↓reduceIte, reduceIte, Nat.reduceEqDiff, Nat.reduceAdd, Nat.reduceMul, reduceCtorEq, Nat.reduceDiv, Nat.reduceLeDiff, Nat.reduceLT, Nat.reduceSub, f2, f3, f4, f8, hs], by simp only [go_sem, ↓reduceIte, reduceIte, Nat.reduceEqDiff, Nat.reduceAdd, Nat.reduceMul, reduceCtorEq, Nat.reduceDiv, Nat.reduceLeDiff, Nat.reduceLT, Nat.reduceSub, hh3], by simp only [go_sem, ↓reduceIte, reduceIte, Nat.reduceEqDiff, Nat.reduceAdd, Nat.reduceMul, reduceCtorEq, Nat.reduceDiv, Nat.reduceLeDiff, Nat.reduceLT, Nat.reduceSub, hh4]⟩
          · have hs := step false (by rw [Bool.eq_false_iff]; exact fun h => k2 (hok.1 h).2.2)
            simp (disch := first | assumption | omega) only [go_sem, ↓reduceIte, reduceIte, Nat.reduceEqDiff, Nat.reduceAdd, Nat.reduceMul, reduceCtorEq, Nat.reduceDiv, Nat.reduceLeDiff, Nat.reduceLT, Nat.reduceSub, f2, f3, f4, f7, f8, f9, hh3, hh4, hg', cs_gapA (x := lo) (y := F) lo.num lo.den k ((d : Int) + 1), cs_gapA (x := F) (y := hi) k ((d : Int) + 1) hi.num hi.den, k1, k2]
            exact hP' (4 * (d + 1) + 1 - (k + 1)) _ (by omega) ⟨k + 1, v3, v4, rfl, by omega, by simp only [go_sem, ↓reduceIte, reduceIte, Nat.reduceEqDiff, Nat.reduceAdd, Nat.reduceMul, reduceCtorEq, Nat.reduceDiv, Nat.reduceLeDiff, Nat.reduceLT, Nat.reduceSub, f2, f3, f4, f7, f8, hs], by simp only [go_sem, ↓reduceIte, reduceIte, Nat.reduceEqDiff, Nat.reduceAdd, Nat.reduceMul, reduceCtorEq, Nat.reduceDiv, Nat.reduceLeDiff, Nat.reduceLT, Nat.reduceSub, hh3], by simp only [go_sem, ↓reduceIte, reduceIte, Nat.reduceEqDiff, Nat.reduceAdd, Nat.reduceMul, reduceCtorEq, Nat.reduceDiv, Nat.reduceLeDiff, Nat.reduceLT, Nat.reduceSub, hh4]⟩
        · have hs := step false (by rw [Bool.eq_false_iff]; exact fun h => k1 (hok.1 h).2.1)
          simp (disch := first | assumption | omega) only [go_sem, ↓reduceIte, reduceIte, Nat.reduceEqDiff, Nat.reduceAdd, Nat.reduceMul, reduceCtorEq, Nat.reduceDiv, Nat.reduceLeDiff, Nat.reduceLT, Nat.reduceSub, f2, f3, f4, f7, f8, f9, hh3, hh4, hg', cs_gapA (x := lo) (y := F) lo.num lo.den k ((d : Int) + 1), k1]
          exact hP' (4 * (d + 1) + 1 - (k + 1)) _ (by omega) ⟨k + 1, v3, v4, rfl, by omega, by simp only [go_sem, ↓reduceIte, reduceIte, Nat.reduceEqDiff, Nat.reduceAdd, Nat.reduceMul, reduceCtorEq, Nat.reduceDiv, Nat.reduceLeDiff, Nat.reduceLT, Nat.reduceSub, f2, f3, f4, f7, f8, hs], by simp only [go_sem, ↓reduceIte, reduceIte, Nat.reduceEqDiff, Nat.reduceAdd, Nat.reduceMul, reduceCtorEq, Nat.reduceDiv, Nat.reduceLeDiff, Nat.reduceLT, Nat.reduceSub, hh3], by simp only [go_sem, ↓reduceIte, reduceIte, Nat.reduceEqDiff, Nat.reduceAdd, Nat.reduceMul, reduceCtorEq, Nat.reduceDiv, Nat.reduceLeDiff, Nat.reduceLT, Nat.reduceSub, hh4]⟩
      · have hg' : (((Nat.gcd k (d + 1) : Nat) : Int) == 1) = false := by simp; omega
        have hs := step false (by rw [Bool.eq_false_iff]; exact fun h => hg (hok.1 h).1)
        simp (disch := first | assumption | omega) only [go_sem, ↓reduceIte, reduceIte, Nat.reduceEqDiff, Nat.reduceAdd, Nat.reduceMul, reduceCtorEq, Nat.reduceDiv, Nat.reduceLeDiff, Nat.reduceLT, Nat.reduceSub, f2, f3, f4, f7, f8, f9, hh3, hh4, hg']
        exact hP' (4 * (d + 1) + 1 - (k + 1)) _ (by omega) ⟨k + 1, v3, v4, rfl, by omega, by simp only [go_sem, ↓reduceIte, reduceIte, Nat.reduceEqDiff, Nat.reduceAdd, Nat.reduceMul, reduceCtorEq, Nat.reduceDiv, Nat.reduceLeDiff, Nat.reduceLT, Nat.reduceSub, f2, f3, f4, f7, f8, hs], by simp only [go_sem, ↓reduceIte, reduceIte, Nat.reduceEqDiff, Nat.reduceAdd, Nat.reduceMul, reduceCtorEq, Nat.reduceDiv, Nat.reduceLeDiff, Nat.reduceLT, Nat.reduceSub, hh3], by simp only [go_sem, ↓reduceIte, reduceIte, Nat.reduceEqDiff, Nat.reduceAdd, Nat.reduceMul, reduceCtorEq, Nat.reduceDiv, Nat.reduceLeDiff, Nat.reduceLT, Nat.reduceSub, hh4]⟩
    · have hle2 : decide ((k : Int) ≤ 4 * ((d : Int) + 1)) = false := decide_eq_false (by omega)
      have hk' : k = 4 * (d + 1) + 1 := by omega
      have hnx := upTo_next lo hi d
      rw [← hk'] at hnx
      simp (disch := first | assumption | omega) only [go_sem, ↓reduceIte, reduceIte, Nat.reduceEqDiff, Nat.reduceAdd, Nat.reduceMul, reduceCtorEq, Nat.reduceDiv, Nat.reduceLeDiff, Nat.reduceLT, Nat.reduceSub, f2, f3, f4, f7, f8, f9, hle2]
      exact hP (m - (d + 1)) _ (by omega) ⟨d + 1, v3, v4, rfl, by omega, by simp only [go_sem, ↓reduceIte, reduceIte, Nat.reduceEqDiff, Nat.reduceAdd, Nat.reduceMul, reduceCtorEq, Nat.reduceDiv, Nat.reduceLeDiff, Nat.reduceLT, Nat.reduceSub, f2, f3, f4, f7, hnx], hh3, hh4⟩
  · have hle : decide ((d : Int) + 1 ≤ m) = false := decide_eq_false (by omega)
    obtain rfl : d = m := by omega
    simp (disch := first | assumption | omega) only [go_sem, ↓reduceIte, reduceIte, Nat.reduceEqDiff, Nat.reduceAdd, Nat.reduceMul, reduceCtorEq, Nat.reduceDiv, Nat.reduceLeDiff, Nat.reduceLT, Nat.reduceSub, f2, f3, f4, f7, f8, hle]
    exact hfin _

theorem con_refCount (lo hi : Frac) (m : Int) : Con T 4 36 [rAV lo, rAV hi, .int .i64 m] (.tuple [.int .i64 (cnt lo hi m).1, .int .i64 (cnt lo hi m).2]) := by
  refine con_intro t36 fun n hn V hV => ?_
  replace hV : ∀ a c h, (a, c) = cnt lo hi m → V (.tuple [.int .i64 a, .int .i64 c], h) := fun a c h e1 => hV _ _ (by rw [← e1]; exact (by repeat (first | exact mz_nil _ _ | exact frz_int _ _ _ _ | exact frz_bool _ _ _ | exact frz_slice _ _ _ _ _ | exact frz_ptr _ _ _ _ | exact frz_nilptr _ _ | refine mz_cons ?_ ?_ | refine frz_agg ?_ | refine frz_two ?_ ?_ | refine frz_three ?_ ?_ ?_)))
  have nf : (¬ False) = True := not_false_eq_true
  by_cases hc : openErr [lo, hi] = 0
  case neg =>
    have hc' : (openErr [lo, hi] != 0) = true := by simp [hc]
    simp (disch := first | assumption | omega) only [c36, go_sem, ↓reduceIte, reduceIte, Nat.reduceEqDiff, Nat.reduceAdd, Nat.reduceMul, reduceCtorEq, Nat.reduceDiv, Nat.reduceLeDiff, Nat.reduceLT, Nat.reduceSub, cs_Two, hc', nf]
    exact hV _ _ _ (by unfold cnt cntErr; rw [if_pos hc, if_pos hc])
  have hc' : (openErr [lo, hi] != 0) = false := by simp [hc]
  obtain ⟨ol, oh⟩ := (open_two_zero lo hi).1 hc
  have h1 := oh.n1
  have h2 := oh.n2
  have h3 := oh.d1
  have h4 := oh.d2
  have hE2 : (m < 1 ∨ 50 < m) → cnt lo hi m = (0, 2) := fun g => by
    have hE : cntErr lo hi m = 2 := by unfold cntErr; rw [if_neg (by omega), if_pos g]
    unfold cnt
    rw [if_pos (by omega), hE]
  by_cases g1 : m < 1
  · simp (disch := first | assumption | omega) only [c36, go_sem, ↓reduceIte, reduceIte, Nat.reduceEqDiff, Nat.reduceAdd, Nat.reduceMul, reduceCtorEq, Nat.reduceDiv, Nat.reduceLeDiff, Nat.reduceLT, Nat.reduceSub, cs_Two, hc', g1, nf]
    exact hV _ _ _ (hE2 (by omega)).symm
  by_cases g2 : m > 50
  · simp (disch := first | assumption | omega) only [c36, go_sem, ↓reduceIte, reduceIte, Nat.reduceEqDiff, Nat.reduceAdd, Nat.reduceMul, reduceCtorEq, Nat.reduceDiv, Nat.reduceLeDiff, Nat.reduceLT, Nat.reduceSub, cs_Two, hc', g1, g2, nf]
    exact hV _ _ _ (hE2 (by omega)).symm
  obtain ⟨k, hk⟩ := Int.eq_ofNat_of_zero_le (show 0 ≤ m by omega)
  subst hk
  by_cases hov : hi.num > 4 * hi.den
  · have hE : cntErr lo hi k = 4 := by unfold cntErr; rw [if_neg (by omega), if_neg (by omega), if_pos hov]
    simp (disch := first | assumption | omega) only [c36, go_sem, ↓reduceIte, reduceIte, Nat.reduceEqDiff, Nat.reduceAdd, Nat.reduceMul, reduceCtorEq, Nat.reduceDiv, Nat.reduceLeDiff, Nat.reduceLT, Nat.reduceSub, cs_Two, hc', g1, g2, hov, nf]
    exact hV _ _ _ (by unfold cnt; rw [if_pos (by omega), hE])
  · have hE : cntErr lo hi k = 0 := by unfold cntErr; rw [if_neg (by omega), if_neg (by omega), if_neg hov]
    have cO := con_CountOf lo hi k ol oh (by omega)
    simp (disch := first | assumption | omega) only [c36, go_sem, ↓reduceIte, reduceIte, Nat.reduceEqDiff, Nat.reduceAdd, Nat.reduceMul, reduceCtorEq, Nat.reduceDiv, Nat.reduceLeDiff, Nat.reduceLT, Nat.reduceSub, cs_Two, hc', g1, g2, hov, nf]
    refine gp_con cO (by omega) (fz_rat _ _ (fz_rat _ _ (by repeat (first | exact fz_nil _ | refine fz_slice _ _ _ _ ?_ | refine fz_int _ _ _ ?_)))) (or_pi _ _ _) ?_
    simp (disch := first | assumption | omega) only [go_sem, ↓reduceIte, reduceIte, Nat.reduceEqDiff, Nat.reduceAdd, Nat.reduceMul, reduceCtorEq, Nat.reduceDiv, Nat.reduceLeDiff, Nat.reduceLT, Nat.reduceSub]
    exact hV _ _ _ (by unfold cnt; rw [if_neg (by omega)]; rfl)

section
variable {n base : Nat} {Q : EX × St → Prop} {d : Option Nat} {L : List IOper} {ks : List Kont} {e : Env} {h : Heap}
theorem cs_Count {x y : Frac} {m : Int} (hn : 10004 ≤ n) : GP (evCall T n) base Q d L ks e (evCall T n false (.fn 35) [.agg [.int .i64 x.num, .int .i64 x.den], .agg [.int .i64 y.num, .int .i64 y.den], .int .i64 m] h) = GO (evCall T n) base Q L ks ⟨setDst e d (.tuple [.int .i64 (cnt x y m).1, .int .i64 (cnt x y m).2]), h⟩ :=
  gp_eq (con_Count x y m) hn (fz_rat _ _ (fz_rat _ _ (by repeat (first | exact fz_nil _ | refine fz_slice _ _ _ _ ?_ | refine fz_int _ _ _ ?_)))) (by simp [plainB, depth])
theorem cs_refCount {x y : Frac} {m : Int} (hn : 4 ≤ n) : GP (evCall T n) base Q d L ks e (evCall T n false (.fn 36) [.agg [.int .i64 x.num, .int .i64 x.den], .agg [.int .i64 y.num, .int .i64 y.den], .int .i64 m] h) = GO (evCall T n) base Q L ks ⟨setDst e d (.tuple [.int .i64 (cnt x y m).1, .int .i64 (cnt x y m).2]), h⟩ :=
  gp_eq (con_refCount x y m) hn (fz_rat _ _ (fz_rat _ _ (by repeat (first | exact fz_nil _ | refine fz_slice _ _ _ _ ?_ | refine fz_int _ _ _ ?_)))) (by simp [plainB, depth])
end

theorem pitchSimples_at (n0 : Nat) (hn : n0 = 20000) (lo hi : Frac) (m : Int) (_ : RWf lo) (_ : RWf hi) (_ : (Lit.int .i64 m).wf = true) : (evFn (evCall T n0) c6 [rAV lo, rAV hi, .int .i64 m] []).all fun p => p.1 = .bool true := by
  rw [m_fn]
  simp (disch := first | assumption | omega) only [c6, go_sem, ↓reduceIte, reduceIte, Nat.reduceEqDiff, Nat.reduceAdd, Nat.reduceMul, reduceCtorEq, Nat.reduceDiv, Nat.reduceLeDiff, Nat.reduceLT, Nat.reduceSub, cs_Simplest, cs_refSimplest, cs_Count, cs_refCount, beq_self_eq_true, eaA_self, cs_Works]

def pitchSimples_n : Nat := 20000
theorem pitchSimples_ev (lo hi : Frac) (m : Int) (h1 : RWf lo) (h2 : RWf hi) (h3 : (Lit.int .i64 m).wf = true) : (evFn (evCall T pitchSimples_n) c6 [rAV lo, rAV hi, .int .i64 m] []).all fun p => p.1 = .bool true := pitchSimples_at _ rfl lo hi m h1 h2 h3

end Go.Ev.YtcghegefcgnhbaaC
