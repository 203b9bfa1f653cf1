/- CheckNeighbours, the program's and the reference's; the law PitchNeighbours answers true, whatever it is handed. Conditions: the arguments are integers that fit their kinds. -/
import Derived.Test.YtcghegefcgnhbaaL1Next
import Derived.Test.YtcghegefcgnhbaaL1Works
set_option linter.unusedSimpArgs false
set_option linter.unusedVariables false
namespace Go.Ev.YtcghegefcgnhbaaC
open Go Go.Proofs

attribute [local irreducible] Res.all evC evLoop evOps evOper evOp evFn evCall freeze G GO GV GP GC R
set_option maxRecDepth 100000

theorem con_CheckNeighbours (lo hi : Frac) (m : Int) : Con T 5 27 [rAV lo, rAV hi, .int .i64 m] (.int .i64 (chkNb lo hi m)) := by
  refine con_intro t27 fun n hn V hV => ?_
  replace hV : ∀ a h, a = chkNb lo hi m → V (.int .i64 a, h) := fun a h e1 => hV _ _ (by rw [e1]; exact (by repeat (first | exact mz_nil _ _ | exact frz_int _ _ _ _ | exact frz_bool _ _ _ | exact frz_slice _ _ _ _ _ | exact frz_ptr _ _ _ _ | exact frz_nilptr _ _ | refine mz_cons ?_ ?_ | refine frz_agg ?_ | refine frz_two ?_ ?_ | refine frz_three ?_ ?_ ?_)))
  have nf : (¬ False) = True := not_false_eq_true
  by_cases g : 1 ≤ m ∧ m ≤ 1000
  · obtain ⟨g1, g2⟩ := g
    by_cases hn1 : 0 ≤ lo.num ∧ lo.num ≤ 1073741824 ∧ 0 ≤ hi.num ∧ hi.num ≤ 1073741824
    · obtain ⟨a1, a2, a3, a4⟩ := hn1
      by_cases hd1 : 1 ≤ lo.den ∧ lo.den ≤ 1073741824 ∧ 1 ≤ hi.den ∧ hi.den ≤ 1073741824
      · obtain ⟨b1, b2, b3, b4⟩ := hd1
        have wl : wideB lo := ⟨a1, a2, b1, b2⟩
        have wh : wideB hi := ⟨a3, a4, b3, b4⟩
        have hN : chkNb lo hi m = if gapF lo hi ≠ 1 ∨ lo.den + hi.den ≤ m then 14 else 0 := by
          unfold chkNb
          rw [if_neg (by omega), if_neg (by simp [wl, wh])]
        simp (disch := first | assumption | omega) only [c27, go_sem, ↓reduceIte, reduceIte, Nat.reduceEqDiff, Nat.reduceAdd, Nat.reduceMul, reduceCtorEq, Nat.reduceDiv, Nat.reduceLeDiff, Nat.reduceLT, Nat.reduceSub, cs_within1, cs_within2, g1, g2, a1, a2, a3, a4, b1, b2, b3, b4, nf]
        refine gp_con (con_gap lo hi wl.bf wh.bf) (by omega) (fz_cons (frz_optr (cs := [.int .i64 lo.num, .int .i64 lo.den]) (by simp [go_sem, ↓reduceIte, reduceIte, Nat.reduceEqDiff, Nat.reduceAdd, Nat.reduceMul, reduceCtorEq, Nat.reduceDiv, Nat.reduceLeDiff, Nat.reduceLT, Nat.reduceSub]) (by repeat (first | exact mz_nil _ _ | exact frz_int _ _ _ _ | exact frz_bool _ _ _ | exact frz_slice _ _ _ _ _ | exact frz_ptr _ _ _ _ | exact frz_nilptr _ _ | refine mz_cons ?_ ?_ | refine frz_agg ?_ | refine frz_two ?_ ?_ | refine frz_three ?_ ?_ ?_))) (fz_rat _ _ (fz_nil _))) (or_pi _ _ _) ?_
        by_cases hg : gapF lo hi = 1
        · have hg' : (gapF lo hi != 1) = false := by simp [hg]
          by_cases hs : lo.den + hi.den ≤ m
          · simp (disch := first | assumption | omega) only [go_sem, ↓reduceIte, reduceIte, Nat.reduceEqDiff, Nat.reduceAdd, Nat.reduceMul, reduceCtorEq, Nat.reduceDiv, Nat.reduceLeDiff, Nat.reduceLT, Nat.reduceSub, hg', hs]
            exact hV _ _ (by rw [hN, if_pos (.inr hs)])
          · simp (disch := first | assumption | omega) only [go_sem, ↓reduceIte, reduceIte, Nat.reduceEqDiff, Nat.reduceAdd, Nat.reduceMul, reduceCtorEq, Nat.reduceDiv, Nat.reduceLeDiff, Nat.reduceLT, Nat.reduceSub, hg', hs]
            exact hV _ _ (by rw [hN, if_neg (by omega)])
        · have hg' : (gapF lo hi != 1) = true := by simp [hg]
          simp (disch := first | assumption | omega) only [go_sem, ↓reduceIte, reduceIte, Nat.reduceEqDiff, Nat.reduceAdd, Nat.reduceMul, reduceCtorEq, Nat.reduceDiv, Nat.reduceLeDiff, Nat.reduceLT, Nat.reduceSub, hg']
          exact hV _ _ (by rw [hN, if_pos (.inl hg)])
      · have hw : (decide (1 ≤ lo.den) && decide (lo.den ≤ 1073741824) && (decide (1 ≤ hi.den) && decide (hi.den ≤ 1073741824))) = false := by rw [Bool.eq_false_iff]; simp; omega
        simp (disch := first | assumption | omega) only [c27, go_sem, ↓reduceIte, reduceIte, Nat.reduceEqDiff, Nat.reduceAdd, Nat.reduceMul, reduceCtorEq, Nat.reduceDiv, Nat.reduceLeDiff, Nat.reduceLT, Nat.reduceSub, cs_within1, cs_within2, g1, g2, a1, a2, a3, a4, hw, nf]
        refine hV _ _ ?_
        unfold chkNb
        rw [if_neg (by omega), if_pos (by unfold wideB; omega)]
    · have hw : (decide (0 ≤ lo.num) && decide (lo.num ≤ 1073741824) && (decide (0 ≤ hi.num) && decide (hi.num ≤ 1073741824))) = false := by rw [Bool.eq_false_iff]; simp; omega
      simp (disch := first | assumption | omega) only [c27, go_sem, ↓reduceIte, reduceIte, Nat.reduceEqDiff, Nat.reduceAdd, Nat.reduceMul, reduceCtorEq, Nat.reduceDiv, Nat.reduceLeDiff, Nat.reduceLT, Nat.reduceSub, cs_within1, cs_within2, g1, g2, hw, nf]
      refine hV _ _ ?_
      unfold chkNb
      rw [if_neg (by omega), if_pos (by unfold wideB; omega)]
  · have hw : (decide (1 ≤ m) && decide (m ≤ 1000)) = false := by rw [Bool.eq_false_iff]; simp; omega
    simp (disch := first | assumption | omega) only [c27, go_sem, ↓reduceIte, reduceIte, Nat.reduceEqDiff, Nat.reduceAdd, Nat.reduceMul, reduceCtorEq, Nat.reduceDiv, Nat.reduceLeDiff, Nat.reduceLT, Nat.reduceSub, cs_within1, hw, nf]
    refine hV _ _ ?_
    unfold chkNb
    rw [if_pos (by omega)]

theorem con_refCheckNb (lo hi : Frac) (m : Int) : Con T 2 28 [rAV lo, rAV hi, .int .i64 m] (.int .i64 (chkNb lo hi m)) := by
  refine con_intro t28 fun n hn V hV => ?_
  replace hV : ∀ a h, a = chkNb lo hi m → V (.int .i64 a, h) := fun a h e1 => hV _ _ (by rw [e1]; exact (by repeat (first | exact mz_nil _ _ | exact frz_int _ _ _ _ | exact frz_bool _ _ _ | exact frz_slice _ _ _ _ _ | exact frz_ptr _ _ _ _ | exact frz_nilptr _ _ | refine mz_cons ?_ ?_ | refine frz_agg ?_ | refine frz_two ?_ ?_ | refine frz_three ?_ ?_ ?_)))
  have nf : (¬ False) = True := not_false_eq_true
  by_cases g1 : m < 1
  · simp (disch := first | assumption | omega) only [c28, go_sem, ↓reduceIte, reduceIte, Nat.reduceEqDiff, Nat.reduceAdd, Nat.reduceMul, reduceCtorEq, Nat.reduceDiv, Nat.reduceLeDiff, Nat.reduceLT, Nat.reduceSub, g1, nf]
    exact hV _ _ (by unfold chkNb; rw [if_pos (.inl g1)])
  by_cases g2 : m > 1000
  · simp (disch := first | assumption | omega) only [c28, go_sem, ↓reduceIte, reduceIte, Nat.reduceEqDiff, Nat.reduceAdd, Nat.reduceMul, reduceCtorEq, Nat.reduceDiv, Nat.reduceLeDiff, Nat.reduceLT, Nat.reduceSub, g1, g2, nf]
    exact hV _ _ (by unfold chkNb; rw [if_pos (.inr g2)])
  simp (disch := first | assumption | omega) only [c28, go_sem, ↓reduceIte, reduceIte, Nat.reduceEqDiff, Nat.reduceAdd, Nat.reduceMul, reduceCtorEq, Nat.reduceDiv, Nat.reduceLeDiff, Nat.reduceLT, Nat.reduceSub, g1, g2, nf, List.range_succ, List.range_zero, Nat.zero_mul, Nat.one_mul]
  refine m_loop (fun M st => ∃ (k : Nat) (v3 v4 : Nat), M = 2 - k ∧ k ≤ 2 ∧ (∀ x ∈ [lo, hi].take k, wideB x) ∧ At st.env [(2, .int .i64 m), (3, .optr 3 v3 0), (4, .optr 4 v4 0), (7, .slice (some 2) ([lo, hi].map rAV) true), (8, .int .i64 k)] ∧ getH st.heap 3 = .cells v3 [.int .i64 lo.num, .int .i64 lo.den] ∧ getH st.heap 4 = .cells v4 [.int .i64 hi.num, .int .i64 hi.den]) 2 (by omega)
    ⟨0, 0, 0, rfl, by omega, by simp, by simp only [go_sem, ↓reduceIte, reduceIte, Nat.reduceEqDiff, Nat.reduceAdd, Nat.reduceMul, reduceCtorEq, Nat.reduceDiv, Nat.reduceLeDiff, Nat.reduceLT, Nat.reduceSub], by simp only [go_sem, ↓reduceIte, reduceIte, Nat.reduceEqDiff, Nat.reduceAdd, Nat.reduceMul, reduceCtorEq, Nat.reduceDiv, Nat.reduceLeDiff, Nat.reduceLT, Nat.reduceSub], by simp only [go_sem, ↓reduceIte, reduceIte, Nat.reduceEqDiff, Nat.reduceAdd, Nat.reduceMul, reduceCtorEq, Nat.reduceDiv, Nat.reduceLeDiff, Nat.reduceLT, Nat.reduceSub]⟩ ?_
  rintro M e h hM ⟨k, v3, v4, rfl, hk, hA, hE, hh3, hh4⟩ P hP
  simp only [At_cons, At_nil] at hE
  obtain ⟨f2, f3, f4, f7, f8, -⟩ := hE
  by_cases hlt : k < 2
  · obtain ⟨y, hy⟩ := get_ex (l := [lo, hi]) (i := k) hlt
    have hlt' : decide ((k : Int) < 2) = true := decide_eq_true (by omega)
    have hmem : y ∈ [lo, hi] := List.mem_of_getElem? hy
    have hbad : ¬ wideB y → V (.int .i64 3, h) = V (.int .i64 3, h) := fun _ => rfl
    have hno : ¬ wideB y → chkNb lo hi m = 3 := fun hw => by
      unfold chkNb
      rw [if_neg (by omega), if_pos]
      rintro ⟨w1, w2⟩
      simp at hmem
      rcases hmem with rfl | rfl <;> exact hw (by assumption)
    generalize hxs : [lo, hi] = xs at *
    by_cases a1 : y.num < 0
    · simp (disch := first | assumption | omega) only [go_sem, ↓reduceIte, reduceIte, Nat.reduceEqDiff, Nat.reduceAdd, Nat.reduceMul, reduceCtorEq, Nat.reduceDiv, Nat.reduceLeDiff, Nat.reduceLT, Nat.reduceSub, f2, f3, f4, f7, f8, hlt', hy, a1]
      exact hV _ _ (hno (by unfold wideB; omega)).symm
    by_cases a2 : y.num > 1073741824
    · simp (disch := first | assumption | omega) only [go_sem, ↓reduceIte, reduceIte, Nat.reduceEqDiff, Nat.reduceAdd, Nat.reduceMul, reduceCtorEq, Nat.reduceDiv, Nat.reduceLeDiff, Nat.reduceLT, Nat.reduceSub, f2, f3, f4, f7, f8, hlt', hy, a1, a2]
      exact hV _ _ (hno (by unfold wideB; omega)).symm
    by_cases a3 : y.den < 1
    · simp (disch := first | assumption | omega) only [go_sem, ↓reduceIte, reduceIte, Nat.reduceEqDiff, Nat.reduceAdd, Nat.reduceMul, reduceCtorEq, Nat.reduceDiv, Nat.reduceLeDiff, Nat.reduceLT, Nat.reduceSub, f2, f3, f4, f7, f8, hlt', hy, a1, a2, a3]
      exact hV _ _ (hno (by unfold wideB; omega)).symm
    by_cases a4 : y.den > 1073741824
    · simp (disch := first | assumption | omega) only [go_sem, ↓reduceIte, reduceIte, Nat.reduceEqDiff, Nat.reduceAdd, Nat.reduceMul, reduceCtorEq, Nat.reduceDiv, Nat.reduceLeDiff, Nat.reduceLT, Nat.reduceSub, f2, f3, f4, f7, f8, hlt', hy, a1, a2, a3, a4]
      exact hV _ _ (hno (by unfold wideB; omega)).symm
    simp (disch := first | assumption | omega) only [go_sem, ↓reduceIte, reduceIte, Nat.reduceEqDiff, Nat.reduceAdd, Nat.reduceMul, reduceCtorEq, Nat.reduceDiv, Nat.reduceLeDiff, Nat.reduceLT, Nat.reduceSub, f2, f3, f4, f7, f8, hlt', hy, a1, a2, a3, a4]
    refine hP (2 - (k + 1)) _ (by omega) ⟨k + 1, v3, v4, rfl, by omega, fun z hz => ?_, by simp only [go_sem, ↓reduceIte, reduceIte, Nat.reduceEqDiff, Nat.reduceAdd, Nat.reduceMul, reduceCtorEq, Nat.reduceDiv, Nat.reduceLeDiff, Nat.reduceLT, Nat.reduceSub, f2, f3, f4, f7], by simp only [go_sem, ↓reduceIte, reduceIte, Nat.reduceEqDiff, Nat.reduceAdd, Nat.reduceMul, reduceCtorEq, Nat.reduceDiv, Nat.reduceLeDiff, Nat.reduceLT, Nat.reduceSub, hh3], by simp only [go_sem, ↓reduceIte, reduceIte, Nat.reduceEqDiff, Nat.reduceAdd, Nat.reduceMul, reduceCtorEq, Nat.reduceDiv, Nat.reduceLeDiff, Nat.reduceLT, Nat.reduceSub, hh4]⟩
    rw [List.take_add_one, hy] at hz
    rcases List.mem_append.1 hz with hz | hz
    · exact hA z hz
    · simp at hz
      subst hz
      unfold wideB
      omega
  · have hlt' : decide ((k : Int) < 2) = false := decide_eq_false (by omega)
    obtain rfl : k = 2 := by omega
    have wl : wideB lo := hA lo (by simp)
    have wh : wideB hi := hA hi (by simp)
    have bl := wl.bf
    have bh := wh.bf
    have hN : chkNb lo hi m = if gapF lo hi ≠ 1 ∨ lo.den + hi.den ≤ m then 14 else 0 := by
      unfold chkNb
      rw [if_neg (by omega), if_neg (by simp [wl, wh])]
    have w1 := bl.2
    have w2 := bh.2
    unfold Bn at w1 w2
    by_cases hg : gapF lo hi = 1
    · have hg' : (gapF lo hi != 1) = false := by simp [hg]
      by_cases hs : lo.den + hi.den ≤ m
      · simp (disch := first | assumption | omega) only [go_sem, ↓reduceIte, reduceIte, Nat.reduceEqDiff, Nat.reduceAdd, Nat.reduceMul, reduceCtorEq, Nat.reduceDiv, Nat.reduceLeDiff, Nat.reduceLT, Nat.reduceSub, f2, f3, f4, f7, f8, hh3, hh4, hlt', cs_GapOf, hg', hs]
        exact hV _ _ (by rw [hN, if_pos (.inr hs)])
      · simp (disch := first | assumption | omega) only [go_sem, ↓reduceIte, reduceIte, Nat.reduceEqDiff, Nat.reduceAdd, Nat.reduceMul, reduceCtorEq, Nat.reduceDiv, Nat.reduceLeDiff, Nat.reduceLT, Nat.reduceSub, f2, f3, f4, f7, f8, hh3, hh4, hlt', cs_GapOf, hg', hs]
        exact hV _ _ (by rw [hN, if_neg (by omega)])
    · have hg' : (gapF lo hi != 1) = true := by simp [hg]
      simp (disch := first | assumption | omega) only [go_sem, ↓reduceIte, reduceIte, Nat.reduceEqDiff, Nat.reduceAdd, Nat.reduceMul, reduceCtorEq, Nat.reduceDiv, Nat.reduceLeDiff, Nat.reduceLT, Nat.reduceSub, f2, f3, f4, f7, f8, hh3, hh4, hlt', cs_GapOf, hg']
      exact hV _ _ (by rw [hN, if_pos (.inl hg)])

section
variable {n base : Nat} {Q : EX × St → Prop} {d : Option Nat} {L : List IOper} {ks : List Kont} {e : Env} {h : Heap}
theorem cs_Neighbours {x : Frac} {m : Int} (hn : 10005 ≤ n) : GP (evCall T n) base Q d L ks e (evCall T n false (.fn 25) [.agg [.int .i64 x.num, .int .i64 x.den], .int .i64 m] h) = GO (evCall T n) base Q L ks ⟨setDst e d (.tuple [rAV (nbs x m).1, rAV (nbs x m).2.1, .int .i64 (nbs x m).2.2]), h⟩ :=
  gp_eq (con_Neighbours x m) hn (fz_rat _ _ (fz_int _ _ _ (fz_nil _))) (by simp [plainB, depth])
theorem cs_refNeighbours {x : Frac} {m : Int} (hn : 4 ≤ n) : GP (evCall T n) base Q d L ks e (evCall T n false (.fn 26) [.agg [.int .i64 x.num, .int .i64 x.den], .int .i64 m] h) = GO (evCall T n) base Q L ks ⟨setDst e d (.tuple [rAV (nbs x m).1, rAV (nbs x m).2.1, .int .i64 (nbs x m).2.2]), h⟩ :=
  gp_eq (con_refNeighbours x m) hn (fz_rat _ _ (fz_int _ _ _ (fz_nil _))) (by simp [plainB, depth])
theorem cs_CheckNb {lo hi : Frac} {m : Int} (hn : 5 ≤ n) : GP (evCall T n) base Q d L ks e (evCall T n false (.fn 27) [.agg [.int .i64 lo.num, .int .i64 lo.den], .agg [.int .i64 hi.num, .int .i64 hi.den], .int .i64 m] h) = GO (evCall T n) base Q L ks ⟨setDst e d (.int .i64 (chkNb lo hi m)), h⟩ :=
  gp_eq (con_CheckNeighbours lo hi m) hn (fz_rat _ _ (fz_rat _ _ (fz_int _ _ _ (fz_nil _)))) (or_pi _ _ _)
theorem cs_refCheckNb {lo hi : Frac} {m : Int} (hn : 2 ≤ n) : GP (evCall T n) base Q d L ks e (evCall T n false (.fn 28) [.agg [.int .i64 lo.num, .int .i64 lo.den], .agg [.int .i64 hi.num, .int .i64 hi.den], .int .i64 m] h) = GO (evCall T n) base Q L ks ⟨setDst e d (.int .i64 (chkNb lo hi m)), h⟩ :=
  gp_eq (con_refCheckNb lo hi m) hn (fz_rat _ _ (fz_rat _ _ (fz_int _ _ _ (fz_nil _)))) (or_pi _ _ _)
end

theorem pitchNeighbours_at (n0 : Nat) (hn : n0 = 20000) (x lo hi : Frac) (m : Int) (_ : RWf x) (_ : RWf lo) (_ : RWf hi) (_ : (Lit.int .i64 m).wf = true) : (evFn (evCall T n0) c4 [rAV x, rAV lo, rAV hi, .int .i64 m] []).all fun p => p.1 = .bool true := by
  rw [m_fn]
  simp (disch := first | assumption | omega) only [c4, go_sem, ↓reduceIte, reduceIte, Nat.reduceEqDiff, Nat.reduceAdd, Nat.reduceMul, reduceCtorEq, Nat.reduceDiv, Nat.reduceLeDiff, Nat.reduceLT, Nat.reduceSub, cs_Neighbours, cs_refNeighbours, cs_CheckNb, cs_refCheckNb, beq_self_eq_true, eaA_self, cs_Works]

def pitchNeighbours_n : Nat := 20000
theorem pitchNeighbours_ev (x lo hi : Frac) (m : Int) (h1 : RWf x) (h2 : RWf lo) (h3 : RWf hi) (h4 : (Lit.int .i64 m).wf = true) : (evFn (evCall T pitchNeighbours_n) c4 [rAV x, rAV lo, rAV hi, .int .i64 m] []).all fun p => p.1 = .bool true := pitchNeighbours_at _ rfl x lo hi m h1 h2 h3 h4

end Go.Ev.YtcghegefcgnhbaaC
