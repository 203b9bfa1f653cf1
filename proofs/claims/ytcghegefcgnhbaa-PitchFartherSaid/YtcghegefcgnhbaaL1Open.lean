/- open and bounded; Gap, the program's and the reference's. Contracts; conditions stand in each. -/
import Derived.Test.YtcghegefcgnhbaaL1Check
set_option linter.unusedSimpArgs false
set_option linter.unusedVariables false
namespace Go.Ev.YtcghegefcgnhbaaC
open Go Go.Proofs

def openErr : List Frac → Int
  | [] => 0
  | x :: r => if chkI x ≠ 0 then chkI x else openErr r
abbrev rsV (xs : List Frac) : AV := .slice (some 2) (xs.map rAV) false
theorem OkI.bf {x : Frac} (h : OkI x) : BF x := by
  have := h.n1
  have := h.n2
  have := h.d1
  have := h.d2
  unfold BF Bn
  omega

attribute [local irreducible] Res.all evC evLoop evOps evOper evOp evFn evCall freeze G GO GV GP GC R
set_option maxRecDepth 100000

section
variable {n base : Nat} {Q : EX × St → Prop} {d : Option Nat} {L : List IOper} {ks : List Kont} {e : Env} {h : Heap}
theorem fz_rat (h : Heap) (x : Frac) {us vs : List AV} (hs : fz h us = .ret vs) : fz h (rAV x :: us) = .ret (rAV x :: vs) := fz_cons (frz_agg (mz_cons (frz_int _ _ _ _) (mz_cons (frz_int _ _ _ _) (mz_nil _ _)))) hs
theorem cs_CheckInterval {x : Frac} (hn : 10002 ≤ n) : GP (evCall T n) base Q d L ks e (evCall T n false (.fn 22) [.agg [.int .i64 x.num, .int .i64 x.den]] h) = GO (evCall T n) base Q L ks ⟨setDst e d (.int .i64 (chkI x)), h⟩ :=
  gp_eq (con_CheckInterval x) hn (fz_rat _ _ (fz_nil _)) rfl
theorem cs_refCheck {x : Frac} (hn : 2 ≤ n) : GP (evCall T n) base Q d L ks e (evCall T n false (.fn 23) [.agg [.int .i64 x.num, .int .i64 x.den]] h) = GO (evCall T n) base Q L ks ⟨setDst e d (.int .i64 (chkI x)), h⟩ :=
  gp_eq (con_refCheck x) hn (fz_rat _ _ (fz_nil _)) rfl
end

theorem con_open (x0 : Frac) (r : List Frac) (hl : (x0 :: r).length ≤ 10) : Con T 10003 56 [rsV (x0 :: r)] (.tuple [if openErr (x0 :: r) = 0 then forkV x0 else .nilptr, .int .i64 (openErr (x0 :: r))]) := by
  refine con_intro t56 fun n hn V hV => ?_
  have hx0 : (x0 :: r)[0]? = some x0 := rfl
  generalize hxs : x0 :: r = xs at *
  simp (disch := first | assumption | omega) only [c56, go_sem, ↓reduceIte, reduceIte, Nat.reduceEqDiff, Nat.reduceAdd, Nat.reduceMul, reduceCtorEq, Nat.reduceDiv, Nat.reduceLeDiff, Nat.reduceLT, Nat.reduceSub]
  refine m_loop (fun M st => ∃ k : Nat, M = xs.length - k ∧ k ≤ xs.length ∧ At st.env [(0, rsV xs), (7, rsV xs), (8, .int .i64 xs.length), (9, .int .i64 k)] ∧ openErr xs = openErr (xs.drop k)) xs.length (by omega) ⟨0, by simp, by omega, by simp only [go_sem, ↓reduceIte, reduceIte, Nat.reduceEqDiff, Nat.reduceAdd, Nat.reduceMul, reduceCtorEq, Nat.reduceDiv, Nat.reduceLeDiff, Nat.reduceLT, Nat.reduceSub], rfl⟩ ?_
  rintro M e h hM ⟨k, rfl, hk, hE, hA⟩ P hP
  simp only [At_cons, At_nil] at hE
  obtain ⟨h0, h7, h8, h9, -⟩ := hE
  by_cases hlt : k < xs.length
  · obtain ⟨y, hy⟩ := get_ex hlt
    rw [drop_cons hy, openErr] at hA
    by_cases hc : chkI y = 0
    · have hc' : (chkI y != 0) = false := by simp [hc]
      rw [if_neg (by omega)] at hA
      simp (disch := first | assumption | omega) only [go_sem, ↓reduceIte, reduceIte, Nat.reduceEqDiff, Nat.reduceAdd, Nat.reduceMul, reduceCtorEq, Nat.reduceDiv, Nat.reduceLeDiff, Nat.reduceLT, Nat.reduceSub, h0, h7, h8, h9, hlt, hy]
      simp (disch := first | assumption | omega) only [cs_CheckInterval]
      simp (disch := first | assumption | omega) only [go_sem, ↓reduceIte, reduceIte, Nat.reduceEqDiff, Nat.reduceAdd, Nat.reduceMul, reduceCtorEq, Nat.reduceDiv, Nat.reduceLeDiff, Nat.reduceLT, Nat.reduceSub, h0, h7, h8, h9, hc']
      exact hP (xs.length - (k + 1)) _ (by omega) ⟨k + 1, rfl, by omega, by simp only [go_sem, ↓reduceIte, reduceIte, Nat.reduceEqDiff, Nat.reduceAdd, Nat.reduceMul, reduceCtorEq, Nat.reduceDiv, Nat.reduceLeDiff, Nat.reduceLT, Nat.reduceSub, h0, h7, h8], hA⟩
    · have hc' : (chkI y != 0) = true := by simp [hc]
      rw [if_pos hc] at hA
      simp (disch := first | assumption | omega) only [go_sem, ↓reduceIte, reduceIte, Nat.reduceEqDiff, Nat.reduceAdd, Nat.reduceMul, reduceCtorEq, Nat.reduceDiv, Nat.reduceLeDiff, Nat.reduceLT, Nat.reduceSub, h0, h7, h8, h9, hlt, hy]
      simp (disch := first | assumption | omega) only [cs_CheckInterval]
      simp (disch := first | assumption | omega) only [go_sem, ↓reduceIte, reduceIte, Nat.reduceEqDiff, Nat.reduceAdd, Nat.reduceMul, reduceCtorEq, Nat.reduceDiv, Nat.reduceLeDiff, Nat.reduceLT, Nat.reduceSub, h0, h7, h8, h9, hc']
      refine hV _ _ ?_
      rw [if_neg (by omega), hA]
      exact frz_two (frz_nilptr _ _) (frz_int _ _ _ _)
  · rw [List.drop_eq_nil_of_le (by omega), openErr] at hA
    simp (disch := first | assumption | omega) only [go_sem, ↓reduceIte, reduceIte, Nat.reduceEqDiff, Nat.reduceAdd, Nat.reduceMul, reduceCtorEq, Nat.reduceDiv, Nat.reduceLeDiff, Nat.reduceLT, Nat.reduceSub, h0, h7, h8, h9, hlt, hx0]
    refine hV _ _ ?_
    rw [if_pos hA, hA]
    exact frz_two (frz_optr (by simp only [go_sem, ↓reduceIte, reduceIte, Nat.reduceEqDiff, Nat.reduceAdd, Nat.reduceMul, reduceCtorEq, Nat.reduceDiv, Nat.reduceLeDiff, Nat.reduceLT, Nat.reduceSub]) (mz_cons (frz_int _ _ _ _) (mz_cons (frz_int _ _ _ _) (mz_nil _ _)))) (frz_int _ _ _ _)

theorem open_two (x y : Frac) : openErr [x, y] = if chkI x ≠ 0 then chkI x else chkI y := by
  simp only [openErr]
  split
  · rfl
  · split <;> omega
theorem open_two_zero (x y : Frac) : openErr [x, y] = 0 ↔ OkI x ∧ OkI y := by
  rw [open_two, ← chkI_zero, ← chkI_zero]
  split <;> omega
theorem open_one (x : Frac) : openErr [x] = chkI x := by
  simp only [openErr]
  split <;> omega

section
variable {n base : Nat} {Q : EX × St → Prop} {d : Option Nat} {L : List IOper} {ks : List Kont} {e : Env} {h : Heap}
theorem cs_open2 {x y : Frac} {b : Bool} (hn : 10003 ≤ n) : GP (evCall T n) base Q d L ks e (evCall T n false (.fn 56) [.slice (some 2) [.agg [.int .i64 x.num, .int .i64 x.den], .agg [.int .i64 y.num, .int .i64 y.den]] b] h) = GO (evCall T n) base Q L ks ⟨setDst e d (.tuple [if openErr [x, y] = 0 then forkV x else .nilptr, .int .i64 (openErr [x, y])]), h⟩ :=
  gp_eq (con_open x [y] (by simp)) hn (fz_slice _ _ _ _ (fz_nil _)) rfl
theorem cs_open1 {x : Frac} {b : Bool} (hn : 10003 ≤ n) : GP (evCall T n) base Q d L ks e (evCall T n false (.fn 56) [.slice (some 2) [.agg [.int .i64 x.num, .int .i64 x.den]] b] h) = GO (evCall T n) base Q L ks ⟨setDst e d (.tuple [if chkI x = 0 then forkV x else .nilptr, .int .i64 (chkI x)]), h⟩ := by
  have := gp_eq (Q := Q) (d := d) (l := L) (ks := ks) (e := e) (h := h) (base := base) (as0 := [.slice (some 2) [.agg [.int .i64 x.num, .int .i64 x.den]] b]) (con_open x [] (by simp)) hn (fz_slice _ _ _ _ (fz_nil _)) rfl
  rw [open_one] at this
  exact this
theorem cs_gap {x y : Frac} (hn : 1 ≤ n) (hx : BF x) (hy : BF y) : GP (evCall T n) base Q d L ks e (evCall T n false (.fn 57) [.ptr [.int .i64 x.num, .int .i64 x.den] 0, .agg [.int .i64 y.num, .int .i64 y.den]] h) = GO (evCall T n) base Q L ks ⟨setDst e d (.int .i64 (gapF x y)), h⟩ :=
  gp_eq (con_gap x y hx hy) hn (fz_cons (frz_ptr _ _ _ _) (fz_rat _ _ (fz_nil _))) (or_pi _ _ _)
theorem cs_GapOf {x y : Frac} (hn : 1 ≤ n) (hx : BF x) (hy : BF y) : GP (evCall T n) base Q d L ks e (evCall T n false (.fn 50) [.agg [.int .i64 x.num, .int .i64 x.den], .agg [.int .i64 y.num, .int .i64 y.den]] h) = GO (evCall T n) base Q L ks ⟨setDst e d (.int .i64 (gapF x y)), h⟩ :=
  gp_eq (con_GapOf x y hx hy) hn (fz_rat _ _ (fz_rat _ _ (fz_nil _))) (or_pi _ _ _)
end

/-! ### Gap -/
def refGap (x y : Frac) : Int × Int := if openErr [x, y] ≠ 0 then (0, openErr [x, y]) else (gapF x y, 0)
theorem con_Two (x y : Frac) : Con T 3 58 [rAV x, rAV y] (.int .i64 (openErr [x, y])) := by
  refine con_intro t58 fun n hn V hV => ?_
  rw [open_two] at hV
  by_cases hc : chkI x = 0
  · have hc' : (chkI x != 0) = false := by simp [hc]
    rw [if_neg (by omega)] at hV
    simp (disch := first | assumption | omega) only [c58, go_sem, ↓reduceIte, reduceIte, Nat.reduceEqDiff, Nat.reduceAdd, Nat.reduceMul, reduceCtorEq, Nat.reduceDiv, Nat.reduceLeDiff, Nat.reduceLT, Nat.reduceSub, cs_refCheck, hc']
    exact hV _ _ (frz_int _ _ _ _)
  · have hc' : (chkI x != 0) = true := by simp [hc]
    rw [if_pos hc] at hV
    simp (disch := first | assumption | omega) only [c58, go_sem, ↓reduceIte, reduceIte, Nat.reduceEqDiff, Nat.reduceAdd, Nat.reduceMul, reduceCtorEq, Nat.reduceDiv, Nat.reduceLeDiff, Nat.reduceLT, Nat.reduceSub, cs_refCheck, hc']
    exact hV _ _ (frz_int _ _ _ _)
theorem cs_Two {n base : Nat} {Q : EX × St → Prop} {d : Option Nat} {L : List IOper} {ks : List Kont} {e : Env} {h : Heap} {x y : Frac} (hn : 3 ≤ n) : GP (evCall T n) base Q d L ks e (evCall T n false (.fn 58) [.agg [.int .i64 x.num, .int .i64 x.den], .agg [.int .i64 y.num, .int .i64 y.den]] h) = GO (evCall T n) base Q L ks ⟨setDst e d (.int .i64 (openErr [x, y])), h⟩ :=
  gp_eq (con_Two x y) hn (fz_rat _ _ (fz_rat _ _ (fz_nil _))) (or_pi _ _ _)

theorem con_Gap (x y : Frac) : Con T 10004 20 [rAV x, rAV y] (.tuple [.int .i64 (refGap x y).1, .int .i64 (refGap x y).2]) := by
  refine con_intro t20 fun n hn V hV => ?_
  replace hV : ∀ a b h, a = (refGap x y).1 → b = (refGap x y).2 → V (.tuple [.int .i64 a, .int .i64 b], h) := fun a b h e1 e2 => hV _ _ (by rw [e1, e2]; exact frz_two (frz_int _ _ _ _) (frz_int _ _ _ _))
  unfold refGap at hV
  by_cases hc : openErr [x, y] = 0
  · have hc' : (openErr [x, y] != 0) = false := by simp [hc]
    obtain ⟨ox, oy⟩ := (open_two_zero x y).1 hc
    have bx := ox.bf
    have bY := oy.bf
    rw [if_neg (by omega)] at hV
    simp (disch := first | assumption | omega) only [c20, go_sem, ↓reduceIte, reduceIte, Nat.reduceEqDiff, Nat.reduceAdd, Nat.reduceMul, reduceCtorEq, Nat.reduceDiv, Nat.reduceLeDiff, Nat.reduceLT, Nat.reduceSub, List.range_zero, Nat.zero_mul, Nat.one_mul, cs_open2, hc, hc', cs_gap, bne_self_eq_false]
    exact hV _ _ _ rfl rfl
  · have hc' : (openErr [x, y] != 0) = true := by simp [hc]
    rw [if_pos hc] at hV
    simp (disch := first | assumption | omega) only [c20, go_sem, ↓reduceIte, reduceIte, Nat.reduceEqDiff, Nat.reduceAdd, Nat.reduceMul, reduceCtorEq, Nat.reduceDiv, Nat.reduceLeDiff, Nat.reduceLT, Nat.reduceSub, List.range_zero, Nat.zero_mul, Nat.one_mul, cs_open2, hc']
    exact hV _ _ _ rfl rfl
theorem con_refGap (x y : Frac) : Con T 4 21 [rAV x, rAV y] (.tuple [.int .i64 (refGap x y).1, .int .i64 (refGap x y).2]) := by
  refine con_intro t21 fun n hn V hV => ?_
  replace hV : ∀ a b h, a = (refGap x y).1 → b = (refGap x y).2 → V (.tuple [.int .i64 a, .int .i64 b], h) := fun a b h e1 e2 => hV _ _ (by rw [e1, e2]; exact frz_two (frz_int _ _ _ _) (frz_int _ _ _ _))
  unfold refGap at hV
  by_cases hc : openErr [x, y] = 0
  · have hc' : (openErr [x, y] != 0) = false := by simp [hc]
    obtain ⟨ox, oy⟩ := (open_two_zero x y).1 hc
    have bx := ox.bf
    have bY := oy.bf
    rw [if_neg (by omega)] at hV
    simp (disch := first | assumption | omega) only [c21, go_sem, ↓reduceIte, reduceIte, Nat.reduceEqDiff, Nat.reduceAdd, Nat.reduceMul, reduceCtorEq, Nat.reduceDiv, Nat.reduceLeDiff, Nat.reduceLT, Nat.reduceSub, cs_Two, hc', cs_GapOf]
    exact hV _ _ _ rfl rfl
  · have hc' : (openErr [x, y] != 0) = true := by simp [hc]
    rw [if_pos hc] at hV
    simp (disch := first | assumption | omega) only [c21, go_sem, ↓reduceIte, reduceIte, Nat.reduceEqDiff, Nat.reduceAdd, Nat.reduceMul, reduceCtorEq, Nat.reduceDiv, Nat.reduceLeDiff, Nat.reduceLT, Nat.reduceSub, cs_Two, hc']
    exact hV _ _ _ rfl rfl

end Go.Ev.YtcghegefcgnhbaaC
