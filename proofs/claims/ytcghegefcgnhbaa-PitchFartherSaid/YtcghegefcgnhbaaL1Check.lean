/- The program's checks: within, CheckInterval, open, bounded; Gap, the program's and the reference's. Contracts; conditions stand in each. -/
import Derived.Test.YtcghegefcgnhbaaL1Base
set_option linter.unusedSimpArgs false
set_option linter.unusedVariables false
namespace Go.Ev.YtcghegefcgnhbaaC
open Go Go.Proofs

def withinB (lo hi : Int) (xs : List Int) : Bool := !xs.any fun x => decide (x < lo) || decide (x > hi)

attribute [local irreducible] Res.all evC evLoop evOps evOper evOp evFn evCall freeze G GO GV GP GC R
set_option maxRecDepth 100000

theorem con_IndexFunc {k f : Nat} {first cap : List AV} {p : Int → Bool} (xs : List Int) (hl : xs.length ≤ 1000) (hc : ∀ x ∈ xs, Con T k f (first ++ [.int .i64 x] ++ cap) (.bool (p x))) (hz : ∀ h x, fz h (first ++ [.int .i64 x] ++ cap) = .ret (first ++ [.int .i64 x] ++ cap)) :
    Con T (k + 1) 95 [longsV xs, .clo f first cap] (.int .i64 (idxB p xs 0)) := by
  refine con_intro t95 fun n hn V hV => ?_
  simp (disch := first | assumption | omega) only [c95, go_sem, ↓reduceIte, reduceIte, Nat.reduceEqDiff, Nat.reduceAdd, Nat.reduceMul, reduceCtorEq, Nat.reduceDiv, Nat.reduceLeDiff, Nat.reduceLT, Nat.reduceSub]
  refine m_loop (fun M s => ∃ k : Nat, M = xs.length - k ∧ k ≤ xs.length ∧ At s.env [(0, longsV xs), (1, .clo f first cap), (7, .int .i64 xs.length), (8, .int .i64 k)] ∧ idxB p xs 0 = idxB p (xs.drop k) k) xs.length (by omega) ⟨0, by simp, by omega, by simp [go_sem, ↓reduceIte, reduceIte, Nat.reduceEqDiff, Nat.reduceAdd, Nat.reduceMul, reduceCtorEq, Nat.reduceDiv, Nat.reduceLeDiff, Nat.reduceLT, Nat.reduceSub], rfl⟩ ?_
  rintro M e h hM ⟨k, rfl, hk, hE, hA⟩ P hP
  simp only [At_cons, At_nil] at hE
  obtain ⟨h0, h1, h7, h8, -⟩ := hE
  by_cases hlt : k < xs.length
  · obtain ⟨y, hy⟩ := get_ex hlt
    rw [drop_cons hy, idxB] at hA
    simp (disch := first | assumption | omega) only [go_sem, ↓reduceIte, reduceIte, Nat.reduceEqDiff, Nat.reduceAdd, Nat.reduceMul, reduceCtorEq, Nat.reduceDiv, Nat.reduceLeDiff, Nat.reduceLT, Nat.reduceSub, h0, h1, h7, h8, hlt, hy]
    refine gp_con (hc y (List.mem_of_getElem? hy)) hn (hz _ _) (or_pb _ _) ?_
    by_cases hp : p y = true
    · simp (disch := first | assumption | omega) only [go_sem, ↓reduceIte, reduceIte, Nat.reduceEqDiff, Nat.reduceAdd, Nat.reduceMul, reduceCtorEq, Nat.reduceDiv, Nat.reduceLeDiff, Nat.reduceLT, Nat.reduceSub, h0, h1, h7, h8, hp]
      exact hV _ _ (by rw [frz_int, hA, if_pos hp])
    · simp (disch := first | assumption | omega) only [go_sem, ↓reduceIte, reduceIte, Nat.reduceEqDiff, Nat.reduceAdd, Nat.reduceMul, reduceCtorEq, Nat.reduceDiv, Nat.reduceLeDiff, Nat.reduceLT, Nat.reduceSub, h0, h1, h7, h8, hp]
      exact hP (xs.length - (k + 1)) _ (by omega) ⟨k + 1, rfl, by omega, by simp only [go_sem, ↓reduceIte, reduceIte, Nat.reduceEqDiff, Nat.reduceAdd, Nat.reduceMul, reduceCtorEq, Nat.reduceDiv, Nat.reduceLeDiff, Nat.reduceLT, Nat.reduceSub, h0, h1, h7], by rw [hA, if_neg hp]; rfl⟩
  · simp (disch := first | assumption | omega) only [go_sem, ↓reduceIte, reduceIte, Nat.reduceEqDiff, Nat.reduceAdd, Nat.reduceMul, reduceCtorEq, Nat.reduceDiv, Nat.reduceLeDiff, Nat.reduceLT, Nat.reduceSub, h0, h1, h7, h8, hlt]
    exact hV _ _ (by rw [frz_int, hA, List.drop_eq_nil_of_le (by omega)]; rfl)

theorem con_ContainsFunc {k f : Nat} {first cap : List AV} {p : Int → Bool} (xs : List Int) (hl : xs.length ≤ 1000) (hc : ∀ x ∈ xs, Con T k f (first ++ [.int .i64 x] ++ cap) (.bool (p x))) (hz : ∀ h x, fz h (first ++ [.int .i64 x] ++ cap) = .ret (first ++ [.int .i64 x] ++ cap))
    (hf : ∀ h, freeze h 8 (.clo f first cap) = .ret (.clo f first cap)) : Con T (k + 2) 84 [longsV xs, .clo f first cap] (.bool (xs.any p)) := by
  refine con_intro t84 fun n hn V hV => ?_
  simp (disch := first | assumption | omega) only [c84, go_sem, ↓reduceIte, reduceIte, Nat.reduceEqDiff, Nat.reduceAdd, Nat.reduceMul, reduceCtorEq, Nat.reduceDiv, Nat.reduceLeDiff, Nat.reduceLT, Nat.reduceSub]
  refine gp_con (con_IndexFunc xs hl hc hz) hn (fz_slice _ _ _ _ (fz_cons (hf _) (fz_nil _))) (or_pi _ _ _) ?_
  simp (disch := first | assumption | omega) only [go_sem, ↓reduceIte, reduceIte, Nat.reduceEqDiff, Nat.reduceAdd, Nat.reduceMul, reduceCtorEq, Nat.reduceDiv, Nat.reduceLeDiff, Nat.reduceLT, Nat.reduceSub, idxB_any]
  exact hV _ _ (frz_bool _ _ _)

theorem con_within1 (x lo hi : Int) : Con T 1 85 ([] ++ [.int .i64 x] ++ [.ptr [.int .i64 lo] 0, .ptr [.int .i64 hi] 0]) (.bool (decide (x < lo) || decide (x > hi))) := by
  refine con_intro t85 fun n hn V hV => ?_
  by_cases g1 : x < lo
  · simp (disch := first | assumption | omega) only [c85, go_sem, ↓reduceIte, reduceIte, Nat.reduceEqDiff, Nat.reduceAdd, Nat.reduceMul, reduceCtorEq, Nat.reduceDiv, Nat.reduceLeDiff, Nat.reduceLT, Nat.reduceSub, g1, List.cons_append]
    refine hV _ _ ?_
    simp [g1, frz_bool]
  · simp (disch := first | assumption | omega) only [c85, go_sem, ↓reduceIte, reduceIte, Nat.reduceEqDiff, Nat.reduceAdd, Nat.reduceMul, reduceCtorEq, Nat.reduceDiv, Nat.reduceLeDiff, Nat.reduceLT, Nat.reduceSub, g1, List.cons_append]
    refine hV _ _ ?_
    simp [g1, frz_bool]

theorem con_within (lo hi : Int) (xs : List Int) (hl : xs.length ≤ 1000) : Con T 4 59 [.int .i64 lo, .int .i64 hi, longsV xs] (.bool (withinB lo hi xs)) := by
  refine con_intro t59 fun n hn V hV => ?_
  simp (disch := first | assumption | omega) only [c59, go_sem, ↓reduceIte, reduceIte, Nat.reduceEqDiff, Nat.reduceAdd, Nat.reduceMul, reduceCtorEq, Nat.reduceDiv, Nat.reduceLeDiff, Nat.reduceLT, Nat.reduceSub]
  refine gp_con (con_ContainsFunc (p := fun x => decide (x < lo) || decide (x > hi)) xs hl (fun x _ => con_within1 x lo hi) (fun h x => ?_) (fun h => ?_)) hn (fz_slice _ _ _ _ (fz_cons (frz_clo (mz_nil _ _) (mz_cons (frz_optr (cs := [.int .i64 lo]) (by simp [go_sem, ↓reduceIte, reduceIte, Nat.reduceEqDiff, Nat.reduceAdd, Nat.reduceMul, reduceCtorEq, Nat.reduceDiv, Nat.reduceLeDiff, Nat.reduceLT, Nat.reduceSub]) (mz_cons (frz_int _ _ _ _) (mz_nil _ _))) (mz_cons (frz_optr (cs := [.int .i64 hi]) (by simp [go_sem, ↓reduceIte, reduceIte, Nat.reduceEqDiff, Nat.reduceAdd, Nat.reduceMul, reduceCtorEq, Nat.reduceDiv, Nat.reduceLeDiff, Nat.reduceLT, Nat.reduceSub]) (mz_cons (frz_int _ _ _ _) (mz_nil _ _))) (mz_nil _ _)))) (fz_nil _))) (or_pb _ _) ?_
  · exact fz_int _ _ _ (fz_cons (frz_ptr _ _ _ _) (fz_cons (frz_ptr _ _ _ _) (fz_nil _)))
  · exact frz_clo (mz_nil _ _) (mz_cons (frz_ptr _ _ _ _) (mz_cons (frz_ptr _ _ _ _) (mz_nil _ _)))
  simp (disch := first | assumption | omega) only [go_sem, ↓reduceIte, reduceIte, Nat.reduceEqDiff, Nat.reduceAdd, Nat.reduceMul, reduceCtorEq, Nat.reduceDiv, Nat.reduceLeDiff, Nat.reduceLT, Nat.reduceSub]
  exact hV _ _ (frz_bool _ _ _)

section
variable {n base : Nat} {Q : EX × St → Prop} {d : Option Nat} {L : List IOper} {ks : List Kont} {e : Env} {h : Heap}
theorem cs_within {lo hi : Int} {xs : List Int} {x : Bool} (hn : 4 ≤ n) (hl : xs.length ≤ 1000) :
    GP (evCall T n) base Q d L ks e (evCall T n false (.fn 59) [.int .i64 lo, .int .i64 hi, .slice none (xs.map (.int .i64)) x] h) = GO (evCall T n) base Q L ks ⟨setDst e d (.bool (withinB lo hi xs)), h⟩ :=
  gp_eq (con_within lo hi xs hl) hn (by repeat (first | exact fz_nil _ | refine fz_slice _ _ _ _ ?_ | refine fz_int _ _ _ ?_)) rfl
theorem cs_within1 {lo hi a : Int} {x : Bool} (hn : 4 ≤ n) :
    GP (evCall T n) base Q d L ks e (evCall T n false (.fn 59) [.int .i64 lo, .int .i64 hi, .slice none [.int .i64 a] x] h) = GO (evCall T n) base Q L ks ⟨setDst e d (.bool (decide (lo ≤ a) && decide (a ≤ hi))), h⟩ := by
  have := cs_within (Q := Q) (d := d) (L := L) (ks := ks) (e := e) (h := h) (base := base) (lo := lo) (hi := hi) (xs := [a]) (x := x) hn (by simp)
  rw [show withinB lo hi [a] = (decide (lo ≤ a) && decide (a ≤ hi)) by rw [Bool.eq_iff_iff]; simp [withinB]] at this
  exact this
theorem cs_within2 {lo hi a b : Int} {x : Bool} (hn : 4 ≤ n) :
    GP (evCall T n) base Q d L ks e (evCall T n false (.fn 59) [.int .i64 lo, .int .i64 hi, .slice none [.int .i64 a, .int .i64 b] x] h) = GO (evCall T n) base Q L ks ⟨setDst e d (.bool (decide (lo ≤ a) && decide (a ≤ hi) && (decide (lo ≤ b) && decide (b ≤ hi)))), h⟩ := by
  have := cs_within (Q := Q) (d := d) (L := L) (ks := ks) (e := e) (h := h) (base := base) (lo := lo) (hi := hi) (xs := [a, b]) (x := x) hn (by simp)
  rw [show withinB lo hi [a, b] = (decide (lo ≤ a) && decide (a ≤ hi) && (decide (lo ≤ b) && decide (b ≤ hi))) by rw [Bool.eq_iff_iff]; simp [withinB]] at this
  exact this
theorem cs_common {a b : Nat} (hn : b + 1 ≤ n) : GP (evCall T n) base Q d L ks e (evCall T n false (.fn 60) [.int .i64 (a : Int), .int .i64 (b : Int)] h) = GO (evCall T n) base Q L ks ⟨setDst e d (.int .i64 (Nat.gcd a b : Nat)), h⟩ :=
  gp_eq (con_common b a) hn (fz_int _ _ _ (fz_int _ _ _ (fz_nil _))) (or_pi _ _ _)
end

/-! ### CheckInterval -/
theorem con_CheckInterval (x : Frac) : Con T 10002 22 [rAV x] (.int .i64 (chkI x)) := by
  refine con_intro t22 fun n hn V hV => ?_
  unfold chkI at hV
  by_cases g : 1 ≤ x.num ∧ x.num ≤ 10000 ∧ 1 ≤ x.den ∧ x.den ≤ 10000
  · obtain ⟨g1, g2, g3, g4⟩ := g
    rw [if_neg (by omega)] at hV
    obtain ⟨a, ha⟩ := Int.eq_ofNat_of_zero_le (show 0 ≤ x.num by omega)
    obtain ⟨b, hb⟩ := Int.eq_ofNat_of_zero_le (show 0 ≤ x.den by omega)
    have e1 : x.num.toNat = a := by omega
    have e2 : x.den.toNat = b := by omega
    rw [e1, e2] at hV
    rw [ha] at g1 g2
    rw [hb] at g3 g4
    have hb1 : b + 1 ≤ n := by omega
    by_cases hg : Nat.gcd a b = 1
    · have hg' : (((Nat.gcd a b : Nat) : Int) != 1) = false := by simp [hg]
      simp (disch := first | assumption | omega) only [c22, go_sem, ↓reduceIte, reduceIte, Nat.reduceEqDiff, Nat.reduceAdd, Nat.reduceMul, reduceCtorEq, Nat.reduceDiv, Nat.reduceLeDiff, Nat.reduceLT, Nat.reduceSub, ha, hb, cs_within2, g1, g2, g3, g4, cs_common, hg']
      exact hV _ _ (by rw [frz_int, if_pos hg])
    · have hg' : (((Nat.gcd a b : Nat) : Int) != 1) = true := by simp; omega
      simp (disch := first | assumption | omega) only [c22, go_sem, ↓reduceIte, reduceIte, Nat.reduceEqDiff, Nat.reduceAdd, Nat.reduceMul, reduceCtorEq, Nat.reduceDiv, Nat.reduceLeDiff, Nat.reduceLT, Nat.reduceSub, ha, hb, cs_within2, g1, g2, g3, g4, cs_common, hg']
      exact hV _ _ (by rw [frz_int, if_neg hg])
  · rw [if_pos (by omega)] at hV
    have hw : (decide (1 ≤ x.num) && decide (x.num ≤ 10000) && (decide (1 ≤ x.den) && decide (x.den ≤ 10000))) = false := by
      rw [Bool.eq_false_iff]; simp; omega
    simp (disch := first | assumption | omega) only [c22, go_sem, ↓reduceIte, reduceIte, Nat.reduceEqDiff, Nat.reduceAdd, Nat.reduceMul, reduceCtorEq, Nat.reduceDiv, Nat.reduceLeDiff, Nat.reduceLT, Nat.reduceSub, cs_within2, hw]
    exact hV _ _ (frz_int _ _ _ _)

end Go.Ev.YtcghegefcgnhbaaC
