/- What the program's functions answer: checks, ends, delays. Contracts; conditions stand in each. -/
import Derived.Test.YtadneamkkepknaaL5Ref1
set_option linter.unusedSimpArgs false
set_option linter.unusedVariables false
namespace Go.Ev.YtadneamkkepknaaC
open Go Go.Proofs

attribute [local irreducible] Res.all evC evLoop evOps evOper evOp evFn evCall freeze G GO GV GP GC R
set_option maxRecDepth 100000

/-! ### 95, 82: slices.IndexFunc, slices.ContainsFunc over integers -/
theorem con_95 {k f : Nat} {first cap : List AV} {p : Int → Bool} (xs : List Int) (hl : xs.length ≤ 1000) (hc : ∀ x ∈ xs, Con T k f (first ++ [.int .i64 x] ++ cap) (.bool (p x))) (hz : ∀ h x, fz h (first ++ [.int .i64 x] ++ cap) = .ret (first ++ [.int .i64 x] ++ cap)) :
    Con T (k + 1) 95 [ints xs, .clo f first cap] (.int .i64 (idxB p xs 0)) := by
  refine con_intro t95 fun n hn V hV => ?_
  simp (disch := first | assumption | omega) only [c95, go_sem, ↓reduceIte, reduceIte, Nat.reduceEqDiff, Nat.reduceAdd, Nat.reduceMul, reduceCtorEq, Nat.reduceDiv, Nat.reduceLeDiff, Nat.reduceLT, Nat.reduceSub]
  refine m_loop (fun M s => ∃ k : Nat, M = xs.length - k ∧ k ≤ xs.length ∧ At s.env [(0, ints xs), (1, .clo f first cap), (7, .int .i64 xs.length), (8, .int .i64 k)] ∧ idxB p xs 0 = idxB p (xs.drop k) k) xs.length (by omega) ⟨0, by simp, by omega, by simp [go_sem, ↓reduceIte, reduceIte, Nat.reduceEqDiff, Nat.reduceAdd, Nat.reduceMul, reduceCtorEq, Nat.reduceDiv, Nat.reduceLeDiff, Nat.reduceLT, Nat.reduceSub], rfl⟩ ?_
  rintro M e h hM ⟨k, rfl, hk, hE, hA⟩ P hP
  simp only [At_cons, At_nil] at hE
  obtain ⟨h0, h1, h7, h8, -⟩ := hE
  by_cases hlt : k < xs.length
  · obtain ⟨y, hy⟩ := get_ex hlt
    rw [drop_cons hy, idxB] at hA
    simp (disch := first | assumption | omega) only [go_sem, ↓reduceIte, reduceIte, Nat.reduceEqDiff, Nat.reduceAdd, Nat.reduceMul, reduceCtorEq, Nat.reduceDiv, Nat.reduceLeDiff, Nat.reduceLT, Nat.reduceSub, h0, h1, h7, h8, hlt, hy]
    refine gp_con (hc y (List.mem_of_getElem? hy)) hn (hz _ _) (or_pb _ _) ?_
    by_cases hp : p y = true
    · simp (disch := first | assumption | omega) only [go_sem, ↓reduceIte, reduceIte, Nat.reduceEqDiff, Nat.reduceAdd, Nat.reduceMul, reduceCtorEq, Nat.reduceDiv, Nat.reduceLeDiff, Nat.reduceLT, Nat.reduceSub, h0, h1, h7, h8, hp]
      exact hV _ _ (by rw [frz_int, hA, if_pos hp])
    · simp (disch := first | assumption | omega) only [go_sem, ↓reduceIte, reduceIte, Nat.reduceEqDiff, Nat.reduceAdd, Nat.reduceMul, reduceCtorEq, Nat.reduceDiv, Nat.reduceLeDiff, Nat.reduceLT, Nat.reduceSub, h0, h1, h7, h8, hp]
      exact hP (xs.length - (k + 1)) _ (by omega) ⟨k + 1, rfl, by omega, by simp only [go_sem, ↓reduceIte, reduceIte, Nat.reduceEqDiff, Nat.reduceAdd, Nat.reduceMul, reduceCtorEq, Nat.reduceDiv, Nat.reduceLeDiff, Nat.reduceLT, Nat.reduceSub, h0, h1, h7], by rw [hA, if_neg hp]; rfl⟩
  · simp (disch := first | assumption | omega) only [go_sem, ↓reduceIte, reduceIte, Nat.reduceEqDiff, Nat.reduceAdd, Nat.reduceMul, reduceCtorEq, Nat.reduceDiv, Nat.reduceLeDiff, Nat.reduceLT, Nat.reduceSub, h0, h1, h7, h8, hlt]
    exact hV _ _ (by rw [frz_int, hA, List.drop_eq_nil_of_le (by omega)]; rfl)

theorem con_82 {k f : Nat} {first cap : List AV} {p : Int → Bool} (xs : List Int) (hl : xs.length ≤ 1000) (hc : ∀ x ∈ xs, Con T k f (first ++ [.int .i64 x] ++ cap) (.bool (p x))) (hz : ∀ h x, fz h (first ++ [.int .i64 x] ++ cap) = .ret (first ++ [.int .i64 x] ++ cap))
    (hf : ∀ h, freeze h 8 (.clo f first cap) = .ret (.clo f first cap)) : Con T (k + 2) 82 [ints xs, .clo f first cap] (.bool (xs.any p)) := by
  refine con_intro t82 fun n hn V hV => ?_
  simp (disch := first | assumption | omega) only [c82, go_sem, ↓reduceIte, reduceIte, Nat.reduceEqDiff, Nat.reduceAdd, Nat.reduceMul, reduceCtorEq, Nat.reduceDiv, Nat.reduceLeDiff, Nat.reduceLT, Nat.reduceSub]
  refine gp_con (con_95 xs hl hc hz) hn (fz_slice _ _ _ _ (fz_cons (hf _) (fz_nil _))) (or_pi _ _ _) ?_
  simp (disch := first | assumption | omega) only [go_sem, ↓reduceIte, reduceIte, Nat.reduceEqDiff, Nat.reduceAdd, Nat.reduceMul, reduceCtorEq, Nat.reduceDiv, Nat.reduceLeDiff, Nat.reduceLT, Nat.reduceSub, idxB_any]
  exact hV _ _ (frz_bool _ _ _)

/-! ### 83, 58: within -/
theorem con_83 (x lo hi : Int) : Con T 1 83 ([] ++ [.int .i64 x] ++ [.ptr [.int .i64 lo] 0, .ptr [.int .i64 hi] 0]) (.bool (decide (x < lo) || decide (x > hi))) := by
  refine con_intro t83 fun n hn V hV => ?_
  by_cases g1 : x < lo
  · simp (disch := first | assumption | omega) only [c83, go_sem, ↓reduceIte, reduceIte, Nat.reduceEqDiff, Nat.reduceAdd, Nat.reduceMul, reduceCtorEq, Nat.reduceDiv, Nat.reduceLeDiff, Nat.reduceLT, Nat.reduceSub, g1, List.cons_append]
    refine hV _ _ ?_
    simp [g1, frz_bool]
  · simp (disch := first | assumption | omega) only [c83, go_sem, ↓reduceIte, reduceIte, Nat.reduceEqDiff, Nat.reduceAdd, Nat.reduceMul, reduceCtorEq, Nat.reduceDiv, Nat.reduceLeDiff, Nat.reduceLT, Nat.reduceSub, g1, List.cons_append]
    refine hV _ _ ?_
    simp [g1, frz_bool]

def withinB (lo hi : Int) (xs : List Int) : Bool := !xs.any fun x => decide (x < lo) || decide (x > hi)

theorem con_58 (lo hi : Int) (xs : List Int) (hl : xs.length ≤ 1000) : Con T 4 58 [.int .i64 lo, .int .i64 hi, ints xs] (.bool (withinB lo hi xs)) := by
  refine con_intro t58 fun n hn V hV => ?_
  simp (disch := first | assumption | omega) only [c58, go_sem, ↓reduceIte, reduceIte, Nat.reduceEqDiff, Nat.reduceAdd, Nat.reduceMul, reduceCtorEq, Nat.reduceDiv, Nat.reduceLeDiff, Nat.reduceLT, Nat.reduceSub]
  refine gp_con (con_82 (p := fun x => decide (x < lo) || decide (x > hi)) xs hl (fun x _ => con_83 x lo hi) (fun h x => ?_) (fun h => ?_)) hn (fz_slice _ _ _ _ (fz_cons (frz_clo (mz_nil _ _) (mz_cons (frz_optr (cs := [.int .i64 lo]) (by simp [go_sem, ↓reduceIte, reduceIte, Nat.reduceEqDiff, Nat.reduceAdd, Nat.reduceMul, reduceCtorEq, Nat.reduceDiv, Nat.reduceLeDiff, Nat.reduceLT, Nat.reduceSub]) (mz_cons (frz_int _ _ _ _) (mz_nil _ _))) (mz_cons (frz_optr (cs := [.int .i64 hi]) (by simp [go_sem, ↓reduceIte, reduceIte, Nat.reduceEqDiff, Nat.reduceAdd, Nat.reduceMul, reduceCtorEq, Nat.reduceDiv, Nat.reduceLeDiff, Nat.reduceLT, Nat.reduceSub]) (mz_cons (frz_int _ _ _ _) (mz_nil _ _))) (mz_nil _ _)))) (fz_nil _))) (or_pb _ _) ?_
  · exact fz_int _ _ _ (fz_cons (frz_ptr _ _ _ _) (fz_cons (frz_ptr _ _ _ _) (fz_nil _)))
  · exact frz_clo (mz_nil _ _) (mz_cons (frz_ptr _ _ _ _) (mz_cons (frz_ptr _ _ _ _) (mz_nil _ _)))
  simp (disch := first | assumption | omega) only [go_sem, ↓reduceIte, reduceIte, Nat.reduceEqDiff, Nat.reduceAdd, Nat.reduceMul, reduceCtorEq, Nat.reduceDiv, Nat.reduceLeDiff, Nat.reduceLT, Nat.reduceSub]
  exact hV _ _ (frz_bool _ _ _)

theorem cs_58 {n base : Nat} {Q : EX × St → Prop} {d : Option Nat} {L : List IOper} {ks : List Kont} {e : Env} {h : Heap} {lo hi : Int} {xs : List Int} {x : Bool} (hn : 4 ≤ n) (hl : xs.length ≤ 1000) :
    GP (evCall T n) base Q d L ks e (evCall T n false (.fn 58) [.int .i64 lo, .int .i64 hi, .slice none (xs.map (.int .i64)) x] h) = GO (evCall T n) base Q L ks ⟨setDst e d (.bool (withinB lo hi xs)), h⟩ :=
  gp_eq (con_58 lo hi xs hl) hn (by repeat (first | exact fz_nil _ | refine fz_slice _ _ _ _ ?_ | refine fz_int _ _ _ ?_)) rfl

/-! ### 84, 66: slices.IndexFunc, slices.ContainsFunc over orders -/
theorem con_84 {k f : Nat} {first cap : List AV} {p : Order → Bool} (xs : List Order) (hl : xs.length ≤ 1000) (hc : ∀ x ∈ xs, Con T k f (first ++ [oAV x] ++ cap) (.bool (p x))) (hz : ∀ h x, fz h (first ++ [oAV x] ++ cap) = .ret (first ++ [oAV x] ++ cap)) :
    Con T (k + 1) 84 [ords xs, .clo f first cap] (.int .i64 (idxB p xs 0)) := by
  refine con_intro t84 fun n hn V hV => ?_
  simp (disch := first | assumption | omega) only [c84, go_sem, ↓reduceIte, reduceIte, Nat.reduceEqDiff, Nat.reduceAdd, Nat.reduceMul, reduceCtorEq, Nat.reduceDiv, Nat.reduceLeDiff, Nat.reduceLT, Nat.reduceSub]
  refine m_loop (fun M s => ∃ k : Nat, M = xs.length - k ∧ k ≤ xs.length ∧ At s.env [(0, ords xs), (1, .clo f first cap), (7, .int .i64 xs.length), (8, .int .i64 k)] ∧ idxB p xs 0 = idxB p (xs.drop k) k) xs.length (by omega) ⟨0, by simp, by omega, by simp [go_sem, ↓reduceIte, reduceIte, Nat.reduceEqDiff, Nat.reduceAdd, Nat.reduceMul, reduceCtorEq, Nat.reduceDiv, Nat.reduceLeDiff, Nat.reduceLT, Nat.reduceSub], rfl⟩ ?_
  rintro M e h hM ⟨k, rfl, hk, hE, hA⟩ P hP
  simp only [At_cons, At_nil] at hE
  obtain ⟨h0, h1, h7, h8, -⟩ := hE
  by_cases hlt : k < xs.length
  · obtain ⟨y, hy⟩ := get_ex hlt
    rw [drop_cons hy, idxB] at hA
    simp (disch := first | assumption | omega) only [go_sem, ↓reduceIte, reduceIte, Nat.reduceEqDiff, Nat.reduceAdd, Nat.reduceMul, reduceCtorEq, Nat.reduceDiv, Nat.reduceLeDiff, Nat.reduceLT, Nat.reduceSub, h0, h1, h7, h8, hlt, hy, oAV, Nat.le_refl]
    refine gp_con (hc y (List.mem_of_getElem? hy)) hn (hz _ _) (or_pb _ _) ?_
    by_cases hp : p y = true
    · simp (disch := first | assumption | omega) only [go_sem, ↓reduceIte, reduceIte, Nat.reduceEqDiff, Nat.reduceAdd, Nat.reduceMul, reduceCtorEq, Nat.reduceDiv, Nat.reduceLeDiff, Nat.reduceLT, Nat.reduceSub, h0, h1, h7, h8, hp]
      exact hV _ _ (by rw [frz_int, hA, if_pos hp])
    · simp (disch := first | assumption | omega) only [go_sem, ↓reduceIte, reduceIte, Nat.reduceEqDiff, Nat.reduceAdd, Nat.reduceMul, reduceCtorEq, Nat.reduceDiv, Nat.reduceLeDiff, Nat.reduceLT, Nat.reduceSub, h0, h1, h7, h8, hp]
      exact hP (xs.length - (k + 1)) _ (by omega) ⟨k + 1, rfl, by omega, by simp only [go_sem, ↓reduceIte, reduceIte, Nat.reduceEqDiff, Nat.reduceAdd, Nat.reduceMul, reduceCtorEq, Nat.reduceDiv, Nat.reduceLeDiff, Nat.reduceLT, Nat.reduceSub, h0, h1, h7], by rw [hA, if_neg hp]; rfl⟩
  · simp (disch := first | assumption | omega) only [go_sem, ↓reduceIte, reduceIte, Nat.reduceEqDiff, Nat.reduceAdd, Nat.reduceMul, reduceCtorEq, Nat.reduceDiv, Nat.reduceLeDiff, Nat.reduceLT, Nat.reduceSub, h0, h1, h7, h8, hlt]
    exact hV _ _ (by rw [frz_int, hA, List.drop_eq_nil_of_le (by omega)]; rfl)

theorem con_66 {k f : Nat} {first cap : List AV} {p : Order → Bool} (xs : List Order) (hl : xs.length ≤ 1000) (hc : ∀ x ∈ xs, Con T k f (first ++ [oAV x] ++ cap) (.bool (p x))) (hz : ∀ h x, fz h (first ++ [oAV x] ++ cap) = .ret (first ++ [oAV x] ++ cap))
    (hf : ∀ h, freeze h 8 (.clo f first cap) = .ret (.clo f first cap)) : Con T (k + 2) 66 [ords xs, .clo f first cap] (.bool (xs.any p)) := by
  refine con_intro t66 fun n hn V hV => ?_
  simp (disch := first | assumption | omega) only [c66, go_sem, ↓reduceIte, reduceIte, Nat.reduceEqDiff, Nat.reduceAdd, Nat.reduceMul, reduceCtorEq, Nat.reduceDiv, Nat.reduceLeDiff, Nat.reduceLT, Nat.reduceSub]
  refine gp_con (con_84 xs hl hc hz) hn (fz_slice _ _ _ _ (fz_cons (hf _) (fz_nil _))) (or_pi _ _ _) ?_
  simp (disch := first | assumption | omega) only [go_sem, ↓reduceIte, reduceIte, Nat.reduceEqDiff, Nat.reduceAdd, Nat.reduceMul, reduceCtorEq, Nat.reduceDiv, Nat.reduceLeDiff, Nat.reduceLT, Nat.reduceSub, idxB_any]
  exact hV _ _ (frz_bool _ _ _)

/-! ### 65, 23: CheckOrders -/
theorem frz_oAV (h : Heap) (o : Order) : freeze h 8 (oAV o) = .ret (oAV o) := by
  unfold oAV
  rw [freeze]
  simp only [mz_cons (frz_int _ _ _ _) (mz_cons (frz_int _ _ _ _) (mz_cons (frz_int _ _ _ _) (mz_nil _ _)))]
  rfl

theorem con_65 (o : Order) : Con T 5 65 ([] ++ [oAV o] ++ []) (.bool (!okO o)) := by
  refine con_intro t65 fun n hn V hV => ?_
  have w1 : withinB 1 100 [o.lo, o.hi] = (!(decide (o.lo < 1) || decide (o.lo > 100) || (decide (o.hi < 1) || decide (o.hi > 100)))) := by simp [withinB]
  have w2 : withinB 0 2000 [o.due] = (!(decide (o.due < 0) || decide (o.due > 2000))) := by simp [withinB]
  have c1 : ∀ (e : Env) (h : Heap) (Q : EX × St → Prop) (d : Option Nat) (L : List IOper) (ks : List Kont), GP (evCall T n) 0 Q d L ks e (evCall T n false (.fn 58) [.int .i64 1, .int .i64 100, .slice none [.int .i64 o.lo, .int .i64 o.hi] true] h) = GO (evCall T n) 0 Q L ks ⟨setDst e d (.bool (withinB 1 100 [o.lo, o.hi])), h⟩ := fun e h Q d L ks => cs_58 (xs := [o.lo, o.hi]) hn (by simp)
  have c2 : ∀ (e : Env) (h : Heap) (Q : EX × St → Prop) (d : Option Nat) (L : List IOper) (ks : List Kont), GP (evCall T n) 0 Q d L ks e (evCall T n false (.fn 58) [.int .i64 0, .int .i64 2000, .slice none [.int .i64 o.due] true] h) = GO (evCall T n) 0 Q L ks ⟨setDst e d (.bool (withinB 0 2000 [o.due])), h⟩ := fun e h Q d L ks => cs_58 (xs := [o.due]) hn (by simp)
  have hok : okO o = (withinB 1 100 [o.lo, o.hi] && !decide (o.lo > o.hi) && withinB 0 2000 [o.due]) := by
    rw [w1, w2, Bool.eq_iff_iff, okO_iff]
    simp
    constructor
    · rintro ⟨a, b, c, d, e⟩
      omega
    · intro h
      exact ⟨by omega, by omega, by omega, by omega, by omega⟩
  by_cases g1 : withinB 1 100 [o.lo, o.hi] = true
  · by_cases g2 : o.hi < o.lo
    · simp (disch := first | assumption | omega) only [c65, go_sem, ↓reduceIte, reduceIte, Nat.reduceEqDiff, Nat.reduceAdd, Nat.reduceMul, reduceCtorEq, Nat.reduceDiv, Nat.reduceLeDiff, Nat.reduceLT, Nat.reduceSub, oAV, fillParts, c1, c2, gt_iff_lt, g1, g2]
      refine hV _ _ ?_
      rw [frz_bool, hok]
      simp [g1, g2]
    · simp (disch := first | assumption | omega) only [c65, go_sem, ↓reduceIte, reduceIte, Nat.reduceEqDiff, Nat.reduceAdd, Nat.reduceMul, reduceCtorEq, Nat.reduceDiv, Nat.reduceLeDiff, Nat.reduceLT, Nat.reduceSub, oAV, fillParts, c1, c2, gt_iff_lt, g1, g2]
      refine hV _ _ ?_
      rw [frz_bool, hok]
      simp [g1, g2]
  · simp (disch := first | assumption | omega) only [c65, go_sem, ↓reduceIte, reduceIte, Nat.reduceEqDiff, Nat.reduceAdd, Nat.reduceMul, reduceCtorEq, Nat.reduceDiv, Nat.reduceLeDiff, Nat.reduceLT, Nat.reduceSub, oAV, fillParts, c1, c2, gt_iff_lt, g1]
    refine hV _ _ ?_
    rw [frz_bool, hok]
    simp [g1]

theorem okO_not (l : List Order) : (l.any fun o => !okO o) = !l.all okO := by
  induction l with
  | nil => rfl
  | cons a l ih => simp [ih]

theorem con_23 (l : List Order) (hl : l.length ≤ 15) : Con T 9 23 [ords l] (.int .i64 (chk l)) := by
  refine con_intro t23 fun n hn V hV => ?_
  by_cases h10 : 10 < l.length
  · have h10' : (10 : Int) < l.length := by omega
    simp (disch := first | assumption | omega) only [c23, go_sem, ↓reduceIte, reduceIte, Nat.reduceEqDiff, Nat.reduceAdd, Nat.reduceMul, reduceCtorEq, Nat.reduceDiv, Nat.reduceLeDiff, Nat.reduceLT, Nat.reduceSub, gt_iff_lt, h10']
    exact hV _ _ (by rw [frz_int, chk, if_pos h10])
  have h10' : ¬ (10 : Int) < l.length := by omega
  simp (disch := first | assumption | omega) only [c23, go_sem, ↓reduceIte, reduceIte, Nat.reduceEqDiff, Nat.reduceAdd, Nat.reduceMul, reduceCtorEq, Nat.reduceDiv, Nat.reduceLeDiff, Nat.reduceLT, Nat.reduceSub, gt_iff_lt, h10']
  refine gp_con (con_66 l (by omega) (fun x _ => con_65 x) (fun h x => ?_) (fun h => ?_)) (by omega) (fz_slice _ _ _ _ (fz_cons (frz_clo (mz_nil _ _) (mz_nil _ _)) (fz_nil _))) (or_pb _ _) ?_
  · exact fz_cons (frz_oAV _ _) (fz_nil _)
  · exact frz_clo (mz_nil _ _) (mz_nil _ _)
  rw [okO_not]
  by_cases ha : l.all okO = true
  · simp (disch := first | assumption | omega) only [go_sem, ↓reduceIte, reduceIte, Nat.reduceEqDiff, Nat.reduceAdd, Nat.reduceMul, reduceCtorEq, Nat.reduceDiv, Nat.reduceLeDiff, Nat.reduceLT, Nat.reduceSub, ha]
    exact hV _ _ (by rw [frz_int, chk, if_neg h10, if_pos ha])
  · simp (disch := first | assumption | omega) only [go_sem, ↓reduceIte, reduceIte, Nat.reduceEqDiff, Nat.reduceAdd, Nat.reduceMul, reduceCtorEq, Nat.reduceDiv, Nat.reduceLeDiff, Nat.reduceLT, Nat.reduceSub, ha]
    exact hV _ _ (by rw [frz_int, chk, if_neg h10, if_neg ha])

theorem cs_23 {n base : Nat} {Q : EX × St → Prop} {d : Option Nat} {L : List IOper} {ks : List Kont} {e : Env} {h : Heap} {l : List Order} {x : Bool} (hn : 9 ≤ n) (hl : l.length ≤ 15) : GP (evCall T n) base Q d L ks e (evCall T n false (.fn 23) [.slice (some 3) (l.map oAV) x] h) = GO (evCall T n) base Q L ks ⟨setDst e d (.int .i64 (chk l)), h⟩ :=
  gp_eq (con_23 l hl) hn (by repeat (first | exact fz_nil _ | refine fz_slice _ _ _ _ ?_ | refine fz_int _ _ _ ?_)) rfl

/-! ### 93, 77: slices.Index, slices.Contains -/
theorem con_93 (l : List Int) (x : Int) (hl : l.length ≤ 1000) : Con T 1 93 [ints l, .int .i64 x] (.int .i64 (place l x)) := by
  refine con_intro t93 fun n hn V hV => ?_
  simp (disch := first | assumption | omega) only [c93, go_sem, ↓reduceIte, reduceIte, Nat.reduceEqDiff, Nat.reduceAdd, Nat.reduceMul, reduceCtorEq, Nat.reduceDiv, Nat.reduceLeDiff, Nat.reduceLT, Nat.reduceSub]
  refine m_loop (fun M s => ∃ k : Nat, M = l.length - k ∧ k ≤ l.length ∧ At s.env [(0, ints l), (1, .int .i64 x), (7, .int .i64 l.length), (8, .int .i64 k)] ∧ place l x = placeFrom x (l.drop k) k) l.length (by omega) ⟨0, by simp, by omega, by simp [go_sem, ↓reduceIte, reduceIte, Nat.reduceEqDiff, Nat.reduceAdd, Nat.reduceMul, reduceCtorEq, Nat.reduceDiv, Nat.reduceLeDiff, Nat.reduceLT, Nat.reduceSub], rfl⟩ ?_
  rintro M e h hM ⟨k, rfl, hk, hE, hA⟩ P hP
  simp only [At_cons, At_nil] at hE
  obtain ⟨h0, h1, h7, h8, -⟩ := hE
  by_cases hlt : k < l.length
  · obtain ⟨y, hy⟩ := get_ex hlt
    rw [drop_cons hy, placeFrom] at hA
    by_cases hxy : y = x
    · subst hxy
      simp (disch := first | assumption | omega) only [go_sem, ↓reduceIte, reduceIte, Nat.reduceEqDiff, Nat.reduceAdd, Nat.reduceMul, reduceCtorEq, Nat.reduceDiv, Nat.reduceLeDiff, Nat.reduceLT, Nat.reduceSub, h0, h1, h7, h8, hlt, hy, beq_self_eq_true]
      exact hV _ _ (by rw [frz_int, hA, if_pos rfl])
    · have hb : (x == y) = false := by simpa using fun h => hxy h.symm
      simp (disch := first | assumption | omega) only [go_sem, ↓reduceIte, reduceIte, Nat.reduceEqDiff, Nat.reduceAdd, Nat.reduceMul, reduceCtorEq, Nat.reduceDiv, Nat.reduceLeDiff, Nat.reduceLT, Nat.reduceSub, h0, h1, h7, h8, hlt, hy, hb]
      exact hP (l.length - (k + 1)) _ (by omega) ⟨k + 1, rfl, by omega, by simp only [go_sem, ↓reduceIte, reduceIte, Nat.reduceEqDiff, Nat.reduceAdd, Nat.reduceMul, reduceCtorEq, Nat.reduceDiv, Nat.reduceLeDiff, Nat.reduceLT, Nat.reduceSub, h0, h1, h7], by rw [hA, if_neg hxy]; rfl⟩
  · simp (disch := first | assumption | omega) only [go_sem, ↓reduceIte, reduceIte, Nat.reduceEqDiff, Nat.reduceAdd, Nat.reduceMul, reduceCtorEq, Nat.reduceDiv, Nat.reduceLeDiff, Nat.reduceLT, Nat.reduceSub, h0, h1, h7, h8, hlt]
    exact hV _ _ (by rw [frz_int, hA, List.drop_eq_nil_of_le (by omega)]; rfl)

theorem con_77 (l : List Int) (x : Int) (hl : l.length ≤ 1000) : Con T 2 77 [ints l, .int .i64 x] (.bool (l.contains x)) := by
  refine con_intro t77 fun n hn V hV => ?_
  simp (disch := first | assumption | omega) only [c77, go_sem, ↓reduceIte, reduceIte, Nat.reduceEqDiff, Nat.reduceAdd, Nat.reduceMul, reduceCtorEq, Nat.reduceDiv, Nat.reduceLeDiff, Nat.reduceLT, Nat.reduceSub]
  refine gp_con (con_93 l x hl) hn (by repeat (first | exact fz_nil _ | refine fz_slice _ _ _ _ ?_ | refine fz_int _ _ _ ?_)) (or_pi _ _ _) ?_
  have hp : decide (place l x ≥ 0) = l.contains x := by
    rw [Bool.eq_iff_iff]
    simp [place_mem]
  simp (disch := first | assumption | omega) only [go_sem, ↓reduceIte, reduceIte, Nat.reduceEqDiff, Nat.reduceAdd, Nat.reduceMul, reduceCtorEq, Nat.reduceDiv, Nat.reduceLeDiff, Nat.reduceLT, Nat.reduceSub, hp]
  exact hV _ _ (frz_bool _ _ _)

theorem cs_77 {n base : Nat} {Q : EX × St → Prop} {d : Option Nat} {L : List IOper} {ks : List Kont} {e : Env} {h : Heap} {l : List Int} {x : Bool} {y : Int} (hn : 2 ≤ n) (hl : l.length ≤ 1000) : GP (evCall T n) base Q d L ks e (evCall T n false (.fn 77) [.slice none (l.map (.int .i64)) x, .int .i64 y] h) = GO (evCall T n) base Q L ks ⟨setDst e d (.bool (l.contains y)), h⟩ :=
  gp_eq (con_77 l y hl) hn (by repeat (first | exact fz_nil _ | refine fz_slice _ _ _ _ ?_ | refine fz_int _ _ _ ?_)) rfl

/-! ### 57: checkSequence -/
theorem con_57 (l : List Order) (s : List Int) (hl : l.length ≤ 15) (hs : s.length ≤ 15) : Con T 10 57 [ords l, ints s] (.int .i64 (chkSeq l s)) := by
  refine con_intro t57 fun n hn V hV => ?_
  by_cases hc : chk l = 0
  · have hc' : (chk l != 0) = false := by simp [hc]
    by_cases hlen : s.length = l.length
    · have hlen' : ((s.length : Int) != l.length) = false := by simp [hlen]
      simp (disch := first | assumption | omega) only [c57, go_sem, ↓reduceIte, reduceIte, Nat.reduceEqDiff, Nat.reduceAdd, Nat.reduceMul, reduceCtorEq, Nat.reduceDiv, Nat.reduceLeDiff, Nat.reduceLT, Nat.reduceSub, cs_23, hc', hlen']
      have hcs : chkSeq l s = if hasAll l.length s then 0 else 2 := by
        rw [chkSeq, if_neg (by simp [hc]), if_neg (by simp [hlen])]
      refine m_loop (fun M st => ∃ k : Nat, M = l.length - k ∧ k ≤ l.length ∧ At st.env [(0, ords l), (1, ints s), (20, .int .i64 l.length), (21, .int .i64 k)] ∧ hasAll l.length s = ((List.range l.length).drop k).all fun i => s.contains (i : Int)) l.length (by omega) ⟨0, by simp, by omega, by simp [go_sem, ↓reduceIte, reduceIte, Nat.reduceEqDiff, Nat.reduceAdd, Nat.reduceMul, reduceCtorEq, Nat.reduceDiv, Nat.reduceLeDiff, Nat.reduceLT, Nat.reduceSub], rfl⟩ ?_
      rintro M e h hM ⟨k, rfl, hk, hE, hA⟩ P hP
      simp only [At_cons, At_nil] at hE
      obtain ⟨h0, h1, h20, h21, -⟩ := hE
      by_cases hlt : k < l.length
      · rw [hasAll_step hlt] at hA
        by_cases hp : s.contains (k : Int) = true
        · simp (disch := first | assumption | omega) only [go_sem, ↓reduceIte, reduceIte, Nat.reduceEqDiff, Nat.reduceAdd, Nat.reduceMul, reduceCtorEq, Nat.reduceDiv, Nat.reduceLeDiff, Nat.reduceLT, Nat.reduceSub, h0, h1, h20, h21, hlt, cs_77, hp]
          exact hP (l.length - (k + 1)) _ (by omega) ⟨k + 1, rfl, by omega, by simp only [go_sem, ↓reduceIte, reduceIte, Nat.reduceEqDiff, Nat.reduceAdd, Nat.reduceMul, reduceCtorEq, Nat.reduceDiv, Nat.reduceLeDiff, Nat.reduceLT, Nat.reduceSub, h0, h1, h20], by rw [hA, hp, Bool.true_and]⟩
        · simp (disch := first | assumption | omega) only [go_sem, ↓reduceIte, reduceIte, Nat.reduceEqDiff, Nat.reduceAdd, Nat.reduceMul, reduceCtorEq, Nat.reduceDiv, Nat.reduceLeDiff, Nat.reduceLT, Nat.reduceSub, h0, h1, h20, h21, hlt, cs_77, hp]
          exact hV _ _ (by rw [frz_int, hcs, hA, Bool.eq_false_iff.2 hp]; rfl)
      · simp (disch := first | assumption | omega) only [go_sem, ↓reduceIte, reduceIte, Nat.reduceEqDiff, Nat.reduceAdd, Nat.reduceMul, reduceCtorEq, Nat.reduceDiv, Nat.reduceLeDiff, Nat.reduceLT, Nat.reduceSub, h0, h1, h20, h21, hlt]
        exact hV _ _ (by rw [frz_int, hcs, hA, List.drop_eq_nil_of_le (by simp; omega)]; rfl)
    · have hlen' : ((s.length : Int) != l.length) = true := by simp; omega
      simp (disch := first | assumption | omega) only [c57, go_sem, ↓reduceIte, reduceIte, Nat.reduceEqDiff, Nat.reduceAdd, Nat.reduceMul, reduceCtorEq, Nat.reduceDiv, Nat.reduceLeDiff, Nat.reduceLT, Nat.reduceSub, cs_23, hc', hlen']
      exact hV _ _ (by rw [frz_int, chkSeq, if_neg (by simp [hc]), if_pos (by omega)])
  · have hc' : (chk l != 0) = true := by simp [hc]
    simp (disch := first | assumption | omega) only [c57, go_sem, ↓reduceIte, reduceIte, Nat.reduceEqDiff, Nat.reduceAdd, Nat.reduceMul, reduceCtorEq, Nat.reduceDiv, Nat.reduceLeDiff, Nat.reduceLT, Nat.reduceSub, cs_23, hc']
    exact hV _ _ (by rw [frz_int, chkSeq, if_pos hc])

theorem cs_57 {n base : Nat} {Q : EX × St → Prop} {d : Option Nat} {L : List IOper} {ks : List Kont} {e : Env} {h : Heap} {l : List Order} {s : List Int} {x y : Bool} (hn : 10 ≤ n) (hl : l.length ≤ 15) (hs : s.length ≤ 15) : GP (evCall T n) base Q d L ks e (evCall T n false (.fn 57) [.slice (some 3) (l.map oAV) x, .slice none (s.map (.int .i64)) y] h) = GO (evCall T n) base Q L ks ⟨setDst e d (.int .i64 (chkSeq l s)), h⟩ :=
  gp_eq (con_57 l s hl hs) hn (by repeat (first | exact fz_nil _ | refine fz_slice _ _ _ _ ?_ | refine fz_int _ _ _ ?_)) rfl

end Go.Ev.YtadneamkkepknaaC
