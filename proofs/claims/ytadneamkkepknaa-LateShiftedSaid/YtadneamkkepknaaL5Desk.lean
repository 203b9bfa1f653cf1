/- The desk: orders with their work on a side. Contracts; conditions stand in each. -/
import Derived.Test.YtadneamkkepknaaL5Sort
import Derived.Test.YtadneamkkepknaaEvMore
set_option linter.unusedSimpArgs false
set_option linter.unusedVariables false
namespace Go.Ev.YtadneamkkepknaaC
open Go Go.Proofs

attribute [local irreducible] Res.all evC evLoop evOps evOper evOp evFn evCall freeze G GO GV GP GC R
set_option maxRecDepth 100000

/-! ### 67: newDesk -/
def deskV (l : List Order) (s : Int) : AV := .ptr [ords l, ints (side l s)] 0

theorem side_step {l : List Order} {s : Int} {k : Nat} {o : Order} (ho : l[k]? = some o) : (side l s).take (k + 1) = (side l s).take k ++ [if s = 1 then o.hi else o.lo] := by
  rw [List.take_add_one, side, List.getElem?_map, ho]
  rfl
theorem side_length (l : List Order) (s : Int) : (side l s).length = l.length := by simp [side]

theorem con_67 (l : List Order) (s : Int) (hl : l.length ≤ 15) (hs : s = 0 ∨ s = 1) : Con T 1 67 [ords l, .int .i64 s] (deskV l s) := by
  refine con_intro t67 fun n hn V hV => ?_
  simp (disch := first | assumption | omega) only [c67, go_sem, ↓reduceIte, reduceIte, Nat.reduceEqDiff, Nat.reduceAdd, Nat.reduceMul, reduceCtorEq, Nat.reduceDiv, Nat.reduceLeDiff, Nat.reduceLT, Nat.reduceSub]
  refine m_loop (fun M st => ∃ (k : Nat) (w : AV), M = l.length - k ∧ k ≤ l.length ∧ At st.env [(1, .int .i64 s), (5, .optr 11 0 0), (16, ords l), (17, .int .i64 l.length), (18, .int .i64 k)] ∧ getH st.heap 11 = .cells 0 [ords l, w] ∧ Own 42 st.heap w .i64 ((side l s).take k) ∧ 42 ≤ st.heap.length) l.length (by omega)
    ⟨0, .slice none [] true, by simp, by omega, by simp [go_sem, ↓reduceIte, reduceIte, Nat.reduceEqDiff, Nat.reduceAdd, Nat.reduceMul, reduceCtorEq, Nat.reduceDiv, Nat.reduceLeDiff, Nat.reduceLT, Nat.reduceSub], by simp [go_sem, ↓reduceIte, reduceIte, Nat.reduceEqDiff, Nat.reduceAdd, Nat.reduceMul, reduceCtorEq, Nat.reduceDiv, Nat.reduceLeDiff, Nat.reduceLT, Nat.reduceSub], own_nil .., by simp [go_sem, ↓reduceIte, reduceIte, Nat.reduceEqDiff, Nat.reduceAdd, Nat.reduceMul, reduceCtorEq, Nat.reduceDiv, Nat.reduceLeDiff, Nat.reduceLT, Nat.reduceSub]⟩ ?_
  rintro M e h hM ⟨k, w, rfl, hk, hE, hH, hO, hlen⟩ P hP
  simp only [At_cons, At_nil] at hE hO hH hlen
  obtain ⟨h1, h5, h16, h17, h18, -⟩ := hE
  by_cases hlt : k < l.length
  · obtain ⟨o, ho⟩ := get_ex hlt
    have hstep := side_step (s := s) ho
    rcases hs with rfl | rfl
    · simp (disch := first | assumption | omega) only [go_sem, ↓reduceIte, reduceIte, Nat.reduceEqDiff, Nat.reduceAdd, Nat.reduceMul, reduceCtorEq, Nat.reduceDiv, Nat.reduceLeDiff, Nat.reduceLT, Nat.reduceSub, h1, h5, h16, h17, h18, hlt, ho, oAV, hH]
      refine gp_append1 (by first | with_reducible rfl | (simp only [length_setH, List.length_append, List.length_replicate]; done) | (simp only [length_setH, List.length_append, List.length_replicate]; omega)) ((hO.setH (by omega)).setH (by omega)) (by simp only [length_setH]; omega) (by simp; omega) fun x' h' hO' hF hL _ _ => ?_
      have hH' := hF 11 (by omega)
      simp only [go_sem, ↓reduceIte, reduceIte, Nat.reduceEqDiff, Nat.reduceAdd, Nat.reduceMul, reduceCtorEq, Nat.reduceDiv, Nat.reduceLeDiff, Nat.reduceLT, Nat.reduceSub, hH] at hH'
      simp (disch := first | assumption | omega) only [go_sem, ↓reduceIte, reduceIte, Nat.reduceEqDiff, Nat.reduceAdd, Nat.reduceMul, reduceCtorEq, Nat.reduceDiv, Nat.reduceLeDiff, Nat.reduceLT, Nat.reduceSub, h1, h5, h16, h17, h18, hH', hO'.cells, hO'.oneB]
      refine hP (l.length - (k + 1)) _ (by omega) ⟨k + 1, x', rfl, by omega, by simp only [go_sem, ↓reduceIte, reduceIte, Nat.reduceEqDiff, Nat.reduceAdd, Nat.reduceMul, reduceCtorEq, Nat.reduceDiv, Nat.reduceLeDiff, Nat.reduceLT, Nat.reduceSub, h1, h5, h16, h17], by simp only [go_sem, ↓reduceIte, reduceIte, Nat.reduceEqDiff, Nat.reduceAdd, Nat.reduceMul, reduceCtorEq, Nat.reduceDiv, Nat.reduceLeDiff, Nat.reduceLT, Nat.reduceSub], by rw [hstep]; exact hO'.setH (by omega), by simp only [length_setH] at hL ⊢; omega⟩
    · simp (disch := first | assumption | omega) only [go_sem, ↓reduceIte, reduceIte, Nat.reduceEqDiff, Nat.reduceAdd, Nat.reduceMul, reduceCtorEq, Nat.reduceDiv, Nat.reduceLeDiff, Nat.reduceLT, Nat.reduceSub, h1, h5, h16, h17, h18, hlt, ho, oAV, hH]
      refine gp_append1 (by first | with_reducible rfl | (simp only [length_setH, List.length_append, List.length_replicate]; done) | (simp only [length_setH, List.length_append, List.length_replicate]; omega)) ((hO.setH (by omega)).setH (by omega)) (by simp only [length_setH]; omega) (by simp; omega) fun x' h' hO' hF hL _ _ => ?_
      have hH' := hF 11 (by omega)
      simp only [go_sem, ↓reduceIte, reduceIte, Nat.reduceEqDiff, Nat.reduceAdd, Nat.reduceMul, reduceCtorEq, Nat.reduceDiv, Nat.reduceLeDiff, Nat.reduceLT, Nat.reduceSub, hH] at hH'
      simp (disch := first | assumption | omega) only [go_sem, ↓reduceIte, reduceIte, Nat.reduceEqDiff, Nat.reduceAdd, Nat.reduceMul, reduceCtorEq, Nat.reduceDiv, Nat.reduceLeDiff, Nat.reduceLT, Nat.reduceSub, h1, h5, h16, h17, h18, hH', hO'.cells, hO'.oneB]
      refine hP (l.length - (k + 1)) _ (by omega) ⟨k + 1, x', rfl, by omega, by simp only [go_sem, ↓reduceIte, reduceIte, Nat.reduceEqDiff, Nat.reduceAdd, Nat.reduceMul, reduceCtorEq, Nat.reduceDiv, Nat.reduceLeDiff, Nat.reduceLT, Nat.reduceSub, h1, h5, h16, h17], by simp only [go_sem, ↓reduceIte, reduceIte, Nat.reduceEqDiff, Nat.reduceAdd, Nat.reduceMul, reduceCtorEq, Nat.reduceDiv, Nat.reduceLeDiff, Nat.reduceLT, Nat.reduceSub], by rw [hstep]; exact hO'.setH (by omega), by simp only [length_setH] at hL ⊢; omega⟩
  · simp (disch := first | assumption | omega) only [go_sem, ↓reduceIte, reduceIte, Nat.reduceEqDiff, Nat.reduceAdd, Nat.reduceMul, reduceCtorEq, Nat.reduceDiv, Nat.reduceLeDiff, Nat.reduceLT, Nat.reduceSub, h1, h5, h16, h17, h18, hlt]
    refine hV _ _ ?_
    rw [List.take_of_length_le (by rw [side_length]; omega)] at hO
    exact frz_optr hH (mz_cons (frz_slice _ _ _ _ _) (mz_cons (frz_Own hO) (mz_nil _ _)))

end Go.Ev.YtadneamkkepknaaC
