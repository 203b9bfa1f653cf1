/- What a chain answers: the walks. -/
import Derived.Test.YtcghegefcgnhbaaL1Size2
set_option linter.unusedSimpArgs false
set_option linter.unusedVariables false
namespace Go.Ev.YtcghegefcgnhbaaC
open Go Go.Proofs

attribute [local irreducible] Res.all evC evLoop evOps evOper evOp evFn evCall freeze G GO GV GP GC R
set_option maxRecDepth 100000

section
variable {n base : Nat} {Q : EX × St → Prop} {d : Option Nat} {L : List IOper} {ks : List Kont} {e : Env} {h : Heap}
theorem cs_chain {N s m : Int} (hn : 5 ≤ n) : GP (evCall T n) base Q d L ks e (evCall T n false (.fn 76) [.int .i64 N, .int .i64 s, .int .i64 m] h) = GO (evCall T n) base Q L ks ⟨setDst e d (.int .i64 (chErr N s m)), h⟩ :=
  gp_eq (con_chain N s m) hn (by repeat (first | exact fz_nil _ | refine fz_slice _ _ _ _ ?_ | refine fz_int _ _ _ ?_)) rfl
theorem cs_refChain {N s m : Int} (hn : 1 ≤ n) : GP (evCall T n) base Q d L ks e (evCall T n false (.fn 78) [.int .i64 N, .int .i64 s, .int .i64 m] h) = GO (evCall T n) base Q L ks ⟨setDst e d (.int .i64 (chErr N s m)), h⟩ :=
  gp_eq (con_refChain N s m) hn (by repeat (first | exact fz_nil _ | refine fz_slice _ _ _ _ ?_ | refine fz_int _ _ _ ?_)) rfl
theorem cs_places {N s m : Nat} (hn : 2 ≤ n) (h1 : 1 ≤ N) (h2 : N ≤ 2400) (h3 : s ≤ N) (h4 : 1 ≤ m) (h5 : m ≤ 60) : GP (evCall T n) base Q d L ks e (evCall T n false (.fn 77) [.int .i64 N, .int .i64 s, .int .i64 m] h) = GO (evCall T n) base Q L ks ⟨setDst e d (longsV (natI (plc N s m))), h⟩ :=
  gp_eq (con_places N s m h1 h2 h3 h4 h5) hn (by repeat (first | exact fz_nil _ | refine fz_slice _ _ _ _ ?_ | refine fz_int _ _ _ ?_)) rfl
theorem cs_PlacesOf {N s m : Nat} (hn : 1 ≤ n) (h1 : 1 ≤ N) (h2 : N ≤ 2400) (h3 : s ≤ N) (h5 : m ≤ 60) : GP (evCall T n) base Q d L ks e (evCall T n false (.fn 79) [.int .i64 N, .int .i64 s, .int .i64 m] h) = GO (evCall T n) base Q L ks ⟨setDst e d (longsV (natI (plc N s m))), h⟩ :=
  gp_eq (con_PlacesOf N s m h1 h2 h3 h5) hn (by repeat (first | exact fz_nil _ | refine fz_slice _ _ _ _ ?_ | refine fz_int _ _ _ ?_)) rfl
end

theorem con_Places (N s n : Int) : Con T 6 42 [.int .i64 N, .int .i64 s, .int .i64 n] (.tuple [longsV (plA N s n).1, .int .i64 (plA N s n).2]) := by
  refine con_intro t42 fun m hm V hV => ?_
  by_cases h0 : chErr N s n = 0
  · obtain ⟨N, s, n, rfl, rfl, rfl, h1, h2, h3, h4, h5⟩ := ch_nat h0
    simp (disch := first | assumption | omega) only [c42, go_sem, ↓reduceIte, reduceIte, Nat.reduceEqDiff, Nat.reduceAdd, Nat.reduceMul, reduceCtorEq, Nat.reduceDiv, Nat.reduceLeDiff, Nat.reduceLT, Nat.reduceSub, cs_chain, cs_places, h0]
    exact hV _ _ (by rw [plA_ok h0]; exact (by repeat (first | exact mz_nil _ _ | exact frz_int _ _ _ _ | exact frz_bool _ _ _ | exact frz_slice _ _ _ _ _ | exact frz_ptr _ _ _ _ | exact frz_nilptr _ _ | refine mz_cons ?_ ?_ | refine frz_agg ?_ | refine frz_two ?_ ?_ | refine frz_three ?_ ?_ ?_)))
  · simp (disch := first | assumption | omega) only [c42, go_sem, ↓reduceIte, reduceIte, Nat.reduceEqDiff, Nat.reduceAdd, Nat.reduceMul, reduceCtorEq, Nat.reduceDiv, Nat.reduceLeDiff, Nat.reduceLT, Nat.reduceSub, cs_chain, (show (chErr N s n != 0) = true by simpa using h0)]
    exact hV _ _ (by rw [plA_err h0]; exact (by repeat (first | exact mz_nil _ _ | exact frz_int _ _ _ _ | exact frz_bool _ _ _ | exact frz_slice _ _ _ _ _ | exact frz_ptr _ _ _ _ | exact frz_nilptr _ _ | refine mz_cons ?_ ?_ | refine frz_agg ?_ | refine frz_two ?_ ?_ | refine frz_three ?_ ?_ ?_)))
theorem con_refPlaces (N s n : Int) : Con T 2 43 [.int .i64 N, .int .i64 s, .int .i64 n] (.tuple [longsV (plA N s n).1, .int .i64 (plA N s n).2]) := by
  refine con_intro t43 fun m hm V hV => ?_
  by_cases h0 : chErr N s n = 0
  · obtain ⟨N, s, n, rfl, rfl, rfl, h1, h2, h3, h4, h5⟩ := ch_nat h0
    simp (disch := first | assumption | omega) only [c43, go_sem, ↓reduceIte, reduceIte, Nat.reduceEqDiff, Nat.reduceAdd, Nat.reduceMul, reduceCtorEq, Nat.reduceDiv, Nat.reduceLeDiff, Nat.reduceLT, Nat.reduceSub, cs_refChain, cs_PlacesOf, h0]
    exact hV _ _ (by rw [plA_ok h0]; exact (by repeat (first | exact mz_nil _ _ | exact frz_int _ _ _ _ | exact frz_bool _ _ _ | exact frz_slice _ _ _ _ _ | exact frz_ptr _ _ _ _ | exact frz_nilptr _ _ | refine mz_cons ?_ ?_ | refine frz_agg ?_ | refine frz_two ?_ ?_ | refine frz_three ?_ ?_ ?_)))
  · simp (disch := first | assumption | omega) only [c43, go_sem, ↓reduceIte, reduceIte, Nat.reduceEqDiff, Nat.reduceAdd, Nat.reduceMul, reduceCtorEq, Nat.reduceDiv, Nat.reduceLeDiff, Nat.reduceLT, Nat.reduceSub, cs_refChain, (show (chErr N s n != 0) = true by simpa using h0)]
    exact hV _ _ (by rw [plA_err h0]; exact (by repeat (first | exact mz_nil _ _ | exact frz_int _ _ _ _ | exact frz_bool _ _ _ | exact frz_slice _ _ _ _ _ | exact frz_ptr _ _ _ _ | exact frz_nilptr _ _ | refine mz_cons ?_ ?_ | refine frz_agg ?_ | refine frz_two ?_ ?_ | refine frz_three ?_ ?_ ?_)))

theorem con_Distances (N : Nat) (l : List Int) (hN : N ≤ 2400) (hl : l.length ≤ 2400) (hb : ∀ x ∈ l, 0 ≤ x ∧ x ≤ 2400) : Con T 1 54 [.int .i64 N, longsV l] (longsV (dstL N l)) := by
  refine con_intro t54 fun m hm V hV => ?_
  simp (disch := first | assumption | omega) only [c54, go_sem, ↓reduceIte, reduceIte, Nat.reduceEqDiff, Nat.reduceAdd, Nat.reduceMul, reduceCtorEq, Nat.reduceDiv, Nat.reduceLeDiff, Nat.reduceLT, Nat.reduceSub]
  refine m_loop (fun M st => ∃ (i : Nat) (v : AV), M = l.length - i ∧ i ≤ l.length ∧ At st.env [(0, .int .i64 N), (1, longsV l), (5, v), (6, .int .i64 i)] ∧ Own 45 st.heap v .i64 (dstT N l i) ∧ 45 ≤ st.heap.length) l.length (by omega)
    ⟨0, _, by omega, by omega, by simp only [go_sem, ↓reduceIte, reduceIte, Nat.reduceEqDiff, Nat.reduceAdd, Nat.reduceMul, reduceCtorEq, Nat.reduceDiv, Nat.reduceLeDiff, Nat.reduceLT, Nat.reduceSub], own_nil _ _ _, by simp⟩ ?_
  rintro M e h hM ⟨i, v, rfl, hi, hE, hO, hlen⟩ P hP
  simp only [At_cons, At_nil] at hE hO hlen
  obtain ⟨f0, f1, f5, f6, -⟩ := hE
  have hTl : (dstT (N : Int) l i).length = i := by simp
  by_cases hlt : i < l.length
  · obtain ⟨a, ha⟩ := get_ex hlt
    have ba := hb a (List.mem_of_getElem? ha)
    by_cases hin : i + 1 < l.length
    · obtain ⟨b, hb'⟩ := get_ex hin
      have bb := hb b (List.mem_of_getElem? hb')
      have hd : decide ((i : Int) + 1 < (l.length : Int)) = true := decide_eq_true (by omega)
      simp (disch := first | assumption | omega) only [go_sem, ↓reduceIte, reduceIte, Nat.reduceEqDiff, Nat.reduceAdd, Nat.reduceMul, reduceCtorEq, Nat.reduceDiv, Nat.reduceLeDiff, Nat.reduceLT, Nat.reduceSub, f0, f1, f5, f6, hlt, hd, ha, hb']
      refine gp_append1 (a := b - a) (by first | with_reducible rfl | (simp only [length_setH, List.length_append, List.length_replicate]; done) | (simp only [length_setH, List.length_append, List.length_replicate]; omega)) hO hlen (by rw [hTl]; omega) fun x' h' hO' hF hL _ _ => ?_
      simp (disch := first | assumption | omega) only [go_sem, ↓reduceIte, reduceIte, Nat.reduceEqDiff, Nat.reduceAdd, Nat.reduceMul, reduceCtorEq, Nat.reduceDiv, Nat.reduceLeDiff, Nat.reduceLT, Nat.reduceSub, f0, f1, f6]
      exact hP (l.length - (i + 1)) _ (by omega) ⟨i + 1, x', rfl, by omega, by simp only [go_sem, ↓reduceIte, reduceIte, Nat.reduceEqDiff, Nat.reduceAdd, Nat.reduceMul, reduceCtorEq, Nat.reduceDiv, Nat.reduceLeDiff, Nat.reduceLT, Nat.reduceSub, f0, f1], by rw [dstT_in ha hb']; exact hO', Nat.le_trans hlen hL⟩
    · have hd : decide ((i : Int) + 1 < (l.length : Int)) = false := decide_eq_false (by omega)
      obtain ⟨z, hz⟩ := get_ex (l := l) (i := 0) (by omega)
      have bz := hb z (List.mem_of_getElem? hz)
      have h0l : 0 < l.length := by omega
      simp (disch := first | assumption | omega) only [go_sem, ↓reduceIte, reduceIte, Nat.reduceEqDiff, Nat.reduceAdd, Nat.reduceMul, reduceCtorEq, Nat.reduceDiv, Nat.reduceLeDiff, Nat.reduceLT, Nat.reduceSub, f0, f1, f5, f6, hlt, hd, ha, hz, h0l]
      refine gp_append1 (a := N - a + z) (by first | with_reducible rfl | (simp only [length_setH, List.length_append, List.length_replicate]; done) | (simp only [length_setH, List.length_append, List.length_replicate]; omega)) hO hlen (by rw [hTl]; omega) fun x' h' hO' hF hL _ _ => ?_
      simp (disch := first | assumption | omega) only [go_sem, ↓reduceIte, reduceIte, Nat.reduceEqDiff, Nat.reduceAdd, Nat.reduceMul, reduceCtorEq, Nat.reduceDiv, Nat.reduceLeDiff, Nat.reduceLT, Nat.reduceSub, f0, f1, f6]
      exact hP (l.length - (i + 1)) _ (by omega) ⟨i + 1, x', rfl, by omega, by simp only [go_sem, ↓reduceIte, reduceIte, Nat.reduceEqDiff, Nat.reduceAdd, Nat.reduceMul, reduceCtorEq, Nat.reduceDiv, Nat.reduceLeDiff, Nat.reduceLT, Nat.reduceSub, f0, f1], by rw [dstT_last ha (by omega) hz]; exact hO', Nat.le_trans hlen hL⟩
  · obtain rfl : i = l.length := by omega
    simp (disch := first | assumption | omega) only [go_sem, ↓reduceIte, reduceIte, Nat.reduceEqDiff, Nat.reduceAdd, Nat.reduceMul, reduceCtorEq, Nat.reduceDiv, Nat.reduceLeDiff, Nat.reduceLT, Nat.reduceSub, f0, f1, f5, f6, hlt]
    exact hV _ _ (frz_Own hO)

end Go.Ev.YtcghegefcgnhbaaC
