/- The law LateKepts answers true, whatever it is handed. Conditions: the arguments are integers that fit their kinds, and lists no longer than memory allows. -/
import Derived.Test.YtadneamkkepknaaL5LawBooks
import Derived.Test.YtadneamkkepknaaL5Kept5
set_option linter.unusedSimpArgs false
set_option linter.unusedVariables false
namespace Go.Ev.YtadneamkkepknaaC
open Go Go.Proofs

theorem keptGo_length (l : List Order) (w : List Int) : ∀ (r ks : List Int) (d : Int), (keptGo l w r ks d).length ≤ ks.length + r.length
  | [], ks, d => by simp [keptGo]
  | i :: r, ks, d => by
    rw [keptGo_cons]
    split
    · have := keptGo_length l w r (ks ++ [i]) (d + wk w i)
      simp at this ⊢
      omega
    · have := keptGo_length l w r ((ks ++ [i]).erase (pickL w (ks ++ [i]))) (d + wk w i - wk w (pickL w (ks ++ [i])))
      have h2 : ((ks ++ [i]).erase (pickL w (ks ++ [i]))).length ≤ (ks ++ [i]).length := List.erase_sublist.length_le
      simp at h2 this ⊢
      omega
theorem keptOf_length (l : List Order) (s : Int) : (keptOf l s).length ≤ l.length := by
  have := keptGo_length l (side l s) (seqOf l) [] 0
  rw [seqOf_length] at this
  simpa [keptOf] using this

attribute [local irreducible] Res.all evC evLoop evOps evOper evOp evFn evCall freeze G GO GV GP GC R
set_option maxRecDepth 100000

/-! ### 38: the reference's Kept -/
theorem cs_76 {n base : Nat} {Q : EX × St → Prop} {d : Option Nat} {L : List IOper} {ks : List Kont} {e : Env} {h : Heap} {l : List Order} {s : Int} {x : Bool} (hn : 5 ≤ n) (hv : Valid l) : GP (evCall T n) base Q d L ks e (evCall T n false (.fn 76) [.slice (some 3) (l.map oAV) x, .int .i64 s] h) = GO (evCall T n) base Q L ks ⟨setDst e d (ints (keptOf l s)), h⟩ :=
  gp_eq (con_76 l s hv) hn (by repeat (first | exact fz_nil _ | refine fz_slice _ _ _ _ ?_ | refine fz_int _ _ _ ?_)) rfl

theorem con_38 (l : List Order) (s : Int) (hl : l.length ≤ 15) : Con T 6 38 [ords l, .int .i64 s] (keptV l s) := by
  refine con_intro t38 fun n hn V hV => ?_
  unfold keptV refKept at hV
  by_cases hc : chkSide l s = 0
  · have hc' : (chkSide l s != 0) = false := by simp [hc]
    obtain ⟨hval, hs⟩ := (chkSide_zero l s).1 hc
    have hkl : (keptOf l s).length ≤ 1000 := by have := keptOf_length l s; omega
    rw [if_neg (by omega)] at hV
    simp (disch := first | assumption | omega) only [c38, go_sem, ↓reduceIte, reduceIte, Nat.reduceEqDiff, Nat.reduceAdd, Nat.reduceMul, reduceCtorEq, Nat.reduceDiv, Nat.reduceLeDiff, Nat.reduceLT, Nat.reduceSub, cs_71, hc', cs_76]
    refine m_loop (fun M st => ∃ (k : Nat) (v : AV), M = l.length - k ∧ k ≤ l.length ∧ At st.env [(0, ords l), (6, ints (keptOf l s)), (7, v), (8, .int .i64 k)] ∧
      Own 34 st.heap v .i64 (((idx l.length).take k).filter fun i => (keptOf l s).contains i) ∧ 34 ≤ st.heap.length) l.length (by omega) ⟨0, .slice none [] true, by simp, by omega, by simp [go_sem, ↓reduceIte, reduceIte, Nat.reduceEqDiff, Nat.reduceAdd, Nat.reduceMul, reduceCtorEq, Nat.reduceDiv, Nat.reduceLeDiff, Nat.reduceLT, Nat.reduceSub], own_nil .., by simp⟩ ?_
    rintro M e h hM ⟨k, v, rfl, hk, hE, hO, hlen⟩ P hP
    simp only [At_cons, At_nil] at hE hO hlen
    obtain ⟨h0, h6, h7, h8, -⟩ := hE
    by_cases hlt : k < l.length
    · have hfl : (((idx l.length).take k).filter fun i => (keptOf l s).contains i).length ≤ 15 := by
        refine Nat.le_trans (List.length_filter_le _ _) ?_
        rw [List.length_take]
        omega
      have hstep := filter_step hlt fun i => (keptOf l s).contains i
      have hpm := place_mem (keptOf l s) k
      by_cases hin : (k : Int) ∈ keptOf l s
      · have hge : place (keptOf l s) (k : Int) ≥ 0 := hpm.2 hin
        rw [if_pos (by simpa using hin)] at hstep
        simp (disch := first | assumption | omega) only [go_sem, ↓reduceIte, reduceIte, Nat.reduceEqDiff, Nat.reduceAdd, Nat.reduceMul, reduceCtorEq, Nat.reduceDiv, Nat.reduceLeDiff, Nat.reduceLT, Nat.reduceSub, h0, h6, h7, h8, hlt, cs_53, hge]
        refine gp_append1 (by first | with_reducible rfl | (simp only [length_setH, List.length_append, List.length_replicate]; done) | (simp only [length_setH, List.length_append, List.length_replicate]; omega)) hO hlen (by omega) fun x' h' hO' hF hL _ _ => ?_
        simp (disch := first | assumption | omega) only [go_sem, ↓reduceIte, reduceIte, Nat.reduceEqDiff, Nat.reduceAdd, Nat.reduceMul, reduceCtorEq, Nat.reduceDiv, Nat.reduceLeDiff, Nat.reduceLT, Nat.reduceSub, h0, h6, h7, h8]
        exact hP (l.length - (k + 1)) _ (by omega) ⟨k + 1, x', rfl, by omega, by simp only [go_sem, ↓reduceIte, reduceIte, Nat.reduceEqDiff, Nat.reduceAdd, Nat.reduceMul, reduceCtorEq, Nat.reduceDiv, Nat.reduceLeDiff, Nat.reduceLT, Nat.reduceSub, h0, h6], by rw [hstep]; exact hO', Nat.le_trans hlen hL⟩
      · have hge : ¬ place (keptOf l s) (k : Int) ≥ 0 := fun h => hin (hpm.1 h)
        rw [if_neg (by simpa using hin)] at hstep
        simp (disch := first | assumption | omega) only [go_sem, ↓reduceIte, reduceIte, Nat.reduceEqDiff, Nat.reduceAdd, Nat.reduceMul, reduceCtorEq, Nat.reduceDiv, Nat.reduceLeDiff, Nat.reduceLT, Nat.reduceSub, h0, h6, h7, h8, hlt, cs_53, hge]
        exact hP (l.length - (k + 1)) _ (by omega) ⟨k + 1, v, rfl, by omega, by simp only [go_sem, ↓reduceIte, reduceIte, Nat.reduceEqDiff, Nat.reduceAdd, Nat.reduceMul, reduceCtorEq, Nat.reduceDiv, Nat.reduceLeDiff, Nat.reduceLT, Nat.reduceSub, h0, h6, h7], by rw [hstep, List.append_nil]; exact hO, hlen⟩
    · obtain rfl : k = l.length := by omega
      simp (disch := first | assumption | omega) only [go_sem, ↓reduceIte, reduceIte, Nat.reduceEqDiff, Nat.reduceAdd, Nat.reduceMul, reduceCtorEq, Nat.reduceDiv, Nat.reduceLeDiff, Nat.reduceLT, Nat.reduceSub, h0, h6, h7, h8, hlt]
      rw [List.take_of_length_le (by rw [idx_length]; omega)] at hO
      exact hV _ _ (frz_two (frz_Own hO) (frz_int _ _ _ _))
  · have hc' : (chkSide l s != 0) = true := by simp [hc]
    simp (disch := first | assumption | omega) only [c38, go_sem, ↓reduceIte, reduceIte, Nat.reduceEqDiff, Nat.reduceAdd, Nat.reduceMul, reduceCtorEq, Nat.reduceDiv, Nat.reduceLeDiff, Nat.reduceLT, Nat.reduceSub, cs_71, hc']
    refine hV _ _ ?_
    rw [if_pos hc]
    exact frz_two (frz_slice _ _ _ _ _) (frz_int _ _ _ _)

section
variable {n base : Nat} {Q : EX × St → Prop} {d : Option Nat} {L : List IOper} {ks : List Kont} {e : Env} {h : Heap}
theorem cs_37 {l : List Order} {s : Int} {x : Bool} (hn : 11 ≤ n) (hl : l.length ≤ 15) : GP (evCall T n) base Q d L ks e (evCall T n false (.fn 37) [.slice (some 3) (l.map oAV) x, .int .i64 s] h) = GO (evCall T n) base Q L ks ⟨setDst e d (.tuple [ints (refKept l s).1, .int .i64 (refKept l s).2]), h⟩ :=
  gp_eq (con_37 l s hl) hn (by repeat (first | exact fz_nil _ | refine fz_slice _ _ _ _ ?_ | refine fz_int _ _ _ ?_)) rfl
theorem cs_38 {l : List Order} {s : Int} {x : Bool} (hn : 6 ≤ n) (hl : l.length ≤ 15) : GP (evCall T n) base Q d L ks e (evCall T n false (.fn 38) [.slice (some 3) (l.map oAV) x, .int .i64 s] h) = GO (evCall T n) base Q L ks ⟨setDst e d (.tuple [ints (refKept l s).1, .int .i64 (refKept l s).2]), h⟩ :=
  gp_eq (con_38 l s hl) hn (by repeat (first | exact fz_nil _ | refine fz_slice _ _ _ _ ?_ | refine fz_int _ _ _ ?_)) rfl
theorem cs_39 {l : List Order} {s : Int} {kk : List Int} {x y : Bool} (hn : 11 ≤ n) (hl : l.length ≤ 15) (hk : kk.length ≤ 15) : GP (evCall T n) base Q d L ks e (evCall T n false (.fn 39) [.slice (some 3) (l.map oAV) x, .int .i64 s, .slice none (kk.map (.int .i64)) y] h) = GO (evCall T n) base Q L ks ⟨setDst e d (.int .i64 (chkKept l s kk)), h⟩ :=
  gp_eq (con_39 l s kk hl hk) hn (by repeat (first | exact fz_nil _ | refine fz_slice _ _ _ _ ?_ | refine fz_int _ _ _ ?_)) rfl
theorem cs_40 {l : List Order} {s : Int} {kk : List Int} {x y : Bool} (hn : 5 ≤ n) (hl : l.length ≤ 15) (hk : kk.length ≤ 15) : GP (evCall T n) base Q d L ks e (evCall T n false (.fn 40) [.slice (some 3) (l.map oAV) x, .int .i64 s, .slice none (kk.map (.int .i64)) y] h) = GO (evCall T n) base Q L ks ⟨setDst e d (.int .i64 (chkKept l s kk)), h⟩ :=
  gp_eq (con_40 l s kk hl hk) hn (by repeat (first | exact fz_nil _ | refine fz_slice _ _ _ _ ?_ | refine fz_int _ _ _ ?_)) rfl
end
theorem refKept_length (l : List Order) (s : Int) (hl : l.length ≤ 15) : (refKept l s).1.length ≤ 1000 := by
  unfold refKept
  split
  · simp
  · have := List.length_filter_le (fun i => (keptOf l s).contains i) (idx l.length)
    rw [idx_length] at this
    simp only [keptL]
    omega

theorem lateKepts_at (n40 : Nat) (hn : n40 = 40) (l : List Order) (s : Int) (kk : List Int) (_ : ∀ a ∈ l, OWf a) (hlm : l.length ≤ maxLen) (_ : (Lit.int .i64 s).wf = true) (_ : ∀ n ∈ kk, (Lit.int .i64 n).wf = true) (hkm : kk.length ≤ maxLen) :
    (evFn (evCall T n40) c6 [ords l, .int .i64 s, ints kk] []).all fun p => p.1 = .bool true := by
  rw [m_fn]
  by_cases g1 : 15 < l.length
  · simp (disch := first | assumption | omega) only [c6, go_sem, ↓reduceIte, reduceIte, Nat.reduceEqDiff, Nat.reduceAdd, Nat.reduceMul, reduceCtorEq, Nat.reduceDiv, Nat.reduceLeDiff, Nat.reduceLT, Nat.reduceSub, cs_17, g1, cs_18']
  by_cases g2 : 15 < kk.length
  · have g2' : (kk.length : Int) > 15 := by omega
    simp (disch := first | assumption | omega) only [c6, go_sem, ↓reduceIte, reduceIte, Nat.reduceEqDiff, Nat.reduceAdd, Nat.reduceMul, reduceCtorEq, Nat.reduceDiv, Nat.reduceLeDiff, Nat.reduceLT, Nat.reduceSub, cs_17, g1, g2', cs_18']
  have g2' : ¬ (kk.length : Int) > 15 := by omega
  have hl : l.length ≤ 15 := by omega
  have hk : kk.length ≤ 15 := by omega
  have h1 := refKept_length l s hl
  simp (disch := first | assumption | omega) only [c6, go_sem, ↓reduceIte, reduceIte, Nat.reduceEqDiff, Nat.reduceAdd, Nat.reduceMul, reduceCtorEq, Nat.reduceDiv, Nat.reduceLeDiff, Nat.reduceLT, Nat.reduceSub, cs_17, g1, g2', cs_18', cs_37, cs_38, cs_39, cs_40, cs_30, eqL_self, beq_self_eq_true]

def lateKepts_n : Nat := 40
theorem lateKepts_ev (l : List Order) (s : Int) (kk : List Int) (_ : ∀ a ∈ l, OWf a) (hlm : l.length ≤ maxLen) (_ : (Lit.int .i64 s).wf = true) (_ : ∀ n ∈ kk, (Lit.int .i64 n).wf = true) (hkm : kk.length ≤ maxLen) :
    (evFn (evCall T lateKepts_n) c6 [ords l, .int .i64 s, ints kk] []).all fun p => p.1 = .bool true := by
  apply lateKepts_at <;> first | rfl | assumption

end Go.Ev.YtadneamkkepknaaC
