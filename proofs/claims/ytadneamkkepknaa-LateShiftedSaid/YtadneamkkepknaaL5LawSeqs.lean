/- The law LateSequences answers true, whatever it is handed. Conditions: the arguments are integers that fit their kinds, and lists no longer than memory allows. -/
import Derived.Test.YtadneamkkepknaaL5LawBooks
import Derived.Test.YtadneamkkepknaaL5Seq2
set_option linter.unusedSimpArgs false
set_option linter.unusedVariables false
namespace Go.Ev.YtadneamkkepknaaC
open Go Go.Proofs

section
variable {n base : Nat} {Q : EX × St → Prop} {d : Option Nat} {L : List IOper} {ks : List Kont} {e : Env} {h : Heap}
theorem cs_26 {l : List Order} {x : Bool} (hn : 10 ≤ n) (hl : l.length ≤ 15) : GP (evCall T n) base Q d L ks e (evCall T n false (.fn 26) [.slice (some 3) (l.map oAV) x] h) = GO (evCall T n) base Q L ks ⟨setDst e d (.tuple [ints (refSeq l).1, .int .i64 (refSeq l).2]), h⟩ :=
  gp_eq (con_26 l hl) hn (by repeat (first | exact fz_nil _ | refine fz_slice _ _ _ _ ?_ | refine fz_int _ _ _ ?_)) rfl
theorem cs_27 {l : List Order} {x : Bool} (hn : 2 ≤ n) (hl : l.length ≤ 15) : GP (evCall T n) base Q d L ks e (evCall T n false (.fn 27) [.slice (some 3) (l.map oAV) x] h) = GO (evCall T n) base Q L ks ⟨setDst e d (.tuple [ints (refSeq l).1, .int .i64 (refSeq l).2]), h⟩ :=
  gp_eq (con_27 l hl) hn (by repeat (first | exact fz_nil _ | refine fz_slice _ _ _ _ ?_ | refine fz_int _ _ _ ?_)) rfl
theorem cs_28 {l : List Order} {s : List Int} {x y : Bool} (hn : 11 ≤ n) (hl : l.length ≤ 15) (hs : s.length ≤ 15) : GP (evCall T n) base Q d L ks e (evCall T n false (.fn 28) [.slice (some 3) (l.map oAV) x, .slice none (s.map (.int .i64)) y] h) = GO (evCall T n) base Q L ks ⟨setDst e d (.tuple [ints (refKinds l s).1, .int .i64 (refKinds l s).2]), h⟩ :=
  gp_eq (con_28 l s hl hs) hn (by repeat (first | exact fz_nil _ | refine fz_slice _ _ _ _ ?_ | refine fz_int _ _ _ ?_)) rfl
theorem cs_29 {l : List Order} {s : List Int} {x y : Bool} (hn : 4 ≤ n) (hl : l.length ≤ 15) (hs : s.length ≤ 15) : GP (evCall T n) base Q d L ks e (evCall T n false (.fn 29) [.slice (some 3) (l.map oAV) x, .slice none (s.map (.int .i64)) y] h) = GO (evCall T n) base Q L ks ⟨setDst e d (.tuple [ints (refKinds l s).1, .int .i64 (refKinds l s).2]), h⟩ :=
  gp_eq (con_29 l s hl hs) hn (by repeat (first | exact fz_nil _ | refine fz_slice _ _ _ _ ?_ | refine fz_int _ _ _ ?_)) rfl
end
theorem refSeq_length (l : List Order) (hl : l.length ≤ 15) : (refSeq l).1.length ≤ 1000 := by
  unfold refSeq
  split
  · simp
  · simp only [seqOf_length]; omega
theorem refKinds_length (l : List Order) (s : List Int) (hl : l.length ≤ 15) : (refKinds l s).1.length ≤ 1000 := by
  unfold refKinds
  split
  · simp
  · simp only [kindsOf, List.length_map, List.length_range]; omega

attribute [local irreducible] Res.all evC evLoop evOps evOper evOp evFn evCall freeze G GO GV GP GC R
set_option maxRecDepth 100000

theorem lateSequences_at (n40 : Nat) (hn : n40 = 40) (l : List Order) (s : List Int) (_ : ∀ a ∈ l, OWf a) (hlm : l.length ≤ maxLen) (_ : ∀ n ∈ s, (Lit.int .i64 n).wf = true) (hsm : s.length ≤ maxLen) :
    (evFn (evCall T n40) c4 [ords l, ints s] []).all fun p => p.1 = .bool true := by
  rw [m_fn]
  by_cases g1 : 15 < l.length
  · simp (disch := first | assumption | omega) only [c4, go_sem, ↓reduceIte, reduceIte, Nat.reduceEqDiff, Nat.reduceAdd, Nat.reduceMul, reduceCtorEq, Nat.reduceDiv, Nat.reduceLeDiff, Nat.reduceLT, Nat.reduceSub, cs_17, g1, cs_18']
  by_cases g2 : 15 < s.length
  · have g2' : (s.length : Int) > 15 := by omega
    simp (disch := first | assumption | omega) only [c4, go_sem, ↓reduceIte, reduceIte, Nat.reduceEqDiff, Nat.reduceAdd, Nat.reduceMul, reduceCtorEq, Nat.reduceDiv, Nat.reduceLeDiff, Nat.reduceLT, Nat.reduceSub, cs_17, g1, g2', cs_18']
  have g2' : ¬ (s.length : Int) > 15 := by omega
  have hl : l.length ≤ 15 := by omega
  have hs : s.length ≤ 15 := by omega
  have h1 := refSeq_length l hl
  have h2 := refKinds_length l s hl
  simp (disch := first | assumption | omega) only [c4, go_sem, ↓reduceIte, reduceIte, Nat.reduceEqDiff, Nat.reduceAdd, Nat.reduceMul, reduceCtorEq, Nat.reduceDiv, Nat.reduceLeDiff, Nat.reduceLT, Nat.reduceSub, cs_17, g1, g2', cs_18', cs_26, cs_27, cs_28, cs_29, cs_30, eqL_self, beq_self_eq_true]

def lateSequences_n : Nat := 40
theorem lateSequences_ev (l : List Order) (s : List Int) (_ : ∀ a ∈ l, OWf a) (hlm : l.length ≤ maxLen) (_ : ∀ n ∈ s, (Lit.int .i64 n).wf = true) (hsm : s.length ≤ maxLen) :
    (evFn (evCall T lateSequences_n) c4 [ords l, ints s] []).all fun p => p.1 = .bool true := by
  apply lateSequences_at <;> first | rfl | assumption

end Go.Ev.YtadneamkkepknaaC
