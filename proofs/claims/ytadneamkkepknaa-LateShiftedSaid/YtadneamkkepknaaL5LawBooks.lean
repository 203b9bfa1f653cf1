/- The law LateBooks answers true, whatever it is handed. Conditions: the arguments are integers that fit their kinds, and lists no longer than memory allows. -/
import Derived.Test.YtadneamkkepknaaL5Works
import Derived.Test.YtadneamkkepknaaL5Books
import Derived.Test.YtadneamkkepknaaL5CodeB
set_option linter.unusedSimpArgs false
set_option linter.unusedVariables false
namespace Go.Ev.YtadneamkkepknaaC
open Go Go.Proofs

section
variable {n base : Nat} {Q : EX × St → Prop} {d : Option Nat} {L : List IOper} {ks : List Kont} {e : Env} {h : Heap}
theorem cs_17 {l : List Order} {x : Bool} (hn : 1 ≤ n) (hl : l.length ≤ maxLen) : GP (evCall T n) base Q d L ks e (evCall T n false (.fn 17) [.slice (some 3) (l.map oAV) x] h) = GO (evCall T n) base Q L ks ⟨setDst e d (.bool (decide (15 < l.length))), h⟩ :=
  gp_eq (con_17 l hl) hn (by repeat (first | exact fz_nil _ | refine fz_slice _ _ _ _ ?_ | refine fz_int _ _ _ ?_)) rfl
theorem cs_19 {l : List Order} {s w : List Int} {x y z : Bool} (hn : 11 ≤ n) (hl : l.length ≤ 15) (hs : s.length ≤ 15) : GP (evCall T n) base Q d L ks e (evCall T n false (.fn 19) [.slice (some 3) (l.map oAV) x, .slice none (s.map (.int .i64)) y, .slice none (w.map (.int .i64)) z] h) = GO (evCall T n) base Q L ks ⟨setDst e d (.tuple [ints (refEnds l s w).1, .int .i64 (refEnds l s w).2]), h⟩ :=
  gp_eq (con_19 l s w hl hs) hn (by repeat (first | exact fz_nil _ | refine fz_slice _ _ _ _ ?_ | refine fz_int _ _ _ ?_)) rfl
theorem cs_20 {l : List Order} {s w : List Int} {x y z : Bool} (hn : 4 ≤ n) (hl : l.length ≤ 15) (hs : s.length ≤ 15) : GP (evCall T n) base Q d L ks e (evCall T n false (.fn 20) [.slice (some 3) (l.map oAV) x, .slice none (s.map (.int .i64)) y, .slice none (w.map (.int .i64)) z] h) = GO (evCall T n) base Q L ks ⟨setDst e d (.tuple [ints (refEnds l s w).1, .int .i64 (refEnds l s w).2]), h⟩ :=
  gp_eq (con_20 l s w hl hs) hn (by repeat (first | exact fz_nil _ | refine fz_slice _ _ _ _ ?_ | refine fz_int _ _ _ ?_)) rfl
theorem cs_21 {l : List Order} {s w : List Int} {x y z : Bool} (hn : 12 ≤ n) (hl : l.length ≤ 15) (hs : s.length ≤ 15) : GP (evCall T n) base Q d L ks e (evCall T n false (.fn 21) [.slice (some 3) (l.map oAV) x, .slice none (s.map (.int .i64)) y, .slice none (w.map (.int .i64)) z] h) = GO (evCall T n) base Q L ks ⟨setDst e d (.tuple [.int .i64 (refDelay l s w).1, .int .i64 (refDelay l s w).2]), h⟩ :=
  gp_eq (con_21 l s w hl hs) hn (by repeat (first | exact fz_nil _ | refine fz_slice _ _ _ _ ?_ | refine fz_int _ _ _ ?_)) rfl
theorem cs_22 {l : List Order} {s w : List Int} {x y z : Bool} (hn : 4 ≤ n) (hl : l.length ≤ 15) (hs : s.length ≤ 15) : GP (evCall T n) base Q d L ks e (evCall T n false (.fn 22) [.slice (some 3) (l.map oAV) x, .slice none (s.map (.int .i64)) y, .slice none (w.map (.int .i64)) z] h) = GO (evCall T n) base Q L ks ⟨setDst e d (.tuple [.int .i64 (refDelay l s w).1, .int .i64 (refDelay l s w).2]), h⟩ :=
  gp_eq (con_22 l s w hl hs) hn (by repeat (first | exact fz_nil _ | refine fz_slice _ _ _ _ ?_ | refine fz_int _ _ _ ?_)) rfl
theorem cs_25 {a b : List Int} {x y : Bool} (hn : 1 ≤ n) (ha : a.length ≤ 1000) (hb : b.length ≤ 1000) : GP (evCall T n) base Q d L ks e (evCall T n false (.fn 25) [.slice none (a.map (.int .i64)) x, .slice none (b.map (.int .i64)) y] h) = GO (evCall T n) base Q L ks ⟨setDst e d (.bool (eqL a b)), h⟩ :=
  gp_eq (con_25 a b ha hb) hn (by repeat (first | exact fz_nil _ | refine fz_slice _ _ _ _ ?_ | refine fz_int _ _ _ ?_)) rfl
theorem cs_30 {a b : List Int} {x y : Bool} (hn : 1 ≤ n) (ha : a.length ≤ 1000) (hb : b.length ≤ 1000) : GP (evCall T n) base Q d L ks e (evCall T n false (.fn 30) [.slice none (a.map (.int .i64)) x, .slice none (b.map (.int .i64)) y] h) = GO (evCall T n) base Q L ks ⟨setDst e d (.bool (eqL a b)), h⟩ :=
  gp_eq (con_30 a b ha hb) hn (by repeat (first | exact fz_nil _ | refine fz_slice _ _ _ _ ?_ | refine fz_int _ _ _ ?_)) rfl
end
theorem eqL_self (a : List Int) : eqL a a = true := by simp [eqL]
theorem refEnds_length (l : List Order) (s w : List Int) (hs : s.length ≤ 15) : (refEnds l s w).1.length ≤ 1000 := by
  unfold refEnds
  split
  · simp
  · simp only [endsOf_length]; omega

attribute [local irreducible] Res.all evC evLoop evOps evOper evOp evFn evCall freeze G GO GV GP GC R
set_option maxRecDepth 100000

theorem cs_18' {n base : Nat} {Q : EX × St → Prop} {d : Option Nat} {L : List IOper} {ks : List Kont} {e : Env} {h : Heap} (hn : n = 40) : GP (evCall T n) base Q d L ks e (evCall T n false (.fn 18) [] h) = GO (evCall T n) base Q L ks ⟨setDst e d (.bool true), h⟩ := by
  subst hn; exact cs_18

theorem lateBooks_at (n40 : Nat) (hn : n40 = 40) (l : List Order) (s w : List Int) (_ : ∀ a ∈ l, OWf a) (hlm : l.length ≤ maxLen) (_ : ∀ n ∈ s, (Lit.int .i64 n).wf = true) (hsm : s.length ≤ maxLen) (_ : ∀ n ∈ w, (Lit.int .i64 n).wf = true) (hwm : w.length ≤ maxLen) :
    (evFn (evCall T n40) c3 [ords l, ints s, ints w] []).all fun p => p.1 = .bool true := by
  rw [m_fn]
  by_cases g1 : 15 < l.length
  · simp (disch := first | assumption | omega) only [c3, go_sem, ↓reduceIte, reduceIte, Nat.reduceEqDiff, Nat.reduceAdd, Nat.reduceMul, reduceCtorEq, Nat.reduceDiv, Nat.reduceLeDiff, Nat.reduceLT, Nat.reduceSub, cs_17, g1, cs_18']
  by_cases g2 : 15 < s.length
  · have g2' : (s.length : Int) > 15 := by omega
    simp (disch := first | assumption | omega) only [c3, go_sem, ↓reduceIte, reduceIte, Nat.reduceEqDiff, Nat.reduceAdd, Nat.reduceMul, reduceCtorEq, Nat.reduceDiv, Nat.reduceLeDiff, Nat.reduceLT, Nat.reduceSub, cs_17, g1, g2', cs_18']
  have g2' : ¬ (s.length : Int) > 15 := by omega
  by_cases g3 : 15 < w.length
  · have g3' : (w.length : Int) > 15 := by omega
    simp (disch := first | assumption | omega) only [c3, go_sem, ↓reduceIte, reduceIte, Nat.reduceEqDiff, Nat.reduceAdd, Nat.reduceMul, reduceCtorEq, Nat.reduceDiv, Nat.reduceLeDiff, Nat.reduceLT, Nat.reduceSub, cs_17, g1, g2', g3', cs_18']
  have g3' : ¬ (w.length : Int) > 15 := by omega
  have hl : l.length ≤ 15 := by omega
  have hs : s.length ≤ 15 := by omega
  have hel := refEnds_length l s w hs
  simp (disch := first | assumption | omega) only [c3, go_sem, ↓reduceIte, reduceIte, Nat.reduceEqDiff, Nat.reduceAdd, Nat.reduceMul, reduceCtorEq, Nat.reduceDiv, Nat.reduceLeDiff, Nat.reduceLT, Nat.reduceSub, cs_17, g1, g2', g3', cs_18', cs_19, cs_20, cs_21, cs_22, cs_23, cs_24, cs_25, eqL_self, beq_self_eq_true]

def lateBooks_n : Nat := 40
theorem lateBooks_ev (l : List Order) (s w : List Int) (_ : ∀ a ∈ l, OWf a) (hlm : l.length ≤ maxLen) (_ : ∀ n ∈ s, (Lit.int .i64 n).wf = true) (hsm : s.length ≤ maxLen) (_ : ∀ n ∈ w, (Lit.int .i64 n).wf = true) (hwm : w.length ≤ maxLen) :
    (evFn (evCall T lateBooks_n) c3 [ords l, ints s, ints w] []).all fun p => p.1 = .bool true := by
  apply lateBooks_at <;> first | rfl | assumption

end Go.Ev.YtadneamkkepknaaC
