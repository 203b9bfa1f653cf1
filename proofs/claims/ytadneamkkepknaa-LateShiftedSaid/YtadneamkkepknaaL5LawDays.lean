/- The law LateDays answers true, whatever it is handed. Conditions: the arguments are integers that fit their kinds, and lists no longer than memory allows. -/
import Derived.Test.YtadneamkkepknaaL5LawBooks
import Derived.Test.YtadneamkkepknaaL5Days3
set_option linter.unusedSimpArgs false
set_option linter.unusedVariables false
namespace Go.Ev.YtadneamkkepknaaC
open Go Go.Proofs

section
variable {n base : Nat} {Q : EX × St → Prop} {d : Option Nat} {L : List IOper} {ks : List Kont} {e : Env} {h : Heap}
theorem cs_31 {l : List Order} {s day : Int} {x : Bool} (hn : 11 ≤ n) (hl : l.length ≤ 15) : GP (evCall T n) base Q d L ks e (evCall T n false (.fn 31) [.slice (some 3) (l.map oAV) x, .int .i64 s, .int .i64 day] h) = GO (evCall T n) base Q L ks ⟨setDst e d (.tuple [.int .i64 (refBound l s day).1, .int .i64 (refBound l s day).2]), h⟩ :=
  gp_eq (con_31 l s day hl) hn (by repeat (first | exact fz_nil _ | refine fz_slice _ _ _ _ ?_ | refine fz_int _ _ _ ?_)) rfl
theorem cs_32 {l : List Order} {s day : Int} {x : Bool} (hn : 3 ≤ n) (hl : l.length ≤ 15) : GP (evCall T n) base Q d L ks e (evCall T n false (.fn 32) [.slice (some 3) (l.map oAV) x, .int .i64 s, .int .i64 day] h) = GO (evCall T n) base Q L ks ⟨setDst e d (.tuple [.int .i64 (refBound l s day).1, .int .i64 (refBound l s day).2]), h⟩ :=
  gp_eq (con_32 l s day hl) hn (by repeat (first | exact fz_nil _ | refine fz_slice _ _ _ _ ?_ | refine fz_int _ _ _ ?_)) rfl
theorem cs_33 {l : List Order} {s : Int} {x : Bool} (hn : 13 ≤ n) (hl : l.length ≤ 15) : GP (evCall T n) base Q d L ks e (evCall T n false (.fn 33) [.slice (some 3) (l.map oAV) x, .int .i64 s] h) = GO (evCall T n) base Q L ks ⟨setDst e d (.tuple [.int .i64 (refShort l s).1, .int .i64 (refShort l s).2]), h⟩ :=
  gp_eq (con_33 l s hl) hn (by repeat (first | exact fz_nil _ | refine fz_slice _ _ _ _ ?_ | refine fz_int _ _ _ ?_)) rfl
theorem cs_35 {l : List Order} {s : Int} {x : Bool} (hn : 13 ≤ n) (hl : l.length ≤ 15) : GP (evCall T n) base Q d L ks e (evCall T n false (.fn 35) [.slice (some 3) (l.map oAV) x, .int .i64 s] h) = GO (evCall T n) base Q L ks ⟨setDst e d (.tuple [.int .i64 (refDay l s).1, .int .i64 (refDay l s).2]), h⟩ :=
  gp_eq (con_35 l s hl) hn (by repeat (first | exact fz_nil _ | refine fz_slice _ _ _ _ ?_ | refine fz_int _ _ _ ?_)) rfl
theorem cs_36 {l : List Order} {s : Int} {x : Bool} (hn : 5 ≤ n) (hl : l.length ≤ 15) : GP (evCall T n) base Q d L ks e (evCall T n false (.fn 36) [.slice (some 3) (l.map oAV) x, .int .i64 s] h) = GO (evCall T n) base Q L ks ⟨setDst e d (.tuple [.int .i64 (refDay l s).1, .int .i64 (refDay l s).2]), h⟩ :=
  gp_eq (con_36 l s hl) hn (by repeat (first | exact fz_nil _ | refine fz_slice _ _ _ _ ?_ | refine fz_int _ _ _ ?_)) rfl
end

attribute [local irreducible] Res.all evC evLoop evOps evOper evOp evFn evCall freeze G GO GV GP GC R
set_option maxRecDepth 100000

theorem lateDays_at (n40 : Nat) (hn : n40 = 40) (l : List Order) (s day : Int) (_ : ∀ a ∈ l, OWf a) (hlm : l.length ≤ maxLen) (_ : (Lit.int .i64 s).wf = true) (_ : (Lit.int .i64 day).wf = true) :
    (evFn (evCall T n40) c5 [ords l, .int .i64 s, .int .i64 day] []).all fun p => p.1 = .bool true := by
  rw [m_fn]
  by_cases g1 : 15 < l.length
  · simp (disch := first | assumption | omega) only [c5, go_sem, ↓reduceIte, reduceIte, Nat.reduceEqDiff, Nat.reduceAdd, Nat.reduceMul, reduceCtorEq, Nat.reduceDiv, Nat.reduceLeDiff, Nat.reduceLT, Nat.reduceSub, cs_17, g1, cs_18']
  have hl : l.length ≤ 15 := by omega
  simp (disch := first | assumption | omega) only [c5, go_sem, ↓reduceIte, reduceIte, Nat.reduceEqDiff, Nat.reduceAdd, Nat.reduceMul, reduceCtorEq, Nat.reduceDiv, Nat.reduceLeDiff, Nat.reduceLT, Nat.reduceSub, cs_17, g1, cs_18', cs_31, cs_32, cs_33, cs_34, cs_35, cs_36, beq_self_eq_true]

def lateDays_n : Nat := 40
theorem lateDays_ev (l : List Order) (s day : Int) (_ : ∀ a ∈ l, OWf a) (hlm : l.length ≤ maxLen) (_ : (Lit.int .i64 s).wf = true) (_ : (Lit.int .i64 day).wf = true) :
    (evFn (evCall T lateDays_n) c5 [ords l, .int .i64 s, .int .i64 day] []).all fun p => p.1 = .bool true := by
  apply lateDays_at <;> first | rfl | assumption

end Go.Ev.YtadneamkkepknaaC
