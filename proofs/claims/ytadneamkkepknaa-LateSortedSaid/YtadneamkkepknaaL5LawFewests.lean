/- The law LateFewests answers true, whatever it is handed. Conditions: the arguments are integers that fit their kinds, and lists no longer than memory allows. -/
import Derived.Test.YtadneamkkepknaaL5LawBooks
import Derived.Test.YtadneamkkepknaaL5Fewest
set_option linter.unusedSimpArgs false
set_option linter.unusedVariables false
namespace Go.Ev.YtadneamkkepknaaC
open Go Go.Proofs

theorem bestGo_length (cand : Nat → Bool) (sz : Nat → Nat) : ∀ (r out : List Nat) (most : Nat), (bestGo cand sz r out most).1.length ≤ out.length + r.length + 1
  | [], out, most => by simp [bestGo]
  | b :: r, out, most => by
    rw [bestGo]
    split
    · have := bestGo_length cand sz r out most
      simp at this ⊢; omega
    · split
      · have := bestGo_length cand sz r [b] (sz b)
        simp at this ⊢; omega
      · have := bestGo_length cand sz r (out ++ [b]) most
        simp at this ⊢; omega
theorem bestOf_length {l : List Order} (s : Int) (hl : l.length ≤ 15) : (bestOf l s).1.length ≤ 100000 := by
  have := bestGo_length (fun b => canB l s (listed b l.length)) (fun b => (listed b l.length).length) (List.range (2 ^ l.length)) [] 0
  have h2 : 2 ^ l.length ≤ 2 ^ 15 := Nat.pow_le_pow_right (by omega) hl
  have h3 : (2 : Nat) ^ 15 = 32768 := by decide
  rw [List.length_range] at this
  show (bestGo (fun b => canB l s (listed b l.length)) (fun b => (listed b l.length).length) (List.range (2 ^ l.length)) [] 0).1.length ≤ 100000
  simp only [List.length_nil] at this
  omega

attribute [local irreducible] Res.all evC evLoop evOps evOper evOp evFn evCall freeze G GO GV GP GC R
set_option maxRecDepth 100000

theorem con_41 (l : List Order) (hl : l.length ≤ 15) : Con T 2 41 [ords l] (.bool (decide (8 < l.length ∧ chk l = 0))) := by
  refine con_intro t41 fun n hn V hV => ?_
  replace hV : ∀ b h, b = decide (8 < l.length ∧ chk l = 0) → V (.bool b, h) := fun b h e1 => hV _ _ (by rw [e1, frz_bool])
  by_cases h8 : 8 < l.length
  · have h8' : (l.length : Int) > 8 := by omega
    by_cases hc : chk l = 0
    · have hc' : (chk l == 0) = true := by simp [hc]
      simp (disch := first | assumption | omega) only [c41, go_sem, ↓reduceIte, reduceIte, Nat.reduceEqDiff, Nat.reduceAdd, Nat.reduceMul, reduceCtorEq, Nat.reduceDiv, Nat.reduceLeDiff, Nat.reduceLT, Nat.reduceSub, cs_24, h8', hc']
      exact hV _ _ (by simp [h8, hc])
    · have hc' : (chk l == 0) = false := by simp [hc]
      simp (disch := first | assumption | omega) only [c41, go_sem, ↓reduceIte, reduceIte, Nat.reduceEqDiff, Nat.reduceAdd, Nat.reduceMul, reduceCtorEq, Nat.reduceDiv, Nat.reduceLeDiff, Nat.reduceLT, Nat.reduceSub, cs_24, h8', hc']
      exact hV _ _ (by simp [h8, hc])
  · have h8' : ¬ (l.length : Int) > 8 := by omega
    simp (disch := first | assumption | omega) only [c41, go_sem, ↓reduceIte, reduceIte, Nat.reduceEqDiff, Nat.reduceAdd, Nat.reduceMul, reduceCtorEq, Nat.reduceDiv, Nat.reduceLeDiff, Nat.reduceLT, Nat.reduceSub, h8']
    exact hV _ _ (by simp [h8])

section
variable {n base : Nat} {Q : EX × St → Prop} {d : Option Nat} {L : List IOper} {ks : List Kont} {e : Env} {h : Heap}
theorem cs_41 {l : List Order} {x : Bool} (hn : 2 ≤ n) (hl : l.length ≤ 15) : GP (evCall T n) base Q d L ks e (evCall T n false (.fn 41) [.slice (some 3) (l.map oAV) x] h) = GO (evCall T n) base Q L ks ⟨setDst e d (.bool (decide (8 < l.length ∧ chk l = 0))), h⟩ :=
  gp_eq (con_41 l hl) hn (by repeat (first | exact fz_nil _ | refine fz_slice _ _ _ _ ?_ | refine fz_int _ _ _ ?_)) rfl
theorem cs_42 {l : List Order} {s : Int} {x : Bool} (hn : 11 ≤ n) (hl : l.length ≤ 15) : GP (evCall T n) base Q d L ks e (evCall T n false (.fn 42) [.slice (some 3) (l.map oAV) x, .int .i64 s] h) = GO (evCall T n) base Q L ks ⟨setDst e d (.tuple [.int .i64 (refFewest l s).1, .int .i64 (refFewest l s).2]), h⟩ :=
  gp_eq (con_42 l s hl) hn (by repeat (first | exact fz_nil _ | refine fz_slice _ _ _ _ ?_ | refine fz_int _ _ _ ?_)) rfl
theorem cs_43 {l : List Order} {s : Int} {x : Bool} (hn : 6 ≤ n) (hl : l.length ≤ 15) : GP (evCall T n) base Q d L ks e (evCall T n false (.fn 43) [.slice (some 3) (l.map oAV) x, .int .i64 s] h) = GO (evCall T n) base Q L ks ⟨setDst e d (.tuple [.int .i64 (refFewest l s).1, .int .i64 (refFewest l s).2]), h⟩ :=
  gp_eq (con_43 l s hl) hn (by repeat (first | exact fz_nil _ | refine fz_slice _ _ _ _ ?_ | refine fz_int _ _ _ ?_)) rfl
theorem cs_44 {l : List Order} {s o : Int} {x : Bool} (hn : 11 ≤ n) (hl : l.length ≤ 15) : GP (evCall T n) base Q d L ks e (evCall T n false (.fn 44) [.slice (some 3) (l.map oAV) x, .int .i64 s, .int .i64 o] h) = GO (evCall T n) base Q L ks ⟨setDst e d (.tuple [.int .i64 (refKind l s o).1, .int .i64 (refKind l s o).2]), h⟩ :=
  gp_eq (con_44 l s o hl) hn (by repeat (first | exact fz_nil _ | refine fz_slice _ _ _ _ ?_ | refine fz_int _ _ _ ?_)) rfl
theorem cs_45 {l : List Order} {s o : Int} {x : Bool} (hn : 6 ≤ n) (hl : l.length ≤ 15) : GP (evCall T n) base Q d L ks e (evCall T n false (.fn 45) [.slice (some 3) (l.map oAV) x, .int .i64 s, .int .i64 o] h) = GO (evCall T n) base Q L ks ⟨setDst e d (.tuple [.int .i64 (refKind l s o).1, .int .i64 (refKind l s o).2]), h⟩ :=
  gp_eq (con_45 l s o hl (bestOf_length s hl)) hn (by repeat (first | exact fz_nil _ | refine fz_slice _ _ _ _ ?_ | refine fz_int _ _ _ ?_)) rfl
end

theorem lateFewests_at (n40 : Nat) (hn : n40 = 40) (l : List Order) (s o : Int) (_ : ∀ a ∈ l, OWf a) (hlm : l.length ≤ maxLen) (_ : (Lit.int .i64 s).wf = true) (_ : (Lit.int .i64 o).wf = true) :
    (evFn (evCall T n40) c7 [ords l, .int .i64 s, .int .i64 o] []).all fun p => p.1 = .bool true := by
  rw [m_fn]
  by_cases g1 : 15 < l.length
  · simp (disch := first | assumption | omega) only [c7, go_sem, ↓reduceIte, reduceIte, Nat.reduceEqDiff, Nat.reduceAdd, Nat.reduceMul, reduceCtorEq, Nat.reduceDiv, Nat.reduceLeDiff, Nat.reduceLT, Nat.reduceSub, cs_17, g1, cs_18']
  have hl : l.length ≤ 15 := by omega
  by_cases g2 : 8 < l.length ∧ chk l = 0
  · simp (disch := first | assumption | omega) only [c7, go_sem, ↓reduceIte, reduceIte, Nat.reduceEqDiff, Nat.reduceAdd, Nat.reduceMul, reduceCtorEq, Nat.reduceDiv, Nat.reduceLeDiff, Nat.reduceLT, Nat.reduceSub, cs_17, g1, cs_41, g2, cs_18']
  simp (disch := first | assumption | omega) only [c7, go_sem, ↓reduceIte, reduceIte, Nat.reduceEqDiff, Nat.reduceAdd, Nat.reduceMul, reduceCtorEq, Nat.reduceDiv, Nat.reduceLeDiff, Nat.reduceLT, Nat.reduceSub, cs_17, g1, cs_41, g2, cs_18', cs_42, cs_43, cs_44, cs_45, beq_self_eq_true]

def lateFewests_n : Nat := 40
theorem lateFewests_ev (l : List Order) (s o : Int) (_ : ∀ a ∈ l, OWf a) (hlm : l.length ≤ maxLen) (_ : (Lit.int .i64 s).wf = true) (_ : (Lit.int .i64 o).wf = true) :
    (evFn (evCall T lateFewests_n) c7 [ords l, .int .i64 s, .int .i64 o] []).all fun p => p.1 = .bool true := by
  apply lateFewests_at <;> first | rfl | assumption

end Go.Ev.YtadneamkkepknaaC
