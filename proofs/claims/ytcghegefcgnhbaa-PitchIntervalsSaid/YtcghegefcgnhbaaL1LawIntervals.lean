/- The law PitchIntervals answers true, whatever it is handed. Conditions: the arguments are integers that fit their kinds. -/
import Derived.Test.YtcghegefcgnhbaaL1Open
import Derived.Test.YtcghegefcgnhbaaL1Works
set_option linter.unusedSimpArgs false
set_option linter.unusedVariables false
namespace Go.Ev.YtcghegefcgnhbaaC
open Go Go.Proofs

attribute [local irreducible] Res.all evC evLoop evOps evOper evOp evFn evCall freeze G GO GV GP GC R
set_option maxRecDepth 100000

section
variable {n base : Nat} {Q : EX × St → Prop} {d : Option Nat} {L : List IOper} {ks : List Kont} {e : Env} {h : Heap}
theorem cs_Gap {x y : Frac} (hn : 10004 ≤ n) : GP (evCall T n) base Q d L ks e (evCall T n false (.fn 20) [.agg [.int .i64 x.num, .int .i64 x.den], .agg [.int .i64 y.num, .int .i64 y.den]] h) = GO (evCall T n) base Q L ks ⟨setDst e d (.tuple [.int .i64 (refGap x y).1, .int .i64 (refGap x y).2]), h⟩ :=
  gp_eq (con_Gap x y) hn (fz_rat _ _ (fz_rat _ _ (fz_nil _))) rfl
theorem cs_refGap {x y : Frac} (hn : 4 ≤ n) : GP (evCall T n) base Q d L ks e (evCall T n false (.fn 21) [.agg [.int .i64 x.num, .int .i64 x.den], .agg [.int .i64 y.num, .int .i64 y.den]] h) = GO (evCall T n) base Q L ks ⟨setDst e d (.tuple [.int .i64 (refGap x y).1, .int .i64 (refGap x y).2]), h⟩ :=
  gp_eq (con_refGap x y) hn (fz_rat _ _ (fz_rat _ _ (fz_nil _))) rfl
end

theorem pitchIntervals_at (n0 : Nat) (hn : n0 = 20000) (x y : Frac) (_ : RWf x) (_ : RWf y) : (evFn (evCall T n0) c3 [rAV x, rAV y] []).all fun p => p.1 = .bool true := by
  rw [m_fn]
  simp (disch := first | assumption | omega) only [c3, go_sem, ↓reduceIte, reduceIte, Nat.reduceEqDiff, Nat.reduceAdd, Nat.reduceMul, reduceCtorEq, Nat.reduceDiv, Nat.reduceLeDiff, Nat.reduceLT, Nat.reduceSub, cs_Gap, cs_refGap, cs_CheckInterval, cs_refCheck, beq_self_eq_true, cs_Works]

def pitchIntervals_n : Nat := 20000
theorem pitchIntervals_ev (x y : Frac) (h1 : RWf x) (h2 : RWf y) : (evFn (evCall T pitchIntervals_n) c3 [rAV x, rAV y] []).all fun p => p.1 = .bool true := pitchIntervals_at _ rfl x y h1 h2

end Go.Ev.YtcghegefcgnhbaaC
