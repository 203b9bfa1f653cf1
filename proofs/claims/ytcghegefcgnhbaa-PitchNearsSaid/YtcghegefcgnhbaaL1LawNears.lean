/- The law PitchNears answers true, whatever it is handed. Conditions: the arguments are integers that fit their kinds. -/
import Derived.Test.YtcghegefcgnhbaaL1Near
import Derived.Test.YtcghegefcgnhbaaL1Works
set_option linter.unusedSimpArgs false
set_option linter.unusedVariables false
namespace Go.Ev.YtcghegefcgnhbaaC
open Go Go.Proofs

attribute [local irreducible] Res.all evC evLoop evOps evOper evOp evFn evCall freeze G GO GV GP GC R
set_option maxRecDepth 100000

theorem pitchNears_at (n0 : Nat) (hn : n0 = 20000) (x f : Frac) (m : Int) (_ : RWf x) (_ : RWf f) (_ : (Lit.int .i64 m).wf = true) : (evFn (evCall T n0) c5 [rAV x, rAV f, .int .i64 m] []).all fun p => p.1 = .bool true := by
  rw [m_fn]
  simp (disch := first | assumption | omega) only [c5, go_sem, ↓reduceIte, reduceIte, Nat.reduceEqDiff, Nat.reduceAdd, Nat.reduceMul, reduceCtorEq, Nat.reduceDiv, Nat.reduceLeDiff, Nat.reduceLT, Nat.reduceSub, cs_Nearest, cs_refNearest, cs_CheckNearest, cs_refCheckNearest, beq_self_eq_true, eaA_self, cs_Works]

def pitchNears_n : Nat := 20000
theorem pitchNears_ev (x f : Frac) (m : Int) (h1 : RWf x) (h2 : RWf f) (h3 : (Lit.int .i64 m).wf = true) : (evFn (evCall T pitchNears_n) c5 [rAV x, rAV f, .int .i64 m] []).all fun p => p.1 = .bool true := pitchNears_at _ rfl x f m h1 h2 h3

end Go.Ev.YtcghegefcgnhbaaC
