/- The law TuneBooks answers true. No condition. -/
import Derived.Test.YtjcabpldgdafeaaL4Books
import Derived.Test.YtjcabpldgdafeaaL4Works
set_option linter.unusedSimpArgs false
set_option linter.unusedVariables false
namespace Go.Ev.YtjcabpldgdafeaaC
open Go Go.Proofs

attribute [local irreducible] Res.all evC evLoop evOps evOper evOp evFn evCall freeze G GO GV GP GC R
set_option maxRecDepth 100000

theorem tuneBooks_at (n40 : Nat) (hn : n40 = 20000) (b : Bk) (t : List Int) (hw : BkWf b) (hm : t.length ≤ maxLen) : (evFn (evCall T n40) c3 [bkA b, ints t] []).all fun p => p.1 = .bool true := by
  rw [m_fn]
  have h10 : 10 ≤ n40 := by omega
  have h3 : 3 ≤ n40 := by omega
  have h9 : 9 ≤ n40 := by omega
  have h2 : 2 ≤ n40 := by omega
  have h1 : 1 ≤ n40 := by omega
  by_cases hl : 20 < b.slurs.length
  · have d1 : decide (20 < b.slurs.length) = true := by simpa using hl
    simp (disch := first | assumption | omega) only [c3, go_sem, ↓reduceIte, reduceIte, Nat.reduceEqDiff, Nat.reduceAdd, Nat.reduceMul, reduceCtorEq, Nat.reduceDiv, Nat.reduceLeDiff, Nat.reduceLT, Nat.reduceSub, cs_great, d1, cs_Works hn]
  · have d1 : decide (20 < b.slurs.length) = false := by simpa using hl
    by_cases hl2 : t.length > 30
    · have d2 : decide ((t.length : Int) > 30) = true := by simp; omega
      simp (disch := first | assumption | omega) only [c3, go_sem, ↓reduceIte, reduceIte, Nat.reduceEqDiff, Nat.reduceAdd, Nat.reduceMul, reduceCtorEq, Nat.reduceDiv, Nat.reduceLeDiff, Nat.reduceLT, Nat.reduceSub, cs_great, d1, d2, cs_Works hn, Bool.false_eq_true]
    · have d2 : decide ((t.length : Int) > 30) = false := by simp; omega
      have hl3 : b.slurs.length ≤ 20 := by omega
      have hl4 : t.length ≤ 30 := by omega
      simp (disch := first | assumption | omega) only [c3, go_sem, ↓reduceIte, reduceIte, Nat.reduceEqDiff, Nat.reduceAdd, Nat.reduceMul, reduceCtorEq, Nat.reduceDiv, Nat.reduceLeDiff, Nat.reduceLT, Nat.reduceSub, cs_great, d1, d2, cs_CheckTune, cs_refTune, cs_CheckBook, cs_refCheck, ckA, beq_self_eq_true, cs_Works hn, Bool.false_eq_true]

def tuneBooks_n : Nat := 20000
theorem tuneBooks_ev (b : Bk) (t : List Int) (hw : BkWf b) (hwt : ∀ n ∈ t, (Lit.int .i64 n).wf = true) (hm : t.length ≤ maxLen) : (evFn (evCall T tuneBooks_n) c3 [bkA b, ints t] []).all fun p => p.1 = .bool true := tuneBooks_at _ rfl b t hw hm

end Go.Ev.YtjcabpldgdafeaaC
