/- The law TuneTunes answers true; whether books are too great for a law, and whether lists are equal. No condition but those that stand in each. -/
import Derived.Test.YtjcabpldgdafeaaEL4Fn4
import Derived.Test.YtjcabpldgdafeaaEL4Tune
import Derived.Test.YtjcabpldgdafeaaEL4Works
set_option linter.unusedSimpArgs false
set_option linter.unusedVariables false
namespace Go.Ev.YtjcabpldgdafeaaC
open Go Go.Proofs
attribute [local irreducible] Res.all evC evLoop evOps evOper evOp evFn evCall freeze G GO GV GP GC R
set_option maxRecDepth 100000
def wideB (b : Bk) : Bool := decide (20 < b.slurs.length) || (decide (11 < b.slurs.length) && decide (chkB b = 0))
theorem con_wide (b : Bk) : Con T 3 21 [bkA b] (.bool (wideB b)) := by
 refine con_intro t21 fun n hn V hV => ?_
 by_cases h1 : 20 < b.slurs.length
 ·have d1 : decide (20 < b.slurs.length) = true := by simpa using h1
  simp (disch := first | assumption | omega) only [c21, go_sem, ↓reduceIte, cs_great, d1]
  exact hV _ _ (by rw [frz_bool, wideB, d1, Bool.true_or])
 ·have d1 : decide (20 < b.slurs.length) = false := by simpa using h1
  have hl : b.slurs.length ≤ 20 := by omega
  by_cases h2 : 11 < b.slurs.length
  ·have d2 : decide ((b.slurs.length : Int) > 11) = true := by simp; omega
   have d2' : decide (11 < b.slurs.length) = true := by simpa using h2
   simp (disch := first | assumption | omega) only [c21, go_sem, ↓reduceIte, cs_great, d1, d2, cs_refCheck, List.length_map, Bool.false_eq_true]
   refine hV _ _ ?_
   rw [frz_bool, wideB, d1, d2', Bool.false_or, Bool.true_and]
   rfl
  ·have d2 : decide ((b.slurs.length : Int) > 11) = false := by simp; omega
   have d2' : decide (11 < b.slurs.length) = false := by simpa using h2
   simp (disch := first | assumption | omega) only [c21, go_sem, ↓reduceIte, cs_great, d1, d2, List.length_map, Bool.false_eq_true]
   exact hV _ _ (by rw [frz_bool, wideB, d1, d2', Bool.false_or, Bool.false_and])
def fineB (b : Bk) : Bool := !wideB b && decide (chkB b = 0)
theorem con_fine (b : Bk) : Con T 4 41 [bkA b] (.bool (fineB b)) := by
 refine con_intro t41 fun n hn V hV => ?_
 simp (disch := first | assumption | omega) only [c41, go_sem, ↓reduceIte]
 refine gp_con (con_wide b) (by omega) (fz_bkA _ _ (fz_nil _)) (or_pb _ _) ?_
 by_cases h : wideB b = true
 ·simp (disch := first | assumption | omega) only [go_sem, ↓reduceIte, h, Bool.not_true, Bool.false_eq_true]
  exact hV _ _ (by rw [frz_bool, fineB, h]; rfl)
 ·have h' : wideB b = false := by simpa using h
  have hl : b.slurs.length ≤ 20 := by
   simp only [wideB, Bool.or_eq_false_iff, decide_eq_false_iff_not] at h'
   omega
  simp (disch := first | assumption | omega) only [go_sem, ↓reduceIte, h', Bool.not_false, cs_refCheck]
  exact hV _ _ (by rw [frz_bool, fineB, h']; rfl)
section
variable {n base : Nat} {Q : EX × St → Prop} {d : Option Nat} {L : List IOper} {ks : List Kont} {e : Env} {h : Heap}
theorem cs_fine {b : Bk} {x : Bool} (hn : 4 ≤ n) : GP (evCall T n) base Q d L ks e (evCall T n false (.fn 41) [.agg [.int .i64 b.notes, .slice (some 2) (b.slurs.map pA) x]] h) = GO (evCall T n) base Q L ks ⟨setDst e d (.bool (fineB b)), h⟩ :=
 gp_eq (con_fine b) hn (fz_cons (frz_agg (mz_cons (frz_int _ _ _ _) (mz_cons (frz_slice _ _ _ _ _) (mz_nil _ _)))) (fz_nil _)) (or_pb _ _)
theorem gp_bk {k f : Nat} {b : Bk} {r : AV} {x : Bool} (hc : Con T k f [bkA b] r) (hk : k ≤ n) : GP (evCall T n) base Q d L ks e (evCall T n false (.fn f) [.agg [.int .i64 b.notes, .slice (some 2) (b.slurs.map pA) x]] h) = GO (evCall T n) base Q L ks ⟨setDst e d r, h⟩ :=
 gp_eq hc hk (fz_cons (frz_agg (mz_cons (frz_int _ _ _ _) (mz_cons (frz_slice _ _ _ _ _) (mz_nil _ _)))) (fz_nil _)) rfl
end
end Go.Ev.YtjcabpldgdafeaaC
