/- The first tune, with which notes tunes begin, and how many there are: the program's. No condition but those that stand in each. -/
import Derived.Test.YtjcabpldgdafeaaAL4Same
set_option linter.unusedSimpArgs false
set_option linter.unusedVariables false
namespace Go.Ev.YtjcabpldgdafeaaC
open Go Go.Proofs Go.Ev
attribute [local irreducible] Res.all evC evLoop evOps evOper evOp evFn evCall freeze G GO GV GP GC R
set_option maxRecDepth 100000
theorem eqInts_map (s t : Nat → Int) : ∀ L : List Nat, eqInts (L.map fun v => .int .i64 (s v)) (L.map fun v => .int .i64 (t v)) = some (L.all fun v => decide (s v = t v))
 | [] => rfl
 | v :: L => by
  simp only [List.map_cons, eqInts, if_true, eqInts_map s t L, List.all_cons]
  by_cases h : s v = t v
  ·rw [if_pos h, show decide (s v = t v) = true by simpa using h, Bool.true_and]
  ·rw [if_neg h, show decide (s v = t v) = false by simpa using h, Bool.false_and]
def zB (s : Nat → Int) : Bool := (List.range 8).all fun x => decide (s x = 0)
theorem sr8_zero {s : Nat → Int} : eqInts (sr8 s) [.int .i64 0, .int .i64 0, .int .i64 0, .int .i64 0, .int .i64 0, .int .i64 0, .int .i64 0, .int .i64 0] = some (zB s) := eqInts_map s (fun _ => 0) (List.range 8)
end Go.Ev.YtjcabpldgdafeaaC
