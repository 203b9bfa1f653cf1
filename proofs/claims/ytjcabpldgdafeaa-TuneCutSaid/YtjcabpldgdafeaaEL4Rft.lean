/- In how many ways the rest of a book can be played: the reference's table, how many tunes there are, and with which notes they begin. No condition but those that stand in each. -/
import Derived.Test.YtjcabpldgdafeaaEL4Prf
import Derived.Test.YtjcabpldgdafeaaEL4Eul
import Derived.Test.YtjcabpldgdafeaaEL4Mth
set_option linter.unusedSimpArgs false
set_option linter.unusedVariables false
namespace Go.Ev
end Go.Ev
namespace Go.Ev.YtjcabpldgdafeaaC
open Go Go.Proofs Go.Ev
attribute [local irreducible] Res.all evC evLoop evOps evOper evOp evFn evCall freeze G GO GV GP GC R
set_option maxRecDepth 100000
abbrev rwI (N : Nat) (f : Nat → Int) : List AV := (srN N f).map (.int .i64)
structure WayT (N : Nat) (es : List Ed) (S : Nat) (h : Heap) (u : Nat) : Prop where
 tab : getH h 82 = .cells 0 ((List.range S).map fun s => if u ≤ s then .oslice (83 + (S - 1 - s)) 0 none 0 N (some N) else .slice none [] true)
 row : ∀ s, u ≤ s → s < S → getH h (83 + (S - 1 - s)) = .cells 0 (rwI N (wB es s))
theorem WayT.other {N S u : Nat} {es : List Ed} {h h' : Heap} (hw : WayT N es S h u) (hu : 0 < u) (hf : ∀ j, j < 83 + (S - u) → getH h' j = getH h j) : WayT N es S h' u where
 tab := by rw [hf 82 (by omega)]; exact hw.tab
 row := fun s h1 h2 => by rw [hf _ (by omega)]; exact hw.row s h1 h2
theorem fct11 {m : Nat} (h : m ≤ 11) : fctI m ≤ 39916800 := by
 have := fctI_mono h
 have e : fctI 11 = 39916800 := by decide
 omega
end Go.Ev.YtjcabpldgdafeaaC
namespace Go.Ev.YtjcabpldgdafeaaC
open Go Go.Proofs Go.Ev
attribute [local irreducible] Res.all evC evLoop evOps evOper evOp evFn evCall freeze G GO GV GP GC R
set_option maxRecDepth 100000
end Go.Ev.YtjcabpldgdafeaaC
namespace Go.Ev.YtjcabpldgdafeaaC
open Go Go.Proofs Go.Ev
attribute [local irreducible] Res.all evC evLoop evOps evOper evOp evFn evCall freeze G GO GV GP GC R
set_option maxRecDepth 100000
def gdR (es : List Ed) (s : Nat) (a : Int) (i : Nat) : Bool := bitK s i && ((decide (a < 0) || decide (((gE es i).1 : Int) = a)) && decide (wB es (s ||| 2 ^ i) (gE es i).2 ≠ 0))
def tuR (es : List Ed) : Nat → Nat → Int → List Nat → Option (List Nat)
 | 0, _, _, out => some out
 | k + 1, s, a, out =>
  match (List.range es.length).find? (gdR es s a) with
  | none => none
  | some i => tuR es k (s ||| 2 ^ i) (gE es i).2 (out ++ [i])
theorem find_none {p : Nat → Bool} {m : Nat} (hn : ∀ j, j < m → p j = false) : (List.range m).find? p = none := by
 rw [List.find?_range_eq_none]
 exact fun j hj => by simp [hn j hj]
def tuA (r : Option (List Nat)) : AV := match r with
 | none => .tuple [ints [], .int .i64 19]
 | some l => .tuple [ints (nI4 l), .int .i64 0]
end Go.Ev.YtjcabpldgdafeaaC
