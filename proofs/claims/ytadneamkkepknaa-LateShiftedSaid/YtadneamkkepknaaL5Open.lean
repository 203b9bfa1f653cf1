/- Orders as the laws are handed them, opened. No condition. -/
import Derived.Test.YtadneamkkepknaaEvFrame
import Derived.Test.YtadneamkkepknaaL5CodeB
import Derived.Test.YtadneamkkepknaaL5Math
import Derived.Test.YtadneamkkepknaaRows
set_option linter.unusedSimpArgs false
set_option linter.unusedVariables false
namespace Go.Ev.YtadneamkkepknaaC
open Go Go.Proofs

def ocells (o : Order) : List (IntKind × Int) := [(.i64, o.lo), (.i64, o.hi), (.i64, o.due)]
def OWf (o : Order) : Prop := (Lit.int .i64 o.lo).wf = true ∧ (Lit.int .i64 o.hi).wf = true ∧ (Lit.int .i64 o.due).wf = true

set_option maxRecDepth 100000 in
theorem open_order {H : Type} {enc : TypeId × Value → H} {w : World} {base : Nat} {sp : Nat → Bool} {held : Bool} {fuel : Nat} {cs : List Value} {x : DataW H × List MemPlace}
    (h : DataW.trod enc Try.prog w base sp held fuel 60 cs = some x) : ∃ a : Order, cs = (ocells a).map (fun p => .int p.1 p.2) ∧ (ocells a).length = gsize (some 3) ∧ OWf a := by
  have c60 : Try.prog.cellsOf 60 = 3 := by kernel_rfl
  have c58 : Try.prog.cellsOf 58 = 2 := by kernel_rfl
  have c2 : Try.prog.cellsOf 2 = 1 := by kernel_rfl
  obtain ⟨xs, n, _, _, hl, hx, hf⟩ := DataW.trod_struct Try.underlying60 h
  rw [c60] at hl
  match cs, hl with
  | [u, v, z], _ =>
    have f0 := hf 0 _ rfl
    have f1 := hf 1 _ rfl
    replace hx : xs.length = 2 := hx
    rw [List.getElem?_eq_getElem (by omega)] at f0 f1
    replace f0 : DataW.trod enc Try.prog w base sp held n 58 (List.take (Try.prog.cellsOf 58) (List.drop 0 [u, v, z])) = _ := f0
    replace f1 : DataW.trod enc Try.prog w base sp held n 2 (List.take (Try.prog.cellsOf 2) (List.drop 2 [u, v, z])) = _ := f1
    rw [c58] at f0
    rw [c2] at f1
    simp only [List.drop, List.take] at f0 f1
    obtain ⟨ys, m, _, _, hl2, hy, hg⟩ := DataW.trod_struct Try.underlying58 f0
    have g0 := hg 0 _ rfl
    have g1 := hg 1 _ rfl
    replace hy : ys.length = 2 := hy
    rw [List.getElem?_eq_getElem (by omega)] at g0 g1
    replace g0 : DataW.trod enc Try.prog w base sp held m 2 (List.take (Try.prog.cellsOf 2) (List.drop 0 [u, v])) = _ := g0
    replace g1 : DataW.trod enc Try.prog w base sp held m 2 (List.take (Try.prog.cellsOf 2) (List.drop 1 [u, v])) = _ := g1
    rw [c2] at g0 g1
    simp only [List.drop, List.take] at g0 g1
    obtain ⟨a, e1, _, w1⟩ := DataW.trod_int Try.underlying2 g0
    obtain ⟨b, e2, _, w2⟩ := DataW.trod_int Try.underlying2 g1
    obtain ⟨c, e3, _, w3⟩ := DataW.trod_int Try.underlying2 f1
    simp only [List.cons.injEq, and_true] at e1 e2 e3
    subst e1 e2 e3
    exact ⟨⟨a, b, c⟩, rfl, rfl, w1, w2, w3⟩

/-- integers, and orders, as values -/
abbrev ints (l : List Int) : AV := .slice none (l.map (.int .i64)) false
def oAV (o : Order) : AV := .agg [.int .i64 o.lo, .int .i64 o.hi, .int .i64 o.due]
abbrev ords (l : List Order) : AV := .slice (some 3) (l.map oAV) false

end Go.Ev.YtadneamkkepknaaC
