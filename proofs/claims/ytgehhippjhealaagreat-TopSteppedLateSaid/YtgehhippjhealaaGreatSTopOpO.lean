/- An order as a law is handed it, opened. No condition but those that stand in each. -/
import Derived.Test.YtgehhippjhealaaGreatSEvFrame
import Derived.Test.YtgehhippjhealaaGreatSL5Prog2
import Derived.Test.YtgehhippjhealaaGreatRows
import Derived.Test.YtgehhippjhealaaGreatProg
set_option linter.unusedSimpArgs false
set_option linter.unusedVariables false
namespace Go.Ev.YtgehhippjhealaaGreatC
open Go Go.Proofs
open P5 (Order ocells OWf)
set_option maxRecDepth 100000 in
theorem open_order {H : Type} {enc : TypeId × Value → H} {w : World} {base : Nat} {sp : Nat → Bool} {held : Bool} {fuel : Nat} {cs : List Value} {x : DataW H × List MemPlace}
  (h : DataW.trod enc Tryz.prog w base sp held fuel 50 cs = some x) : ∃ a : Order, cs = (ocells a).map (fun p => .int p.1 p.2) ∧ (ocells a).length = gsize (some 3) ∧ OWf a := by
 have c50 : Tryz.prog.cellsOf 50 = 3 := by kernel_rfl
 have c48 : Tryz.prog.cellsOf 48 = 2 := by kernel_rfl
 have c2 : Tryz.prog.cellsOf 2 = 1 := by kernel_rfl
 obtain ⟨xs, n, _, _, hl, hx, hf⟩ := DataW.trod_struct Tryz.underlying50 h
 rw [c50] at hl
 match cs, hl with
 | [u, v, z], _ =>
  have f0 := hf 0 _ rfl
  have f1 := hf 1 _ rfl
  replace hx : xs.length = 2 := hx
  rw [List.getElem?_eq_getElem (by omega)] at f0 f1
  replace f0 : DataW.trod enc Tryz.prog w base sp held n 48 (List.take (Tryz.prog.cellsOf 48) (List.drop 0 [u, v, z])) = _ := f0
  replace f1 : DataW.trod enc Tryz.prog w base sp held n 2 (List.take (Tryz.prog.cellsOf 2) (List.drop 2 [u, v, z])) = _ := f1
  rw [c48] at f0
  rw [c2] at f1
  simp only [List.drop, List.take] at f0 f1
  obtain ⟨ys, m, _, _, hl2, hy, hg⟩ := DataW.trod_struct Tryz.underlying48 f0
  have g0 := hg 0 _ rfl
  have g1 := hg 1 _ rfl
  replace hy : ys.length = 2 := hy
  rw [List.getElem?_eq_getElem (by omega)] at g0 g1
  replace g0 : DataW.trod enc Tryz.prog w base sp held m 2 (List.take (Tryz.prog.cellsOf 2) (List.drop 0 [u, v])) = _ := g0
  replace g1 : DataW.trod enc Tryz.prog w base sp held m 2 (List.take (Tryz.prog.cellsOf 2) (List.drop 1 [u, v])) = _ := g1
  rw [c2] at g0 g1
  simp only [List.drop, List.take] at g0 g1
  obtain ⟨a, e1, _, w1⟩ := DataW.trod_int Tryz.underlying2 g0
  obtain ⟨b, e2, _, w2⟩ := DataW.trod_int Tryz.underlying2 g1
  obtain ⟨c, e3, _, w3⟩ := DataW.trod_int Tryz.underlying2 f1
  simp only [List.cons.injEq, and_true] at e1 e2 e3
  subst e1 e2 e3
  exact ⟨⟨a, b, c⟩, rfl, rfl, w1, w2, w3⟩
end Go.Ev.YtgehhippjhealaaGreatC
