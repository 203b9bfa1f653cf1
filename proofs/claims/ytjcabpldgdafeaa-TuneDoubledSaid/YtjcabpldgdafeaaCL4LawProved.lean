/- The law TuneProved answers true: no plays that close a book have a lesser sum than heights prove. No condition but those that stand in each. -/
import Derived.Test.YtjcabpldgdafeaaCL4Fn8
import Derived.Test.YtjcabpldgdafeaaCL4Tnl
set_option linter.unusedSimpArgs false
set_option linter.unusedVariables false
namespace Go.Ev.YtjcabpldgdafeaaC
open Go Go.Proofs
theorem sumP_zero {P : Nat → Int} (hP : ∀ i, 0 ≤ P i) : ∀ k, sumP P k = 0 → ∀ j, j < k → P j = 0
 | 0, _, j, hj => by omega
 | k + 1, h, j, hj => by
  rw [sumP] at h
  have h1 := sumP_nn hP k
  have h2 := hP k
  by_cases hjk : j = k
  ·subst hjk; omega
  ·exact sumP_zero hP k (by omega) j (by omega)
theorem val_zero {N : Nat} {es : List Ed} (hk : OkB N es) (hc : Clo es) : sumP (agP N es) es.length = 0 ↔ ∀ x, sur es x = 0 := by
 obtain ⟨g1, g2, _⟩ := agP_ok hk hc
 constructor
 ·intro h x
  have h1 := sumP_zero g1.nn _ h
  have h2 := g2 x
  rw [sF, sP_congr (Q := fun _ => 0) h1 x _ (Nat.le_refl _), sP_zero, Int.add_zero] at h2
  exact h2
 ·intro h
  have hu : upU (sur es) 8 = 0 := by
   have : ∀ v, upU (sur es) v = 0 := fun v => by
    induction v with
    | zero => rfl
    | succ v ih => simp only [upU, ih, h]; rfl
   exact this 8
  have : agP N es = fun _ => 0 := by unfold agP; rw [hu]; rfl
  rw [this]
  have : ∀ k, sumP (fun _ => 0) k = 0 := fun k => by
   induction k with
   | zero => rfl
   | succ k ih => rw [sumP, ih]; rfl
  exact this _
theorem clo_hang {es : List Ed} (hc : Clo es) : Hang es := fun p hp e he f hf => by
 have h1 := (hc e he f hf).1 p (fun g hg hx => by rw [← hp g hg]; exact hx)
 have h2 := (hc f hf e he).1 p (fun g hg hx => by rw [← hp g hg]; exact hx)
 cases h3 : p e.1 with
 | true => exact (h1 h3).symm
 | false =>
  cases h4 : p f.1 with
  | false => rfl
  | true => rw [h2 h4] at h3; cases h3
attribute [local irreducible] Res.all evC evLoop evOps evOper evOp evFn evCall freeze G GO GV GP GC R
set_option maxRecDepth 100000
end Go.Ev.YtjcabpldgdafeaaC
