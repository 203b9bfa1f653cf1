/- The law TuneAgains answers true: how many plays close a book, and how many heights prove. No condition but those that stand in each. -/
import Derived.Test.YtjcabpldgdafeaaDL4Fn6
import Derived.Test.YtjcabpldgdafeaaDL4LawTunes
import Derived.Test.YtjcabpldgdafeaaDL4Few
set_option linter.unusedSimpArgs false
set_option linter.unusedVariables false
namespace Go.Ev.YtjcabpldgdafeaaC
open Go Go.Proofs
attribute [local irreducible] Res.all evC evLoop evOps evOper evOp evFn evCall freeze G GO GV GP GC R
set_option maxRecDepth 100000
theorem plF_srN {m j : Nat} (P : Nat → Int) (h : j < m) : plF (srN m P) j = P j := by
 unfold plF srN
 simp [List.getD, h]
theorem sP_congr {es : List Ed} {P Q : Nat → Int} {m : Nat} (h : ∀ j, j < m → P j = Q j) (x : Nat) : ∀ k, k ≤ m → sP es P x k = sP es Q x k
 | 0, _ => rfl
 | k + 1, hk => by rw [sP, sP, sP_congr h x k (by omega), h k (by omega)]
theorem sumP_congr {P Q : Nat → Int} {m : Nat} (h : ∀ j, j < m → P j = Q j) : ∀ k, k ≤ m → sumP P k = sumP Q k
 | 0, _ => rfl
 | k + 1, hk => by rw [sumP, sumP, sumP_congr h k (by omega), h k (by omega)]
theorem ckG_own {N : Nat} {es : List Ed} (hk : OkB N es) (hc : cloB es = true) : ckG N es (srN es.length (agP N es)) = (sumP (agP N es) es.length, 0) := by
 obtain ⟨g1, g2, g3⟩ := agP_ok hk (cloB_iff.1 hc)
 have hpl : ∀ j, j < es.length → plF (srN es.length (agP N es)) j = agP N es j := fun j hj => plF_srN _ hj
 have hw : withinB 0 60 (srN es.length (agP N es)) = true := within_all fun x hx => by
  obtain ⟨j, _, rfl⟩ := List.mem_map.1 hx
  have := g3 j
  omega
 have hz : zB (sF es (plF (srN es.length (agP N es)))) = true := by
  rw [zB, List.all_eq_true]
  intro x _
  rw [decide_eq_true_eq, sF, sP_congr hpl x _ (Nat.le_refl _)]
  exact g2 x
 rw [ckG, if_neg (by rw [srN_len]; omega), if_neg (by rw [hw]; decide), if_pos (by rw [hz, hc]; rfl), sumP_congr hpl _ (Nat.le_refl _)]
end Go.Ev.YtjcabpldgdafeaaC
