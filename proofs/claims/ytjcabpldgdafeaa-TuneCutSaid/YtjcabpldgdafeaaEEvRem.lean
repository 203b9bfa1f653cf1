/- Remainders, bits and conversions of small numbers; parts of slices that grow. No condition but those that stand in each. -/
import Derived.Test.YtjcabpldgdafeaaEEvMore
set_option linter.unusedSimpArgs false
set_option linter.unusedVariables false
namespace Go.Ev
open Go
theorem Own.keyLt {lo : Nat} {h : Heap} {v : AV} {k : IntKind} {l : List Int} (ho : Own lo h v k l) : ∀ j, keyOf v = some j → j < h.length := by
 rcases ho with ⟨_, rfl⟩ | ⟨key, ver, hk, rfl, hH⟩
 ·intro j hj; simp [keyOf] at hj
 ·intro j hj
  obtain rfl : key = j := by simpa [keyOf] using hj
  exact getH_lt hH (by simp)
end Go.Ev
