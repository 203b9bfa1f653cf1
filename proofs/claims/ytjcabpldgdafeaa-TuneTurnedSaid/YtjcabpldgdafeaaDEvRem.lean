/- Remainders, bits and conversions of small numbers; parts of slices that grow. No condition but those that stand in each. -/
import Derived.Test.YtjcabpldgdafeaaDEvMore
set_option linter.unusedSimpArgs false
set_option linter.unusedVariables false
namespace Go.Ev
open Go
theorem b_remI {a b : Int} (ha : 0 ≤ a) (hb : 0 < b) : binA .rem (.int .i64 a) (.int .i64 b) = .ret (.int .i64 (a % b)) := by
 simp only [binA, binI, if_true]
 rw [if_neg (by omega), Int.tmod_eq_emod_of_nonneg ha]
theorem Own.keyLt {lo : Nat} {h : Heap} {v : AV} {k : IntKind} {l : List Int} (ho : Own lo h v k l) : ∀ j, keyOf v = some j → j < h.length := by
 rcases ho with ⟨_, rfl⟩ | ⟨key, ver, hk, rfl, hH⟩
 ·intro j hj; simp [keyOf] at hj
 ·intro j hj
  obtain rfl : key = j := by simpa [keyOf] using hj
  exact getH_lt hH (by simp)
end Go.Ev
