/- Copies and clearings of whole slices. No condition. -/
import Derived.Test.YtadneamkkepknaaEvMapW
set_option linter.unusedSimpArgs false
set_option linter.unusedVariables false
namespace Go.Ev
open Go

theorem cs_ints (h : Heap) (l : List Int) (k : IntKind) (ex : Bool) : cellsOfSlice h (.slice none (l.map (.int k)) ex) = some (none, l.length, l.map (.int k)) := by simp [cellsOfSlice, flat]

theorem cp_full {h : Heap} {key ver n : Nat} {c : Option Nat} {cs new : List AV} (hH : getH h key = .cells ver cs) (hc : cs.length = n) (hn : new.length = n) (h0 : 0 < n) : cpA none h (.oslice key ver none 0 n c) (some (none, n, new)) = .ret (.int .i64 n, setH h key (.cells ver new)) := by
  have hm : Nat.min n n = n := Nat.min_self n
  have h1 : ¬ n = 0 := by omega
  simp only [cpA, hH, gsize, Nat.mul_one, Nat.zero_add, hc, Nat.le_refl, and_self, if_true, hm, h1, if_false]
  rw [List.take_of_length_le (by omega), splice_full _ _ (by omega)]

theorem cp_none {h : Heap} {key ver : Nat} {c : Option Nat} {cs new : List AV} (hH : getH h key = .cells ver cs) : cpA none h (.oslice key ver none 0 0 c) (some (none, 0, new)) = .ret (.int .i64 0, h) := by
  have hm : Nat.min 0 0 = 0 := rfl
  simp only [cpA, hH, gsize, Nat.mul_one, Nat.zero_add, Nat.zero_le, and_self, if_true, hm]

theorem cl_full {h : Heap} {key ver n : Nat} {c : Option Nat} {cs : List AV} {z : AV} (hH : getH h key = .cells ver cs) (hc : cs.length = n) (hz : oneB z = true) (h0 : 0 < n) : clA z h (.oslice key ver none 0 n c) = .ret (.undef, setH h key (.cells ver (List.replicate n z))) := by
  have h1 : ¬ n = 0 := by omega
  simp only [clA, hH, Nat.zero_add, hc, Nat.le_refl, hz, and_self, if_true, h1, if_false]
  rw [splice_full _ _ (by simp [hc])]
theorem cl_none {h : Heap} {key ver : Nat} {c : Option Nat} {cs : List AV} {z : AV} (hH : getH h key = .cells ver cs) (hz : oneB z = true) : clA z h (.oslice key ver none 0 0 c) = .ret (.undef, h) := by
  simp only [clA, hH, Nat.zero_add, Nat.zero_le, hz, and_self, if_true]

theorem cl_any {h : Heap} {key ver n : Nat} {c : Option Nat} {cs : List AV} {k : IntKind} (hH : getH h key = .cells ver cs) (hc : cs.length = n) : ∃ h', clA (.int k 0) h (.oslice key ver none 0 n c) = .ret (.undef, h') ∧ getH h' key = .cells ver ((List.replicate n (0 : Int)).map (.int k)) ∧ (∀ j, j ≠ key → getH h' j = getH h j) ∧ h.length ≤ h'.length := by
  by_cases h0 : n = 0
  · subst h0
    obtain rfl : cs = [] := List.length_eq_zero_iff.1 hc
    exact ⟨h, cl_none hH rfl, hH, fun _ _ => rfl, Nat.le_refl _⟩
  · refine ⟨_, cl_full hH hc rfl (by omega), ?_, fun j hj => getH_setH_ne _ _ _ _ (Ne.symm hj), by rw [length_setH]; omega⟩
    rw [getH_setH_self, List.map_replicate]

end Go.Ev
