/- Copies and clearings of whole slices. No condition. -/
import Derived.Test.YtadneamkkepknaaEvMapW
set_option linter.unusedSimpArgs false
set_option linter.unusedVariables false
namespace Go.Ev
open Go

theorem cs_ints (h : Heap) (l : List Int) (k : IntKind) (ex : Bool) : cellsOfSlice h (.slice none (l.map (.int k)) ex) = some (none, l.length, l.map (.int k)) := by simp [cellsOfSlice, flat]

theorem cp_full {h : Heap} {key ver n : Nat} {c : Option Nat} {cs new : List AV} (hH : getH h key = .cells ver cs) (hc : cs.length = n) (hn : new.length = n) (h0 : 0 < n) : cpA none h (.oslice key ver none 0 n c) (some (none, n, new)) = .ret (.int .i64 n, setH h key (.cells ver new)) := by
  have hm : Nat.min n n = n := Nat.min_self n
  have h1 : ¬ n = 0 := by omega
  simp only [cpA, hH, gsize, Nat.mul_one, Nat.zero_add, hc, Nat.le_refl, and_self, if_true, hm, h1, if_false]
  rw [List.take_of_length_le (by omega), splice_full _ _ (by omega)]

theorem cp_none {h : Heap} {key ver : Nat} {c : Option Nat} {cs new : List AV} (hH : getH h key = .cells ver cs) : cpA none h (.oslice key ver none 0 0 c) (some (none, 0, new)) = .ret (.int .i64 0, h) := by
  have hm : Nat.min 0 0 = 0 := rfl
  simp only [cpA, hH, gsize, Nat.mul_one, Nat.zero_add, Nat.zero_le, and_self, if_true, hm]

theorem cl_full {h : Heap} {key ver n : Nat} {c : Option Nat} {cs : List AV} {z : AV} (hH : getH h key = .cells ver cs) (hc : cs.length = n) (hz : oneB z = true) (h0 : 0 < n) : clA z h (.oslice key ver none 0 n c) = .ret (.undef, setH h key (.cells ver (List.replicate n z))) := by
  have h1 : ¬ n = 0 := by omega
  simp only [clA, hH, Nat.zero_add, hc, Nat.le_refl, hz, and_self, if_true, h1, if_false]
  rw [splice_full _ _ (by simp [hc])]
theorem cl_none {h : Heap} {key ver : Nat} {c : Option Nat} {cs : List AV} {z : AV} (hH : getH h key = .cells ver cs) (hz : oneB z = true) : clA z h (.oslice key ver none 0 0 c) = .ret (.undef, h) := by
  simp only [clA, hH, Nat.zero_add, Nat.zero_le, hz, and_self, if_true]

theorem cl_any {h : Heap} {key ver n : Nat} {c : Option Nat} {cs : List AV} {k : IntKind} (hH : getH h key = .cells ver cs) (hc : cs.length = n) : ∃ h', clA (.int k 0) h (.oslice key ver none 0 n c) = .ret (.undef, h') ∧ getH h' key = .cells ver ((List.replicate n (0 : Int)).map (.int k)) ∧ (∀ j, j ≠ key → getH h' j = getH h j) ∧ h.length ≤ h'.length := by
  by_cases h0 : n = 0
  · subst h0
    obtain rfl : cs = [] := List.length_eq_zero_iff.1 hc
    exact ⟨h, cl_none hH rfl, hH, fun _ _ => rfl, Nat.le_refl _⟩
  · refine ⟨_, cl_full hH hc rfl (by omega), ?_, fun j hj => getH_setH_ne _ _ _ _ (Ne.symm hj), by rw [length_setH]; omega⟩
    rw [getH_setH_self, List.map_replicate]

/-! ### parts of a slice that grows -/
theorem slA_to_own {e : Env} {hi : IX} {key ver len n : Nat} {k : IntKind} (h1 : hi.ev e = .int k n) (hn : n ≤ len) : slA none e none (some hi) none (.oslice key ver none 0 len none) = .ret (.oslice key ver none 0 n none) := by
  have h2 : (0 : Int) ≤ n ∧ (n : Int) ≤ len := by omega
  simp [slA, sliceB, h1, boundOf, Res.bind, gsize, hn]
theorem slA_from_own {e : Env} {lo : IX} {key ver len n : Nat} {k : IntKind} (h1 : lo.ev e = .int k n) (hn : n ≤ len) : slA none e (some lo) none none (.oslice key ver none 0 len none) = .ret (.oslice key ver none n (len - n) none) := by
  simp [slA, sliceB, h1, boundOf, Res.bind, gsize, hn]
theorem cs_own {h : Heap} {key ver off len : Nat} {cap : Option Nat} {k : IntKind} {l : List Int} (hH : getH h key = .cells ver (l.map (.int k))) (hl : off + len ≤ l.length) : cellsOfSlice h (.oslice key ver none off len cap) = some (none, len, ((l.drop off).take len).map (.int k)) := by
  simp only [cellsOfSlice, hH, gsize, Nat.mul_one, List.length_map]
  rw [if_pos ⟨trivial, hl⟩, ← List.map_drop, ← List.map_take]

/-- append, of nothing too -/
theorem gp_append0 {call : Caller} {base : Nat} {Q : EX × St → Prop} {d : Option Nat} {L : List IOper} {ks : List Kont} {e : Env} {h : Heap} {lo b m kk : Nat} {x y : AV} {k : IntKind} {l l2 : List Int} (hkk : kk = h.length) (hx : Own lo h x k l) (hlo : lo ≤ h.length) (hy : cellsOfSlice h y = some (none, m, l2.map (.int k))) (hm : m = l2.length) (hr : (l.length + m) * b ≤ 1099511627776)
    (H : ∀ x' h', Own lo h' x' k (l ++ l2) → (∀ j, j < lo → getH h' j = getH h j) → h.length ≤ h'.length → (∀ j, j < h.length → keyOf x ≠ some j → getH h' j = getH h j) → (∀ j, keyOf x' = some j → keyOf x = some j ∨ j = h.length) → GO call base Q L ks ⟨setDst e d x', h'⟩) :
    GP call base Q d L ks e (evAppend kk none b x y h) := by
  by_cases h0 : 0 < m
  · exact gp_append hkk hx hlo hy hm h0 hr H
  · obtain rfl : m = 0 := by omega
    obtain rfl : l2 = [] := List.length_eq_zero_iff.1 hm.symm
    have hroom : room 0 b = true := room_ok (by omega)
    have : evAppend kk none b x y h = .ret (x, h) := by
      rcases hx with ⟨rfl, rfl⟩ | ⟨key, ver, hk, rfl, hH⟩
      · simp only [Nat.add_zero, evAppend, hy, List.length_nil, hroom, ne_eq, not_true_eq_false, if_false, Bool.true_eq_false, or_self, if_true]
      · simp only [evAppend, hy, ne_eq, not_true_eq_false, if_false, if_true]
    rw [this, gp_ret]
    exact H x h (by rw [List.append_nil]; exact hx) (fun _ _ => rfl) (Nat.le_refl _) (fun _ _ _ => rfl) fun j hj => .inl hj

end Go.Ev
