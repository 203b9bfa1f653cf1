/- Slurs put behind slurs; a book with one slur more. No condition but those that stand in each. -/
import Derived.Test.YtjcabpldgdafeaaEL4Tnl
set_option linter.unusedSimpArgs false
set_option linter.unusedVariables false
namespace Go.Ev.YtjcabpldgdafeaaC
open Go Go.Proofs Go.Ev
theorem app_fst {kk b : Nat} {ex : Bool} {l : List Ed} {h : Heap} (hl : l ≠ []) (hr : l.length * b ≤ 1099511627776) : evAppend kk (some 2) b (.slice (some 2) [] true) (.slice (some 2) (l.map edA) ex) h = .ret (.oslice kk (getH h kk).next (some 2) 0 l.length none, setH h kk (.cells (getH h kk).next (edCs l))) := by
 have hroom := room_ok hr
 have h1 : ¬ l.length = 0 := fun h => hl (List.length_eq_zero_iff.1 h)
 have hf : flat (some 2) ([] : List AV) = [] := rfl
 simp only [evAppend, cellsOfSlice, List.length_map, flat_ed, List.length_nil, Nat.zero_add, hroom, ne_eq, not_true_eq_false, if_false, Bool.true_eq_false, or_self, h1, hf, List.nil_append]
theorem app_own {kk b key ver : Nat} {ex : Bool} {l l2 : List Ed} {h : Heap} (hH : getH h key = .cells ver (edCs l)) (h2 : l2 ≠ []) (hr : (l.length + l2.length) * b ≤ 1099511627776) : evAppend kk (some 2) b (.oslice key ver (some 2) 0 l.length none) (.slice (some 2) (l2.map edA) ex) h = .ret (.oslice key (ver + 1) (some 2) 0 (l ++ l2).length none, setH h key (.cells (ver + 1) (edCs (l ++ l2)))) := by
 have hroom := room_ok hr
 have hc := edCs_len l
 have h1 : ¬ l2.length = 0 := fun h => h2 (List.length_eq_zero_iff.1 h)
 have h3 : ¬ (l.length + l2.length) * 2 ≤ l.length * 2 := by omega
 have hcs := edCs_app l l2
 simp only [evAppend, cellsOfSlice, hH, hroom, gsize, List.length_map, flat_ed, Nat.zero_add, ne_eq, not_true_eq_false, if_false, or_self, h1, hc, h3, Nat.lt_irrefl, and_self, if_true, List.length_append, hcs]
theorem app_no1 {kk b : Nat} {ex : Bool} {h : Heap} : evAppend kk (some 2) b (.slice (some 2) [] true) (.slice (some 2) [] ex) h = .ret (.slice (some 2) [] true, h) := by
 have hroom : room 0 b = true := room_ok (by omega)
 simp only [evAppend, cellsOfSlice, List.length_nil, Nat.zero_add, hroom, ne_eq, not_true_eq_false, if_false, Bool.true_eq_false, or_self, if_true]
theorem app_no2 {kk b key ver n : Nat} {ex : Bool} {h : Heap} : evAppend kk (some 2) b (.oslice key ver (some 2) 0 n none) (.slice (some 2) [] ex) h = .ret (.oslice key ver (some 2) 0 n none, h) := by
 simp only [evAppend, cellsOfSlice, List.length_nil, ne_eq, not_true_eq_false, if_false, if_true]
theorem frz_eds {h : Heap} {key ver n : Nat} {c : Option Nat} {l : List Ed} (hH : getH h key = .cells ver (edCs l)) : freeze h (n + 2) (.oslice key ver (some 2) 0 l.length c) = .ret (eds l) := by
 have e : ((edCs l).drop 0).take (l.length * gsize (some 2)) = edCs l := by rw [List.drop_zero, List.take_of_length_le (by rw [edCs_len]; exact Nat.le_refl _)]
 rw [freeze]
 simp only [hH]
 rw [if_pos ⟨trivial, by rw [edCs_len]; simp [gsize]⟩, e, frz_edCs]
 show Res.ret (AV.slice (some 2) (grouped (some 2) l.length (edCs l)) false) = _
 rw [grp_ed]
end Go.Ev.YtjcabpldgdafeaaC
