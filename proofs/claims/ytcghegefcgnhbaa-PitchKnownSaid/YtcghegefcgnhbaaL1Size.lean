/- The sizes of a chain: Compact of what is sorted, and the distances. -/
import Derived.Test.YtcghegefcgnhbaaL1Pl
import Derived.Test.YtcghegefcgnhbaaL1Walk2
set_option linter.unusedSimpArgs false
set_option linter.unusedVariables false
namespace Go.Ev.YtcghegefcgnhbaaC
open Go Go.Proofs

attribute [local irreducible] Res.all evC evLoop evOps evOper evOp evFn evCall freeze G GO GV GP GC R
set_option maxRecDepth 100000

/-! ### Compact -/
def cptN (l : List Int) (k : Nat) : List Int := ((List.range k).filter fun j => j == 0 || (l.getD j 0 != l.getD (j - 1) 0)).map fun j => l.getD j 0
theorem cptN_new {l : List Int} {j : Nat} (h : j = 0 ∨ l.getD j 0 ≠ l.getD (j - 1) 0) : cptN l (j + 1) = cptN l j ++ [l.getD j 0] := by
  have : (j == 0 || (l.getD j 0 != l.getD (j - 1) 0)) = true := by simpa using h
  simp only [cptN, List.range_succ, List.filter_append, List.map_append, List.filter_cons, this, if_true, List.filter_nil, List.map_cons, List.map_nil]
theorem cptN_old {l : List Int} {j : Nat} (h0 : j ≠ 0) (h : l.getD j 0 = l.getD (j - 1) 0) : cptN l (j + 1) = cptN l j := by
  have : (j == 0 || (l.getD j 0 != l.getD (j - 1) 0)) = false := by
    rw [Bool.eq_false_iff]
    rw [h]; simp [h0]
  simp only [cptN, List.range_succ, List.filter_append, List.map_append, List.filter_cons, this, List.filter_nil, List.map_nil, List.append_nil, Bool.false_eq_true, if_false]
theorem cptN_len (l : List Int) (k : Nat) : (cptN l k).length ≤ k := by
  have := List.length_filter_le (fun j => j == 0 || (l.getD j 0 != l.getD (j - 1) 0)) (List.range k)
  simpa [cptN] using this
theorem getD_of {l : List Int} {i : Nat} {x : Int} (h : l[i]? = some x) : l.getD i 0 = x := by simp [List.getD, h]
theorem take_set_succ {α : Type} (c : List α) (k : Nat) (a : α) (hk : k < c.length) : (c.set k a).take (k + 1) = c.take k ++ [a] := by
  apply List.ext_getElem?
  intro i
  rw [List.getElem?_take, List.getElem?_set, List.getElem?_append, List.getElem?_take]
  simp only [List.length_take]
  rcases Nat.lt_trichotomy i k with h | h | h
  · rw [if_pos (by omega), if_neg (by omega), if_pos (by omega), if_pos h]
  · subst h
    rw [if_pos (by omega), if_pos rfl, if_pos hk, if_neg (by omega)]
    have : i - min i c.length = 0 := by omega
    rw [this]
    rfl
  · rw [if_neg (by omega), if_neg (by omega), List.getElem?_eq_none (by simp; omega)]
theorem splice_zero (c : List Int) (k : Nat) (hk : k ≤ c.length) : splice (c.map (AV.int .i64)) k (List.replicate (c.length - k) (AV.int .i64 0)) = (c.take k ++ List.replicate (c.length - k) 0).map (.int .i64) := by
  apply List.ext_getElem?
  intro i
  rw [getElem?_splice, List.map_append, List.getElem?_append, List.map_take]
  simp only [List.length_replicate, List.length_map, List.length_take, List.map_replicate]
  by_cases h : i < k
  · rw [if_neg (by omega), if_pos (by omega), List.getElem?_take, if_pos h]
  · rw [if_neg (by omega : ¬ i < min k c.length)]
    have : min k c.length = k := by omega
    rw [this]
    split
    · rfl
    · rw [List.getElem?_eq_none (by simp; omega), List.getElem?_eq_none (by simp; omega)]

set_option maxHeartbeats 1000000 in
theorem raw_Compact {h : Heap} {lo : Nat} {x : AV} {l : List Int} (hO : Own lo h x .i64 l) (hl : 0 < l.length) (hl2 : l.length ≤ 1000000) (n : Nat) (V : AV × Heap → Prop) (hV : ∀ v h', (∀ k, freeze h' (k + 2) v = .ret (.slice none ((cptN l l.length).map (.int .i64)) false)) → V (v, h')) :
    (evCall T (n + 1) true (.fn 81) [x] h).all V := by
  rcases hO with ⟨rfl, rfl⟩ | ⟨key, ver, hk, rfl, hH⟩
  · simp at hl
  rw [raw_enter t81]
  have hkl : key < h.length := getH_lt hH (by simp)
  have hH0 : getH (h ++ List.replicate 61 AObj.none) key = .cells ver (l.map (.int .i64)) := by rw [getH_append_none]; exact hH
  have all : cptN l l.length = l.take l.length → ∀ h' : Heap, getH h' key = .cells ver (l.map (.int .i64)) → V (.oslice key ver none 0 l.length none, h') := fun e1 h' hh => hV _ _ fun k => by
    rw [frz_own hh rfl, e1, List.take_length]
  by_cases h2 : (l.length : Int) < 2
  · simp (disch := first | assumption | omega) only [c81, go_sem, ↓reduceIte, reduceIte, Nat.reduceEqDiff, Nat.reduceAdd, Nat.reduceMul, reduceCtorEq, Nat.reduceDiv, Nat.reduceLeDiff, Nat.reduceLT, Nat.reduceSub, h2]
    refine all ?_ _ hH0
    obtain ⟨a, rfl⟩ : ∃ a, l = [a] := by
      cases l with
      | nil => simp at hl
      | cons a r => exact ⟨a, by cases r with | nil => rfl | cons b r => simp at h2; omega⟩
    rfl
  simp (disch := first | assumption | omega) only [c81, go_sem, ↓reduceIte, reduceIte, Nat.reduceEqDiff, Nat.reduceAdd, Nat.reduceMul, reduceCtorEq, Nat.reduceDiv, Nat.reduceLeDiff, Nat.reduceLT, Nat.reduceSub, h2]
  refine m_loop (fun M st => ∃ (k : Nat), M = l.length - k ∧ 1 ≤ k ∧ k ≤ l.length ∧ At st.env [(0, .oslice key ver none 0 l.length none), (3, .int .i64 k)] ∧ getH st.heap key = .cells ver (l.map (.int .i64)) ∧ cptN l k = l.take k) (l.length - 1) (by omega)
    ⟨1, by omega, by omega, by omega, by simp only [go_sem, ↓reduceIte, reduceIte, Nat.reduceEqDiff, Nat.reduceAdd, Nat.reduceMul, reduceCtorEq, Nat.reduceDiv, Nat.reduceLeDiff, Nat.reduceLT, Nat.reduceSub], hH0, ?_⟩ ?_
  · cases l with
    | nil => simp at hl
    | cons a r => rfl
  rintro M e h1 hM ⟨k, rfl, hk1, hkl, hE, hH1, hc⟩ P hP
  simp only [At_cons, At_nil] at hE hH1
  obtain ⟨f0, f3, -⟩ := hE
  by_cases hlt : k < l.length
  · obtain ⟨a, ha⟩ := get_ex hlt
    obtain ⟨b, hb⟩ := get_ex (l := l) (i := k - 1) (by omega)
    have hk1' : (k : Int) - 1 = ((k - 1 : Nat) : Int) := by omega
    have hlt1 : k - 1 < l.length := by omega
    by_cases hq : a = b
    case neg =>
      have hab : (a == b) = false := by simpa using hq
      simp (disch := first | assumption | omega) only [go_sem, ↓reduceIte, reduceIte, Nat.reduceEqDiff, Nat.reduceAdd, Nat.reduceMul, reduceCtorEq, Nat.reduceDiv, Nat.reduceLeDiff, Nat.reduceLT, Nat.reduceSub, f0, f3, hlt, hlt1, hH1, ha, hb, hk1', hab]
      refine hP (l.length - (k + 1)) _ (by omega) ⟨k + 1, rfl, by omega, by omega, by simp only [go_sem, ↓reduceIte, reduceIte, Nat.reduceEqDiff, Nat.reduceAdd, Nat.reduceMul, reduceCtorEq, Nat.reduceDiv, Nat.reduceLeDiff, Nat.reduceLT, Nat.reduceSub, f0], hH1, ?_⟩
      rw [cptN_new (.inr (by rw [getD_of ha, getD_of hb]; exact hq)), hc, getD_of ha, List.take_add_one, ha]
      rfl
    subst hq
    simp (disch := first | assumption | omega) only [go_sem, ↓reduceIte, reduceIte, Nat.reduceEqDiff, Nat.reduceAdd, Nat.reduceMul, reduceCtorEq, Nat.reduceDiv, Nat.reduceLeDiff, Nat.reduceLT, Nat.reduceSub, f0, f3, hlt, hlt1, hH1, ha, hb, hk1', beq_self_eq_true]
    rw [slA_from_own (n := k) (k := .i64) (by simp only [go_sem, ↓reduceIte, reduceIte, Nat.reduceEqDiff, Nat.reduceAdd, Nat.reduceMul, reduceCtorEq, Nat.reduceDiv, Nat.reduceLeDiff, Nat.reduceLT, Nat.reduceSub, f3]) (by omega)]
    simp (disch := first | assumption | omega) only [go_sem, ↓reduceIte, reduceIte, Nat.reduceEqDiff, Nat.reduceAdd, Nat.reduceMul, reduceCtorEq, Nat.reduceDiv, Nat.reduceLeDiff, Nat.reduceLT, Nat.reduceSub, f0, f3, hlt]
    have hK : cptN l (k + 1) = l.take k := by
      rw [cptN_old (by omega) (by rw [getD_of ha, getD_of hb]), hc]
    clear hP hM
    generalize k = K0 at *
    refine m_loop (fun M st => ∃ (i k : Nat) (c : List Int), M = l.length - K0 - i ∧ 1 ≤ i ∧ K0 + i ≤ l.length ∧ c.length = l.length ∧ k < K0 + i ∧ c.take k = cptN l (K0 + i) ∧ (∀ j, K0 + i - 1 ≤ j → c[j]? = l[j]?) ∧
      At st.env [(0, .oslice key ver none 0 l.length none), (3, .int .i64 k), (4, .oslice key ver none K0 (l.length - K0) none), (5, .int .i64 i)] ∧ getH st.heap key = .cells ver (c.map (.int .i64))) (l.length - K0 - 1) (by omega)
      ⟨1, K0, l, rfl, by omega, by omega, rfl, by omega, hK.symm, fun _ _ => rfl, by simp only [go_sem, ↓reduceIte, reduceIte, Nat.reduceEqDiff, Nat.reduceAdd, Nat.reduceMul, reduceCtorEq, Nat.reduceDiv, Nat.reduceLeDiff, Nat.reduceLT, Nat.reduceSub, f0, f3], hH1⟩ ?_
    clear f0 f3 hH1 hK hb ha hc
    rintro M e h1 hM ⟨i, k, c, rfl, hi, hiK, hcl, hkK, hck, hcj, hE, hH1⟩ P2 hP2
    simp only [At_cons, At_nil] at hE hH1
    obtain ⟨f0, f3, f4, f5, -⟩ := hE
    by_cases hlt2 : i < l.length - K0
    · obtain ⟨a, ha⟩ := get_ex (l := l) (i := K0 + i) (by omega)
      obtain ⟨b, hb⟩ := get_ex (l := l) (i := K0 + (i - 1)) (by omega)
      have ha' : c[K0 + i]? = some a := by rw [hcj _ (by omega)]; exact ha
      have hb' : c[K0 + (i - 1)]? = some b := by rw [hcj _ (by omega)]; exact hb
      have hb2 : l[K0 + i - 1]? = some b := by rw [show K0 + i - 1 = K0 + (i - 1) by omega]; exact hb
      have hi1 : (i : Int) - 1 = ((i - 1 : Nat) : Int) := by omega
      have hlt3 : i - 1 < l.length - K0 := by omega
      by_cases hq : a = b
      · have hab : (a != b) = false := by simpa using hq
        simp (disch := first | assumption | omega) only [go_sem, ↓reduceIte, reduceIte, Nat.reduceEqDiff, Nat.reduceAdd, Nat.reduceMul, reduceCtorEq, Nat.reduceDiv, Nat.reduceLeDiff, Nat.reduceLT, Nat.reduceSub, f0, f3, f4, f5, hlt2, hlt3, hH1, ha', hb', hi1, hab]
        refine hP2 (l.length - K0 - (i + 1)) _ (by omega) ⟨i + 1, k, c, rfl, by omega, by omega, hcl, by omega, ?_, fun j hj => hcj j (by omega), by simp only [go_sem, ↓reduceIte, reduceIte, Nat.reduceEqDiff, Nat.reduceAdd, Nat.reduceMul, reduceCtorEq, Nat.reduceDiv, Nat.reduceLeDiff, Nat.reduceLT, Nat.reduceSub, f0, f3, f4], by simpa only [go_sem, ↓reduceIte, reduceIte, Nat.reduceEqDiff, Nat.reduceAdd, Nat.reduceMul, reduceCtorEq, Nat.reduceDiv, Nat.reduceLeDiff, Nat.reduceLT, Nat.reduceSub] using hH1⟩
        rw [hck, ← Nat.add_assoc, cptN_old (by omega) (by rw [getD_of ha, getD_of hb2]; exact hq)]
      · have hab : (a != b) = true := by simpa using hq
        have hkl2 : k < l.length := by omega
        simp (disch := first | assumption | omega) only [go_sem, ↓reduceIte, reduceIte, Nat.reduceEqDiff, Nat.reduceAdd, Nat.reduceMul, reduceCtorEq, Nat.reduceDiv, Nat.reduceLeDiff, Nat.reduceLT, Nat.reduceSub, f0, f3, f4, f5, hlt2, hlt3, hH1, ha', hb', hi1, hab, hkl2]
        refine ⟨by omega, hP2 (l.length - K0 - (i + 1)) _ (by omega) ⟨i + 1, k + 1, c.set k a, rfl, by omega, by omega, by rw [List.length_set]; exact hcl, by omega, ?_, fun j hj => ?_, by simp only [go_sem, ↓reduceIte, reduceIte, Nat.reduceEqDiff, Nat.reduceAdd, Nat.reduceMul, reduceCtorEq, Nat.reduceDiv, Nat.reduceLeDiff, Nat.reduceLT, Nat.reduceSub, f0, f4], by simp only [go_sem, ↓reduceIte, reduceIte, Nat.reduceEqDiff, Nat.reduceAdd, Nat.reduceMul, reduceCtorEq, Nat.reduceDiv, Nat.reduceLeDiff, Nat.reduceLT, Nat.reduceSub]; first | done | rw [set_map] | rw [← set_map]⟩⟩
        · rw [take_set_succ _ _ _ (by omega), hck, ← Nat.add_assoc, cptN_new (.inr (by rw [getD_of ha, getD_of hb2]; exact hq)), getD_of ha]
        · rw [List.getElem?_set, if_neg (by omega)]
          exact hcj j (by omega)
    · obtain rfl : i = l.length - K0 := by omega
      have hkn : k < l.length := by omega
      simp (disch := first | assumption | omega) only [go_sem, ↓reduceIte, reduceIte, Nat.reduceEqDiff, Nat.reduceAdd, Nat.reduceMul, reduceCtorEq, Nat.reduceDiv, Nat.reduceLeDiff, Nat.reduceLT, Nat.reduceSub, f0, f3, f4, f5, hlt2]
      rw [slA_from_own (n := k) (k := .i64) (by simp only [go_sem, ↓reduceIte, reduceIte, Nat.reduceEqDiff, Nat.reduceAdd, Nat.reduceMul, reduceCtorEq, Nat.reduceDiv, Nat.reduceLeDiff, Nat.reduceLT, Nat.reduceSub, f3]) (by omega)]
      have hcl2 : ¬ l.length - k = 0 := by omega
      have hcA : ∀ cap, clA (.int .i64 0) h1 (.oslice key ver none k (l.length - k) cap) = .ret (.undef, setH h1 key (.cells ver ((c.take k ++ List.replicate (l.length - k) 0).map (.int .i64)))) := fun cap => by
        simp only [clA, hH1]
        rw [if_pos ⟨trivial, by simp; omega, rfl⟩, if_neg hcl2]
        rw [← hcl, splice_zero _ _ (by omega), hcl]
      simp (disch := first | assumption | omega) only [go_sem, ↓reduceIte, reduceIte, Nat.reduceEqDiff, Nat.reduceAdd, Nat.reduceMul, reduceCtorEq, Nat.reduceDiv, Nat.reduceLeDiff, Nat.reduceLT, Nat.reduceSub, f0, f3, f4, f5, hcA]
      rw [slA_to_own (n := k) (k := .i64) (by simp only [go_sem, ↓reduceIte, reduceIte, Nat.reduceEqDiff, Nat.reduceAdd, Nat.reduceMul, reduceCtorEq, Nat.reduceDiv, Nat.reduceLeDiff, Nat.reduceLT, Nat.reduceSub, f3]) (by omega)]
      simp (disch := first | assumption | omega) only [go_sem, ↓reduceIte, reduceIte, Nat.reduceEqDiff, Nat.reduceAdd, Nat.reduceMul, reduceCtorEq, Nat.reduceDiv, Nat.reduceLeDiff, Nat.reduceLT, Nat.reduceSub, f0, f3, f4, f5, hcA]
      refine hV _ _ fun m => ?_
      rw [frz_part (n := k) (getH_setH_self _ _ _) (by simp; omega), List.take_append_of_le_length (by simp; omega), List.take_take, Nat.min_self, hck, show K0 + (l.length - K0) = l.length by omega]
  · obtain rfl : k = l.length := by omega
    simp (disch := first | assumption | omega) only [go_sem, ↓reduceIte, reduceIte, Nat.reduceEqDiff, Nat.reduceAdd, Nat.reduceMul, reduceCtorEq, Nat.reduceDiv, Nat.reduceLeDiff, Nat.reduceLT, Nat.reduceSub, f0, f3, hlt]
    exact all hc _ hH1

end Go.Ev.YtcghegefcgnhbaaC
