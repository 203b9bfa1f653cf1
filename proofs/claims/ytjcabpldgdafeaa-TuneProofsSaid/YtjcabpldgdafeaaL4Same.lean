/- The first tune that the program finds is the reference's. In plain mathematics: no program in sight. Conditions stand in each. -/
import Derived.Test.YtjcabpldgdafeaaL4Rft
import Derived.Test.YtjcabpldgdafeaaL4Fst
set_option linter.unusedSimpArgs false
set_option linter.unusedVariables false
namespace Go.Ev.YtjcabpldgdafeaaC
open Go Go.Ev

theorem rsL_rst (es : List Ed) (wo : List Int) : rsL es wo es.length = rst es (ldB es (-1) wo) := rfl
theorem ldB_all (es : List Ed) (wo : List Int) (i : Nat) : ldB es (-1) wo i = !wo.contains (i : Int) := rfl
theorem rst_lt {N : Nat} {es : List Ed} (hn : ∀ q ∈ es, q.1 < N ∧ q.2 < N) (K : Nat → Bool) : ∀ q ∈ rst es K, q.1 < N ∧ q.2 < N := fun q hq => by
  obtain ⟨j, hj, rfl⟩ := List.mem_map.1 hq
  have hj2 := List.mem_range.1 (List.mem_filter.1 hj).1
  rw [gE_get hj2]
  exact hn _ (List.getElem_mem hj2)
/-- the rest can be played from a note on just if the program says so -/
theorem plB_tw {N : Nat} {es : List Ed} (hk : OkB N es) {a : Nat} (ha : a < 8) (wo : List Int) : plB N es a wo = decide (0 < tw (rst es (ldB es (-1) wo)).length (rst es (ldB es (-1) wo)) a) := by
  unfold plB
  rw [rsL_rst]
  have hlt := rst_lt hk.lt (ldB es (-1) wo)
  generalize rst es (ldB es (-1) wo) = rs at *
  by_cases hr : rs = []
  · subst hr
    simp [tw]
  · rw [show decide (rs = []) = false by simpa using hr, Bool.false_or]
    have h1 : (nI4 (strL N rs)).contains (a : Int) = decide (a ∈ strL N rs) := hasE_mem
    rw [h1, Bool.eq_iff_iff, decide_eq_true_eq, decide_eq_true_eq, mem_strL hr hk.n8 hlt]
    exact ⟨fun h => h.2, fun h => ⟨ha, h⟩⟩

def SetOut (m s : Nat) (out : List Nat) : Prop := ∀ i, i < m → bitK s i = !(nI4 out).contains (i : Int)
theorem setOut_push {m s : Nat} {out : List Nat} (h : SetOut m s out) (i : Nat) : SetOut m (s ||| 2 ^ i) (out ++ [i]) := fun j hj => by
  rw [bitK_or, h j hj, Bool.eq_iff_iff]
  simp [nI4]
  omega
theorem gd_same {N : Nat} {es : List Ed} (hk : OkB N es) {s : Nat} {out : List Nat} (h : SetOut es.length s out) (a : Int) {i : Nat} (hi : i < es.length) : gdP N es a out i = gdR es s a i := by
  have hq := hk.lt8 _ (List.getElem_mem hi)
  have e1 : nI4 out ++ [(i : Int)] = nI4 (out ++ [i]) := by simp [nI4]
  unfold gdP gdR
  have e2 : es.getD i (0, 0) = gE es i := rfl
  rw [e2, e1, plB_tw hk (by rw [gE_get hi]; exact hq.2)]
  have e3 : rst es (ldB es (-1) (nI4 (out ++ [i]))) = rst es (bitK (s ||| 2 ^ i)) := rst_congr fun j hj => by
    rw [setOut_push h i j hj]; exact ldB_all es _ j
  rw [e3]
  have e4 : tw (rst es (bitK (s ||| 2 ^ i))).length (rst es (bitK (s ||| 2 ^ i))) (gE es i).2 = wB es (s ||| 2 ^ i) (gE es i).2 := rfl
  rw [e4]
  have h0 := (wB_box es (s ||| 2 ^ i) (gE es i).2).1
  have e5 : decide (0 < wB es (s ||| 2 ^ i) (gE es i).2) = decide (wB es (s ||| 2 ^ i) (gE es i).2 ≠ 0) := by
    rw [Bool.eq_iff_iff, decide_eq_true_eq, decide_eq_true_eq]; omega
  rw [e5]
  unfold ldB
  rw [h i hi, e2]
  cases (nI4 out).contains (i : Int) <;> cases decide (a < 0) <;> simp
theorem find_congr {p q : Nat → Bool} {m : Nat} (h : ∀ i, i < m → p i = q i) : (List.range m).find? p = (List.range m).find? q := by
  cases hq : (List.range m).find? q with
  | none =>
    rw [List.find?_range_eq_none] at hq ⊢
    exact fun i hi => by rw [h i hi]; exact hq i hi
  | some i =>
    rw [List.find?_range_eq_some] at hq ⊢
    have hi := List.mem_range.1 hq.2.1
    exact ⟨by rw [h i hi]; exact hq.1, hq.2.1, fun j hj => by rw [h j (by omega)]; exact hq.2.2 j hj⟩

/-- it can go on -/
def GoOn (es : List Ed) (s : Nat) (a : Int) : Prop := ∃ x : Nat, (a < 0 ∨ a = (x : Int)) ∧ 0 < wB es s x
theorem wB_some {es : List Ed} {s a : Nat} (hne : rst es (bitK s) ≠ []) (h : 0 < wB es s a) : ∃ i, i < es.length ∧ bitK s i = true ∧ (gE es i).1 = a ∧ wB es (s ||| 2 ^ i) (gE es i).2 ≠ 0 := by
  rw [wB_step a hne] at h
  obtain ⟨i, hi, hw⟩ := sumC_some (f := fun i => if (gE es i).1 = a then wB es (s ||| 2 ^ i) (gE es i).2 else 0) (V := (List.range es.length).filter (bitK s)) (fun e => by rw [e] at h; omega)
  obtain ⟨h1, h2⟩ := List.mem_filter.1 hi
  by_cases hg : (gE es i).1 = a
  · rw [if_pos hg] at hw
    exact ⟨i, List.mem_range.1 h1, h2, hg, hw⟩
  · exact absurd (if_neg hg) hw
theorem wB_ge {es : List Ed} {s i : Nat} (hi : i < es.length) (hb : bitK s i = true) : wB es (s ||| 2 ^ i) (gE es i).2 ≤ wB es s (gE es i).1 := by
  have hm : i ∈ (List.range es.length).filter (bitK s) := List.mem_filter.2 ⟨List.mem_range.2 hi, hb⟩
  have hne : rst es (bitK s) ≠ [] := fun h0 => by
    have := List.map_eq_nil_iff.1 h0
    rw [this] at hm; cases hm
  rw [wB_step _ hne]
  have := (sumC_nonneg (f := fun j => if (gE es j).1 = (gE es i).1 then wB es (s ||| 2 ^ j) (gE es j).2 else 0) (V := (List.range es.length).filter (bitK s)) fun j _ => by
    have := (wB_box es (s ||| 2 ^ j) (gE es j).2).1
    split <;> omega).2 i hm
  simpa using this
theorem rst_less {es : List Ed} {s i : Nat} (hi : i < es.length) (hb : bitK s i = true) : (rst es (bitK (s ||| 2 ^ i))).length + 1 = (rst es (bitK s)).length := by
  have hnd : ((List.range es.length).filter (bitK s)).Nodup := List.Nodup.sublist List.filter_sublist List.nodup_range
  have hm : i ∈ (List.range es.length).filter (bitK s) := List.mem_filter.2 ⟨List.mem_range.2 hi, hb⟩
  have h1 : (List.range es.length).filter (bitK (s ||| 2 ^ i)) = ((List.range es.length).filter (bitK s)).erase i := by
    rw [List.Nodup.erase_eq_filter hnd, List.filter_filter]
    apply List.filter_congr
    intro j _
    rw [bitK_or, Bool.eq_iff_iff]
    simp [Bool.and_comm]
  unfold rst
  rw [List.length_map, List.length_map, h1, List.length_erase_of_mem hm]
  have := List.length_pos_of_mem hm
  omega
theorem tu_same {N : Nat} {es : List Ed} (hk : OkB N es) : ∀ (k s : Nat) (a : Int) (out : List Nat), SetOut es.length s out → (rst es (bitK s)).length = k → GoOn es s a → tuR es k s a out = some (frT N es k a out)
  | 0, _, _, _, _, _, _ => rfl
  | k + 1, s, a, out, hs, hl, ⟨x, hx, hw⟩ => by
    have hne : rst es (bitK s) ≠ [] := fun h0 => by rw [h0] at hl; simp at hl
    obtain ⟨i, hi, hb, hg, hwi⟩ := wB_some hne hw
    have hgi : gdR es s a i = true := by
      unfold gdR
      rw [hb, hg]
      simp only [Bool.true_and, Bool.and_eq_true, Bool.or_eq_true, decide_eq_true_eq]
      exact ⟨by omega, hwi⟩
    have hf : (List.range es.length).find? (gdP N es a out) = (List.range es.length).find? (gdR es s a) := find_congr fun j hj => gd_same hk hs a hj
    cases hfr : (List.range es.length).find? (gdR es s a) with
    | none =>
      rw [List.find?_range_eq_none] at hfr
      have := hfr i hi
      rw [hgi] at this; simp at this
    | some j =>
      rw [hfr] at hf
      rw [List.find?_range_eq_some] at hfr
      have hj := List.mem_range.1 hfr.2.1
      have hgj := hfr.1
      simp only [gdR, Bool.and_eq_true, decide_eq_true_eq] at hgj
      have hfr2 : (List.range es.length).find? (gdR es s a) = some j := by rw [List.find?_range_eq_some]; exact hfr
      show (match (List.range es.length).find? (gdR es s a) with | none => none | some i => tuR es k (s ||| 2 ^ i) (gE es i).2 (out ++ [i])) = some (frT N es k (es.getD (((List.range es.length).find? (gdP N es a out)).getD 0) (0, 0)).2 (out ++ [((List.range es.length).find? (gdP N es a out)).getD 0]))
      rw [hfr2, hf]
      simp only [Option.getD_some]
      refine tu_same hk k _ _ _ (setOut_push hs j) ?_ ?_
      · have := rst_less hj hgj.1; omega
      · have := (wB_box es (s ||| 2 ^ j) (gE es j).2).1
        exact ⟨(gE es j).2, .inr rfl, by have := hgj.2.2; omega⟩
theorem tu_some {N : Nat} {es : List Ed} (hk : OkB N es) (h : strL N es ≠ []) : tuR es es.length 0 (-1) [] = some (frT N es es.length (-1) []) := by
  have h0 : rst es (bitK 0) = es := rst_all es fun i _ => by simp [bitK]
  refine tu_same hk es.length 0 (-1) [] (fun i _ => by simp [bitK, nI4]) (by rw [h0]) ?_
  obtain ⟨x, hx⟩ := List.exists_mem_of_ne_nil _ h
  obtain ⟨h1, h2⟩ := (mem_strL hk.ne hk.n8 hk.lt).1 hx
  exact ⟨x, .inl (by omega), by rw [wB_zero]; exact h2⟩
theorem tu_none {N : Nat} {es : List Ed} (hk : OkB N es) (h : strL N es = []) : tuR es es.length 0 (-1) [] = none := by
  obtain ⟨m, hm⟩ : ∃ m, es.length = m + 1 := ⟨es.length - 1, by have := List.length_pos_iff.2 hk.ne; omega⟩
  have hn : ∀ i, i < es.length → gdR es 0 (-1) i = false := fun i hi => by
    have hq := hk.lt8 _ (List.getElem_mem hi)
    have h1 := wB_ge (es := es) (s := 0) hi (by simp [bitK])
    rw [wB_zero, tw_none hk (by rw [gE_get hi]; exact hq.1) (by rw [h]; simp)] at h1
    have h2 := (wB_box es (0 ||| 2 ^ i) (gE es i).2).1
    have : wB es (0 ||| 2 ^ i) (gE es i).2 = 0 := by omega
    unfold gdR
    rw [this]; simp
  have hf := find_none hn
  rw [hm]
  show (match (List.range es.length).find? (gdR es 0 (-1)) with | none => none | some i => tuR es m (0 ||| 2 ^ i) (gE es i).2 ([] ++ [i])) = none
  rw [hf]
end Go.Ev.YtjcabpldgdafeaaC
