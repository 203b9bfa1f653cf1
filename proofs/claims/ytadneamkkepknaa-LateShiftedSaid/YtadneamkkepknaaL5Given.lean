/- The statements' own sequences and given work, and whether orders are fine. Contracts; conditions stand in each. -/
import Derived.Test.YtadneamkkepknaaL5LawBooks
import Derived.Test.YtadneamkkepknaaEvRem
set_option linter.unusedSimpArgs false
set_option linter.unusedVariables false
namespace Go.Ev.YtadneamkkepknaaC
open Go Go.Proofs

/-! ### what they are -/
def givenAt (by' : List Int) (i : Nat) : Nat := if by'.length = 0 then i else (by'.getD (i % by'.length) 0).toNat % (i + 1)
def given (by' : List Int) : Nat → List Int
  | 0 => []
  | k + 1 => (given by' k).take (givenAt by' k) ++ (k : Int) :: (given by' k).drop (givenAt by' k)
theorem givenAt_le (by' : List Int) (i : Nat) : givenAt by' i ≤ i := by
  unfold givenAt
  split
  · omega
  · have := Nat.mod_lt (by'.getD (i % by'.length) 0).toNat (show 0 < i + 1 by omega)
    omega
theorem given_perm (by' : List Int) : ∀ k, (given by' k).Perm (idx k)
  | 0 => List.Perm.refl _
  | k + 1 => by
    have ih := given_perm by' k
    have e : idx (k + 1) = idx k ++ [(k : Int)] := by simp [idx, List.range_succ]
    rw [given, e]
    refine List.Perm.trans ?_ (ih.append_right [(k : Int)])
    refine List.perm_middle.trans ?_
    rw [List.take_append_drop]
    exact (List.perm_append_singleton _ _).symm
theorem given_length (by' : List Int) (k : Nat) : (given by' k).length = k := by rw [(given_perm by' k).length_eq, idx_length]
theorem given_seq (by' : List Int) (n : Nat) : Seq n (given by' n) := ⟨given_length by' n, fun i hi => (given_perm by' n).mem_iff.2 (idx_mem.2 (by omega))⟩

def workedAt (o : Order) (by' : List Int) (i : Nat) : Int := if by'.length = 0 then o.lo else o.lo + (((by'.getD (i % by'.length) 0).toNat % (o.hi - o.lo + 1).toNat : Nat) : Int)
def worked (l : List Order) (by' : List Int) : List Int := l.mapIdx fun i o => workedAt o by' i
theorem worked_length (l : List Order) (by' : List Int) : (worked l by').length = l.length := by simp [worked]
theorem workedAt_bd {o : Order} (ho : Ok o) (by' : List Int) (i : Nat) : o.lo ≤ workedAt o by' i ∧ workedAt o by' i ≤ o.hi := by
  have h1 := ho.lh
  unfold workedAt
  split
  · omega
  · have := Nat.mod_lt (by'.getD (i % by'.length) 0).toNat (show 0 < (o.hi - o.lo + 1).toNat by omega)
    omega
theorem workOk_iff : ∀ (l : List Order) (w : List Int), w.length = l.length → (workOk l w = true ↔ ∀ (i : Nat) o x, l[i]? = some o → w[i]? = some x → o.lo ≤ x ∧ x ≤ o.hi)
  | [], [], _ => by simp [workOk]
  | o :: l, w :: r, h => by
    have ih := workOk_iff l r (by simpa using h)
    simp only [workOk, Bool.and_eq_true, decide_eq_true_eq, ih]
    constructor
    · rintro ⟨h1, h2⟩ i o' x h3 h4
      cases i with
      | zero => simp at h3 h4; subst h3; subst h4; exact h1
      | succ i => exact h2 i o' x (by simpa using h3) (by simpa using h4)
    · intro h1
      exact ⟨h1 0 o w rfl rfl, fun i o' x h3 h4 => h1 (i + 1) o' x (by simpa using h3) (by simpa using h4)⟩
theorem worked_ok {l : List Order} (hv : Valid l) (by' : List Int) : workOk l (worked l by') = true := by
  refine (workOk_iff l _ (worked_length l by')).2 fun i o x h1 h2 => ?_
  simp only [worked, List.getElem?_mapIdx, h1, Option.map_some, Option.some.injEq] at h2
  subst h2
  exact workedAt_bd (hv.ok o (List.mem_of_getElem? h1)) by' i
theorem side_ok {l : List Order} (hv : Valid l) (s : Int) : workOk l (side l s) = true := by
  refine (workOk_iff l _ (side_length l s)).2 fun i o x h1 h2 => ?_
  have ho := (hv.ok o (List.mem_of_getElem? h1)).lh
  simp only [side, List.getElem?_map, h1, Option.map_some, Option.some.injEq] at h2
  subst h2
  split <;> omega
theorem chkSeq_ok {l : List Order} (hv : Valid l) {s : List Int} (hs : Seq l.length s) : chkSeq l s = 0 := (chkSeq_zero l s).2 ⟨hv, hs⟩
theorem chkWork_ok {l : List Order} (hv : Valid l) {s w : List Int} (hs : Seq l.length s) (hw : w.length = l.length) (ho : workOk l w = true) : chkWork l s w = 0 := by
  unfold chkWork
  rw [if_neg (by rw [chkSeq_ok hv hs]; omega), if_neg (by omega), if_pos ho]
/-- small numbers, of a kind -/
def Small (l : List Int) : Prop := ∀ x ∈ l, 0 ≤ x ∧ x ≤ 255

attribute [local irreducible] Res.all evC evLoop evOps evOper evOp evFn evCall freeze G GO GV GP GC R
set_option maxRecDepth 100000

/-! ### 46: fine -/
theorem con_46 (l : List Order) (hl : l.length ≤ maxLen) : Con T 2 46 [ords l] (.bool (decide (chk l = 0))) := by
  refine con_intro t46 fun n hn V hV => ?_
  replace hV : ∀ b h, b = decide (chk l = 0) → V (.bool b, h) := fun b h e1 => hV _ _ (by rw [e1, frz_bool])
  by_cases h1 : 15 < l.length
  · simp (disch := first | assumption | omega) only [c46, go_sem, ↓reduceIte, reduceIte, Nat.reduceEqDiff, Nat.reduceAdd, Nat.reduceMul, reduceCtorEq, Nat.reduceDiv, Nat.reduceLeDiff, Nat.reduceLT, Nat.reduceSub, cs_17, h1]
    refine hV _ _ ?_
    have : chk l = 6 := by unfold chk; rw [if_pos (by omega)]
    rw [this]; rfl
  · have hl15 : l.length ≤ 15 := by omega
    simp (disch := first | assumption | omega) only [c46, go_sem, ↓reduceIte, reduceIte, Nat.reduceEqDiff, Nat.reduceAdd, Nat.reduceMul, reduceCtorEq, Nat.reduceDiv, Nat.reduceLeDiff, Nat.reduceLT, Nat.reduceSub, cs_17, h1, cs_24]
    refine hV _ _ ?_
    rw [Bool.eq_iff_iff]; simp

/-! ### 49: Given -/
theorem con_49 (n : Nat) (b : List Int) (hn15 : n ≤ 15) (hb : b.length ≤ 40) (hs : Small b) : Con T 1 49 [.int .i64 n, .slice none (b.map (.int .u8)) false] (ints (given b n)) := by
  refine con_intro t49 fun f hf V hV => ?_
  simp (disch := first | assumption | omega) only [c49, go_sem, ↓reduceIte, reduceIte, Nat.reduceEqDiff, Nat.reduceAdd, Nat.reduceMul, reduceCtorEq, Nat.reduceDiv, Nat.reduceLeDiff, Nat.reduceLT, Nat.reduceSub]
  refine m_loop (fun M st => ∃ (k : Nat) (v : AV), M = n - k ∧ k ≤ n ∧ At st.env [(0, .int .i64 n), (1, .slice none (b.map (.int .u8)) false), (5, v), (6, .int .i64 k)] ∧ Own 41 st.heap v .i64 (given b k) ∧ 41 ≤ st.heap.length) n (by omega)
    ⟨0, .slice none [] true, by simp, by omega, by simp [go_sem, ↓reduceIte, reduceIte, Nat.reduceEqDiff, Nat.reduceAdd, Nat.reduceMul, reduceCtorEq, Nat.reduceDiv, Nat.reduceLeDiff, Nat.reduceLT, Nat.reduceSub], own_nil .., by simp⟩ ?_
  rintro M e h hM ⟨k, v, rfl, hk, hE, hO, hlen⟩ P hP
  simp only [At_cons, At_nil] at hE hO hlen
  obtain ⟨h0, h1, h5, h6, -⟩ := hE
  have hgl := given_length b k
  by_cases hlt : k < n
  · have hat := givenAt_le b k
    by_cases hb0 : b.length = 0
    · have hb0' : ¬ (b.length : Int) > 0 := by omega
      have hga : givenAt b k = k := by simp [givenAt, hb0]
      simp (disch := first | assumption | omega) only [go_sem, ↓reduceIte, reduceIte, Nat.reduceEqDiff, Nat.reduceAdd, Nat.reduceMul, reduceCtorEq, Nat.reduceDiv, Nat.reduceLeDiff, Nat.reduceLT, Nat.reduceSub, h0, h1, h5, h6, hlt, hb0']
      refine gv_slTo (n := givenAt b k) (k1 := .i64) hO (by simp only [go_sem, ↓reduceIte, reduceIte, Nat.reduceEqDiff, Nat.reduceAdd, Nat.reduceMul, reduceCtorEq, Nat.reduceDiv, Nat.reduceLeDiff, Nat.reduceLT, Nat.reduceSub, h6, hga]) (by omega) fun w1 c1 => ?_
      simp (disch := first | assumption | omega) only [go_sem, ↓reduceIte, reduceIte, Nat.reduceEqDiff, Nat.reduceAdd, Nat.reduceMul, reduceCtorEq, Nat.reduceDiv, Nat.reduceLeDiff, Nat.reduceLT, Nat.reduceSub, h0, h1, h5, h6]
      refine gp_append0 (m := ((given b k).take (givenAt b k)).length) (l2 := (given b k).take (givenAt b k)) (by first | with_reducible rfl | (simp only [length_setH, List.length_append, List.length_replicate]; done) | (simp only [length_setH, List.length_append, List.length_replicate]; omega)) (own_nil 41 h .i64) hlen (c1 h fun _ _ => rfl) rfl (by simp; omega) fun x2 h2 hO2 hF2 hL2 hG2 hK2 => ?_
      have hlen2 := Nat.le_trans hlen hL2
      simp (disch := first | assumption | omega) only [go_sem, ↓reduceIte, reduceIte, Nat.reduceEqDiff, Nat.reduceAdd, Nat.reduceMul, reduceCtorEq, Nat.reduceDiv, Nat.reduceLeDiff, Nat.reduceLT, Nat.reduceSub, h0, h1, h5, h6]
      refine gp_append1 (a := (k : Int)) (by first | with_reducible rfl | (simp only [length_setH, List.length_append, List.length_replicate]; done) | (simp only [length_setH, List.length_append, List.length_replicate]; omega)) hO2 hlen2 (by simp; omega) fun x3 h3 hO3 hF3 hL3 hG3 hK3 => ?_
      have hlen3 := Nat.le_trans hlen2 hL3
      have hv3 : ∀ j, keyOf v = some j → getH h3 j = getH h j := fun j hj => by
        have hj2 := hO.keyLt j hj
        have hne : keyOf x2 ≠ some j := fun hx => by
          rcases hK2 j hx with h' | h'
          · cases h'
          · omega
        rw [hG3 j (by omega) hne, hG2 j hj2 (by simp [keyOf])]
      simp (disch := first | assumption | omega) only [go_sem, ↓reduceIte, reduceIte, Nat.reduceEqDiff, Nat.reduceAdd, Nat.reduceMul, reduceCtorEq, Nat.reduceDiv, Nat.reduceLeDiff, Nat.reduceLT, Nat.reduceSub, h0, h1, h5, h6]
      refine gv_slFrom (n := givenAt b k) (k1 := .i64) (hO.other hv3) (by simp only [go_sem, ↓reduceIte, reduceIte, Nat.reduceEqDiff, Nat.reduceAdd, Nat.reduceMul, reduceCtorEq, Nat.reduceDiv, Nat.reduceLeDiff, Nat.reduceLT, Nat.reduceSub, h6, hga]) (by omega) fun w2 c2 => ?_
      simp (disch := first | assumption | omega) only [go_sem, ↓reduceIte, reduceIte, Nat.reduceEqDiff, Nat.reduceAdd, Nat.reduceMul, reduceCtorEq, Nat.reduceDiv, Nat.reduceLeDiff, Nat.reduceLT, Nat.reduceSub, h0, h1, h5, h6]
      refine gp_append0 (m := ((given b k).drop (givenAt b k)).length) (l2 := (given b k).drop (givenAt b k)) (by first | with_reducible rfl | (simp only [length_setH, List.length_append, List.length_replicate]; done) | (simp only [length_setH, List.length_append, List.length_replicate]; omega)) hO3 hlen3 (c2 h3 fun _ _ => rfl) rfl (by simp; omega) fun x4 h4 hO4 hF4 hL4 _ _ => ?_
      simp (disch := first | assumption | omega) only [go_sem, ↓reduceIte, reduceIte, Nat.reduceEqDiff, Nat.reduceAdd, Nat.reduceMul, reduceCtorEq, Nat.reduceDiv, Nat.reduceLeDiff, Nat.reduceLT, Nat.reduceSub, h0, h1, h5, h6]
      exact hP (n - (k + 1)) _ (by omega) ⟨k + 1, x4, rfl, by omega, by simp only [go_sem, ↓reduceIte, reduceIte, Nat.reduceEqDiff, Nat.reduceAdd, Nat.reduceMul, reduceCtorEq, Nat.reduceDiv, Nat.reduceLeDiff, Nat.reduceLT, Nat.reduceSub, h0, h1], by simpa [given] using hO4, Nat.le_trans hlen3 hL4⟩
    · have hb0' : (b.length : Int) > 0 := by omega
      have hml := Nat.mod_lt k (show 0 < b.length by omega)
      obtain ⟨x, hx⟩ := get_ex hml
      have hxb := hs x (List.mem_of_getElem? hx)
      obtain ⟨xn, rfl⟩ := Int.eq_ofNat_of_zero_le hxb.1
      have hga : givenAt b k = xn % (k + 1) := by simp [givenAt, hb0, List.getD_eq_getElem?_getD, hx]
      simp (disch := first | assumption | omega) only [go_sem, ↓reduceIte, reduceIte, Nat.reduceEqDiff, Nat.reduceAdd, Nat.reduceMul, reduceCtorEq, Nat.reduceDiv, Nat.reduceLeDiff, Nat.reduceLT, Nat.reduceSub, h0, h1, h5, h6, hlt, hb0', b_rem, b_rem1, hx]
      refine gv_slTo (n := givenAt b k) (k1 := .i64) hO (by simp only [go_sem, ↓reduceIte, reduceIte, Nat.reduceEqDiff, Nat.reduceAdd, Nat.reduceMul, reduceCtorEq, Nat.reduceDiv, Nat.reduceLeDiff, Nat.reduceLT, Nat.reduceSub, h6, hga]) (by omega) fun w1 c1 => ?_
      simp (disch := first | assumption | omega) only [go_sem, ↓reduceIte, reduceIte, Nat.reduceEqDiff, Nat.reduceAdd, Nat.reduceMul, reduceCtorEq, Nat.reduceDiv, Nat.reduceLeDiff, Nat.reduceLT, Nat.reduceSub, h0, h1, h5, h6]
      refine gp_append0 (m := ((given b k).take (givenAt b k)).length) (l2 := (given b k).take (givenAt b k)) (by first | with_reducible rfl | (simp only [length_setH, List.length_append, List.length_replicate]; done) | (simp only [length_setH, List.length_append, List.length_replicate]; omega)) (own_nil 41 h .i64) hlen (c1 h fun _ _ => rfl) rfl (by simp; omega) fun x2 h2 hO2 hF2 hL2 hG2 hK2 => ?_
      have hlen2 := Nat.le_trans hlen hL2
      simp (disch := first | assumption | omega) only [go_sem, ↓reduceIte, reduceIte, Nat.reduceEqDiff, Nat.reduceAdd, Nat.reduceMul, reduceCtorEq, Nat.reduceDiv, Nat.reduceLeDiff, Nat.reduceLT, Nat.reduceSub, h0, h1, h5, h6]
      refine gp_append1 (a := (k : Int)) (by first | with_reducible rfl | (simp only [length_setH, List.length_append, List.length_replicate]; done) | (simp only [length_setH, List.length_append, List.length_replicate]; omega)) hO2 hlen2 (by simp; omega) fun x3 h3 hO3 hF3 hL3 hG3 hK3 => ?_
      have hlen3 := Nat.le_trans hlen2 hL3
      have hv3 : ∀ j, keyOf v = some j → getH h3 j = getH h j := fun j hj => by
        have hj2 := hO.keyLt j hj
        have hne : keyOf x2 ≠ some j := fun hx => by
          rcases hK2 j hx with h' | h'
          · cases h'
          · omega
        rw [hG3 j (by omega) hne, hG2 j hj2 (by simp [keyOf])]
      simp (disch := first | assumption | omega) only [go_sem, ↓reduceIte, reduceIte, Nat.reduceEqDiff, Nat.reduceAdd, Nat.reduceMul, reduceCtorEq, Nat.reduceDiv, Nat.reduceLeDiff, Nat.reduceLT, Nat.reduceSub, h0, h1, h5, h6]
      refine gv_slFrom (n := givenAt b k) (k1 := .i64) (hO.other hv3) (by simp only [go_sem, ↓reduceIte, reduceIte, Nat.reduceEqDiff, Nat.reduceAdd, Nat.reduceMul, reduceCtorEq, Nat.reduceDiv, Nat.reduceLeDiff, Nat.reduceLT, Nat.reduceSub, h6, hga]) (by omega) fun w2 c2 => ?_
      simp (disch := first | assumption | omega) only [go_sem, ↓reduceIte, reduceIte, Nat.reduceEqDiff, Nat.reduceAdd, Nat.reduceMul, reduceCtorEq, Nat.reduceDiv, Nat.reduceLeDiff, Nat.reduceLT, Nat.reduceSub, h0, h1, h5, h6]
      refine gp_append0 (m := ((given b k).drop (givenAt b k)).length) (l2 := (given b k).drop (givenAt b k)) (by first | with_reducible rfl | (simp only [length_setH, List.length_append, List.length_replicate]; done) | (simp only [length_setH, List.length_append, List.length_replicate]; omega)) hO3 hlen3 (c2 h3 fun _ _ => rfl) rfl (by simp; omega) fun x4 h4 hO4 hF4 hL4 _ _ => ?_
      simp (disch := first | assumption | omega) only [go_sem, ↓reduceIte, reduceIte, Nat.reduceEqDiff, Nat.reduceAdd, Nat.reduceMul, reduceCtorEq, Nat.reduceDiv, Nat.reduceLeDiff, Nat.reduceLT, Nat.reduceSub, h0, h1, h5, h6]
      exact hP (n - (k + 1)) _ (by omega) ⟨k + 1, x4, rfl, by omega, by simp only [go_sem, ↓reduceIte, reduceIte, Nat.reduceEqDiff, Nat.reduceAdd, Nat.reduceMul, reduceCtorEq, Nat.reduceDiv, Nat.reduceLeDiff, Nat.reduceLT, Nat.reduceSub, h0, h1], by simpa [given] using hO4, Nat.le_trans hlen3 hL4⟩
  · obtain rfl : k = n := by omega
    simp (disch := first | assumption | omega) only [go_sem, ↓reduceIte, reduceIte, Nat.reduceEqDiff, Nat.reduceAdd, Nat.reduceMul, reduceCtorEq, Nat.reduceDiv, Nat.reduceLeDiff, Nat.reduceLT, Nat.reduceSub, h0, h1, h5, h6, hlt]
    exact hV _ _ (frz_Own hO)

/-! ### 50: Worked -/
theorem worked_step {l : List Order} {b : List Int} {k : Nat} {o : Order} (ho : l[k]? = some o) : (worked l b).take (k + 1) = (worked l b).take k ++ [workedAt o b k] := by
  rw [List.take_add_one]
  simp [worked, ho]

theorem con_50 (l : List Order) (b : List Int) (hv : Valid l) (hb : b.length ≤ 40) (hs : Small b) : Con T 1 50 [ords l, .slice none (b.map (.int .u8)) false] (ints (worked l b)) := by
  refine con_intro t50 fun f hf V hV => ?_
  have hl := hv.len
  simp (disch := first | assumption | omega) only [c50, go_sem, ↓reduceIte, reduceIte, Nat.reduceEqDiff, Nat.reduceAdd, Nat.reduceMul, reduceCtorEq, Nat.reduceDiv, Nat.reduceLeDiff, Nat.reduceLT, Nat.reduceSub]
  refine m_loop (fun M st => ∃ (k : Nat) (v : AV), M = l.length - k ∧ k ≤ l.length ∧ At st.env [(0, ords l), (1, .slice none (b.map (.int .u8)) false), (5, v), (6, .int .i64 k)] ∧ Own 48 st.heap v .i64 ((worked l b).take k) ∧ 48 ≤ st.heap.length) l.length (by omega)
    ⟨0, .slice none [] true, by simp, by omega, by simp [go_sem, ↓reduceIte, reduceIte, Nat.reduceEqDiff, Nat.reduceAdd, Nat.reduceMul, reduceCtorEq, Nat.reduceDiv, Nat.reduceLeDiff, Nat.reduceLT, Nat.reduceSub], own_nil .., by simp⟩ ?_
  rintro M e h hM ⟨k, v, rfl, hk, hE, hO, hlen⟩ P hP
  simp only [At_cons, At_nil] at hE hO hlen
  obtain ⟨h0, h1, h5, h6, -⟩ := hE
  by_cases hlt : k < l.length
  · obtain ⟨o, ho⟩ := get_ex hlt
    have hok := hv.ok o (List.mem_of_getElem? ho)
    have ho1 := hok.lo
    have ho2 := hok.lh
    have ho3 := hok.hi
    have hstep := worked_step (b := b) ho
    have hwk : ((worked l b).take k).length + 1 ≤ 16 := by rw [List.length_take]; omega
    by_cases hb0 : b.length = 0
    · have hb0' : ¬ (b.length : Int) > 0 := by omega
      have hga : workedAt o b k = o.lo := by simp [workedAt, hb0]
      rw [hga] at hstep
      simp (disch := first | assumption | omega) only [go_sem, ↓reduceIte, reduceIte, Nat.reduceEqDiff, Nat.reduceAdd, Nat.reduceMul, reduceCtorEq, Nat.reduceDiv, Nat.reduceLeDiff, Nat.reduceLT, Nat.reduceSub, h0, h1, h5, h6, hlt, hb0', ho, oAV]
      refine gp_append1 (by first | with_reducible rfl | (simp only [length_setH, List.length_append, List.length_replicate]; done) | (simp only [length_setH, List.length_append, List.length_replicate]; omega)) hO hlen (by omega) fun x' h' hO' hF hL _ _ => ?_
      simp (disch := first | assumption | omega) only [go_sem, ↓reduceIte, reduceIte, Nat.reduceEqDiff, Nat.reduceAdd, Nat.reduceMul, reduceCtorEq, Nat.reduceDiv, Nat.reduceLeDiff, Nat.reduceLT, Nat.reduceSub, h0, h1, h5, h6]
      exact hP (l.length - (k + 1)) _ (by omega) ⟨k + 1, x', rfl, by omega, by simp only [go_sem, ↓reduceIte, reduceIte, Nat.reduceEqDiff, Nat.reduceAdd, Nat.reduceMul, reduceCtorEq, Nat.reduceDiv, Nat.reduceLeDiff, Nat.reduceLT, Nat.reduceSub, h0, h1], by rw [hstep]; exact hO', Nat.le_trans hlen hL⟩
    · have hb0' : (b.length : Int) > 0 := by omega
      have hml := Nat.mod_lt k (show 0 < b.length by omega)
      obtain ⟨x, hx⟩ := get_ex hml
      have hxb := hs x (List.mem_of_getElem? hx)
      obtain ⟨xn, rfl⟩ := Int.eq_ofNat_of_zero_le hxb.1
      obtain ⟨m, hm⟩ := Int.eq_ofNat_of_zero_le (show 0 ≤ o.hi - o.lo by omega)
      have hga : workedAt o b k = o.lo + ((xn % (m + 1) : Nat) : Int) := by
        have e : (o.hi - o.lo + 1).toNat = m + 1 := by omega
        simp [workedAt, hb0, List.getD_eq_getElem?_getD, hx, e]
      have hmod := Nat.mod_lt xn (show 0 < m + 1 by omega)
      rw [hga] at hstep
      simp (disch := first | assumption | omega) only [go_sem, ↓reduceIte, reduceIte, Nat.reduceEqDiff, Nat.reduceAdd, Nat.reduceMul, reduceCtorEq, Nat.reduceDiv, Nat.reduceLeDiff, Nat.reduceLT, Nat.reduceSub, h0, h1, h5, h6, hlt, hb0', ho, oAV, b_rem, hx, hm, b_rem1]
      refine gp_append1 (by first | with_reducible rfl | (simp only [length_setH, List.length_append, List.length_replicate]; done) | (simp only [length_setH, List.length_append, List.length_replicate]; omega)) hO hlen (by omega) fun x' h' hO' hF hL _ _ => ?_
      simp (disch := first | assumption | omega) only [go_sem, ↓reduceIte, reduceIte, Nat.reduceEqDiff, Nat.reduceAdd, Nat.reduceMul, reduceCtorEq, Nat.reduceDiv, Nat.reduceLeDiff, Nat.reduceLT, Nat.reduceSub, h0, h1, h5, h6]
      exact hP (l.length - (k + 1)) _ (by omega) ⟨k + 1, x', rfl, by omega, by simp only [go_sem, ↓reduceIte, reduceIte, Nat.reduceEqDiff, Nat.reduceAdd, Nat.reduceMul, reduceCtorEq, Nat.reduceDiv, Nat.reduceLeDiff, Nat.reduceLT, Nat.reduceSub, h0, h1], by rw [hstep]; exact hO', Nat.le_trans hlen hL⟩
  · obtain rfl : k = l.length := by omega
    simp (disch := first | assumption | omega) only [go_sem, ↓reduceIte, reduceIte, Nat.reduceEqDiff, Nat.reduceAdd, Nat.reduceMul, reduceCtorEq, Nat.reduceDiv, Nat.reduceLeDiff, Nat.reduceLT, Nat.reduceSub, h0, h1, h5, h6, hlt]
    rw [List.take_of_length_le (by rw [worked_length]; omega)] at hO
    exact hV _ _ (frz_Own hO)

section
variable {n base : Nat} {Q : EX × St → Prop} {d : Option Nat} {L : List IOper} {ks : List Kont} {e : Env} {h : Heap}
theorem cs_46 {l : List Order} {x : Bool} (hn : 2 ≤ n) (hl : l.length ≤ maxLen) : GP (evCall T n) base Q d L ks e (evCall T n false (.fn 46) [.slice (some 3) (l.map oAV) x] h) = GO (evCall T n) base Q L ks ⟨setDst e d (.bool (decide (chk l = 0))), h⟩ :=
  gp_eq (con_46 l hl) hn (by repeat (first | exact fz_nil _ | refine fz_slice _ _ _ _ ?_ | refine fz_int _ _ _ ?_)) rfl
theorem cs_49 {m : Nat} {b : List Int} {x : Bool} (hn : 1 ≤ n) (hm : m ≤ 15) (hb : b.length ≤ 40) (hs : Small b) : GP (evCall T n) base Q d L ks e (evCall T n false (.fn 49) [.int .i64 (m : Int), .slice none (b.map (.int .u8)) x] h) = GO (evCall T n) base Q L ks ⟨setDst e d (ints (given b m)), h⟩ :=
  gp_eq (con_49 m b hm hb hs) hn (by repeat (first | exact fz_nil _ | refine fz_slice _ _ _ _ ?_ | refine fz_int _ _ _ ?_)) rfl
theorem cs_50 {l : List Order} {b : List Int} {x y : Bool} (hn : 1 ≤ n) (hv : Valid l) (hb : b.length ≤ 40) (hs : Small b) : GP (evCall T n) base Q d L ks e (evCall T n false (.fn 50) [.slice (some 3) (l.map oAV) x, .slice none (b.map (.int .u8)) y] h) = GO (evCall T n) base Q L ks ⟨setDst e d (ints (worked l b)), h⟩ :=
  gp_eq (con_50 l b hv hb hs) hn (by repeat (first | exact fz_nil _ | refine fz_slice _ _ _ _ ?_ | refine fz_int _ _ _ ?_)) rfl
end

end Go.Ev.YtadneamkkepknaaC
