/- CheckKept, the program's and the reference's. Contracts; conditions stand in each. -/
import Derived.Test.YtadneamkkepknaaL5Can
set_option linter.unusedSimpArgs false
set_option linter.unusedVariables false
namespace Go.Ev.YtadneamkkepknaaC
open Go Go.Proofs

/-- a strictly increasing list of orders -/
def incGo (n : Nat) : Int → List Int → Bool
  | _, [] => true
  | next, x :: r => decide (next ≤ x) && decide (x < n) && incGo n (x + 1) r
def chkKept (l : List Order) (s : Int) (ks : List Int) : Int := if chkSide l s ≠ 0 then chkSide l s else if !incGo l.length 0 ks then 2 else if canB l s ks then 0 else 12

theorem incGo_spec (n : Nat) : ∀ (ks : List Int) (next : Int), incGo n next ks = true → (∀ x ∈ ks, next ≤ x ∧ x < n) ∧ ks.Pairwise (· < ·)
  | [], next, _ => by simp
  | x :: r, next, h => by
    simp only [incGo, Bool.and_eq_true, decide_eq_true_eq] at h
    obtain ⟨⟨h1, h2⟩, h3⟩ := h
    obtain ⟨h4, h5⟩ := incGo_spec n r (x + 1) h3
    refine ⟨fun y hy => ?_, List.pairwise_cons.2 ⟨fun y hy => ?_, h5⟩⟩
    · rcases List.mem_cons.1 hy with rfl | hy
      · exact ⟨h1, h2⟩
      · have := h4 y hy; omega
    · have := h4 y hy; omega

theorem incGo_step {n : Nat} {ks : List Int} {k : Nat} {x next : Int} (hx : ks[k]? = some x) : incGo n next (ks.drop k) = (decide (next ≤ x) && decide (x < n) && incGo n (x + 1) (ks.drop (k + 1))) := by
  rw [drop_cons hx, incGo]

theorem inc_facts {n : Nat} {ks : List Int} (h : incGo n 0 ks = true) : (∀ x ∈ ks, 0 ≤ x ∧ x < n) ∧ ks.Nodup ∧ ks.length ≤ n := by
  obtain ⟨h1, h2⟩ := incGo_spec n ks 0 h
  have hn : ks.Nodup := h2.imp fun {a b} hab => by omega
  refine ⟨h1, hn, ?_⟩
  have := List.Nodup.length_le_of_subset hn (fun a ha => idx_mem.2 (h1 a ha))
  rwa [idx_length] at this

/-- those of the sequence that are in the list -/
theorem seq_filter_perm {l : List Order} {ks : List Int} (h : incGo l.length 0 ks = true) : ((seqOf l).filter fun i => ks.contains i).Perm ks := by
  obtain ⟨h1, h2, _⟩ := inc_facts h
  rw [List.perm_ext_iff_of_nodup ((seqOf_nodup l).filter _) h2]
  intro a
  rw [List.mem_filter, seqOf_mem]
  constructor
  · rintro ⟨_, h⟩
    simpa using h
  · intro ha
    exact ⟨h1 a ha, by simpa using ha⟩

theorem can_feas {l : List Order} (hv : Valid l) (s : Int) {ks : List Int} (h : incGo l.length 0 ks = true) : canB l s ks = feasGo l (side l s) 0 ((seqOf l).filter fun i => ks.contains i) := by
  have hw := side_pos hv s
  rw [Bool.eq_iff_iff, canB_iff hv s (inc_facts h).1, feasGo_iff hw ((seqOf_sorted l).filter _)]
  exact ⟨Feas.perm (seq_filter_perm h).symm, Feas.perm (seq_filter_perm h)⟩

attribute [local irreducible] Res.all evC evLoop evOps evOper evOp evFn evCall freeze G GO GV GP GC R
set_option maxRecDepth 100000

/-! ### 40: the reference's CheckKept -/
theorem con_40 (l : List Order) (s : Int) (ks : List Int) (hl : l.length ≤ 15) (hk : ks.length ≤ 15) : Con T 5 40 [ords l, .int .i64 s, ints ks] (.int .i64 (chkKept l s ks)) := by
  refine con_intro t40 fun n hn V hV => ?_
  unfold chkKept at hV
  by_cases hc : chkSide l s = 0
  · have hc' : (chkSide l s != 0) = false := by simp [hc]
    obtain ⟨hval, hs⟩ := (chkSide_zero l s).1 hc
    rw [if_neg (by omega)] at hV
    simp (disch := first | assumption | omega) only [c40, go_sem, ↓reduceIte, reduceIte, Nat.reduceEqDiff, Nat.reduceAdd, Nat.reduceMul, reduceCtorEq, Nat.reduceDiv, Nat.reduceLeDiff, Nat.reduceLT, Nat.reduceSub, cs_71, hc']
    refine m_loop (fun M st => ∃ (k : Nat) (next : Int), M = ks.length - k ∧ k ≤ ks.length ∧ At st.env [(0, ords l), (1, .int .i64 s), (2, ints ks), (7, .int .i64 k)] ∧ incGo l.length 0 ks = incGo l.length next (ks.drop k) ∧ (k = 0 → next = 0) ∧ (∀ p : Int, 0 < k → ks[k - 1]? = some p → next = p + 1) ∧ 0 ≤ next) ks.length (by omega) ⟨0, 0, by simp, by omega, by simp [go_sem, ↓reduceIte, reduceIte, Nat.reduceEqDiff, Nat.reduceAdd, Nat.reduceMul, reduceCtorEq, Nat.reduceDiv, Nat.reduceLeDiff, Nat.reduceLT, Nat.reduceSub], rfl, fun _ => rfl, by simp, by omega⟩ ?_
    rintro M e h hM ⟨k, next, rfl, hkk, hE, hA, hn0, hn1, hnn⟩ P hP
    simp only [At_cons, At_nil] at hE
    obtain ⟨h0, h1, h2, h7, -⟩ := hE
    by_cases hlt : k < ks.length
    · obtain ⟨x, hx⟩ := get_ex hlt
      rw [incGo_step hx] at hA
      have bad : ∀ h, ¬ (next ≤ x ∧ x < l.length) → V (.int .i64 2, h) := fun h hb => by
        refine hV _ _ ?_
        have : (decide (next ≤ x) && decide (x < (l.length : Int))) = false := by simp; omega
        rw [frz_int, hA, this]
        rfl
      have good : ∀ e' h', next ≤ x → x < l.length → At e' [(0, ords l), (1, .int .i64 s), (2, ints ks), (7, .int .i64 ((k : Int) + 1))] → P ⟨e', h'⟩ := fun e' h' a b c => by
        refine hP (ks.length - (k + 1)) _ (by omega) ⟨k + 1, x + 1, rfl, by omega, c, ?_, by simp, fun p _ hp => ?_, by omega⟩
        · rw [hA]; simp [a, b]
        · simp only [Nat.add_sub_cancel] at hp
          rw [hx] at hp
          cases hp
          rfl
      by_cases g1 : x < 0
      · simp (disch := first | assumption | omega) only [go_sem, ↓reduceIte, reduceIte, Nat.reduceEqDiff, Nat.reduceAdd, Nat.reduceMul, reduceCtorEq, Nat.reduceDiv, Nat.reduceLeDiff, Nat.reduceLT, Nat.reduceSub, h0, h1, h2, h7, hlt, hx, g1]
        exact bad _ (by omega)
      by_cases g2 : x ≥ (l.length : Int)
      · simp (disch := first | assumption | omega) only [go_sem, ↓reduceIte, reduceIte, Nat.reduceEqDiff, Nat.reduceAdd, Nat.reduceMul, reduceCtorEq, Nat.reduceDiv, Nat.reduceLeDiff, Nat.reduceLT, Nat.reduceSub, h0, h1, h2, h7, hlt, hx, g1, g2]
        exact bad _ (by omega)
      match k, hkk, hlt, hx, h7, hn0, hn1, good, hP with
      | 0, hkk, hlt, hx, h7, hn0, hn1, good, hP =>
        have z : ¬ ((0 : Int) > 0) := by omega
        have hne := hn0 rfl
        have hltI : (0 : Int) < ks.length := by omega
        simp (disch := first | assumption | omega) only [go_sem, ↓reduceIte, reduceIte, Nat.reduceEqDiff, Nat.reduceAdd, Nat.reduceMul, reduceCtorEq, Nat.reduceDiv, Nat.reduceLeDiff, Nat.reduceLT, Nat.reduceSub, h0, h1, h2, h7, hltI, hx, g1, g2, z]
        exact good _ _ (by omega) (by omega) (by simp only [go_sem, ↓reduceIte, reduceIte, Nat.reduceEqDiff, Nat.reduceAdd, Nat.reduceMul, reduceCtorEq, Nat.reduceDiv, Nat.reduceLeDiff, Nat.reduceLT, Nat.reduceSub, h0, h1, h2])
      | k + 1, hkk, hlt, hx, h7, hn0, hn1, good, hP =>
        have z : ((k : Int) + 1 > 0) := by omega
        have hltk : k < ks.length := by omega
        have hltI : (k : Int) + 1 < ks.length := by omega
        obtain ⟨p, hp⟩ := get_ex hltk
        have hne := hn1 p (by omega) (by simpa using hp)
        by_cases g3 : x ≤ p
        · simp (disch := first | assumption | omega) only [go_sem, ↓reduceIte, reduceIte, Nat.reduceEqDiff, Nat.reduceAdd, Nat.reduceMul, reduceCtorEq, Nat.reduceDiv, Nat.reduceLeDiff, Nat.reduceLT, Nat.reduceSub, h0, h1, h2, h7, hltI, hx, g1, g2, z, Int.add_sub_cancel, hp, g3]
          exact bad _ (by omega)
        · simp (disch := first | assumption | omega) only [go_sem, ↓reduceIte, reduceIte, Nat.reduceEqDiff, Nat.reduceAdd, Nat.reduceMul, reduceCtorEq, Nat.reduceDiv, Nat.reduceLeDiff, Nat.reduceLT, Nat.reduceSub, h0, h1, h2, h7, hltI, hx, g1, g2, z, Int.add_sub_cancel, hp, g3]
          exact good _ _ (by omega) (by omega) (by simp only [go_sem, ↓reduceIte, reduceIte, Nat.reduceEqDiff, Nat.reduceAdd, Nat.reduceMul, reduceCtorEq, Nat.reduceDiv, Nat.reduceLeDiff, Nat.reduceLT, Nat.reduceSub, h0, h1, h2])
    · rw [List.drop_eq_nil_of_le (by omega)] at hA
      have hinc : incGo l.length 0 ks = true := by rw [hA]; rfl
      obtain ⟨hb1, _, _⟩ := inc_facts hinc
      rw [hinc] at hV
      by_cases hcan : canB l s ks = true
      · simp (disch := first | assumption | omega) only [go_sem, ↓reduceIte, reduceIte, Nat.reduceEqDiff, Nat.reduceAdd, Nat.reduceMul, reduceCtorEq, Nat.reduceDiv, Nat.reduceLeDiff, Nat.reduceLT, Nat.reduceSub, h0, h1, h2, h7, hlt, cs_78, hcan]
        exact hV _ _ (by rw [frz_int, hcan]; rfl)
      · have hcan' : canB l s ks = false := by simpa using hcan
        simp (disch := first | assumption | omega) only [go_sem, ↓reduceIte, reduceIte, Nat.reduceEqDiff, Nat.reduceAdd, Nat.reduceMul, reduceCtorEq, Nat.reduceDiv, Nat.reduceLeDiff, Nat.reduceLT, Nat.reduceSub, h0, h1, h2, h7, hlt, cs_78, hcan']
        exact hV _ _ (by rw [frz_int, hcan']; rfl)
  · have hc' : (chkSide l s != 0) = true := by simp [hc]
    rw [if_pos hc] at hV
    simp (disch := first | assumption | omega) only [c40, go_sem, ↓reduceIte, reduceIte, Nat.reduceEqDiff, Nat.reduceAdd, Nat.reduceMul, reduceCtorEq, Nat.reduceDiv, Nat.reduceLeDiff, Nat.reduceLT, Nat.reduceSub, cs_71, hc']
    exact hV _ _ (frz_int _ _ _ _)

/-! ### 39: the program's CheckKept -/
theorem con_39 (l : List Order) (s : Int) (ks : List Int) (hl : l.length ≤ 15) (hk : ks.length ≤ 15) : Con T 11 39 [ords l, .int .i64 s, ints ks] (.int .i64 (chkKept l s ks)) := by
  refine con_intro t39 fun n hn V hV => ?_
  unfold chkKept at hV
  by_cases hc : chkSide l s = 0
  · have hc' : (chkSide l s != 0) = false := by simp [hc]
    obtain ⟨hval, hs⟩ := (chkSide_zero l s).1 hc
    have hsb := side_bd' hval s
    rw [if_neg (by omega)] at hV
    simp (disch := first | assumption | omega) only [c39, go_sem, ↓reduceIte, reduceIte, Nat.reduceEqDiff, Nat.reduceAdd, Nat.reduceMul, reduceCtorEq, Nat.reduceDiv, Nat.reduceLeDiff, Nat.reduceLT, Nat.reduceSub, cs_69, sidedV, hc', hc, deskV]
    refine m_loop (fun M st => ∃ (k : Nat) (next : Int), M = ks.length - k ∧ k ≤ ks.length ∧ At st.env [(0, ords l), (2, ints ks), (7, deskV l s), (9, .int .i64 next), (24, ints ks), (25, .int .i64 ks.length), (26, .int .i64 k)] ∧ incGo l.length 0 ks = incGo l.length next (ks.drop k) ∧ 0 ≤ next ∧ next ≤ 1000) ks.length (by omega) ⟨0, 0, by simp, by omega, by simp [go_sem, ↓reduceIte, reduceIte, Nat.reduceEqDiff, Nat.reduceAdd, Nat.reduceMul, reduceCtorEq, Nat.reduceDiv, Nat.reduceLeDiff, Nat.reduceLT, Nat.reduceSub, deskV], rfl, by omega, by omega⟩ ?_
    rintro M e h hM ⟨k, next, rfl, hkk, hE, hA, hn0, hn1⟩ P hP
    simp only [At_cons, At_nil] at hE
    obtain ⟨h0, h2, h7, h9, h24, h25, h26, -⟩ := hE
    by_cases hlt : k < ks.length
    · obtain ⟨x, hx⟩ := get_ex hlt
      rw [incGo_step hx] at hA
      by_cases hin : next ≤ x ∧ x < l.length
      · have hw : (decide (next ≤ x) && decide (x ≤ (l.length : Int) - 1)) = true := by simp; omega
        simp (disch := first | assumption | omega) only [go_sem, ↓reduceIte, reduceIte, Nat.reduceEqDiff, Nat.reduceAdd, Nat.reduceMul, reduceCtorEq, Nat.reduceDiv, Nat.reduceLeDiff, Nat.reduceLT, Nat.reduceSub, h0, h2, h7, h9, h24, h25, h26, hlt, hx, cs_58', hw]
        exact hP (ks.length - (k + 1)) _ (by omega) ⟨k + 1, x + 1, rfl, by omega, by simp only [go_sem, ↓reduceIte, reduceIte, Nat.reduceEqDiff, Nat.reduceAdd, Nat.reduceMul, reduceCtorEq, Nat.reduceDiv, Nat.reduceLeDiff, Nat.reduceLT, Nat.reduceSub, h0, h2, h7, h24, h25], by rw [hA]; simp [hin.1, hin.2], by omega, by omega⟩
      · have hw : (decide (next ≤ x) && decide (x ≤ (l.length : Int) - 1)) = false := by simp; omega
        simp (disch := first | assumption | omega) only [go_sem, ↓reduceIte, reduceIte, Nat.reduceEqDiff, Nat.reduceAdd, Nat.reduceMul, reduceCtorEq, Nat.reduceDiv, Nat.reduceLeDiff, Nat.reduceLT, Nat.reduceSub, h0, h2, h7, h9, h24, h25, h26, hlt, hx, cs_58', hw]
        refine hV _ _ ?_
        have : (decide (next ≤ x) && decide (x < (l.length : Int))) = false := by simp; omega
        rw [frz_int, hA, this]
        rfl
    · rw [List.drop_eq_nil_of_le (by omega)] at hA
      have hinc : incGo l.length 0 ks = true := by rw [hA]; rfl
      have hcf := can_feas hval s hinc
      have z1 : (1 : Nat) ≤ 2 := by omega
      have hsl := seqOf_length l
      rw [hinc, hcf] at hV
      simp (disch := first | assumption | omega) only [go_sem, ↓reduceIte, reduceIte, Nat.reduceEqDiff, Nat.reduceAdd, Nat.reduceMul, reduceCtorEq, Nat.reduceDiv, Nat.reduceLeDiff, Nat.reduceLT, Nat.reduceSub, h0, h2, h7, h9, h24, h25, h26, hlt, deskV, z1, cs_68]
      clear hP
      refine m_loop (fun M st => ∃ (j : Nat) (day : Int), M = l.length - j ∧ j ≤ l.length ∧ At st.env [(0, ords l), (2, ints ks), (7, deskV l s), (12, .int .i64 day), (45, ints (seqOf l)), (46, .int .i64 l.length), (47, .int .i64 j)] ∧ 0 ≤ day ∧ day ≤ 1000 * j ∧
        feasGo l (side l s) 0 ((seqOf l).filter fun i => ks.contains i) = feasGo l (side l s) day (((seqOf l).drop j).filter fun i => ks.contains i)) l.length (by omega) ⟨0, 0, by simp, by omega, by simp [go_sem, ↓reduceIte, reduceIte, Nat.reduceEqDiff, Nat.reduceAdd, Nat.reduceMul, reduceCtorEq, Nat.reduceDiv, Nat.reduceLeDiff, Nat.reduceLT, Nat.reduceSub, h0, h2, h7, deskV, hsl], by omega, by simp, by simp⟩ ?_
      clear h0 h2 h7 h9 h24 h25 h26
      rintro M e h hM ⟨j, day, rfl, hj, hE, hd0, hd1, hF⟩ P2 hP2
      simp only [At_cons, At_nil] at hE
      obtain ⟨h0, h2, h7, h12, h45, h46, h47, -⟩ := hE
      by_cases hltj : j < l.length
      · obtain ⟨i, hi⟩ := get_ex (l := seqOf l) (i := j) (by omega)
        have hib := seqOf_mem.1 (List.mem_of_getElem? hi)
        obtain ⟨m, rfl⟩ := Int.eq_ofNat_of_zero_le hib.1
        obtain ⟨o, ho⟩ := get_ex (l := l) (i := m) (by omega)
        obtain ⟨x, hx⟩ := get_ex (l := side l s) (i := m) (by rw [side_length]; omega)
        have hxw := wk_get hx
        have hxb := hsb x (List.mem_of_getElem? hx)
        rw [drop_cons hi, List.filter_cons] at hF
        by_cases hcon : ks.contains (m : Int) = true
        · rw [if_pos hcon, feasGo, ← hxw, dueOf_nat ho] at hF
          by_cases hgt : day + x > o.due
          · simp (disch := first | assumption | omega) only [go_sem, ↓reduceIte, reduceIte, Nat.reduceEqDiff, Nat.reduceAdd, Nat.reduceMul, reduceCtorEq, Nat.reduceDiv, Nat.reduceLeDiff, Nat.reduceLT, Nat.reduceSub, h0, h2, h7, h12, h45, h46, h47, hltj, hi, cs_77, hcon, deskV, hx, ho, oAV, hgt]
            refine hV _ _ ?_
            have : decide (day + x ≤ o.due) = false := by simp; omega
            rw [frz_int, hF, this]
            rfl
          · simp (disch := first | assumption | omega) only [go_sem, ↓reduceIte, reduceIte, Nat.reduceEqDiff, Nat.reduceAdd, Nat.reduceMul, reduceCtorEq, Nat.reduceDiv, Nat.reduceLeDiff, Nat.reduceLT, Nat.reduceSub, h0, h2, h7, h12, h45, h46, h47, hltj, hi, cs_77, hcon, deskV, hx, ho, oAV, hgt]
            refine hP2 (l.length - (j + 1)) _ (by omega) ⟨j + 1, day + x, rfl, by omega, by simp only [go_sem, ↓reduceIte, reduceIte, Nat.reduceEqDiff, Nat.reduceAdd, Nat.reduceMul, reduceCtorEq, Nat.reduceDiv, Nat.reduceLeDiff, Nat.reduceLT, Nat.reduceSub, h0, h2, h7, h45, h46, deskV], by omega, by omega, ?_⟩
            have : decide (day + x ≤ o.due) = true := by simp; omega
            rw [hF, this, Bool.true_and]
        · have hcon' : ks.contains (m : Int) = false := by simpa using hcon
          rw [if_neg hcon] at hF
          simp (disch := first | assumption | omega) only [go_sem, ↓reduceIte, reduceIte, Nat.reduceEqDiff, Nat.reduceAdd, Nat.reduceMul, reduceCtorEq, Nat.reduceDiv, Nat.reduceLeDiff, Nat.reduceLT, Nat.reduceSub, h0, h2, h7, h12, h45, h46, h47, hltj, hi, cs_77, hcon']
          exact hP2 (l.length - (j + 1)) _ (by omega) ⟨j + 1, day, rfl, by omega, by simp only [go_sem, ↓reduceIte, reduceIte, Nat.reduceEqDiff, Nat.reduceAdd, Nat.reduceMul, reduceCtorEq, Nat.reduceDiv, Nat.reduceLeDiff, Nat.reduceLT, Nat.reduceSub, h0, h2, h7, h12, h45, h46, deskV], by omega, by omega, hF⟩
      · rw [List.drop_eq_nil_of_le (by omega)] at hF
        simp (disch := first | assumption | omega) only [go_sem, ↓reduceIte, reduceIte, Nat.reduceEqDiff, Nat.reduceAdd, Nat.reduceMul, reduceCtorEq, Nat.reduceDiv, Nat.reduceLeDiff, Nat.reduceLT, Nat.reduceSub, h0, h2, h7, h12, h45, h46, h47, hltj]
        exact hV _ _ (by rw [frz_int, hF]; rfl)
  · have hc' : (chkSide l s != 0) = true := by simp [hc]
    rw [if_pos hc] at hV
    simp (disch := first | assumption | omega) only [c39, go_sem, ↓reduceIte, reduceIte, Nat.reduceEqDiff, Nat.reduceAdd, Nat.reduceMul, reduceCtorEq, Nat.reduceDiv, Nat.reduceLeDiff, Nat.reduceLT, Nat.reduceSub, cs_69, sidedV, hc', if_neg hc]
    exact hV _ _ (frz_int _ _ _ _)

end Go.Ev.YtadneamkkepknaaC
