/- The reference's kept orders, and its Kept. Contracts; conditions stand in each. -/
import Derived.Test.YtadneamkkepknaaL5Can2
import Derived.Test.YtadneamkkepknaaEvMore
set_option linter.unusedSimpArgs false
set_option linter.unusedVariables false
namespace Go.Ev.YtadneamkkepknaaC
open Go Go.Proofs

/-- what is known of the orders that are kept so far -/
structure KeptOk (l : List Order) (w : List Int) (k : Nat) (ks : List Int) : Prop where
  sub : ks.Sublist ((seqOf l).take k)
  feas : Feas l w ks

theorem KeptOk.add {l : List Order} {w : List Int} {k : Nat} {ks : List Int} {i : Int} (h : KeptOk l w k ks) (hi : (seqOf l)[k]? = some i) : (ks ++ [i]).Sublist ((seqOf l).take (k + 1)) := by
  rw [List.take_add_one, hi]
  exact h.sub.append (List.Sublist.refl _)

theorem kept_sorted {l : List Order} {k : Nat} {T : List Int} (h : T.Sublist ((seqOf l).take k)) : T.Pairwise (fun a b => dueOf l a ≤ dueOf l b) ∧ T.Nodup ∧ (∀ x ∈ T, 0 ≤ x ∧ x < l.length) ∧ T.length ≤ k := by
  have hs := h.trans (List.take_sublist k (seqOf l))
  refine ⟨(seqOf_sorted l).sublist hs, (seqOf_nodup l).sublist hs, fun x hx => seqOf_mem.1 (hs.subset hx), ?_⟩
  have := h.length_le
  rw [List.length_take] at this
  omega

theorem pickL_fold (w : List Int) (a : Int) (r : List Int) : (a :: r).foldl (fun m x => if wk w x ≥ wk w m then x else m) a = pickL w (a :: r) := by
  rw [List.foldl_cons]
  simp [pickL]

attribute [local irreducible] Res.all evC evLoop evOps evOper evOp evFn evCall freeze G GO GV GP GC R
set_option maxRecDepth 100000

/-! ### 76: KeptOf -/
theorem con_76 (l : List Order) (s : Int) (hv : Valid l) : Con T 5 76 [ords l, .int .i64 s] (ints (keptOf l s)) := by
  refine con_intro t76 fun n hn V hV => ?_
  have hl := hv.len
  have hl15 : l.length ≤ 15 := by omega
  have hsl := seqOf_length l
  have hwl := side_length l s
  have hwp := side_pos hv s
  have hsb := side_bd' hv s
  simp (disch := first | assumption | omega) only [c76, go_sem, ↓reduceIte, reduceIte, Nat.reduceEqDiff, Nat.reduceAdd, Nat.reduceMul, reduceCtorEq, Nat.reduceDiv, Nat.reduceLeDiff, Nat.reduceLT, Nat.reduceSub, cs_52, cs_47]
  refine m_loop (fun M st => ∃ (k : Nat) (v : AV) (ks : List Int), M = l.length - k ∧ k ≤ l.length ∧ At st.env [(0, ords l), (1, .int .i64 s), (5, ints (seqOf l)), (6, ints (side l s)), (7, v), (8, .int .i64 k)] ∧ Own 66 st.heap v .i64 ks ∧ 66 ≤ st.heap.length ∧ KeptOk l (side l s) k ks ∧
    keptGo l (side l s) ((seqOf l).drop k) ks (sumW (side l s) ks) = keptOf l s) l.length (by omega)
    ⟨0, .slice none [] true, [], by simp, by omega, by simp [go_sem, ↓reduceIte, reduceIte, Nat.reduceEqDiff, Nat.reduceAdd, Nat.reduceMul, reduceCtorEq, Nat.reduceDiv, Nat.reduceLeDiff, Nat.reduceLT, Nat.reduceSub], own_nil .., by simp, ⟨by simp, Feas.nil _ _⟩, rfl⟩ ?_
  rintro M e h hM ⟨k, v, ks, rfl, hk, hE, hO, hlen, hok, hgo⟩ P hP
  simp only [At_cons, At_nil] at hE hO hlen
  obtain ⟨h0, h1, h5, h6, h7, h8, -⟩ := hE
  by_cases hlt : k < l.length
  · obtain ⟨i, hi⟩ := get_ex (l := seqOf l) (i := k) (by omega)
    have hsubT := hok.add hi
    obtain ⟨hTs, hTn, hTb, hTl⟩ := kept_sorted hsubT
    have hTl15 : (ks ++ [i]).length ≤ 15 := by omega
    have hks15 : ks.length + 1 ≤ 16 := by simp at hTl; omega
    have hsn := feas_snoc hwp hTs hok.feas
    rw [drop_cons hi, keptGo_cons] at hgo
    simp (disch := first | assumption | omega) only [go_sem, ↓reduceIte, reduceIte, Nat.reduceEqDiff, Nat.reduceAdd, Nat.reduceMul, reduceCtorEq, Nat.reduceDiv, Nat.reduceLeDiff, Nat.reduceLT, Nat.reduceSub, h0, h1, h5, h6, h7, h8, hlt, hsl, hi]
    refine gp_append1 (by first | with_reducible rfl | (simp only [length_setH, List.length_append, List.length_replicate]; done) | (simp only [length_setH, List.length_append, List.length_replicate]; omega)) hO hlen (by omega) fun x' h' hO' hF hL _ _ => ?_
    simp (disch := first | assumption | omega) only [go_sem, ↓reduceIte, reduceIte, Nat.reduceEqDiff, Nat.reduceAdd, Nat.reduceMul, reduceCtorEq, Nat.reduceDiv, Nat.reduceLeDiff, Nat.reduceLT, Nat.reduceSub, h0, h1, h5, h6, h7, h8]
    refine gp_con (con_78 l s (ks ++ [i]) hv hTl15 hTb) (by omega) (fz_slice _ _ _ _ (fz_int _ _ _ (fz_cons (frz_Own hO') (fz_nil _)))) (or_pb _ _) ?_
    have hsum : sumW (side l s) (ks ++ [i]) = sumW (side l s) ks + wk (side l s) i := by rw [sumW_append]; simp [sumW]
    by_cases hle : sumW (side l s) ks + wk (side l s) i ≤ dueOf l i
    · rw [if_pos hle] at hgo
      have hcan : canB l s (ks ++ [i]) = true := (canB_iff hv s hTb).2 (hsn.2 hle)
      simp (disch := first | assumption | omega) only [go_sem, ↓reduceIte, reduceIte, Nat.reduceEqDiff, Nat.reduceAdd, Nat.reduceMul, reduceCtorEq, Nat.reduceDiv, Nat.reduceLeDiff, Nat.reduceLT, Nat.reduceSub, h0, h1, h5, h6, h7, h8, hcan]
      exact hP (l.length - (k + 1)) _ (by omega) ⟨k + 1, x', ks ++ [i], rfl, by omega, by simp only [go_sem, ↓reduceIte, reduceIte, Nat.reduceEqDiff, Nat.reduceAdd, Nat.reduceMul, reduceCtorEq, Nat.reduceDiv, Nat.reduceLeDiff, Nat.reduceLT, Nat.reduceSub, h0, h1, h5, h6], hO', Nat.le_trans hlen hL, ⟨hsubT, hsn.2 hle⟩, by rw [hsum]; exact hgo⟩
    · rw [if_neg hle] at hgo
      have hcan : canB l s (ks ++ [i]) = false := by
        rw [Bool.eq_false_iff]
        intro h
        exact hle (hsn.1 ((canB_iff hv s hTb).1 h))
      have hfe := feas_erase hwp hTs hok.feas
      have hpm := pickL_mem (side l s) (ks ++ [i]) (by simp)
      have hse := sumW_erase (side l s) (ks ++ [i]) _ hpm
      have hgo' : keptGo l (side l s) ((seqOf l).drop (k + 1)) ((ks ++ [i]).erase (pickL (side l s) (ks ++ [i]))) (sumW (side l s) ((ks ++ [i]).erase (pickL (side l s) (ks ++ [i])))) = keptOf l s := by
        rw [hse, hsum]
        exact hgo
      have hT0 : 0 < (ks ++ [i]).length := by simp
      clear hgo hsum hle hsn hse
      generalize hTe : ks ++ [i] = T0 at *
      rcases hO' with ⟨hnil, _⟩ | ⟨key, ver, hk66, rfl, hH⟩
      · rw [hnil] at hT0; simp at hT0
      simp (disch := first | assumption | omega) only [go_sem, ↓reduceIte, reduceIte, Nat.reduceEqDiff, Nat.reduceAdd, Nat.reduceMul, reduceCtorEq, Nat.reduceDiv, Nat.reduceLeDiff, Nat.reduceLT, Nat.reduceSub, h0, h1, h5, h6, h7, h8, hcan]
      have hlen' := Nat.le_trans hlen hL
      have a0 : ∃ a r, T0 = a :: r := by
        cases T0 with
        | nil => simp at hT0
        | cons a r => exact ⟨a, r, rfl⟩
      obtain ⟨a, r, har⟩ := a0
      refine m_loop (fun M st => ∃ (j m : Nat) (p : Int), M = T0.length - j ∧ j ≤ T0.length ∧ m < T0.length ∧ T0[m]? = some p ∧ (T0.drop j).foldl (fun m x => if wk (side l s) x ≥ wk (side l s) m then x else m) p = pickL (side l s) T0 ∧
        At st.env [(0, ords l), (1, .int .i64 s), (5, ints (seqOf l)), (6, ints (side l s)), (7, .oslice key ver none 0 T0.length none), (8, .int .i64 k), (9, .int .i64 m), (10, .int .i64 j)] ∧ getH st.heap key = .cells ver (T0.map (.int .i64)) ∧ 66 ≤ st.heap.length) T0.length (by omega)
        ⟨0, 0, a, by simp, by omega, hT0, by rw [har]; rfl, by rw [har, List.drop_zero, pickL_fold], by simp [go_sem, ↓reduceIte, reduceIte, Nat.reduceEqDiff, Nat.reduceAdd, Nat.reduceMul, reduceCtorEq, Nat.reduceDiv, Nat.reduceLeDiff, Nat.reduceLT, Nat.reduceSub, h0, h1, h5, h6, h8], hH, hlen'⟩ ?_
      clear h0 h1 h5 h6 h7 h8 hO hF hH hlen hlen' hL
      rintro M e h hM ⟨j, m, p, rfl, hj, hm, hmp, hfold, hE, hH, hlen⟩ P2 hP2
      simp only [At_cons, At_nil] at hE hH hlen
      obtain ⟨h0, h1, h5, h6, h7, h8, h9, h10, -⟩ := hE
      by_cases hltj : j < T0.length
      · obtain ⟨x, hx⟩ := get_ex hltj
        have hxb := hTb x (List.mem_of_getElem? hx)
        have hpb := hTb p (List.mem_of_getElem? hmp)
        obtain ⟨xn, rfl⟩ := Int.eq_ofNat_of_zero_le hxb.1
        obtain ⟨pn, rfl⟩ := Int.eq_ofNat_of_zero_le hpb.1
        obtain ⟨wx, hwx⟩ := get_ex (l := side l s) (i := xn) (by omega)
        obtain ⟨wp, hwp'⟩ := get_ex (l := side l s) (i := pn) (by omega)
        have exw := wk_get hwx
        have epw := wk_get hwp'
        rw [drop_cons hx, List.foldl_cons, ← exw, ← epw] at hfold
        by_cases hge : wx ≥ wp
        · rw [if_pos hge] at hfold
          simp (disch := first | assumption | omega) only [go_sem, ↓reduceIte, reduceIte, Nat.reduceEqDiff, Nat.reduceAdd, Nat.reduceMul, reduceCtorEq, Nat.reduceDiv, Nat.reduceLeDiff, Nat.reduceLT, Nat.reduceSub, h0, h1, h5, h6, h7, h8, h9, h10, hltj, hm, hH, hx, hmp, hwx, hwp', hge]
          exact hP2 (T0.length - (j + 1)) _ (by omega) ⟨j + 1, j, _, rfl, by omega, hltj, hx, hfold, by simp only [go_sem, ↓reduceIte, reduceIte, Nat.reduceEqDiff, Nat.reduceAdd, Nat.reduceMul, reduceCtorEq, Nat.reduceDiv, Nat.reduceLeDiff, Nat.reduceLT, Nat.reduceSub, h0, h1, h5, h6, h7, h8], hH, hlen⟩
        · rw [if_neg hge] at hfold
          simp (disch := first | assumption | omega) only [go_sem, ↓reduceIte, reduceIte, Nat.reduceEqDiff, Nat.reduceAdd, Nat.reduceMul, reduceCtorEq, Nat.reduceDiv, Nat.reduceLeDiff, Nat.reduceLT, Nat.reduceSub, h0, h1, h5, h6, h7, h8, h9, h10, hltj, hm, hH, hx, hmp, hwx, hwp', hge]
          exact hP2 (T0.length - (j + 1)) _ (by omega) ⟨j + 1, m, _, rfl, by omega, hm, hmp, hfold, by simp only [go_sem, ↓reduceIte, reduceIte, Nat.reduceEqDiff, Nat.reduceAdd, Nat.reduceMul, reduceCtorEq, Nat.reduceDiv, Nat.reduceLeDiff, Nat.reduceLT, Nat.reduceSub, h0, h1, h5, h6, h7, h8, h9], hH, hlen⟩
      · rw [List.drop_eq_nil_of_le (by omega)] at hfold
        have hfold' : p = pickL (side l s) T0 := hfold
        have hidx : T0.idxOf p = m := idxOf_at hTn hmp
        have her : T0.take m ++ T0.drop (m + 1) = T0.erase (pickL (side l s) T0) := by
          rw [← hfold', ← erase_idxOf, hidx, List.eraseIdx_eq_take_drop_succ]
        have hm1 : m ≤ T0.length := by omega
        simp (disch := first | assumption | omega) only [go_sem, ↓reduceIte, reduceIte, Nat.reduceEqDiff, Nat.reduceAdd, Nat.reduceMul, reduceCtorEq, Nat.reduceDiv, Nat.reduceLeDiff, Nat.reduceLT, Nat.reduceSub, h0, h1, h5, h6, h7, h8, h9, h10, hltj]
        rw [slA_to_own (n := m) (k := .i64) (by simp only [go_sem, ↓reduceIte, reduceIte, Nat.reduceEqDiff, Nat.reduceAdd, Nat.reduceMul, reduceCtorEq, Nat.reduceDiv, Nat.reduceLeDiff, Nat.reduceLT, Nat.reduceSub, h9]) hm1]
        simp (disch := first | assumption | omega) only [go_sem, ↓reduceIte, reduceIte, Nat.reduceEqDiff, Nat.reduceAdd, Nat.reduceMul, reduceCtorEq, Nat.reduceDiv, Nat.reduceLeDiff, Nat.reduceLT, Nat.reduceSub, h0, h1, h5, h6, h7, h8, h9, h10]
        refine gp_append0 (m := m) (l2 := T0.take m) (by first | with_reducible rfl | (simp only [length_setH, List.length_append, List.length_replicate]; done) | (simp only [length_setH, List.length_append, List.length_replicate]; omega)) (own_nil 66 h .i64) hlen (by rw [cs_own hH (by omega)]; simp) (by simp; omega) (by simp; omega) fun x2 h2 hO2 hF2 hL2 hG2 _ => ?_
        have hH2 : getH h2 key = .cells ver (T0.map (.int .i64)) := by rw [hG2 key (getH_lt hH (by simp)) (by simp [keyOf]), hH]
        simp (disch := first | assumption | omega) only [go_sem, ↓reduceIte, reduceIte, Nat.reduceEqDiff, Nat.reduceAdd, Nat.reduceMul, reduceCtorEq, Nat.reduceDiv, Nat.reduceLeDiff, Nat.reduceLT, Nat.reduceSub, h0, h1, h5, h6, h7, h8, h9, h10]
        rw [slA_from_own (n := m + 1) (k := .i64) (by simp only [go_sem, ↓reduceIte, reduceIte, Nat.reduceEqDiff, Nat.reduceAdd, Nat.reduceMul, reduceCtorEq, Nat.reduceDiv, Nat.reduceLeDiff, Nat.reduceLT, Nat.reduceSub, h9]) (by omega)]
        simp (disch := first | assumption | omega) only [go_sem, ↓reduceIte, reduceIte, Nat.reduceEqDiff, Nat.reduceAdd, Nat.reduceMul, reduceCtorEq, Nat.reduceDiv, Nat.reduceLeDiff, Nat.reduceLT, Nat.reduceSub, h0, h1, h5, h6, h7, h8, h9, h10]
        refine gp_append0 (m := T0.length - (m + 1)) (l2 := T0.drop (m + 1)) (by first | with_reducible rfl | (simp only [length_setH, List.length_append, List.length_replicate]; done) | (simp only [length_setH, List.length_append, List.length_replicate]; omega)) hO2 (Nat.le_trans hlen hL2) (by rw [cs_own hH2 (by omega)]; congr 2; rw [List.take_of_length_le (by simp)]) (by simp) (by simp; omega) fun x3 h3 hO3 hF3 hL3 _ _ => ?_
        simp (disch := first | assumption | omega) only [go_sem, ↓reduceIte, reduceIte, Nat.reduceEqDiff, Nat.reduceAdd, Nat.reduceMul, reduceCtorEq, Nat.reduceDiv, Nat.reduceLeDiff, Nat.reduceLT, Nat.reduceSub, h0, h1, h5, h6, h7, h8, h9, h10]
        rw [List.nil_append, her] at hO3
        exact hP (l.length - (k + 1)) _ (by omega) ⟨k + 1, x3, _, rfl, by omega, by simp only [go_sem, ↓reduceIte, reduceIte, Nat.reduceEqDiff, Nat.reduceAdd, Nat.reduceMul, reduceCtorEq, Nat.reduceDiv, Nat.reduceLeDiff, Nat.reduceLT, Nat.reduceSub, h0, h1, h5, h6], hO3, Nat.le_trans hlen (Nat.le_trans hL2 hL3), ⟨List.erase_sublist.trans hsubT, hfe⟩, hgo'⟩
  · obtain rfl : k = l.length := by omega
    simp (disch := first | assumption | omega) only [go_sem, ↓reduceIte, reduceIte, Nat.reduceEqDiff, Nat.reduceAdd, Nat.reduceMul, reduceCtorEq, Nat.reduceDiv, Nat.reduceLeDiff, Nat.reduceLT, Nat.reduceSub, h0, h1, h5, h6, h7, h8, hlt, hsl]
    rw [List.drop_eq_nil_of_le (by omega)] at hgo
    have : ks = keptOf l s := hgo
    exact hV _ _ (this ▸ frz_Own hO)

end Go.Ev.YtadneamkkepknaaC
