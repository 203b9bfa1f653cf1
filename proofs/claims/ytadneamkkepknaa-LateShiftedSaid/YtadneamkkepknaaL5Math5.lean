/- The kept orders are as many as can be; what more work, earlier Dues and fewer orders change. In plain mathematics: no program in sight. No condition. -/
import Derived.Test.YtadneamkkepknaaL5Math
set_option linter.unusedSimpArgs false
set_option linter.unusedVariables false
namespace Go.Ev

theorem wk_nonneg {w : List Int} (hw : ∀ x ∈ w, 0 ≤ x) (i : Int) : 0 ≤ wk w i := by
  have := sumW_nonneg hw [i]
  simpa [sumW] using this

/-- one after another, in whatever order -/
theorem feas_any {l : List Order} {w : List Int} (hw : ∀ x ∈ w, 0 ≤ x) {T : List Int} (h : feasGo l w 0 T = true) : Feas l w T := by
  rw [feasGo_iff_pre] at h
  intro d hd
  obtain ⟨x, hx, hxd⟩ := hd
  obtain ⟨k, i, hk, hp, hdrop⟩ := last_of (fun i => decide (dueOf l i ≤ d)) T ⟨x, hx, by simpa using hxd⟩
  have h3 : T.filter (fun i => decide (dueOf l i ≤ d)) = (T.take (k + 1)).filter fun i => decide (dueOf l i ≤ d) := by
    conv => lhs; rw [← List.take_append_drop (k + 1) T]
    rw [List.filter_append, hdrop, List.append_nil]
  have h4 := sumW_filter_le hw (fun i => decide (dueOf l i ≤ d)) (T.take (k + 1))
  have h5 := h k i hk
  have h6 : dueOf l i ≤ d := by simpa using hp
  rw [h3]
  omega

theorem feasGo_mono {l m : List Order} {w v : List Int} : ∀ (S : List Int) (d d' : Int), d' ≤ d → (∀ i ∈ S, wk v i ≤ wk w i ∧ dueOf l i ≤ dueOf m i) → feasGo l w d S = true → feasGo m v d' S = true
  | [], _, _, _, _, _ => rfl
  | i :: r, d, d', hd, hi, h => by
    have h1 := hi i List.mem_cons_self
    simp only [feasGo, Bool.and_eq_true, decide_eq_true_eq] at h ⊢
    exact ⟨by omega, feasGo_mono r (d + wk w i) (d' + wk v i) (by omega) (fun j hj => hi j (List.mem_cons_of_mem _ hj)) h.2⟩

theorem Feas.mono {l m : List Order} {w v T : List Int} (hw : ∀ x ∈ w, 0 ≤ x) (hv : ∀ x ∈ v, 0 ≤ x) (hi : ∀ i ∈ T, wk v i ≤ wk w i ∧ dueOf l i ≤ dueOf m i) (h : Feas l w T) : Feas m v T := by
  have hp : (isort (dueOf l) [] T).Perm T := by simpa using isort_perm (dueOf l) T []
  have hs : (isort (dueOf l) [] T).Pairwise fun a b => dueOf l a ≤ dueOf l b := isort_sorted _ _ _ List.Pairwise.nil
  have h1 := (feasGo_iff hw hs).2 (h.perm hp.symm)
  have h2 := feasGo_mono (m := m) (v := v) _ 0 0 (Int.le_refl 0) (fun i hi' => hi i (hp.mem_iff.1 hi')) h1
  exact (feas_any hv h2).perm hp

/-! ### one out, one in -/
theorem exch {w L U : List Int} (hn : L.Nodup) (hU : U.Sublist L) (hlt : U.length < L.length) : ∃ U', U'.Sublist (L.erase (pickL w L)) ∧ U'.length = U.length ∧ sumW w U' ≤ sumW w U := by
  by_cases hm : pickL w L ∈ U
  · have hyex : ∃ y ∈ L, y ∉ U := by
      apply Classical.byContradiction
      intro hno
      have := hn.length_le_of_subset (l₂ := U) fun y hy => Classical.byContradiction fun h => hno ⟨y, hy, h⟩
      omega
    obtain ⟨y, hyL, hyU⟩ := hyex
    have hmax := pickL_max w L y hyL
    have hUn : U.Nodup := hn.sublist hU
    generalize pickL w L = m at *
    have hym : y ≠ m := fun h => hyU (h ▸ hm)
    have hp : (L.filter fun i => decide (i = y) || (U.contains i && decide (i ≠ m))).Perm (y :: U.erase m) := by
      rw [List.perm_ext_iff_of_nodup (hn.filter _) (List.nodup_cons.2 ⟨fun h => hyU (List.mem_of_mem_erase h), hUn.erase _⟩)]
      intro a
      rw [List.mem_filter, List.mem_cons, hUn.mem_erase_iff]
      simp only [Bool.or_eq_true, decide_eq_true_eq, Bool.and_eq_true, List.contains_eq_mem]
      constructor
      · rintro ⟨_, h | ⟨h1, h2⟩⟩
        · exact .inl h
        · exact .inr ⟨h2, h1⟩
      · rintro (h | ⟨h1, h2⟩)
        · exact ⟨h ▸ hyL, .inl h⟩
        · exact ⟨hU.subset h2, .inr ⟨h2, h1⟩⟩
    refine ⟨_, ?_, hp.length_eq.trans ?_, ?_⟩
    · have h1 := (List.filter_sublist (p := fun i => decide (i = y) || (U.contains i && decide (i ≠ m))) (l := L)).erase m
      rwa [List.erase_of_not_mem] at h1
      rw [List.mem_filter]
      rintro ⟨_, h⟩
      simp [Ne.symm hym] at h
    · rw [List.length_cons, List.length_erase_of_mem hm]
      have := List.length_pos_of_mem hm
      omega
    · rw [sumW_perm w hp, sumW_cons, sumW_erase w U m hm]
      omega
  · refine ⟨U, ?_, rfl, Int.le_refl _⟩
    have h1 := hU.erase (pickL w L)
    rwa [List.erase_of_not_mem hm] at h1

/-! ### the kept orders are as many as can be -/
structure KeptOpt (l : List Order) (w P ks : List Int) : Prop where
  sub : ks.Sublist P
  feas : feasGo l w 0 ks = true
  opt : ∀ T, T.Sublist P → feasGo l w 0 T = true → ∃ U, U.Sublist ks ∧ U.length = T.length ∧ sumW w U ≤ sumW w T

theorem keptGo_opt {l : List Order} {w : List Int} (hw : ∀ x ∈ w, 0 ≤ x) : ∀ (r P ks : List Int), (P ++ r).Nodup → ((P ++ r).Pairwise fun a b => dueOf l a ≤ dueOf l b) → KeptOpt l w P ks → KeptOpt l w (P ++ r) (keptGo l w r ks (sumW w ks))
  | [], P, ks, _, _, h => by rw [List.append_nil]; exact h
  | i :: r, P, ks, hn, hs, h => by
    have e : P ++ i :: r = (P ++ [i]) ++ r := by simp
    rw [e] at hn hs ⊢
    have hnP : (P ++ [i]).Nodup := (List.nodup_append.1 hn).1
    have hsP : (P ++ [i]).Pairwise fun a b => dueOf l a ≤ dueOf l b := (List.pairwise_append.1 hs).1
    have hsub : (ks ++ [i]).Sublist (P ++ [i]) := h.sub.append (List.Sublist.refl _)
    have hsum : sumW w (ks ++ [i]) = sumW w ks + wk w i := by rw [sumW_append]; simp [sumW]
    have hU1 : ∀ U : List Int, sumW w (U ++ [i]) = sumW w U + wk w i := fun U => by rw [sumW_append]; simp [sumW]
    have hLn := hnP.sublist hsub
    have hLs := hsP.sublist hsub
    rw [keptGo_cons]
    by_cases hle : sumW w ks + wk w i ≤ dueOf l i
    · rw [if_pos hle, ← hsum]
      refine keptGo_opt hw r (P ++ [i]) (ks ++ [i]) hn hs ⟨hsub, feas_last.2 ⟨h.feas, hle⟩, fun T hT hf => ?_⟩
      rcases sublist_snoc hT with hT | ⟨T', rfl, hT'⟩
      · obtain ⟨U, u1, u2, u3⟩ := h.opt T hT hf
        exact ⟨U, u1.trans (List.sublist_append_left _ _), u2, u3⟩
      · obtain ⟨U, u1, u2, u3⟩ := h.opt T' hT' (feas_last.1 hf).1
        refine ⟨U ++ [i], u1.append (List.Sublist.refl _), by simp [u2], ?_⟩
        rw [hU1, hU1]; omega
    · have hpm := pickL_mem w (ks ++ [i]) (by simp)
      have hse := sumW_erase w (ks ++ [i]) _ hpm
      rw [if_neg hle, ← hsum, ← hse]
      have hksS := hsP.sublist (h.sub.trans (List.sublist_append_left P [i]))
      have hfe := feas_erase hw hLs ((feasGo_iff hw hksS).1 h.feas)
      refine keptGo_opt hw r (P ++ [i]) _ hn hs ⟨List.erase_sublist.trans hsub, (feasGo_iff hw (hLs.sublist List.erase_sublist)).2 hfe, fun T hT hf => ?_⟩
      have main : ∀ U : List Int, U.Sublist (ks ++ [i]) → U.length = T.length → sumW w U ≤ sumW w T → U.length < (ks ++ [i]).length → ∃ U, U.Sublist ((ks ++ [i]).erase (pickL w (ks ++ [i]))) ∧ U.length = T.length ∧ sumW w U ≤ sumW w T := fun U h1 h2 h3 h4 => by
        obtain ⟨U', a, b, c⟩ := exch (w := w) hLn h1 h4
        exact ⟨U', a, by omega, by omega⟩
      rcases sublist_snoc hT with hT | ⟨T', rfl, hT'⟩
      · obtain ⟨U, u1, u2, u3⟩ := h.opt T hT hf
        refine main U (u1.trans (List.sublist_append_left _ _)) u2 u3 ?_
        have := u1.length_le
        simp; omega
      · obtain ⟨hf1, hf2⟩ := feas_last.1 hf
        obtain ⟨U, u1, u2, u3⟩ := h.opt T' hT' hf1
        refine main (U ++ [i]) (u1.append (List.Sublist.refl _)) (by simp [u2]) (by rw [hU1, hU1]; omega) ?_
        apply Nat.lt_of_not_le
        intro hge
        simp only [List.length_append, List.length_cons, List.length_nil] at hge
        obtain rfl : U = ks := u1.eq_of_length_le (by omega)
        omega

theorem kept_best {l : List Order} (hv : Valid l) (s : Int) : (keptOf l s).Sublist (seqOf l) ∧ feasGo l (side l s) 0 (keptOf l s) = true ∧ ∀ T : List Int, T.Sublist (seqOf l) → feasGo l (side l s) 0 T = true → T.length ≤ (keptOf l s).length := by
  have h := keptGo_opt (l := l) (side_pos hv s) (seqOf l) [] [] (by simpa using seqOf_nodup l) (by simpa using seqOf_sorted l) ⟨List.Sublist.refl _, rfl, fun T hT _ => by
    obtain rfl : T = [] := by simpa using hT
    exact ⟨[], List.Sublist.refl _, rfl, Int.le_refl _⟩⟩
  rw [List.nil_append] at h
  refine ⟨h.sub, h.feas, fun T hT hf => ?_⟩
  obtain ⟨U, u1, u2, _⟩ := h.opt T hT hf
  have := u1.length_le
  exact u2 ▸ this

theorem neg_notin' (l : List Order) : (-1 : Int) ∉ seqOf l := fun h => by have := seqOf_mem.1 h; omega
theorem allowed_none {l : List Order} {w T : List Int} : Allowed l w (-1) (-1) (seqOf l) T ↔ T.Sublist (seqOf l) ∧ feasGo l w 0 T = true :=
  ⟨fun h => ⟨h.1, h.2.1⟩, fun h => ⟨h.1, h.2, fun h' => (neg_notin' l h').elim, fun h' => neg_notin' l (h.1.subset h')⟩⟩

theorem most_kept {l : List Order} (hv : Valid l) (s : Int) : mostOf l s (-1) (-1) = (keptOf l s).length := by
  obtain ⟨h1, h2, h3⟩ := kept_best hv s
  rcases mostOf_spec hv s (-1) (-1) (fun _ => neg_notin' l) with ⟨_, h⟩ | ⟨m, h, ⟨T, t1, t2⟩, h4⟩
  · exact (h _ (allowed_none.2 ⟨h1, h2⟩)).elim
  · rw [h]
    have a := h4 _ (allowed_none.2 ⟨h1, h2⟩)
    have b := h3 T (allowed_none.1 t1).1 (allowed_none.1 t1).2
    omega

/-- a list without twins out of some others, in their order -/
theorem filter_mem_perm {S T : List Int} (hS : S.Nodup) (hT : T.Nodup) (h : ∀ x ∈ T, x ∈ S) : (S.filter fun i => T.contains i).Perm T := by
  rw [List.perm_ext_iff_of_nodup (hS.filter _) hT]
  intro a
  rw [List.mem_filter]
  simp only [List.contains_eq_mem, decide_eq_true_eq]
  exact ⟨fun h => h.2, fun ha => ⟨h a ha, ha⟩⟩

/-- whatever can be kept has no more -/
theorem feas_le {l : List Order} (hv : Valid l) (s : Int) {T : List Int} (hn : T.Nodup) (hb : ∀ x ∈ T, 0 ≤ x ∧ x < l.length) (hf : Feas l (side l s) T) : T.length ≤ (keptOf l s).length := by
  have hp := filter_mem_perm (seqOf_nodup l) hn fun x hx => seqOf_mem.2 (hb x hx)
  rw [← hp.length_eq]
  exact (kept_best hv s).2.2 _ List.filter_sublist ((feasGo_iff (side_pos hv s) ((seqOf_sorted l).filter _)).2 (hf.perm hp.symm))

/-! ### those on time, in any sequence, can be kept -/
theorem ontime_feas {l : List Order} {w S : List Int} (hw : ∀ x ∈ w, 0 ≤ x) (p : Int → Bool) (h : ∀ (k : Nat) (i : Int), S[k]? = some i → p i = true → sumW w (S.take (k + 1)) ≤ dueOf l i) : Feas l w (S.filter p) := by
  refine feas_any hw ?_
  have main : ∀ (S : List Int) (d d' : Int), d' ≤ d → (∀ (k : Nat) (i : Int), S[k]? = some i → p i = true → d + sumW w (S.take (k + 1)) ≤ dueOf l i) → feasGo l w d' (S.filter p) = true := by
    intro S
    induction S with
    | nil => intros; rfl
    | cons a r ih =>
      intro d d' hd h
      have hwa := wk_nonneg hw a
      have hr : ∀ (k : Nat) (i : Int), r[k]? = some i → p i = true → d + wk w a + sumW w (r.take (k + 1)) ≤ dueOf l i := fun k i hk hp => by
        have := h (k + 1) i (by simpa using hk) hp
        rw [List.take_succ_cons, sumW_cons] at this
        omega
      rw [List.filter_cons]
      split
      · next hp =>
        have h0 := h 0 a rfl hp
        simp only [Nat.zero_add, List.take_succ_cons, List.take_zero, sumW_cons] at h0
        have e : sumW w [] = 0 := rfl
        rw [feasGo, Bool.and_eq_true, decide_eq_true_eq]
        exact ⟨by omega, ih (d + wk w a) (d' + wk w a) (by omega) hr⟩
      · exact ih (d + wk w a) d' (by omega) hr
  exact main S 0 0 (Int.le_refl 0) fun k i hk hp => by rw [Int.zero_add]; exact h k i hk hp

/-! ### the shortest delay is no more than that of any sequence -/
theorem shortest_le {l : List Order} (hv : Valid l) (h0 : 0 < l.length) (s : Int) {S : List Int} (hs : Seq l.length S) {w : List Int} (hw : ∀ x ∈ w, 0 ≤ x) (hle : ∀ i : Int, wk (side l s) i ≤ wk w i) : delayOf l (seqOf l) (side l s) ≤ delayOf l S w := by
  obtain ⟨a, _, h2, h3, _⟩ := tight_spec hv h0 s
  rw [← h2]
  refine Int.le_trans (bd_le hs (side_pos hv s) h3) ?_
  obtain ⟨⟨k, i, hk, h4⟩, _⟩ := delay_spec (w := side l s) hs h0
  have h5 := (delay_spec (w := w) hs h0).2 k i hk
  have h6 : ∀ T : List Int, sumW (side l s) T ≤ sumW w T := by
    intro T
    induction T with
    | nil => exact Int.le_refl _
    | cons a r ih => have := hle a; rw [sumW_cons, sumW_cons]; omega
  have := h6 (S.take (k + 1))
  omega

end Go.Ev
