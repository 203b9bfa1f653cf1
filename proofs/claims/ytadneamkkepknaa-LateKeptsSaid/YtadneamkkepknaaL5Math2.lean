/- Sequences, delays and bounds, in plain mathematics: no program in sight. No condition. -/
import Derived.Test.YtadneamkkepknaaL5Math
set_option linter.unusedSimpArgs false
set_option linter.unusedVariables false
namespace Go.Ev

/-! ### sums -/
theorem sumW_perm (w : List Int) {a b : List Int} (h : a.Perm b) : sumW w a = sumW w b := by
  induction h with
  | nil => rfl
  | cons x _ ih => simp only [sumW, List.map_cons, List.sum_cons] at ih ⊢; omega
  | swap x y l => simp only [sumW, List.map_cons, List.sum_cons]; omega
  | trans _ _ ih1 ih2 => omega
theorem sumW_cons (w : List Int) (a : Int) (r : List Int) : sumW w (a :: r) = wk w a + sumW w r := rfl
theorem sumW_filter_le {w : List Int} (hw : ∀ x ∈ w, 0 ≤ x) (p : Int → Bool) : ∀ l : List Int, sumW w (l.filter p) ≤ sumW w l
  | [] => Int.le_refl _
  | a :: r => by
    have ih := sumW_filter_le hw p r
    have ha : 0 ≤ wk w a := by
      have := sumW_nonneg hw [a]
      simpa [sumW] using this
    rw [List.filter_cons]
    split
    · rw [sumW_cons, sumW_cons]; omega
    · rw [sumW_cons]; omega

/-! ### the greatest of a list -/
theorem maxL_spec : ∀ (L : List Int), L ≠ [] → maxL L ∈ L ∧ ∀ x ∈ L, x ≤ maxL L
  | [], h => (h rfl).elim
  | a :: r, _ => by
    have : ∀ (r : List Int) (a : Int), r.foldl (fun m x => if x > m then x else m) a ∈ a :: r ∧ ∀ x ∈ a :: r, x ≤ r.foldl (fun m x => if x > m then x else m) a := by
      intro r
      induction r with
      | nil => intro a; simp
      | cons b r ih =>
        intro a
        rw [List.foldl_cons]
        obtain ⟨h1, h2⟩ := ih (if b > a then b else a)
        have h3 := h2 _ List.mem_cons_self
        generalize List.foldl (fun m x => if x > m then x else m) (if b > a then b else a) r = g at *
        refine ⟨?_, fun x hx => ?_⟩
        · rcases List.mem_cons.1 h1 with h | h
          · rw [h]; split <;> simp
          · simp [h]
        · rcases List.mem_cons.1 hx with rfl | hx
          · split at h3 <;> omega
          · rcases List.mem_cons.1 hx with rfl | hx
            · split at h3 <;> omega
            · exact h2 x (List.mem_cons_of_mem _ hx)
    exact this r a

theorem maxL_eq {L : List Int} {m : Int} (h1 : m ∈ L) (h2 : ∀ x ∈ L, x ≤ m) : maxL L = m := by
  obtain ⟨h3, h4⟩ := maxL_spec L (List.ne_nil_of_mem h1)
  have := h4 m h1
  have := h2 _ h3
  omega

/-! ### when orders end -/
theorem runEnds_notin (w : List Int) : ∀ (s : List Int) (d : Int) (out : List Int) (j : Nat), (∀ x ∈ s, x.toNat ≠ j) → (runEnds w s d out)[j]? = out[j]?
  | [], _, _, _, _ => rfl
  | i :: r, d, out, j, h => by
    rw [runEnds, runEnds_notin w r _ _ j fun x hx => h x (List.mem_cons_of_mem _ hx), List.getElem?_set, if_neg (h i List.mem_cons_self)]

theorem runEnds_at (w : List Int) : ∀ (s : List Int) (d : Int) (out : List Int), s.Nodup → (∀ x ∈ s, 0 ≤ x ∧ x < out.length) → ∀ (k : Nat) (i : Int), s[k]? = some i → (runEnds w s d out)[i.toNat]? = some (d + sumW w (s.take (k + 1)))
  | [], _, _, _, _, _, _, h => by simp at h
  | a :: r, d, out, hn, hb, k, i, h => by
    rw [List.nodup_cons] at hn
    have ha := hb a List.mem_cons_self
    rw [runEnds]
    cases k with
    | zero =>
      simp at h
      subst h
      rw [runEnds_notin]
      · rw [List.getElem?_set, if_pos rfl, if_pos (by omega)]
        simp [sumW, wk]
      · intro x hx he
        have hxb := hb x (List.mem_cons_of_mem _ hx)
        have : x = a := by omega
        exact hn.1 (this ▸ hx)
    | succ k =>
      simp only [List.getElem?_cons_succ] at h
      rw [runEnds_at w r _ _ hn.2 (fun x hx => by rw [List.length_set]; exact hb x (List.mem_cons_of_mem _ hx)) k i h, List.take_succ_cons, sumW_cons]
      have : w.getD a.toNat 0 = wk w a := rfl
      rw [this]
      congr 1
      omega

theorem endsOf_at {n : Nat} {s : List Int} (w : List Int) (hs : Seq n s) {k : Nat} {i : Int} (h : s[k]? = some i) : (endsOf s w)[i.toNat]? = some (sumW w (s.take (k + 1))) := by
  have := runEnds_at w s 0 (List.replicate s.length 0) hs.lt.2 (fun x hx => by rw [List.length_replicate, hs.len]; exact hs.lt.1 x hx) k i h
  rw [endsOf, this]
  simp

theorem Seq.pos {n : Nat} {s : List Int} (hs : Seq n s) {i : Nat} (hi : i < n) : ∃ k : Nat, s[k]? = some (i : Int) := List.mem_iff_getElem?.1 (hs.has i hi)

theorem dueOf_nat {l : List Order} {i : Nat} {o : Order} (h : l[i]? = some o) : dueOf l (i : Int) = o.due := by simp [dueOf, h]

theorem delays_mem {l : List Order} {s w : List Int} (hs : Seq l.length s) (x : Int) : x ∈ delays l (endsOf s w) ↔ ∃ (k : Nat) (i : Int), s[k]? = some i ∧ x = sumW w (s.take (k + 1)) - dueOf l i := by
  have hel : (endsOf s w).length = l.length := by rw [endsOf_length, hs.len]
  constructor
  · intro hx
    obtain ⟨j, hj⟩ := List.mem_iff_getElem?.1 hx
    simp only [delays, List.getElem?_zipWith] at hj
    cases ho : l[j]? with
    | none => simp [ho] at hj
    | some o =>
      have hjl := (List.getElem?_eq_some_iff.1 ho).1
      obtain ⟨k, hk⟩ := hs.pos hjl
      have he := endsOf_at w hs hk
      simp only [Int.toNat_natCast] at he
      simp only [ho, he] at hj
      refine ⟨k, j, hk, ?_⟩
      rw [dueOf_nat ho]
      simpa using hj.symm
  · rintro ⟨k, i, hk, rfl⟩
    have hib := hs.lt.1 i (List.mem_of_getElem? hk)
    obtain ⟨j, rfl⟩ := Int.eq_ofNat_of_zero_le hib.1
    have he := endsOf_at w hs hk
    simp only [Int.toNat_natCast] at he
    obtain ⟨o, ho⟩ : ∃ o, l[j]? = some o := ⟨_, List.getElem?_eq_getElem (by omega)⟩
    rw [dueOf_nat ho]
    refine List.mem_iff_getElem?.2 ⟨j, ?_⟩
    simp [delays, List.getElem?_zipWith, ho, he]

theorem delay_spec {l : List Order} {s w : List Int} (hs : Seq l.length s) (h0 : 0 < l.length) :
    (∃ (k : Nat) (i : Int), s[k]? = some i ∧ delayOf l s w = sumW w (s.take (k + 1)) - dueOf l i) ∧ ∀ (k : Nat) (i : Int), s[k]? = some i → sumW w (s.take (k + 1)) - dueOf l i ≤ delayOf l s w := by
  have hne : delays l (endsOf s w) ≠ [] := by
    obtain ⟨k, hk⟩ := hs.pos h0
    exact List.ne_nil_of_mem ((delays_mem (w := w) hs _).2 ⟨k, _, hk, rfl⟩)
  obtain ⟨h1, h2⟩ := maxL_spec _ hne
  exact ⟨(delays_mem hs _).1 h1, fun k i hk => h2 _ ((delays_mem hs _).2 ⟨k, i, hk, rfl⟩)⟩

/-! ### bounds -/
def bd (l : List Order) (w : List Int) (d : Int) : Int := sumW w ((idx l.length).filter fun i => decide (dueOf l i ≤ d)) - d
def someDue (l : List Order) (d : Int) : Bool := (idx l.length).any fun i => decide (dueOf l i ≤ d)

theorem Seq.perm {n : Nat} {s : List Int} (hs : Seq n s) : s.Perm (idx n) := by
  rw [List.perm_ext_iff_of_nodup hs.lt.2 (idx_nodup n)]
  intro a
  rw [idx_mem]
  constructor
  · exact hs.lt.1 a
  · intro h
    obtain ⟨j, rfl⟩ := Int.eq_ofNat_of_zero_le h.1
    exact hs.has j (by omega)

theorem last_of (p : Int → Bool) : ∀ s : List Int, (∃ x ∈ s, p x = true) → ∃ (k : Nat) (x : Int), s[k]? = some x ∧ p x = true ∧ (s.drop (k + 1)).filter p = []
  | [], h => by obtain ⟨x, hx, _⟩ := h; cases hx
  | a :: r, h => by
    by_cases hr : ∃ x ∈ r, p x = true
    · obtain ⟨k, x, h1, h2, h3⟩ := last_of p r hr
      exact ⟨k + 1, x, h1, h2, h3⟩
    · refine ⟨0, a, rfl, ?_, ?_⟩
      · obtain ⟨x, hx, hp⟩ := h
        rcases List.mem_cons.1 hx with rfl | hx
        · exact hp
        · exact (hr ⟨x, hx, hp⟩).elim
      · rw [List.drop_succ_cons, List.drop_zero, List.filter_eq_nil_iff]
        exact fun x hx hp => hr ⟨x, hx, hp⟩

/-- no sequence has a delay that is less than the bound of a day -/
theorem bd_le {l : List Order} {s w : List Int} (hs : Seq l.length s) (hw : ∀ x ∈ w, 0 ≤ x) {d : Int} (hd : someDue l d = true) : bd l w d ≤ delayOf l s w := by
  obtain ⟨x, hx, hxd⟩ := List.any_eq_true.1 hd
  have h0 : 0 < l.length := by have := idx_mem.1 hx; omega
  obtain ⟨k, i, hk, hp, hdrop⟩ := last_of (fun i => decide (dueOf l i ≤ d)) s ⟨x, hs.perm.mem_iff.2 hx, hxd⟩
  have h1 := (delay_spec (w := w) hs h0).2 k i hk
  have h2 : sumW w ((idx l.length).filter fun i => decide (dueOf l i ≤ d)) = sumW w (s.filter fun i => decide (dueOf l i ≤ d)) := sumW_perm w ((hs.perm.symm).filter _)
  have h3 : s.filter (fun i => decide (dueOf l i ≤ d)) = (s.take (k + 1)).filter fun i => decide (dueOf l i ≤ d) := by
    conv => lhs; rw [← List.take_append_drop (k + 1) s]
    rw [List.filter_append, hdrop, List.append_nil]
  have h4 := sumW_filter_le hw (fun i => decide (dueOf l i ≤ d)) (s.take (k + 1))
  have h5 : dueOf l i ≤ d := by simpa using hp
  unfold bd
  rw [h2, h3]
  omega

/-! ### sorted by Due -/
theorem bub_sorted (f : Int → Int) : ∀ (pr : List Int) (x : Int) (post : List Int), (pr.reverse ++ post).Pairwise (fun a b => f a ≤ f b) → (∀ y ∈ post, f x ≤ f y) → (bub f pr x post).Pairwise fun a b => f a ≤ f b
  | [], x, post, hp, hx => by
    rw [bub, List.pairwise_cons]
    exact ⟨hx, by simpa using hp⟩
  | y :: r, x, post, hp, hx => by
    unfold bub
    rw [List.reverse_cons, List.append_assoc, List.singleton_append] at hp
    split
    · refine bub_sorted f r x (y :: post) hp fun z hz => ?_
      rcases List.mem_cons.1 hz with rfl | hz
      · omega
      · exact hx z hz
    · next hxy =>
      rw [List.pairwise_append] at hp ⊢
      obtain ⟨h1, h2, h3⟩ := hp
      obtain ⟨h4, h5⟩ := List.pairwise_cons.1 h2
      refine ⟨h1, ?_, ?_⟩
      · rw [List.pairwise_cons, List.pairwise_cons]
        refine ⟨fun z hz => ?_, hx, h5⟩
        rcases List.mem_cons.1 hz with rfl | hz
        · omega
        · exact h4 z hz
      · intro a ha b hb
        rcases List.mem_cons.1 hb with rfl | hb
        · exact h3 a ha _ List.mem_cons_self
        · rcases List.mem_cons.1 hb with rfl | hb
          · have := h3 a ha y List.mem_cons_self
            omega
          · exact h3 a ha b (List.mem_cons_of_mem _ hb)

theorem isort_sorted (f : Int → Int) : ∀ (r done : List Int), done.Pairwise (fun a b => f a ≤ f b) → (isort f done r).Pairwise fun a b => f a ≤ f b
  | [], done, h => h
  | x :: r, done, h => isort_sorted f r _ (bub_sorted f done.reverse x [] (by simpa using h) (by simp))

theorem seqOf_sorted (l : List Order) : (seqOf l).Pairwise fun a b => dueOf l a ≤ dueOf l b := isort_sorted _ _ _ List.Pairwise.nil

theorem seqOf_seq (l : List Order) : Seq l.length (seqOf l) := ⟨seqOf_length l, fun i hi => seqOf_mem.2 (by omega)⟩

/-- by their Due, what is done when an order ends is due by then -/
theorem pre_le_bd {l : List Order} {s w : List Int} (hs : Seq l.length s) (hso : s.Pairwise fun a b => dueOf l a ≤ dueOf l b) (hw : ∀ x ∈ w, 0 ≤ x) {k : Nat} {i : Int} (hk : s[k]? = some i) : sumW w (s.take (k + 1)) - dueOf l i ≤ bd l w (dueOf l i) := by
  have h2 : sumW w ((idx l.length).filter fun j => decide (dueOf l j ≤ dueOf l i)) = sumW w (s.filter fun j => decide (dueOf l j ≤ dueOf l i)) := sumW_perm w ((hs.perm.symm).filter _)
  have h3 : (s.take (k + 1)).filter (fun j => decide (dueOf l j ≤ dueOf l i)) = s.take (k + 1) := by
    rw [List.filter_eq_self]
    intro a ha
    rw [List.take_add_one, hk] at ha
    rcases List.mem_append.1 ha with ha | ha
    · have h4 : s = s.take k ++ i :: s.drop (k + 1) := by
        obtain ⟨hk', rfl⟩ := List.getElem?_eq_some_iff.1 hk
        rw [← List.drop_eq_getElem_cons hk', List.take_append_drop]
      rw [h4, List.pairwise_append] at hso
      simpa using hso.2.2 a ha i List.mem_cons_self
    · obtain rfl : a = i := by simpa using ha
      simp
  have h4 : sumW w (s.filter fun j => decide (dueOf l j ≤ dueOf l i)) = sumW w ((s.take (k + 1)).filter fun j => decide (dueOf l j ≤ dueOf l i)) + sumW w ((s.drop (k + 1)).filter fun j => decide (dueOf l j ≤ dueOf l i)) := by
    conv => lhs; rw [← List.take_append_drop (k + 1) s]
    rw [List.filter_append, sumW_append]
  have h5 := sumW_nonneg hw ((s.drop (k + 1)).filter fun j => decide (dueOf l j ≤ dueOf l i))
  unfold bd
  rw [h2, h4, h3]
  omega

end Go.Ev
