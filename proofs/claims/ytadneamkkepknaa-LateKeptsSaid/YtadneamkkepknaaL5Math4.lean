/- Which orders can be kept, in plain mathematics: no program in sight. No condition. -/
import Derived.Test.YtadneamkkepknaaL5Math3
set_option linter.unusedSimpArgs false
set_option linter.unusedVariables false
namespace Go.Ev

/-- orders can be kept: by each day no more work is due than there are days -/
def Feas (l : List Order) (w : List Int) (ks : List Int) : Prop := ∀ d : Int, (∃ i ∈ ks, dueOf l i ≤ d) → sumW w (ks.filter fun i => decide (dueOf l i ≤ d)) ≤ d

theorem Feas.perm {l : List Order} {w : List Int} {a b : List Int} (h : a.Perm b) (hf : Feas l w a) : Feas l w b := fun d hd => by
  rw [← sumW_perm w (h.filter _)]
  refine hf d ?_
  obtain ⟨i, hi, h1⟩ := hd
  exact ⟨i, h.mem_iff.2 hi, h1⟩

theorem sumW_sublist {w : List Int} (hw : ∀ x ∈ w, 0 ≤ x) {a b : List Int} (h : a.Sublist b) : sumW w a ≤ sumW w b := by
  induction h with
  | slnil => exact Int.le_refl _
  | cons x _ ih =>
    have := sumW_nonneg hw [x]
    have h1 : sumW w [x] = wk w x := by simp [sumW]
    rw [sumW_cons]; omega
  | cons_cons x _ ih => rw [sumW_cons, sumW_cons]; omega

theorem Feas.sub {l : List Order} {w : List Int} (hw : ∀ x ∈ w, 0 ≤ x) {a b : List Int} (h : a.Sublist b) (hf : Feas l w b) : Feas l w a := fun d hd => by
  obtain ⟨i, hi, h1⟩ := hd
  have := hf d ⟨i, h.subset hi, h1⟩
  have h2 := sumW_sublist hw (h.filter fun i => decide (dueOf l i ≤ d))
  omega

theorem Feas.nil (l : List Order) (w : List Int) : Feas l w [] := fun d hd => by obtain ⟨i, hi, _⟩ := hd; cases hi

/-- one after another none is late -/
def feasGo (l : List Order) (w : List Int) : Int → List Int → Bool
  | _, [] => true
  | day, i :: r => decide (day + wk w i ≤ dueOf l i) && feasGo l w (day + wk w i) r

theorem feasGo_iff_pre (l : List Order) (w : List Int) : ∀ (T : List Int) (day : Int), feasGo l w day T = true ↔ ∀ (k : Nat) (i : Int), T[k]? = some i → day + sumW w (T.take (k + 1)) ≤ dueOf l i
  | [], day => by simp [feasGo]
  | a :: r, day => by
    rw [feasGo, Bool.and_eq_true, decide_eq_true_eq, feasGo_iff_pre l w r]
    constructor
    · rintro ⟨h1, h2⟩ k i hk
      cases k with
      | zero =>
        simp at hk
        subst hk
        simpa [sumW] using h1
      | succ k =>
        simp only [List.getElem?_cons_succ] at hk
        have := h2 k i hk
        rw [List.take_succ_cons, sumW_cons]
        omega
    · intro h
      refine ⟨?_, fun k i hk => ?_⟩
      · have := h 0 a rfl
        simpa [sumW] using this
      · have := h (k + 1) i (by simpa using hk)
        rw [List.take_succ_cons, sumW_cons] at this
        omega

theorem feasGo_iff {l : List Order} {w : List Int} (hw : ∀ x ∈ w, 0 ≤ x) {T : List Int} (hs : T.Pairwise fun a b => dueOf l a ≤ dueOf l b) : feasGo l w 0 T = true ↔ Feas l w T := by
  rw [feasGo_iff_pre]
  constructor
  · intro h d hd
    obtain ⟨x, hx, hxd⟩ := hd
    obtain ⟨k, i, hk, hp, hdrop⟩ := last_of (fun i => decide (dueOf l i ≤ d)) T ⟨x, hx, by simpa using hxd⟩
    have h3 : T.filter (fun i => decide (dueOf l i ≤ d)) = (T.take (k + 1)).filter fun i => decide (dueOf l i ≤ d) := by
      conv => lhs; rw [← List.take_append_drop (k + 1) T]
      rw [List.filter_append, hdrop, List.append_nil]
    have h4 := sumW_filter_le hw (fun i => decide (dueOf l i ≤ d)) (T.take (k + 1))
    have h5 := h k i hk
    have h6 : dueOf l i ≤ d := by simpa using hp
    rw [h3]
    omega
  · intro h k i hk
    have h1 := h (dueOf l i) ⟨i, List.mem_of_getElem? hk, Int.le_refl _⟩
    have h3 : (T.take (k + 1)).filter (fun j => decide (dueOf l j ≤ dueOf l i)) = T.take (k + 1) := by
      rw [List.filter_eq_self]
      intro a ha
      rw [List.take_add_one, hk] at ha
      rcases List.mem_append.1 ha with ha | ha
      · have h4 : T = T.take k ++ i :: T.drop (k + 1) := by
          obtain ⟨hk', rfl⟩ := List.getElem?_eq_some_iff.1 hk
          rw [← List.drop_eq_getElem_cons hk', List.take_append_drop]
        rw [h4, List.pairwise_append] at hs
        simpa using hs.2.2 a ha i List.mem_cons_self
      · obtain rfl : a = i := by simpa using ha
        simp
    have h4 : sumW w (T.filter fun j => decide (dueOf l j ≤ dueOf l i)) = sumW w ((T.take (k + 1)).filter fun j => decide (dueOf l j ≤ dueOf l i)) + sumW w ((T.drop (k + 1)).filter fun j => decide (dueOf l j ≤ dueOf l i)) := by
      conv => lhs; rw [← List.take_append_drop (k + 1) T]
      rw [List.filter_append, sumW_append]
    have h5 := sumW_nonneg hw ((T.drop (k + 1)).filter fun j => decide (dueOf l j ≤ dueOf l i))
    rw [h3] at h4
    omega

/-! ### orders of a list of indexes, by themselves -/
def subO (l : List Order) (ks : List Int) : List Order := ks.filterMap fun i => l[i.toNat]?
def canB (l : List Order) (s : Int) (ks : List Int) : Bool := decide ((subO l ks).length = 0) || decide (delayOf (subO l ks) (seqOf (subO l ks)) (side (subO l ks) s) ≤ 0)

theorem subO_get {l : List Order} : ∀ {ks : List Int}, (∀ i ∈ ks, 0 ≤ i ∧ i < l.length) → ∀ j : Nat, (subO l ks)[j]? = (ks[j]?).bind fun i => l[i.toNat]?
  | [], _, j => by simp [subO]
  | a :: r, h, j => by
    have ha := h a List.mem_cons_self
    have hg : l[a.toNat]? = some l[a.toNat] := List.getElem?_eq_getElem (by omega)
    have ih := subO_get (ks := r) fun i hi => h i (List.mem_cons_of_mem _ hi)
    simp only [subO, List.filterMap_cons, hg] at ih ⊢
    cases j with
    | zero => simp [hg]
    | succ j => simpa using ih j

theorem subO_length {l : List Order} {ks : List Int} (h : ∀ i ∈ ks, 0 ≤ i ∧ i < l.length) : (subO l ks).length = ks.length := by
  induction ks with
  | nil => rfl
  | cons a r ih =>
    have ha := h a List.mem_cons_self
    have hg : l[a.toNat]? = some l[a.toNat] := List.getElem?_eq_getElem (by omega)
    have := ih fun i hi => h i (List.mem_cons_of_mem _ hi)
    simp only [subO, List.filterMap_cons, hg, List.length_cons] at this ⊢
    rw [this]

theorem delay_le_iff {x : List Order} {w : List Int} (h0 : 0 < x.length) (hw : ∀ a ∈ w, 0 ≤ a) : delayOf x (seqOf x) w ≤ 0 ↔ ∀ d, someDue x d = true → bd x w d ≤ 0 := by
  have hs := seqOf_seq x
  constructor
  · intro h d hd
    have := bd_le hs hw hd
    omega
  · intro h
    obtain ⟨⟨k, i, hk, he⟩, _⟩ := delay_spec (w := w) hs h0
    have h1 := pre_le_bd hs (seqOf_sorted x) hw hk
    have h2 := h (dueOf x i) (someDue_of (List.mem_of_getElem? hk) (Int.le_refl _))
    omega

theorem idx_map (ks : List Int) : (idx ks.length).map (fun j => ks.getD j.toNat 0) = ks := by
  apply List.ext_getElem?
  intro j
  simp only [idx, List.map_map, List.getElem?_map]
  by_cases hj : j < ks.length
  · rw [List.getElem?_range hj]
    simp [List.getElem?_eq_getElem hj]
  · rw [List.getElem?_eq_none (by simp; omega), List.getElem?_eq_none (by omega)]
    rfl

theorem canB_iff {l : List Order} (hv : Valid l) (s : Int) {ks : List Int} (h : ∀ i ∈ ks, 0 ≤ i ∧ i < l.length) : canB l s ks = true ↔ Feas l (side l s) ks := by
  have hlen := subO_length h
  have hget := subO_get h
  unfold canB
  rw [Bool.or_eq_true, decide_eq_true_eq, decide_eq_true_eq, hlen]
  by_cases h0 : ks.length = 0
  · obtain rfl : ks = [] := List.length_eq_zero_iff.1 h0
    simp [Feas.nil]
  have hw : ∀ a ∈ side (subO l ks) s, 0 ≤ a := fun a ha => by
    obtain ⟨o, ho, rfl⟩ := List.mem_map.1 ha
    obtain ⟨i, hi, hio⟩ := List.mem_filterMap.1 ho
    have := hv.ok o (List.mem_of_getElem? hio)
    have h1 := this.lo
    have h2 := this.lh
    split <;> omega
  rw [delay_le_iff (by omega) hw]
  have hdue : ∀ j : Nat, j < ks.length → dueOf (subO l ks) (j : Int) = dueOf l (ks.getD j 0) := fun j hj => by
    have := hget j
    rw [List.getElem?_eq_getElem hj] at this
    simp only [dueOf, Int.toNat_natCast, this, Option.bind_some, List.getD_eq_getElem?_getD, List.getElem?_eq_getElem hj, Option.getD_some]
  have hwk : ∀ j : Nat, j < ks.length → wk (side (subO l ks) s) (j : Int) = wk (side l s) (ks.getD j 0) := fun j hj => by
    have := hget j
    rw [List.getElem?_eq_getElem hj] at this
    simp only [wk, side, Int.toNat_natCast, List.getD_eq_getElem?_getD, List.getElem?_map, this, Option.bind_some, List.getElem?_eq_getElem hj, Option.getD_some]
  have hsum : ∀ d, sumW (side (subO l ks) s) ((idx ks.length).filter fun j => decide (dueOf (subO l ks) j ≤ d)) = sumW (side l s) (ks.filter fun i => decide (dueOf l i ≤ d)) := fun d => by
    have e : ks.filter (fun i => decide (dueOf l i ≤ d)) = ((idx ks.length).filter fun j => decide (dueOf (subO l ks) j ≤ d)).map fun j => ks.getD j.toNat 0 := by
      conv => lhs; rw [← idx_map ks]
      rw [List.filter_map]
      congr 1
      apply List.filter_congr
      intro j hj
      have hb := idx_mem.1 hj
      obtain ⟨n, rfl⟩ := Int.eq_ofNat_of_zero_le hb.1
      simp only [Function.comp, Int.toNat_natCast]
      rw [hdue n (by omega)]
    rw [e]
    unfold sumW
    rw [List.map_map]
    congr 1
    apply List.map_congr_left
    intro j hj
    have hb := idx_mem.1 (List.mem_filter.1 hj).1
    obtain ⟨n, rfl⟩ := Int.eq_ofNat_of_zero_le hb.1
    simp only [Function.comp, Int.toNat_natCast]
    rw [hwk n (by omega)]
  have hsome : ∀ d, someDue (subO l ks) d = true ↔ ∃ i ∈ ks, dueOf l i ≤ d := fun d => by
    rw [someDue, hlen, List.any_eq_true]
    constructor
    · rintro ⟨j, hj, hjd⟩
      have hb := idx_mem.1 hj
      obtain ⟨n, rfl⟩ := Int.eq_ofNat_of_zero_le hb.1
      rw [hdue n (by omega), decide_eq_true_eq] at hjd
      refine ⟨_, ?_, hjd⟩
      rw [List.getD_eq_getElem?_getD, List.getElem?_eq_getElem (by omega : n < ks.length), Option.getD_some]
      exact List.getElem_mem _
    · rintro ⟨i, hi, hid⟩
      obtain ⟨n, hn⟩ := List.mem_iff_getElem?.1 hi
      have hnl := (List.getElem?_eq_some_iff.1 hn).1
      refine ⟨(n : Int), idx_mem.2 (by omega), ?_⟩
      rw [hdue n hnl, decide_eq_true_eq, List.getD_eq_getElem?_getD, hn, Option.getD_some]
      exact hid
  constructor
  · rintro (h1 | h1)
    · exact (h0 h1).elim
    · intro d hd
      have := h1 d ((hsome d).2 hd)
      rw [bd, hlen, hsum] at this
      omega
  · intro h1
    right
    intro d hd
    have := h1 d ((hsome d).1 hd)
    rw [bd, hlen, hsum]
    omega

/-! ### the kept orders can be kept -/
theorem pickL_max (w : List Int) : ∀ ks : List Int, ∀ x ∈ ks, wk w x ≤ wk w (pickL w ks)
  | [], x, hx => by cases hx
  | a :: r, x, hx => by
    have : ∀ (r : List Int) (a : Int), ∀ x ∈ a :: r, wk w x ≤ wk w (r.foldl (fun m x => if wk w x ≥ wk w m then x else m) a) := by
      intro r
      induction r with
      | nil => intro a x hx; simp at hx; subst hx; exact Int.le_refl _
      | cons b r ih =>
        intro a x hx
        rw [List.foldl_cons]
        have h3 := ih (if wk w b ≥ wk w a then b else a) _ List.mem_cons_self
        have h4 := ih (if wk w b ≥ wk w a then b else a)
        generalize List.foldl (fun m x => if wk w x ≥ wk w m then x else m) (if wk w b ≥ wk w a then b else a) r = g at *
        rcases List.mem_cons.1 hx with rfl | hx
        · split at h3 <;> omega
        · rcases List.mem_cons.1 hx with rfl | hx
          · split at h3 <;> omega
          · exact h4 x (List.mem_cons_of_mem _ hx)
    exact this r a x hx

theorem feasGo_append (l : List Order) (w : List Int) : ∀ (a b : List Int) (d : Int), feasGo l w d (a ++ b) = (feasGo l w d a && feasGo l w (d + sumW w a) b)
  | [], b, d => by simp [feasGo, sumW]
  | x :: a, b, d => by
    rw [List.cons_append, feasGo, feasGo, feasGo_append l w a b, sumW_cons, Bool.and_assoc]
    congr 3
    omega

theorem feas_snoc {l : List Order} {w : List Int} (hw : ∀ x ∈ w, 0 ≤ x) {out : List Int} {i : Int} (hs : (out ++ [i]).Pairwise fun a b => dueOf l a ≤ dueOf l b) (hf : Feas l w out) : Feas l w (out ++ [i]) ↔ sumW w out + wk w i ≤ dueOf l i := by
  have hso : out.Pairwise fun a b => dueOf l a ≤ dueOf l b := (List.pairwise_append.1 hs).1
  rw [← feasGo_iff hw hs, feasGo_append, (feasGo_iff hw hso).2 hf]
  simp [feasGo]

theorem feas_erase {l : List Order} {w : List Int} (hw : ∀ x ∈ w, 0 ≤ x) {out : List Int} {i : Int} (hs : (out ++ [i]).Pairwise fun a b => dueOf l a ≤ dueOf l b) (hf : Feas l w out) : Feas l w ((out ++ [i]).erase (pickL w (out ++ [i]))) := by
  have hm := pickL_mem w (out ++ [i]) (by simp)
  have hmax := pickL_max w (out ++ [i]) i (by simp)
  generalize pickL w (out ++ [i]) = m at *
  have hall : ∀ a ∈ out, dueOf l a ≤ dueOf l i := fun a ha => (List.pairwise_append.1 hs).2.2 a ha i (by simp)
  have hwi : 0 ≤ wk w i := by
    have := sumW_nonneg hw [i]
    simpa [sumW] using this
  have hsub : ((out ++ [i]).erase m).Sublist (out ++ [i]) := List.erase_sublist
  intro d hd
  by_cases hdi : d < dueOf l i
  · obtain ⟨x, hx, hxd⟩ := hd
    have hxo : x ∈ out := by
      rcases List.mem_append.1 (hsub.subset hx) with h | h
      · exact h
      · obtain rfl : x = i := by simpa using h
        omega
    have h1 := hf d ⟨x, hxo, hxd⟩
    have h2 := sumW_sublist hw (hsub.filter fun i => decide (dueOf l i ≤ d))
    have h3 : (out ++ [i]).filter (fun i => decide (dueOf l i ≤ d)) = out.filter fun i => decide (dueOf l i ≤ d) := by
      rw [List.filter_append]
      have : [i].filter (fun i => decide (dueOf l i ≤ d)) = [] := by
        rw [List.filter_cons, if_neg (by simp; omega)]
        rfl
      rw [this, List.append_nil]
    rw [h3] at h2
    omega
  · have h1 := sumW_erase w (out ++ [i]) m hm
    have h2 := sumW_filter_le hw (fun i => decide (dueOf l i ≤ d)) ((out ++ [i]).erase m)
    rw [sumW_append] at h1
    have h4 : sumW w [i] = wk w i := by simp [sumW]
    cases hout : out with
    | nil =>
      rw [hout] at hd hm
      obtain ⟨x, hx, _⟩ := hd
      obtain rfl : m = i := by simpa using hm
      simp at hx
    | cons a r =>
      have h5 := hf (dueOf l i) ⟨a, by rw [hout]; exact List.mem_cons_self, hall a (by rw [hout]; exact List.mem_cons_self)⟩
      have h6 : out.filter (fun j => decide (dueOf l j ≤ dueOf l i)) = out := List.filter_eq_self.2 fun a ha => by simpa using hall a ha
      rw [h6] at h5
      rw [← hout]
      omega

end Go.Ev
