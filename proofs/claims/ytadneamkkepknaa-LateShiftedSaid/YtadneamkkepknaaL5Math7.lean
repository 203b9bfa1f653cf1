/- How many are late if the kept orders come first; what can be kept of a list, and of fewer. In plain mathematics: no program in sight. No condition. -/
import Derived.Test.YtadneamkkepknaaL5Kept5
import Derived.Test.YtadneamkkepknaaL5Math6
set_option linter.unusedSimpArgs false
set_option linter.unusedVariables false
namespace Go.Ev.YtadneamkkepknaaC
open Go Go.Ev

theorem keptOf_facts {l : List Order} (hv : Valid l) (s : Int) : (keptOf l s).Nodup ∧ (∀ x ∈ keptOf l s, 0 ≤ x ∧ x < l.length) ∧ Feas l (side l s) (keptOf l s) := by
  obtain ⟨h1, h2, _⟩ := kept_best hv s
  exact ⟨(seqOf_nodup l).sublist h1, fun x hx => seqOf_mem.1 (h1.subset hx), feas_any (side_pos hv s) h2⟩
theorem keptL_perm {l : List Order} (hv : Valid l) (s : Int) : (keptL l s).Perm (keptOf l s) :=
  filter_mem_perm (idx_nodup _) (keptOf_facts hv s).1 fun x hx => idx_mem.2 ((keptOf_facts hv s).2.1 x hx)
theorem keptL_mem {l : List Order} (hv : Valid l) (s x : Int) : x ∈ keptL l s ↔ x ∈ keptOf l s := (keptL_perm hv s).mem_iff
theorem inc_filter (n : Nat) (p : Int → Bool) : incGo n 0 ((idx n).filter p) = true := by
  have main : ∀ (m k : Nat) (next : Int), k + m = n → next ≤ k → incGo n next (((List.range' k m).map fun i : Nat => (i : Int)).filter p) = true := by
    intro m
    induction m with
    | zero => intros; rfl
    | succ m ih =>
      intro k next h1 h2
      rw [List.range'_succ, List.map_cons, List.filter_cons]
      split
      · rw [incGo, ih (k + 1) ((k : Int) + 1) (by omega) (by omega)]
        simp; omega
      · exact ih (k + 1) next (by omega) (by omega)
  have := main n 0 0 (by omega) (by omega)
  rwa [← List.range_eq_range'] at this

theorem chkKept_inc {l : List Order} (hv : Valid l) {s : Int} (hs : s = 0 ∨ s = 1) {ks : List Int} (hi : incGo l.length 0 ks = true) : (chkKept l s ks = 0 ∧ Feas l (side l s) ks) ∨ (chkKept l s ks = 12 ∧ ¬ Feas l (side l s) ks) := by
  unfold chkKept
  rw [if_neg (by rw [(chkSide_zero l s).2 ⟨hv, hs⟩]; omega), if_neg (by rw [hi]; simp)]
  have h := canB_iff hv s (inc_facts hi).1
  by_cases hc : canB l s ks = true
  · rw [if_pos hc]; exact .inl ⟨rfl, h.1 hc⟩
  · rw [if_neg hc]; exact .inr ⟨rfl, fun hf => hc (h.2 hf)⟩

theorem kept_chk {l : List Order} (hv : Valid l) {s : Int} (hs : s = 0 ∨ s = 1) : chkKept l s (keptL l s) = 0 := by
  rcases chkKept_inc hv hs (inc_filter l.length fun i => (keptOf l s).contains i) with ⟨h, _⟩ | ⟨_, h⟩
  · exact h
  · exact (h ((keptOf_facts hv s).2.2.perm (keptL_perm hv s).symm)).elim
theorem refKept_ok {l : List Order} (hv : Valid l) {s : Int} (hs : s = 0 ∨ s = 1) : refKept l s = (keptL l s, 0) := by
  rw [refKept, if_neg (by rw [(chkSide_zero l s).2 ⟨hv, hs⟩]; omega)]
theorem keptL_len {l : List Order} (hv : Valid l) (s : Int) : (keptL l s).length = (keptOf l s).length := (keptL_perm hv s).length_eq
theorem kept_le {l : List Order} (hv : Valid l) (s : Int) : (keptOf l s).length ≤ l.length := by
  have := (kept_best hv s).1.length_le
  rwa [seqOf_length] at this

/-! ### the kept ones first, then all others -/
def first (l : List Order) (s : Int) : List Int := (seqOf l).filter fun i => (keptL l s).contains i
def others (l : List Order) (s : Int) : List Int := (seqOf l).filter fun i => !(keptL l s).contains i
theorem first_perm {l : List Order} (hv : Valid l) (s : Int) : (first l s).Perm (keptOf l s) := by
  have h := filter_mem_perm (seqOf_nodup l) ((keptL_perm hv s).nodup_iff.2 (keptOf_facts hv s).1) fun x hx => seqOf_mem.2 ((keptOf_facts hv s).2.1 x ((keptL_mem hv s x).1 hx))
  exact h.trans (keptL_perm hv s)
theorem filter_not_perm {α : Type} (p : α → Bool) : ∀ L : List α, (L.filter p ++ L.filter fun i => !p i).Perm L
  | [] => List.Perm.refl _
  | a :: r => by
    have ih := filter_not_perm p r
    rw [List.filter_cons, List.filter_cons]
    by_cases h : p a = true
    · rw [if_pos h, if_neg (by simp [h])]
      exact List.Perm.cons a ih
    · rw [if_neg h, if_pos (by simpa using h)]
      exact List.perm_middle.trans (List.Perm.cons a ih)
theorem first_seq {l : List Order} (s : Int) : Seq l.length (first l s ++ others l s) := by
  have h := filter_not_perm (fun i => (keptL l s).contains i) (seqOf l)
  have hs := seqOf_seq l
  exact ⟨h.length_eq.trans hs.len, fun i hi => h.mem_iff.2 (hs.has i hi)⟩

def lateI (l : List Order) (E : List Int) (i : Nat) : Bool := decide (E.getD i 0 > dueN l i)
def lateN (l : List Order) (E : List Int) (k : Nat) : Nat := ((List.range k).filter (lateI l E)).length
theorem lateN_succ (l : List Order) (E : List Int) (k : Nat) : lateN l E (k + 1) = lateN l E k + if lateI l E k then 1 else 0 := by
  rw [lateN, List.range_succ, List.filter_append, List.length_append]
  congr 1
  rw [List.filter_cons]
  split <;> rfl

theorem late_count {l : List Order} (hv : Valid l) (s : Int) : lateN l (endsOf (first l s ++ others l s) (side l s)) l.length = l.length - (keptOf l s).length := by
  have hS := first_seq (l := l) s
  have hw := side_pos hv s
  have hfp := first_perm hv s
  have hA : feasGo l (side l s) 0 (first l s) = true := (feasGo_iff hw ((seqOf_sorted l).filter _)).2 ((keptOf_facts hv s).2.2.perm hfp.symm)
  have hA' := (feasGo_iff_pre l (side l s) (first l s) 0).1 hA
  have hat : ∀ (k : Nat) (i : Int), (first l s ++ others l s)[k]? = some i → ((endsOf (first l s ++ others l s) (side l s)).getD i.toNat 0 = sumW (side l s) ((first l s ++ others l s).take (k + 1))) ∧ dueN l i.toNat = dueOf l i := fun k i hk => by
    refine ⟨?_, rfl⟩
    rw [List.getD_eq_getElem?_getD, endsOf_at (side l s) hS hk]
    rfl
  -- those on time
  have h1 := ontime_feas hw (S := first l s ++ others l s) (l := l) (fun i => !lateI l (endsOf (first l s ++ others l s) (side l s)) i.toNat) fun k i hk hp => by
    obtain ⟨e1, e2⟩ := hat k i hk
    simp only [lateI, e1, e2, Bool.not_eq_true', decide_eq_false_iff_not] at hp
    omega
  have hSn := hS.lt.2
  have h2 := feas_le hv s (hSn.filter _) (fun x hx => hS.lt.1 x (List.mem_filter.1 hx).1) h1
  have h3 : (first l s).filter (fun i => !lateI l (endsOf (first l s ++ others l s) (side l s)) i.toNat) = first l s := by
    refine List.filter_eq_self.2 fun i hi => ?_
    obtain ⟨k, hk, he⟩ := List.mem_iff_getElem.1 hi
    have hk' : (first l s)[k]? = some i := List.getElem?_eq_some_iff.2 ⟨hk, he⟩
    obtain ⟨e1, e2⟩ := hat k i (by rw [List.getElem?_append_left hk, hk'])
    have h4 := hA' k i hk'
    rw [List.take_append_of_le_length (by omega)] at e1
    simp only [lateI, e1, e2, Bool.not_eq_true', decide_eq_false_iff_not]
    omega
  have h5 : (first l s).length ≤ ((first l s ++ others l s).filter fun i => !lateI l (endsOf (first l s ++ others l s) (side l s)) i.toNat).length := by
    rw [List.filter_append, List.length_append, h3]
    omega
  rw [hfp.length_eq] at h5
  have h6 := (hS.perm.filter fun i => !lateI l (endsOf (first l s ++ others l s) (side l s)) i.toNat).length_eq
  have h7 := (filter_not_perm (fun i : Int => lateI l (endsOf (first l s ++ others l s) (side l s)) i.toNat) (idx l.length)).length_eq
  rw [List.length_append, idx_length] at h7
  have h8 : lateN l (endsOf (first l s ++ others l s) (side l s)) l.length = ((idx l.length).filter fun i : Int => lateI l (endsOf (first l s ++ others l s) (side l s)) i.toNat).length := by
    rw [lateN, idx, List.filter_map, List.length_map]
    rfl
  rw [h8]
  omega

end Go.Ev.YtadneamkkepknaaC
