/- The day with the greatest bound, in plain mathematics: no program in sight. No condition. -/
import Derived.Test.YtadneamkkepknaaL5Math2
set_option linter.unusedSimpArgs false
set_option linter.unusedVariables false
namespace Go.Ev

def daysGo (f : Int → Int) : Int → List Int → List Int
  | _, [] => []
  | last, i :: r => if f i > last then f i :: daysGo f (f i) r else daysGo f last r
def daysOf (l : List Order) : List Int := daysGo (dueOf l) (-1) (seqOf l)
def tightStep (b : Int → Int) : Option (Int × Int) → Int → Option (Int × Int)
  | none, d => some (d, b d)
  | some (a, m), d => if b d > m then some (d, b d) else some (a, m)
def tightOf (l : List Order) (s : Int) : Option (Int × Int) := (daysOf l).foldl (tightStep (bd l (side l s))) none

theorem daysGo_mem (f : Int → Int) : ∀ (r : List Int) (last d : Int), r.Pairwise (fun a b => f a ≤ f b) → (d ∈ daysGo f last r ↔ (∃ i ∈ r, f i = d) ∧ last < d)
  | [], last, d, _ => by simp [daysGo]
  | i :: r, last, d, hp => by
    obtain ⟨h1, h2⟩ := List.pairwise_cons.1 hp
    unfold daysGo
    split
    · next h =>
      rw [List.mem_cons, daysGo_mem f r (f i) d h2]
      constructor
      · rintro (rfl | ⟨⟨j, hj, rfl⟩, hlt⟩)
        · exact ⟨⟨i, List.mem_cons_self, rfl⟩, h⟩
        · exact ⟨⟨j, List.mem_cons_of_mem _ hj, rfl⟩, by omega⟩
      · rintro ⟨⟨j, hj, rfl⟩, hlt⟩
        rcases List.mem_cons.1 hj with rfl | hj
        · exact .inl rfl
        · have := h1 j hj
          by_cases he : f j = f i
          · exact .inl he
          · exact .inr ⟨⟨j, hj, rfl⟩, by omega⟩
    · next h =>
      rw [daysGo_mem f r last d h2]
      constructor
      · rintro ⟨⟨j, hj, rfl⟩, hlt⟩
        exact ⟨⟨j, List.mem_cons_of_mem _ hj, rfl⟩, hlt⟩
      · rintro ⟨⟨j, hj, rfl⟩, hlt⟩
        rcases List.mem_cons.1 hj with rfl | hj
        · omega
        · exact ⟨⟨j, hj, rfl⟩, hlt⟩

theorem daysGo_asc (f : Int → Int) : ∀ (r : List Int) (last : Int), (last :: daysGo f last r).Pairwise (· < ·)
  | [], last => by simp [daysGo]
  | i :: r, last => by
    unfold daysGo
    split
    · next h =>
      have ih := daysGo_asc f r (f i)
      rw [List.pairwise_cons]
      refine ⟨fun a ha => ?_, ih⟩
      rcases List.mem_cons.1 ha with rfl | ha
      · exact h
      · have := (List.pairwise_cons.1 ih).1 a ha
        omega
    · exact daysGo_asc f r last

theorem daysOf_mem (l : List Order) (hv : Valid l) (d : Int) : d ∈ daysOf l ↔ ∃ i ∈ seqOf l, dueOf l i = d := by
  rw [daysOf, daysGo_mem _ _ _ _ (seqOf_sorted l)]
  constructor
  · exact fun h => h.1
  · rintro ⟨i, hi, rfl⟩
    refine ⟨⟨i, hi, rfl⟩, ?_⟩
    have hb := seqOf_mem.1 hi
    obtain ⟨j, rfl⟩ := Int.eq_ofNat_of_zero_le hb.1
    obtain ⟨o, ho⟩ : ∃ o, l[j]? = some o := ⟨_, List.getElem?_eq_getElem (by omega)⟩
    rw [dueOf_nat ho]
    have := (hv.ok o (List.mem_of_getElem? ho)).d0
    omega

theorem daysOf_asc (l : List Order) : (daysOf l).Pairwise (· < ·) := (List.pairwise_cons.1 (daysGo_asc (dueOf l) (seqOf l) (-1))).2

theorem fold_tight (b : Int → Int) : ∀ (D : List Int) (a : Int), (a :: D).Pairwise (· < ·) → ∃ a', D.foldl (tightStep b) (some (a, b a)) = some (a', b a') ∧ a' ∈ a :: D ∧ (∀ d ∈ a :: D, b d ≤ b a') ∧ ∀ d ∈ a :: D, d < a' → b d < b a'
  | [], a, _ => ⟨a, rfl, by simp, by simp, by intro d hd hlt; simp at hd; omega⟩
  | d :: r, a, hp => by
    obtain ⟨h1, h2⟩ := List.pairwise_cons.1 hp
    obtain ⟨h3, h4⟩ := List.pairwise_cons.1 h2
    rw [List.foldl_cons]
    simp only [tightStep]
    split
    · next hgt =>
      obtain ⟨a', e1, e2, e3, e4⟩ := fold_tight b r d h2
      have hd := e3 d List.mem_cons_self
      refine ⟨a', e1, List.mem_cons_of_mem _ e2, fun x hx => ?_, fun x hx hlt => ?_⟩
      · rcases List.mem_cons.1 hx with rfl | hx
        · omega
        · exact e3 x hx
      · rcases List.mem_cons.1 hx with rfl | hx
        · omega
        · exact e4 x hx hlt
    · next hgt =>
      obtain ⟨a', e1, e2, e3, e4⟩ := fold_tight b r a (List.pairwise_cons.2 ⟨fun x hx => h1 x (List.mem_cons_of_mem _ hx), h4⟩)
      have ha := e3 a List.mem_cons_self
      refine ⟨a', e1, ?_, fun x hx => ?_, fun x hx hlt => ?_⟩
      · rcases List.mem_cons.1 e2 with h | h
        · simp [h]
        · simp [h]
      · rcases List.mem_cons.1 hx with rfl | hx
        · exact ha
        · rcases List.mem_cons.1 hx with rfl | hx
          · omega
          · exact e3 x (List.mem_cons_of_mem _ hx)
      · rcases List.mem_cons.1 hx with rfl | hx
        · exact e4 x List.mem_cons_self hlt
        · rcases List.mem_cons.1 hx with rfl | hx
          · have hax := h1 x List.mem_cons_self
            have := e4 a List.mem_cons_self (by omega)
            omega
          · exact e4 x (List.mem_cons_of_mem _ hx) hlt

theorem someDue_of {l : List Order} {i : Int} {d : Int} (hi : i ∈ seqOf l) (hd : dueOf l i ≤ d) : someDue l d = true :=
  List.any_eq_true.2 ⟨i, (seqOf_perm l).mem_iff.1 hi, by simpa using hd⟩

theorem side_pos {l : List Order} (hv : Valid l) (s : Int) : ∀ x ∈ side l s, 0 ≤ x := fun x hx => by
  obtain ⟨o, ho, rfl⟩ := List.mem_map.1 hx
  have := hv.ok o ho
  have h1 := this.lo
  have h2 := this.lh
  split <;> omega

/-- the day that is found -/
theorem tight_spec {l : List Order} (hv : Valid l) (h0 : 0 < l.length) (s : Int) : ∃ a, tightOf l s = some (a, bd l (side l s) a) ∧ bd l (side l s) a = delayOf l (seqOf l) (side l s) ∧ someDue l a = true ∧ 0 ≤ a ∧ a ≤ 2000 ∧
    ∀ d, d < a → ¬ (someDue l d = true ∧ bd l (side l s) d = bd l (side l s) a) := by
  have hs := seqOf_seq l
  have hw := side_pos hv s
  obtain ⟨k0, hk0⟩ := hs.pos h0
  have hne : daysOf l ≠ [] := List.ne_nil_of_mem ((daysOf_mem l hv _).2 ⟨_, List.mem_of_getElem? hk0, rfl⟩)
  have hasc := daysOf_asc l
  have hmem := daysOf_mem l hv
  cases hD : daysOf l with
  | nil => exact (hne hD).elim
  | cons a D =>
    rw [hD] at hasc
    obtain ⟨a', e1, e2, e3, e4⟩ := fold_tight (bd l (side l s)) D a hasc
    rw [← hD] at e2 e3 e4
    obtain ⟨i, hi, hia⟩ := (hmem a').1 e2
    have hsd : someDue l a' = true := someDue_of hi (by omega)
    obtain ⟨⟨k, j, hk, hdel⟩, _⟩ := delay_spec (w := side l s) hs h0
    have hle := pre_le_bd hs (seqOf_sorted l) hw hk
    have hm := e3 (dueOf l j) ((hmem _).2 ⟨j, List.mem_of_getElem? hk, rfl⟩)
    have hb := bd_le hs hw hsd
    have heq : bd l (side l s) a' = delayOf l (seqOf l) (side l s) := by omega
    have hbi := seqOf_mem.1 hi
    obtain ⟨n, rfl⟩ := Int.eq_ofNat_of_zero_le hbi.1
    obtain ⟨o, ho⟩ : ∃ o, l[n]? = some o := ⟨_, List.getElem?_eq_getElem (by omega)⟩
    have hok := hv.ok o (List.mem_of_getElem? ho)
    rw [dueOf_nat ho] at hia
    have hd0 := hok.d0
    have hd1 := hok.d1
    refine ⟨a', ?_, heq, hsd, by omega, by omega, fun d hlt => ?_⟩
    · rw [tightOf, hD, List.foldl_cons]
      exact e1
    · rintro ⟨hs1, hs2⟩
      obtain ⟨x, hx, hxd⟩ := List.any_eq_true.1 hs1
      obtain ⟨k, i, hk, hp, hdrop⟩ := last_of (fun i => decide (dueOf l i ≤ d)) (seqOf l) ⟨x, (seqOf_perm l).mem_iff.2 hx, hxd⟩
      have hid : dueOf l i ≤ d := by simpa using hp
      have him := List.mem_of_getElem? hk
      have hiD := (hmem (dueOf l i)).2 ⟨i, him, rfl⟩
      by_cases hde : dueOf l i = d
      · have := e4 d (hde ▸ hiD) hlt
        omega
      · have hsame : (idx l.length).filter (fun j => decide (dueOf l j ≤ d)) = (idx l.length).filter fun j => decide (dueOf l j ≤ dueOf l i) := by
          apply List.filter_congr
          intro j hj
          rw [Bool.eq_iff_iff, decide_eq_true_eq, decide_eq_true_eq]
          constructor
          · intro hjd
            have hjs := (seqOf_perm l).mem_iff.2 hj
            obtain ⟨m, hm⟩ := List.mem_iff_getElem?.1 hjs
            by_cases hmk : m ≤ k
            · by_cases hmk' : m = k
              · subst hmk'
                rw [hk] at hm
                cases hm
                omega
              · obtain ⟨hm1, hm2⟩ := List.getElem?_eq_some_iff.1 hm
                obtain ⟨hk1, hk2⟩ := List.getElem?_eq_some_iff.1 hk
                have := List.pairwise_iff_getElem.1 (seqOf_sorted l) m k hm1 hk1 (by omega)
                rw [hm2, hk2] at this
                exact this
            · have : j ∈ (seqOf l).drop (k + 1) := by
                refine List.mem_iff_getElem?.2 ⟨m - (k + 1), ?_⟩
                rw [List.getElem?_drop, show k + 1 + (m - (k + 1)) = m by omega]
                exact hm
              have := (List.filter_eq_nil_iff.1 hdrop) j this
              simp at this
              omega
          · intro h; omega
        have h3 := e3 _ hiD
        have : bd l (side l s) (dueOf l i) = bd l (side l s) d + (d - dueOf l i) := by
          unfold bd
          rw [hsame]
          omega
        omega

end Go.Ev
