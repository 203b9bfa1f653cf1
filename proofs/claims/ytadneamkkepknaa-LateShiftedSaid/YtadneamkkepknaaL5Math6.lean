/- Delays, step by step; what an exchange, more work, earlier Dues, one more order, later Dues and longer days change. In plain mathematics: no program in sight. No condition. -/
import Derived.Test.YtadneamkkepknaaL5Math5
set_option linter.unusedSimpArgs false
set_option linter.unusedVariables false
namespace Go.Ev

/-- one after another none has a delay of more than D -/
def wi (l : List Order) (w : List Int) (D : Int) : Int → List Int → Prop
  | _, [] => True
  | day, i :: r => day + wk w i - dueOf l i ≤ D ∧ wi l w D (day + wk w i) r

theorem wi_iff_pre (l : List Order) (w : List Int) (D : Int) : ∀ (T : List Int) (day : Int), wi l w D day T ↔ ∀ (k : Nat) (i : Int), T[k]? = some i → day + sumW w (T.take (k + 1)) - dueOf l i ≤ D
  | [], day => by simp [wi]
  | a :: r, day => by
    rw [wi, wi_iff_pre l w D r]
    constructor
    · rintro ⟨h1, h2⟩ k i hk
      cases k with
      | zero =>
        simp at hk
        subst hk
        simpa [sumW] using h1
      | succ k =>
        simp only [List.getElem?_cons_succ] at hk
        have := h2 k i hk
        rw [List.take_succ_cons, sumW_cons]
        omega
    · intro h
      refine ⟨?_, fun k i hk => ?_⟩
      · have := h 0 a rfl
        simpa [sumW] using this
      · have := h (k + 1) i (by simpa using hk)
        rw [List.take_succ_cons, sumW_cons] at this
        omega

theorem delay_le {l : List Order} {S w : List Int} (hs : Seq l.length S) (h0 : 0 < l.length) (D : Int) : delayOf l S w ≤ D ↔ wi l w D 0 S := by
  obtain ⟨⟨k, i, hk, h1⟩, h2⟩ := delay_spec (w := w) hs h0
  rw [wi_iff_pre]
  constructor
  · intro h k i hk
    have := h2 k i hk
    omega
  · intro h
    have := h k i hk
    omega

theorem wi_append (l : List Order) (w : List Int) (D : Int) : ∀ (a b : List Int) (d : Int), wi l w D d (a ++ b) ↔ wi l w D d a ∧ wi l w D (d + sumW w a) b
  | [], b, d => by simp [wi, sumW]
  | x :: a, b, d => by
    rw [List.cons_append, wi, wi, wi_append l w D a b, sumW_cons, and_assoc]
    have e : d + wk w x + sumW w a = d + (wk w x + sumW w a) := by omega
    rw [e]

theorem wi_mono {l m : List Order} {w v : List Int} {D : Int} : ∀ (S : List Int) (d d' : Int), d' ≤ d → (∀ i ∈ S, wk v i ≤ wk w i ∧ dueOf l i ≤ dueOf m i) → wi l w D d S → wi m v D d' S
  | [], _, _, _, _, _ => trivial
  | i :: r, d, d', hd, hi, h => by
    have h1 := hi i List.mem_cons_self
    obtain ⟨h2, h3⟩ := h
    exact ⟨by omega, wi_mono r (d + wk w i) (d' + wk v i) (by omega) (fun j hj => hi j (List.mem_cons_of_mem _ hj)) h3⟩

/-- some left out -/
theorem wi_sub {l : List Order} {w : List Int} (hw : ∀ x ∈ w, 0 ≤ x) {D : Int} {a b : List Int} (h : a.Sublist b) : ∀ d d', d' ≤ d → wi l w D d b → wi l w D d' a := by
  induction h with
  | slnil => intros; trivial
  | cons x _ ih =>
    intro d d' hd h
    have := wk_nonneg hw x
    exact ih _ _ (by omega) h.2
  | cons_cons x _ ih =>
    intro d d' hd h
    obtain ⟨h1, h2⟩ := h
    exact ⟨by omega, ih _ _ (by omega) h2⟩

/-! ### an exchange -/
theorem two_split {S : List Int} {k : Nat} {a b : Int} (ha : S[k]? = some a) (hb : S[k + 1]? = some b) : S = S.take k ++ a :: b :: S.drop (k + 2) := by
  obtain ⟨hk, ea⟩ := List.getElem?_eq_some_iff.1 ha
  obtain ⟨hk1, eb⟩ := List.getElem?_eq_some_iff.1 hb
  conv => lhs; rw [← List.take_append_drop k S]
  rw [List.drop_eq_getElem_cons hk, List.drop_eq_getElem_cons hk1, ea, eb]
theorem swap_eq {S : List Int} {k : Nat} {a b : Int} (ha : S[k]? = some a) (hb : S[k + 1]? = some b) : (S.set k b).set (k + 1) a = S.take k ++ b :: a :: S.drop (k + 2) := by
  have hk := (List.getElem?_eq_some_iff.1 ha).1
  have hl : (S.take k).length = k := by rw [List.length_take]; omega
  have h := two_split ha hb
  generalize S.take k = A at *
  generalize S.drop (k + 2) = B at *
  subst hl
  rw [h]
  simp [List.set_append]
theorem exch_delay {l : List Order} {S w : List Int} (hs : Seq l.length S) (hw : ∀ x ∈ w, 0 ≤ x) {k : Nat} {a b : Int} (ha : S[k]? = some a) (hb : S[k + 1]? = some b) (hd : dueOf l b < dueOf l a) :
    Seq l.length ((S.set k b).set (k + 1) a) ∧ delayOf l ((S.set k b).set (k + 1) a) w ≤ delayOf l S w := by
  have hk := (List.getElem?_eq_some_iff.1 ha).1
  have h0 : 0 < l.length := by have := hs.len; omega
  have h := two_split ha hb
  have hp : ((S.set k b).set (k + 1) a).Perm S := by
    rw [swap_eq ha hb]
    conv => rhs; rw [h]
    exact (List.Perm.swap ..).append_left _
  have hs' : Seq l.length ((S.set k b).set (k + 1) a) := ⟨by rw [hp.length_eq, hs.len], fun i hi => hp.mem_iff.2 (hs.has i hi)⟩
  refine ⟨hs', (delay_le hs' h0 _).2 ?_⟩
  have h1 := (delay_le hs h0 _).1 (Int.le_refl (delayOf l S w))
  rw [swap_eq ha hb]
  generalize delayOf l S w = D at *
  rw [h, wi_append] at h1
  rw [wi_append]
  refine ⟨h1.1, ?_⟩
  obtain ⟨-, h2, h3, h4⟩ := h1
  have h5 := wk_nonneg hw a
  have h6 := wk_nonneg hw b
  refine ⟨by omega, by omega, ?_⟩
  have e : 0 + sumW w (List.take k S) + wk w b + wk w a = 0 + sumW w (List.take k S) + wk w a + wk w b := by omega
  rw [e]
  exact h4

end Go.Ev
