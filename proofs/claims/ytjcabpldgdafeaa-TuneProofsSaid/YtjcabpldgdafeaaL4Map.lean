/- Maps whose keys are links, two numbers each: what is found, what comes in, what goes, and a range over them. No condition. -/
import Derived.Test.YtjcabpldgdafeaaL4Det
set_option linter.unusedSimpArgs false
set_option linter.unusedVariables false
namespace Go.Ev.YtjcabpldgdafeaaC
open Go Go.Proofs

attribute [local irreducible] Res.all evC evLoop evOps evOper evOp evFn evCall freeze G GO GV GP GC R
set_option maxRecDepth 100000

def edA (q : Nat × Nat) : AV := .agg [.int .i64 q.1, .int .i64 q.2]
abbrev LE := (Nat × Nat) × Nat × Nat
def eK (E : List LE) : List AV := E.map fun t => edA t.1
def eV (E : List LE) : List AV := E.map fun t => .int .i64 (t.2.1 : Nat)
def eB (E : List LE) : List Nat := E.map (·.2.2)

theorem edA_cells (q r : Nat × Nat) : eqInts (edA q).cells (edA r).cells = some (decide (q = r)) := by
  obtain ⟨a, b⟩ := q
  obtain ⟨c, d⟩ := r
  simp only [edA, AV.cells, eqInts, if_true]
  by_cases h1 : (a : Int) = c
  · rw [if_pos h1]
    have h1' : a = c := by omega
    by_cases h2 : (b : Int) = d
    · rw [if_pos h2]
      have h2' : b = d := by omega
      simp [h1', h2']
    · rw [if_neg h2]
      have h2' : ¬ b = d := by omega
      simp [h2']
  · rw [if_neg h1]
    have h1' : ¬ a = c := by omega
    simp [h1']
theorem keyOk_ed (q : Nat × Nat) : keyOk (some 2) (edA q) = true := rfl
theorem findK_no (q : Nat × Nat) : ∀ (E : List LE) (i : Nat), q ∉ E.map (·.1) → findK (some 2) (edA q) (eK E) i = some none
  | [], _, _ => rfl
  | t :: r, i, h => by
    simp only [List.map_cons, List.mem_cons, not_or] at h
    simp only [eK, List.map_cons, findK, keyOk_ed, if_true, edA_cells]
    have : decide (q = t.1) = false := by simpa using h.1
    rw [this]
    exact findK_no q r (i + 1) h.2
theorem findK_at2 (q : Nat × Nat) (t : LE) (B : List LE) (ht : t.1 = q) : ∀ (A : List LE) (i : Nat), q ∉ A.map (·.1) → findK (some 2) (edA q) (eK (A ++ t :: B)) i = some (some (i + A.length))
  | [], i, _ => by
    simp only [eK, List.nil_append, List.map_cons, findK, keyOk_ed, if_true, edA_cells, ht, decide_true]
    rfl
  | u :: A, i, h => by
    simp only [List.map_cons, List.mem_cons, not_or] at h
    simp only [eK, List.cons_append, List.map_cons, findK, keyOk_ed, if_true, edA_cells]
    have : decide (q = u.1) = false := by simpa using h.1
    rw [this]
    have := findK_at2 q t B ht A (i + 1) h.2
    simp only [eK] at this
    simp only [this, List.length_cons]
    congr 2
    omega
theorem findB_at2 (b : Nat) (B : List Nat) : ∀ (A : List Nat) (i : Nat), b ∉ A → findB b (A ++ b :: B) i = some (i + A.length)
  | [], i, _ => by simp [findB]
  | c :: A, i, h => by
    simp only [List.mem_cons, not_or] at h
    simp only [List.cons_append, findB]
    rw [if_neg (fun e => h.1 e.symm), findB_at2 b B A (i + 1) h.2]
    simp only [List.length_cons]
    congr 1
    omega

/-- what a map of links holds when some links have come -/
structure LM (p : List (Nat × Nat)) (E : List LE) (c : Nat) : Prop where
  nd : (E.map (·.1)).Nodup
  cnt : ∀ t ∈ E, t.2.1 = p.count t.1
  mem : ∀ q ∈ p, q ∈ E.map (·.1)
  sub : ∀ t ∈ E, t.1 ∈ p
  bn : (eB E).Nodup
  bc : ∀ t ∈ E, t.2.2 < c
theorem LM.nil : LM [] [] 0 := ⟨by simp, by simp, by simp, by simp, by simp [eB], by simp⟩
theorem LM.split {p : List (Nat × Nat)} {E : List LE} {c : Nat} (h : LM p E c) {q : Nat × Nat} (hq : q ∈ E.map (·.1)) : ∃ A n b B, E = A ++ (q, n, b) :: B ∧ q ∉ A.map (·.1) ∧ q ∉ B.map (·.1) ∧ b ∉ eB A ∧ b ∉ eB B ∧ n = p.count q := by
  obtain ⟨t, ht, rfl⟩ := List.mem_map.1 hq
  obtain ⟨A, B, rfl⟩ := List.append_of_mem ht
  have h1 := h.nd
  have h2 := h.bn
  rw [List.map_append, List.map_cons, List.nodup_append] at h1
  simp only [eB] at h2 ⊢
  rw [List.map_append, List.map_cons, List.nodup_append] at h2
  obtain ⟨a1, a2, a3⟩ := h1
  obtain ⟨b1, b2, b3⟩ := h2
  refine ⟨A, t.2.1, t.2.2, B, rfl, fun hm => ?_, (List.nodup_cons.1 a2).1, fun hm => ?_, (List.nodup_cons.1 b2).1, h.cnt t (by simp)⟩
  · exact a3 _ hm _ List.mem_cons_self rfl
  · exact b3 _ hm _ List.mem_cons_self rfl
theorem LM.old {p : List (Nat × Nat)} {A B : List LE} {q : Nat × Nat} {n b c : Nat} (h : LM p (A ++ (q, n, b) :: B) c) (hA : q ∉ A.map (·.1)) (hB : q ∉ B.map (·.1)) : LM (p ++ [q]) (A ++ (q, n + 1, b) :: B) c where
  nd := by have := h.nd; simpa using this
  cnt := fun t ht => by
    have hne : ∀ u ∈ A ++ B, u.1 ≠ q := fun u hu he => by
      rcases List.mem_append.1 hu with hu | hu
      · exact hA (he ▸ List.mem_map_of_mem (f := fun t : LE => t.1) hu)
      · exact hB (he ▸ List.mem_map_of_mem (f := fun t : LE => t.1) hu)
    rw [List.count_append]
    rcases List.mem_append.1 ht with ht | ht
    · rw [h.cnt t (List.mem_append_left _ ht), List.count_singleton]
      have := hne t (List.mem_append_left _ ht)
      simp [this.symm]
    · rcases List.mem_cons.1 ht with rfl | ht
      · have := h.cnt (q, n, b) (by simp)
        simp only at this ⊢
        rw [this]; simp
      · rw [h.cnt t (List.mem_append_right _ (List.mem_cons_of_mem _ ht)), List.count_singleton]
        have := hne t (List.mem_append_right _ ht)
        simp [this.symm]
  mem := fun r hr => by
    have : r ∈ (A ++ (q, n, b) :: B).map (·.1) := by
      rcases List.mem_append.1 hr with hr | hr
      · exact h.mem r hr
      · obtain rfl : r = q := by simpa using hr
        simp
    simpa using this
  sub := fun t ht => by
    rcases List.mem_append.1 ht with ht | ht
    · exact List.mem_append_left _ (h.sub t (List.mem_append_left _ ht))
    · rcases List.mem_cons.1 ht with rfl | ht
      · simp
      · exact List.mem_append_left _ (h.sub t (List.mem_append_right _ (List.mem_cons_of_mem _ ht)))
  bn := by have := h.bn; simpa [eB] using this
  bc := fun t ht => by
    rcases List.mem_append.1 ht with ht | ht
    · exact h.bc t (List.mem_append_left _ ht)
    · rcases List.mem_cons.1 ht with rfl | ht
      · exact h.bc (q, n, b) (by simp)
      · exact h.bc t (List.mem_append_right _ (List.mem_cons_of_mem _ ht))
theorem LM.new {p : List (Nat × Nat)} {E : List LE} {q : Nat × Nat} {c : Nat} (h : LM p E c) (hq : q ∉ E.map (·.1)) : LM (p ++ [q]) (E ++ [(q, 1, c)]) (c + 1) where
  nd := by
    rw [List.map_append, List.nodup_append]
    refine ⟨h.nd, by simp, fun a ha b hb => ?_⟩
    obtain rfl : b = q := by simpa using hb
    exact fun e => hq (e ▸ ha)
  cnt := fun t ht => by
    rw [List.count_append]
    rcases List.mem_append.1 ht with ht | ht
    · rw [h.cnt t ht, List.count_singleton]
      have : t.1 ≠ q := fun e => hq (e ▸ List.mem_map_of_mem (f := fun t : LE => t.1) ht)
      simp [this.symm]
    · obtain rfl : t = (q, 1, c) := by simpa using ht
      have : p.count q = 0 := List.count_eq_zero.2 fun hm => hq (h.mem q hm)
      simp [this]
  mem := fun r hr => by
    rcases List.mem_append.1 hr with hr | hr
    · have := h.mem r hr; simp only [List.map_append, List.mem_append]; exact .inl this
    · obtain rfl : r = q := by simpa using hr
      simp
  sub := fun t ht => by
    rcases List.mem_append.1 ht with ht | ht
    · exact List.mem_append_left _ (h.sub t ht)
    · obtain rfl : t = (q, 1, c) := by simpa using ht
      simp
  bn := by
    simp only [eB, List.map_append]
    rw [List.nodup_append]
    refine ⟨h.bn, by simp, fun a ha b hb => ?_⟩
    obtain rfl : b = c := by simpa using hb
    obtain ⟨t, ht, rfl⟩ := List.mem_map.1 ha
    have := h.bc t ht
    omega
  bc := fun t ht => by
    rcases List.mem_append.1 ht with ht | ht
    · have := h.bc t ht; omega
    · obtain rfl : t = (q, 1, c) := by simpa using ht
      simp

/-- what is looked up is how often the link came -/
theorem lkA_ed {p : List (Nat × Nat)} {E : List LE} {c : Nat} (h : LM p E c) (q : Nat × Nat) : lkA (some 2) (.int .i64 0) false (edA q) (some (eK E, eV E)) = .ret (.int .i64 (p.count q : Nat)) := by
  simp only [lkA, keyOk_ed, if_true]
  by_cases hq : q ∈ E.map (·.1)
  · obtain ⟨A, n, b, B, rfl, hA, hB, _, _, rfl⟩ := h.split hq
    rw [findK_at2 q _ B rfl A 0 hA]
    simp only [eV, List.map_append, List.map_cons, Nat.zero_add]
    rw [List.getElem?_append_right (by simp)]
    simp
  · rw [findK_no q E 0 hq]
    have : p.count q = 0 := List.count_eq_zero.2 fun hm => hq (h.mem q hm)
    simp [this]

/-! ### a range -/
theorem zip_eE : ∀ E : List LE, (eK E).zip ((eV E).zip (eB E)) = E.map fun t => (edA t.1, AV.int .i64 (t.2.1 : Nat), t.2.2)
  | [] => rfl
  | t :: r => by
    have := zip_eE r
    simp only [eK, eV, eB, List.map_cons, List.zip_cons_cons] at this ⊢
    rw [this]
theorem left_eE (E : List LE) (seen : List Nat) : leftOf (eK E) (eV E) (eB E) seen = (E.filter fun t => !seen.contains t.2.2).map fun t => (edA t.1, AV.int .i64 (t.2.1 : Nat), t.2.2) := by
  rw [leftOf, zip_eE, List.filter_map]
  rfl
theorem find_eE (E : List LE) (t : LE) (hn : (eB E).Nodup) (ht : t ∈ E) : ((eK E).zip ((eV E).zip (eB E))).find? (fun u => u.2.2 == t.2.2) = some (edA t.1, AV.int .i64 (t.2.1 : Nat), t.2.2) := by
  rw [zip_eE]
  induction E with
  | nil => cases ht
  | cons a r ih =>
    rw [List.map_cons, List.find?_cons]
    simp only [eB, List.map_cons, List.nodup_cons] at hn
    rcases List.mem_cons.1 ht with rfl | ht
    · simp
    · have hne : (a.2.2 == t.2.2) = false := by
        have : a.2.2 ≠ t.2.2 := fun h => hn.1 (h ▸ List.mem_map_of_mem (f := fun t : LE => t.2.2) ht)
        simpa using this
      simp only [hne]
      exact ih hn.2 ht
theorem born_eq {E : List LE} (hn : (eB E).Nodup) {u t : LE} (hu : u ∈ E) (ht : t ∈ E) (h : u.2.2 = t.2.2) : u = t := by
  induction E with
  | nil => cases hu
  | cons a r ih =>
    simp only [eB, List.map_cons, List.nodup_cons] at hn
    rcases List.mem_cons.1 hu with hu' | hu' <;> rcases List.mem_cons.1 ht with ht' | ht'
    · rw [hu', ht']
    · exact absurd (List.mem_map.2 ⟨t, ht', by rw [← hu']; exact h.symm⟩) hn.1
    · exact absurd (List.mem_map.2 ⟨u, hu', by rw [← ht']; exact h⟩) hn.1
    · exact ih hn.2 hu' ht'
theorem gp_nextE {n base : Nat} {Q : EX × St → Prop} {d : Option Nat} {L : List IOper} {kk : List Kont} {e : Env} {h : Heap} {key ver mk mv clock : Nat} {E : List LE} {seen : List Nat}
    (hi : getH h key = .iter ver mk mv clock seen clock) (hm : getH h mk = .map mv clock (eK E) (eV E) (eB E)) (hb : ∀ t ∈ E, t.2.2 < clock)
    (hE : (∀ t ∈ E, t.2.2 ∈ seen) → GO (evCall T n) base Q L kk ⟨setDst e d (.tuple [.bool false]), h⟩)
    (hN : ∀ t ∈ E, t.2.2 ∉ seen → GO (evCall T n) base Q L kk ⟨setDst e d (.tuple [.bool true, edA t.1, .int .i64 (t.2.1 : Nat)]), setH h key (.iter ver mk mv clock (seen ++ [t.2.2]) clock)⟩) :
    GP (evCall T n) base Q d L kk e (nxA h (.iter key ver)) := by
  refine gp_next hi hm ?_ (Nat.le_refl _) ?_ ?_
  · intro b hb'
    obtain ⟨t, ht, rfl⟩ := List.mem_map.1 hb'
    exact hb t ht
  · intro hl
    rw [left_eE] at hl
    refine hE fun t ht => ?_
    have := List.map_eq_nil_iff.1 hl
    rw [List.filter_eq_nil_iff] at this
    simpa using this t ht
  · intro k v b hmem
    rw [left_eE] at hmem
    obtain ⟨t, ht, he⟩ := List.mem_map.1 hmem
    obtain ⟨h1, h2⟩ := List.mem_filter.1 ht
    cases he
    exact hN t h1 (by simpa using h2)
theorem enA_eE {h : Heap} {key ver mk mv clock since : Nat} {E : List LE} {seen : List Nat} {t : LE}
    (hi : getH h key = .iter ver mk mv since (seen ++ [t.2.2]) clock) (hm : getH h mk = .map mv clock (eK E) (eV E) (eB E)) (hn : (eB E).Nodup) (ht : t ∈ E) :
    enA h (.iter key ver) = .ret (.tuple [edA t.1, .int .i64 (t.2.1 : Nat)]) := by
  simp only [enA, hi, hm, List.getLast?_append, List.getLast?_singleton, Option.some_or]
  rw [if_pos ⟨trivial, trivial, trivial⟩, find_eE E t hn ht]
theorem filter_lt2 {α : Type} (p q : α → Bool) (hqp : ∀ t, q t = true → p t = true) (t0 : α) (hp : p t0 = true) (hq : q t0 = false) : ∀ l : List α, t0 ∈ l → (l.filter q).length < (l.filter p).length
  | [], h => by cases h
  | a :: r, h => by
    have hle : ∀ l : List α, (l.filter q).length ≤ (l.filter p).length := fun l => by
      induction l with
      | nil => simp
      | cons b r ih =>
        rw [List.filter_cons, List.filter_cons]
        by_cases hb : q b = true
        · rw [if_pos hb, if_pos (hqp b hb)]; simpa using ih
        · rw [if_neg hb]
          split
          · simp only [List.length_cons]; omega
          · exact ih
    rw [List.filter_cons, List.filter_cons]
    rcases List.mem_cons.1 h with rfl | h
    · rw [if_pos hp, if_neg (by rw [hq]; simp)]
      have := hle r
      simp only [List.length_cons]; omega
    · have ih := filter_lt2 p q hqp t0 hp hq r h
      by_cases hb : q a = true
      · rw [if_pos hb, if_pos (hqp a hb)]; simpa using ih
      · rw [if_neg hb]
        split
        · simp only [List.length_cons]; omega
        · exact ih

/-! ### what goes -/
def loopE (t : LE) : Bool := t.1.1 == t.1.2
def keepE (seen : List Nat) (t : LE) : Bool := !(loopE t && seen.contains t.2.2)
theorem keep_nil (E : List LE) : E.filter (keepE []) = E := by
  rw [List.filter_eq_self]
  intro t _
  simp [keepE]
theorem keep_no {E : List LE} {seen : List Nat} {b : Nat} (h : ∀ t ∈ E, t.2.2 = b → loopE t = false) : E.filter (keepE (seen ++ [b])) = E.filter (keepE seen) := by
  apply List.filter_congr
  intro t ht
  simp only [keepE, List.contains_eq_mem, List.mem_append, List.mem_singleton]
  by_cases hb : t.2.2 = b
  · simp [h t ht hb]
  · simp [hb]
theorem keep_gone {E A B : List LE} {seen : List Nat} {t : LE} (hn : (eB E).Nodup) (hE : E.filter (keepE seen) = A ++ t :: B) (hl : loopE t = true) : E.filter (keepE (seen ++ [t.2.2])) = A ++ B := by
  have h1 : E.filter (keepE (seen ++ [t.2.2])) = (E.filter (keepE seen)).filter fun u => !(loopE u && u.2.2 == t.2.2) := by
    rw [List.filter_filter]
    apply List.filter_congr
    intro u _
    simp only [keepE, List.contains_eq_mem, List.mem_append, List.mem_singleton]
    by_cases h1 : loopE u = true <;> by_cases h2 : u.2.2 ∈ seen <;> by_cases h3 : u.2.2 = t.2.2 <;> simp [h1, h2, h3]
  have hnd : (eB (A ++ t :: B)).Nodup := by rw [← hE]; exact List.Nodup.sublist (List.Sublist.map _ List.filter_sublist) hn
  simp only [eB, List.map_append, List.map_cons] at hnd
  rw [List.nodup_append] at hnd
  obtain ⟨n1, n2, n3⟩ := hnd
  have hA : A.filter (fun u => !(loopE u && u.2.2 == t.2.2)) = A := by
    rw [List.filter_eq_self]
    intro u hu
    have : u.2.2 ≠ t.2.2 := fun e => n3 _ (List.mem_map_of_mem (f := fun t : LE => t.2.2) hu) _ List.mem_cons_self e
    simp [this]
  have hB : B.filter (fun u => !(loopE u && u.2.2 == t.2.2)) = B := by
    rw [List.filter_eq_self]
    intro u hu
    have : u.2.2 ≠ t.2.2 := fun e => (List.nodup_cons.1 n2).1 (e ▸ List.mem_map_of_mem (f := fun t : LE => t.2.2) hu)
    simp [this]
  rw [h1, hE, List.filter_append, hA, List.filter_cons, hB]
  simp [hl]
theorem eK_erase (A B : List LE) (t : LE) : (eK (A ++ t :: B)).eraseIdx A.length = eK (A ++ B) := by
  simp only [eK, List.map_append, List.map_cons]
  rw [List.eraseIdx_append_of_length_le (by simp)]
  simp
theorem eV_erase (A B : List LE) (t : LE) : (eV (A ++ t :: B)).eraseIdx A.length = eV (A ++ B) := by
  simp only [eV, List.map_append, List.map_cons]
  rw [List.eraseIdx_append_of_length_le (by simp)]
  simp
theorem eB_erase (A B : List LE) (t : LE) : (eB (A ++ t :: B)).eraseIdx A.length = eB (A ++ B) := by
  simp only [eB, List.map_append, List.map_cons]
  rw [List.eraseIdx_append_of_length_le (by simp)]
  simp

end Go.Ev.YtjcabpldgdafeaaC
