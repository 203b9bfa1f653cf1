/- How many links lead from a note, summed over a map of links; a table that is built row by row. No condition. -/
import Derived.Test.YtjcabpldgdafeaaL4Map
set_option linter.unusedSimpArgs false
set_option linter.unusedVariables false
namespace Go.Ev.YtjcabpldgdafeaaC
open Go Go.Proofs

def noLoop (es : List (Nat × Nat)) : List (Nat × Nat) := es.filter fun q => !(q.1 == q.2)
theorem LM.noLoops {es : List (Nat × Nat)} {E : List LE} {c : Nat} (h : LM es E c) : LM (noLoop es) (E.filter fun t => !loopE t) c where
  nd := List.Nodup.sublist (List.Sublist.map _ List.filter_sublist) h.nd
  cnt := fun t ht => by
    obtain ⟨h1, h2⟩ := List.mem_filter.1 ht
    rw [h.cnt t h1, noLoop, List.count_filter]
    simpa [loopE] using h2
  mem := fun q hq => by
    obtain ⟨h1, h2⟩ := List.mem_filter.1 hq
    obtain ⟨t, ht, rfl⟩ := List.mem_map.1 (h.mem q h1)
    exact List.mem_map_of_mem (f := fun t : LE => t.1) (List.mem_filter.2 ⟨ht, by simpa [loopE] using h2⟩)
  sub := fun t ht => by
    obtain ⟨h1, h2⟩ := List.mem_filter.1 ht
    exact List.mem_filter.2 ⟨h.sub t h1, by simpa [loopE] using h2⟩
  bn := List.Nodup.sublist (List.Sublist.map _ List.filter_sublist) h.bn
  bc := fun t ht => h.bc t (List.mem_filter.1 ht).1

def sumN : List LE → (LE → Nat) → Nat
  | [], _ => 0
  | t :: r, f => f t + sumN r f
theorem sumN_app (A B : List LE) (f : LE → Nat) : sumN (A ++ B) f = sumN A f + sumN B f := by
  induction A with
  | nil => simp [sumN]
  | cons a r ih => simp only [List.cons_append, sumN, ih]; omega
theorem sumN_congr {E : List LE} {f g : LE → Nat} (h : ∀ t ∈ E, f t = g t) : sumN E f = sumN E g := by
  induction E with
  | nil => rfl
  | cons a r ih => simp only [sumN, h a List.mem_cons_self, ih fun t ht => h t (List.mem_cons_of_mem _ ht)]
theorem sumN_le {E : List LE} {f g : LE → Nat} (h : ∀ t ∈ E, f t ≤ g t) : sumN E f ≤ sumN E g := by
  induction E with
  | nil => exact Nat.le_refl _
  | cons a r ih =>
    have h1 := h a List.mem_cons_self
    have h2 := ih fun t ht => h t (List.mem_cons_of_mem _ ht)
    simp only [sumN]; omega
def SW (E : List LE) (seen : List Nat) (x : Nat) : Nat := sumN E fun t => if t.2.2 ∈ seen ∧ t.1.1 = x then t.2.1 else 0
theorem SW_nil (E : List LE) (x : Nat) : SW E [] x = 0 := by
  unfold SW
  induction E with
  | nil => rfl
  | cons a r ih => simp only [sumN, ih]; simp
theorem SW_step {E : List LE} {seen : List Nat} {t : LE} (hn : (eB E).Nodup) (ht : t ∈ E) (hs : t.2.2 ∉ seen) (x : Nat) : SW E (seen ++ [t.2.2]) x = SW E seen x + if t.1.1 = x then t.2.1 else 0 := by
  obtain ⟨A, B, rfl⟩ := List.append_of_mem ht
  simp only [eB, List.map_append, List.map_cons] at hn
  rw [List.nodup_append] at hn
  obtain ⟨n1, n2, n3⟩ := hn
  unfold SW
  rw [sumN_app, sumN_app]
  simp only [sumN]
  have hA : sumN A (fun u => if u.2.2 ∈ seen ++ [t.2.2] ∧ u.1.1 = x then u.2.1 else 0) = sumN A fun u => if u.2.2 ∈ seen ∧ u.1.1 = x then u.2.1 else 0 := sumN_congr fun u hu => by
    have : u.2.2 ≠ t.2.2 := fun e => n3 _ (List.mem_map_of_mem (f := fun t : LE => t.2.2) hu) _ List.mem_cons_self e
    simp [this]
  have hB : sumN B (fun u => if u.2.2 ∈ seen ++ [t.2.2] ∧ u.1.1 = x then u.2.1 else 0) = sumN B fun u => if u.2.2 ∈ seen ∧ u.1.1 = x then u.2.1 else 0 := sumN_congr fun u hu => by
    have : u.2.2 ≠ t.2.2 := fun e => (List.nodup_cons.1 n2).1 (e ▸ List.mem_map_of_mem (f := fun t : LE => t.2.2) hu)
    simp [this]
  rw [hA, hB]
  simp only [List.mem_append, List.mem_singleton, or_true, true_and, hs, false_and, if_false]
  omega
theorem sum_count (P : Nat → Bool) : ∀ (p : List (Nat × Nat)) (E : List LE), (E.map (·.1)).Nodup → (∀ q ∈ p, q ∈ E.map (·.1)) → sumN E (fun t => if P t.1.1 = true then p.count t.1 else 0) = p.countP fun q => P q.1
  | [], E, _, _ => by
    simp only [List.count_nil, ite_self, List.countP_nil]
    induction E with
    | nil => rfl
    | cons a r ih => simp only [sumN, Nat.zero_add]; exact ih (by simp_all) (by simp)
  | q :: p, E, hn, hm => by
    have ih := sum_count P p E hn fun r hr => hm r (List.mem_cons_of_mem _ hr)
    rw [List.countP_cons, ← ih]
    obtain ⟨t, ht, rfl⟩ := List.mem_map.1 (hm q List.mem_cons_self)
    obtain ⟨A, B, rfl⟩ := List.append_of_mem ht
    rw [List.map_append, List.map_cons, List.nodup_append] at hn
    obtain ⟨n1, n2, n3⟩ := hn
    have hA : ∀ u ∈ A, t.1 ≠ u.1 := fun u hu e => n3 _ (List.mem_map_of_mem (f := fun t : LE => t.1) hu) _ List.mem_cons_self e.symm
    have hB : ∀ u ∈ B, t.1 ≠ u.1 := fun u hu e => (List.nodup_cons.1 n2).1 (e ▸ List.mem_map_of_mem (f := fun t : LE => t.1) hu)
    rw [sumN_app, sumN_app]
    simp only [sumN]
    rw [sumN_congr (E := A) (g := fun u => if P u.1.1 = true then p.count u.1 else 0) fun u hu => by rw [List.count_cons_of_ne (hA u hu)],
      sumN_congr (E := B) (g := fun u => if P u.1.1 = true then p.count u.1 else 0) fun u hu => by rw [List.count_cons_of_ne (hB u hu)]]
    rw [List.count_cons_self]
    split <;> omega
theorem SW_all {p : List (Nat × Nat)} {E : List LE} {c : Nat} (h : LM p E c) {seen : List Nat} (hs : ∀ t ∈ E, t.2.2 ∈ seen) (x : Nat) : SW E seen x = p.countP fun q => q.1 == x := by
  rw [← sum_count (fun v => v == x) p E h.nd h.mem]
  refine sumN_congr fun t ht => ?_
  simp only [hs t ht, true_and, beq_iff_eq, h.cnt t ht]
theorem SW_le {p : List (Nat × Nat)} {E : List LE} {c : Nat} (h : LM p E c) (seen : List Nat) (x : Nat) : SW E seen x ≤ p.length := by
  refine Nat.le_trans (sumN_le (g := fun t => if (t.1.1 == x) = true then p.count t.1 else 0) fun t ht => ?_) ?_
  · simp only [beq_iff_eq, h.cnt t ht]
    split <;> split <;> simp_all
  · rw [sum_count (fun v => v == x) p E h.nd h.mem]
    exact List.countP_le_length

/-! ### a table that is built row by row -/
structure TabB (h : Heap) (kt K m i : Nat) (F : Nat → Nat → Int) : Prop where
  tab : getH h kt = .cells 0 ((List.range m).map fun a => if a < i then .oslice (K + 2 * a) 0 none 0 m (some m) else .slice none [] true)
  row : ∀ a, a < i → getH h (K + 2 * a) = .cells 0 ((List.range m).map fun b => .int .i64 (F a b))
theorem TabB.done {h : Heap} {kt K m : Nat} {F : Nat → Nat → Int} (ht : TabB h kt K m m F) (hk : kt < K) : TabAt h kt m (fun a => K + 2 * a) F where
  tab := by
    rw [ht.tab]
    congr 1
    apply List.map_congr_left
    intro a ha
    rw [if_pos (by simpa using ha)]
  row := ht.row
  inj := fun a b _ _ h => by omega
  ne := fun a _ => by omega
theorem TabB.other {h h' : Heap} {kt K m i : Nat} {F : Nat → Nat → Int} (ht : TabB h kt K m i F) (h1 : getH h' kt = getH h kt) (h2 : ∀ a, a < i → getH h' (K + 2 * a) = getH h (K + 2 * a)) : TabB h' kt K m i F where
  tab := by rw [h1, ht.tab]
  row := fun a ha => by rw [h2 a ha, ht.row a ha]
theorem TabB.ldt {h : Heap} {kt K m i : Nat} {F : Nat → Nat → Int} (ht : TabB h kt K m i F) {a : Nat} (ha : a < i) (hm : a < m) : ldA none h (.optr kt 0 a) = .ret (.oslice (K + 2 * a) 0 none 0 m (some m)) := by
  simp only [ldA, ht.tab, if_true, rd_range m a _ hm, if_pos ha]
theorem TabB.ldr {h : Heap} {kt K m i : Nat} {F : Nat → Nat → Int} (ht : TabB h kt K m i F) {a b : Nat} (ha : a < i) (hb : b < m) : ldA none h (.optr (K + 2 * a) 0 b) = .ret (.int .i64 (F a b)) := by
  simp only [ldA, ht.row a ha, if_true, rd_range m b _ hb]
theorem TabB.congr {h : Heap} {kt K m i : Nat} {F G : Nat → Nat → Int} (ht : TabB h kt K m i F) (hg : ∀ a b, a < i → b < m → F a b = G a b) : TabB h kt K m i G where
  tab := ht.tab
  row := fun a ha => by
    rw [ht.row a ha]
    congr 1
    apply List.map_congr_left
    intro b hb
    rw [hg a b ha (by simpa using hb)]
theorem TabB.upd {h : Heap} {kt K m i : Nat} {F : Nat → Nat → Int} (ht : TabB h kt K m i F) (hk : kt < K) {a j : Nat} (ha : a < i) (v : Int) :
    TabB (setH h (K + 2 * a) (.cells 0 (((List.range m).map fun b => AV.int .i64 (F a b)).set j (.int .i64 v)))) kt K m i (fun a' b => if a' = a ∧ b = j then v else F a' b) where
  tab := by rw [getH_setH_ne _ _ _ _ (by omega)]; exact ht.tab
  row := fun a' ha' => by
    by_cases hai : a' = a
    · subst hai
      rw [getH_setH_self, set_range]
      congr 1
      apply List.map_congr_left
      intro b hb
      simp only [true_and]
      split <;> rfl
    · rw [getH_setH_ne _ _ _ _ (by omega), ht.row a' ha']
      congr 1
      apply List.map_congr_left
      intro b hb
      rw [if_neg (fun h => hai h.1)]
/-- a new row comes into the table -/
theorem TabB.add {h h' : Heap} {kt K m i : Nat} {F : Nat → Nat → Int} (ht : TabB h kt K m i F) (hi : i < m) (h1 : getH h' kt = .cells 0 (((List.range m).map fun a => if a < i then AV.oslice (K + 2 * a) 0 none 0 m (some m) else .slice none [] true).set i (.oslice (K + 2 * i) 0 none 0 m (some m))))
    (h2 : ∀ a, a < i → getH h' (K + 2 * a) = getH h (K + 2 * a)) (h3 : getH h' (K + 2 * i) = .cells 0 ((List.range m).map fun _ => .int .i64 0)) : TabB h' kt K m (i + 1) (fun a b => if a < i then F a b else 0) where
  tab := by
    rw [h1, set_range]
    congr 1
    apply List.map_congr_left
    intro a _
    by_cases ha : a = i
    · subst ha; rw [if_pos rfl, if_pos (by omega)]
    · rw [if_neg ha]
      by_cases ha2 : a < i
      · rw [if_pos ha2, if_pos (by omega)]
      · rw [if_neg ha2, if_neg (by omega)]
  row := fun a ha => by
    by_cases hai : a < i
    · rw [h2 a hai, ht.row a hai]
      congr 1
      apply List.map_congr_left
      intro b _
      rw [if_pos hai]
    · obtain rfl : a = i := by omega
      rw [h3]
      congr 1
      apply List.map_congr_left
      intro b _
      rw [if_neg (by omega)]
theorem flat_rep (m : Nat) (v : AV) : (List.replicate m [v]).flatten = (List.range m).map fun _ => v := by
  apply List.ext_getElem?
  intro i
  have h1 : (List.replicate m [v]).flatten = List.replicate m v := by
    induction m with
    | zero => rfl
    | succ m ih => simp [List.replicate_succ, ih]
  rw [h1]
  by_cases hi : i < m
  · rw [range_get m i _ hi, List.getElem?_replicate, if_pos hi]
  · rw [List.getElem?_eq_none (by simp; omega), List.getElem?_eq_none (by simp; omega)]

end Go.Ev.YtjcabpldgdafeaaC
