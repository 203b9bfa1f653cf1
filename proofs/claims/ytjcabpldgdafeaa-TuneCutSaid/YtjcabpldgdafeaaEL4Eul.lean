/- With which notes tunes begin, and how many there are: what the program finds is so. No condition but those that stand in each. -/
import Derived.Test.YtjcabpldgdafeaaEL4Std
import Derived.Test.YtjcabpldgdafeaaEL4Mth
set_option linter.unusedSimpArgs false
set_option linter.unusedVariables false
namespace Go.Ev.YtjcabpldgdafeaaC
open Go Go.Ev
theorem hasE_mem {l : List Nat} {x : Nat} : hasE (nI4 l) x = decide (x ∈ l) := by
 rw [Bool.eq_iff_iff]
 simp only [hasE, List.contains_iff_mem, mem_nI4, decide_eq_true_eq]
theorem ptL_closed {es : List Ed} (hn8 : ∀ q ∈ es, q.1 < 8 ∧ q.2 < 8) (a : Nat) {e : Ed} (he : e ∈ es) : e.1 ∈ ptL es a ↔ e.2 ∈ ptL es a := by
 rw [mem_ptL, mem_ptL, inPt_fwd he]
 have := hn8 e he
 exact ⟨fun h => ⟨this.2, h.2⟩, fun h => ⟨this.1, h.2⟩⟩
theorem root_mem {es : List Ed} (h0 : es ≠ []) : ∃ e ∈ es, e.1 = rootE es := by
 cases es with
 | nil => exact absurd rfl h0
 | cons q r => exact ⟨q, List.mem_cons_self, rfl⟩
theorem ap_hang {es : List Ed} (h0 : es ≠ []) (hn8 : ∀ q ∈ es, q.1 < 8 ∧ q.2 < 8) : apB es (nI4 (ptL es (rootE es))) = false ↔ Hang es := by
 have hall : es.all (fun e => hasE (nI4 (ptL es (rootE es))) e.1 == hasE (nI4 (ptL es (rootE es))) e.2) = true := by
  rw [List.all_eq_true]
  intro e he
  rw [hasE_mem, hasE_mem]
  simp [ptL_closed hn8 (rootE es) he]
 obtain ⟨e0, he0, hr0⟩ := root_mem h0
 have hrm : rootE es ∈ ptL es (rootE es) := mem_ptL.2 ⟨by rw [← hr0]; exact (hn8 e0 he0).1, inPt_self _ _⟩
 have h1 : 1 ≤ es.countP fun e => hasE (nI4 (ptL es (rootE es))) e.1 := by
  rw [Nat.one_le_iff_ne_zero, ← Nat.pos_iff_ne_zero, List.countP_pos_iff]
  exact ⟨e0, he0, by rw [hasE_mem, hr0]; simpa using hrm⟩
 rw [apB, hall, Bool.true_and]
 have h2 : decide (1 ≤ es.countP fun e => hasE (nI4 (ptL es (rootE es))) e.1) = true := by simpa using h1
 rw [h2, Bool.true_and, decide_eq_false_iff_not]
 have hle : (es.countP fun e => hasE (nI4 (ptL es (rootE es))) e.1) ≤ es.length := List.countP_le_length
 constructor
 ·intro h
  have h3 : ∀ e ∈ es, e.1 ∈ ptL es (rootE es) := fun e he => by
   have := List.countP_eq_length.1 (show (es.countP fun e => hasE (nI4 (ptL es (rootE es))) e.1) = es.length by omega) e he
   rw [hasE_mem] at this
   simpa using this
  have h4 : ∀ p : Nat → Bool, (∀ e ∈ es, p e.1 = p e.2) → ∀ e ∈ es, p e.1 = p (rootE es) := fun p hp e he => by
   have hx := (mem_ptL.1 (h3 e he)).2
   cases hr : p (rootE es) with
   | true => exact hx p hp hr
   | false =>
    have := hx (fun y => !p y) (fun f hf => by rw [hp f hf]) (by rw [hr]; rfl)
    simpa using this
  intro p hp e he f hf
  rw [h4 p hp e he, h4 p hp f hf]
 ·intro hh h
  have : (es.countP fun e => hasE (nI4 (ptL es (rootE es))) e.1) = es.length := by
   rw [List.countP_eq_length]
   intro e he
   have := hh (fun y => hasE (nI4 (ptL es (rootE es))) y) (fun f hf => by
    have := List.all_eq_true.1 hall f hf
    simpa using this) e he e0 he0
   rw [this, hr0, hasE_mem]
   simpa using hrm
  omega
theorem upU_nonneg (s : Nat → Int) : ∀ v, 0 ≤ upU s v
 | 0 => Int.le_refl _
 | v + 1 => by
  have := upU_nonneg s v
  simp only [upU]
  split <;> omega
theorem upU_ge {s : Nat → Int} {x : Nat} : ∀ {v : Nat}, x < v → s x ≤ upU s v
 | v + 1, h => by
  have h0 := upU_nonneg s v
  simp only [upU]
  by_cases hx : x = v
  ·subst hx
   split <;> omega
  ·have := upU_ge (s := s) (show x < v by omega)
   split <;> omega
theorem upU_one {s : Nat → Int} : ∀ {v : Nat}, upU s v = 1 → atU s v < v ∧ s (atU s v) = 1 ∧ ∀ x, x < v → x ≠ atU s v → s x ≤ 0
 | 0, h => by simp [upU] at h
 | v + 1, h => by
  have h0 := upU_nonneg s v
  simp only [upU, atU] at h ⊢
  by_cases hv : 0 < s v
  ·rw [if_pos hv] at h ⊢
   refine ⟨by omega, by omega, fun x hx hne => ?_⟩
   have := upU_ge (s := s) (show x < v by omega)
   omega
  ·rw [if_neg hv, Int.add_zero] at h
   rw [if_neg hv]
   obtain ⟨i1, i2, i3⟩ := upU_one h
   refine ⟨by omega, i2, fun x hx hne => ?_⟩
   by_cases hxv : x = v
   ·subst hxv; omega
   ·exact i3 x (by omega) hne
theorem upU_sum (s : Nat → Int) : ∀ v, upU s v - upU (fun x => - s x) v = sumC (List.range v) s
 | 0 => rfl
 | v + 1 => by
  have hs : ∀ (l : List Nat) (f : Nat → Int) (a : Nat), sumC (l ++ [a]) f = sumC l f + f a := fun l f a => by
   induction l with
   | nil => simp [sumC]
   | cons b r ih => simp only [List.cons_append, sumC, ih]; omega
  rw [List.range_succ, hs, ← upU_sum s v]
  simp only [upU]
  split <;> split <;> omega
theorem upU_le {s : Nat → Int} {a : Nat} (h : ∀ x, s x ≤ if x = a then 1 else 0) : ∀ v, upU s v ≤ if a < v then 1 else 0
 | 0 => by simp [upU]
 | v + 1 => by
  have h1 := upU_le h v
  have h2 := h v
  simp only [upU]
  by_cases hv : v = a
  ·subst hv
   rw [if_neg (Nat.lt_irrefl v)] at h1
   rw [if_pos rfl] at h2
   rw [if_pos (Nat.lt_succ_self v)]
   split <;> omega
  ·rw [if_neg hv] at h2
   rw [if_neg (show ¬ 0 < s v by omega)]
   by_cases hav : a < v
   ·rw [if_pos hav] at h1
    rw [if_pos (by omega)]; omega
   ·rw [if_neg hav] at h1
    split <;> omega
theorem sur_def (es : List Ed) (x : Nat) : sur es x = (od es x : Int) - (idg es x : Int) := rfl
theorem sumC_nat (f : Nat → Nat) (l : List Nat) : sumC l (fun x => (f x : Int)) = ((l.map f).sum : Nat) := by
 induction l with
 | nil => rfl
 | cons a r ih => simp only [sumC, List.map_cons, List.sum_cons, ih]; omega
theorem sur_sum {es : List Ed} (hn8 : ∀ q ∈ es, q.1 < 8 ∧ q.2 < 8) : sumC (List.range 8) (sur es) = 0 := by
 have h1 := od_sum (p := fun x => decide (x < 8)) (List.range 8) List.nodup_range (fun x => by simp) es
 have h2 : es.countP (fun e => decide (e.1 < 8)) = es.length := List.countP_eq_length.2 fun e he => by simpa using (hn8 e he).1
 have h3 : es.countP (fun e => decide (e.2 < 8)) = es.length := List.countP_eq_length.2 fun e he => by simpa using (hn8 e he).2
 have h4 : sumC (List.range 8) (sur es) + sumC (List.range 8) (fun x => (idg es x : Int)) = sumC (List.range 8) fun x => (od es x : Int) := by
  rw [← sumC_add]
  exact sumC_congr fun x _ => by unfold sur; omega
 rw [sumC_nat, sumC_nat, ← h1.1, ← h1.2, h2, h3] at h4
 omega
theorem sur_big {es : List Ed} (hn8 : ∀ q ∈ es, q.1 < 8 ∧ q.2 < 8) {x : Nat} (hx : 8 ≤ x) : sur es x = 0 := by
 have h1 : od es x = 0 := od_zero.2 fun e he h => by have := hn8 e he; omega
 have h2 : idg es x = 0 := idg_zero.2 fun e he h => by have := hn8 e he; omega
 unfold sur; omega
theorem up_zero {es : List Ed} (hn8 : ∀ q ∈ es, q.1 < 8 ∧ q.2 < 8) (h : upU (sur es) 8 = 0) : Bal es := fun x => by
 have h1 := upU_sum (sur es) 8
 rw [sur_sum hn8] at h1
 by_cases hx : x < 8
 ·have h2 := upU_ge (s := sur es) hx
  have h3 := upU_ge (s := fun x => - sur es x) hx
  rw [show upU (fun x => - sur es x) 8 = 0 by omega] at h3
  rw [h, sur_def] at h2
  rw [sur_def] at h3
  omega
 ·have := sur_big hn8 (show 8 ≤ x by omega)
  rw [sur_def] at this; omega
def endU (es : List Ed) : Nat := atU (fun x => - sur es x) 8
theorem up_one {es : List Ed} (hn8 : ∀ q ∈ es, q.1 < 8 ∧ q.2 < 8) (h : upU (sur es) 8 = 1) : atU (sur es) 8 < 8 ∧ endU es < 8 ∧ atU (sur es) 8 ≠ endU es ∧ ∀ x, sur es x = (if atU (sur es) 8 = x then 1 else 0) - if endU es = x then 1 else 0 := by
 have h1 := upU_sum (sur es) 8
 rw [sur_sum hn8] at h1
 obtain ⟨a1, a2, a3⟩ := upU_one h
 obtain ⟨b1, b2, b3⟩ := upU_one (s := fun x => - sur es x) (v := 8) (by omega)
 have hne : atU (sur es) 8 ≠ endU es := fun e => by
  rw [e] at a2
  have : sur es (endU es) = -1 := by unfold endU; omega
  omega
 refine ⟨a1, b1, hne, fun x => ?_⟩
 by_cases hxa : atU (sur es) 8 = x
 ·subst hxa
  rw [if_pos rfl, if_neg fun e => hne e.symm]; omega
 ·rw [if_neg hxa]
  by_cases hxe : endU es = x
  ·subst hxe
   rw [if_pos rfl]; unfold endU; omega
  ·rw [if_neg hxe]
   by_cases hx : x < 8
   ·have := a3 x hx fun e => hxa e.symm
    have := b3 x hx fun e => hxe e.symm
    omega
   ·rw [sur_big hn8 (by omega)]; rfl
theorem bal_ext {es : List Ed} (hn8 : ∀ q ∈ es, q.1 < 8 ∧ q.2 < 8) (h : upU (sur es) 8 = 1) : Bal ((endU es, atU (sur es) 8) :: es) := fun x => by
 obtain ⟨-, -, -, h4⟩ := up_one hn8 h
 have := h4 x
 rw [od_cons, idg_cons]
 rw [sur_def] at this
 simp only
 split at this <;> split at this <;> simp [*] at * <;> omega
theorem hang_ext {es : List Ed} (hh : Hang es) {e s : Nat} (hs : od es s ≠ 0) : Hang ((e, s) :: es) := by
 obtain ⟨g, hg, hgs⟩ : ∃ g ∈ es, g.1 = s := by
  apply Classical.byContradiction
  intro h
  exact hs (od_zero.2 fun g hg h' => h ⟨g, hg, h'⟩)
 intro p hp
 have h1 := hp (e, s) List.mem_cons_self
 simp only at h1
 have h2 : ∀ f ∈ (e, s) :: es, p f.1 = p g.1 := fun f hf => by
  rcases List.mem_cons.1 hf with rfl | hf
  ·rw [h1, hgs]
  ·exact hh p (fun k hk => hp k (List.mem_cons_of_mem _ hk)) f hf g hg
 intro f hf k hk
 rw [h2 f hf, h2 k hk]
theorem hang_perm {R R' : List Ed} (h : R.Perm R') (hh : Hang R) : Hang R' := fun p hp e he f hf => hh p (fun g hg => hp g (h.mem_iff.1 hg)) e (h.mem_iff.2 he) f (h.mem_iff.2 hf)
def circ (es : List Ed) : Int := (nf es : Nat) * lead (cl es) (lap es) (cl es).length
theorem trl_closed {es : List Ed} (hb : Bal es) (hn8 : ∀ e ∈ es, e.1 < 8 ∧ e.2 < 8) (h0 : es ≠ []) (x : Nat) : trl x es.length es x = (od es x : Nat) * circ es := by
 obtain ⟨m, hm⟩ : ∃ m, es.length = m + 1 := ⟨es.length - 1, by have := List.length_pos_iff.2 h0; omega⟩
 rw [hm]
 simp only [trl]
 have h1 : sp (fun g k => if g.1 = x then trl x m k g.2 else 0) es = sp (fun g _ => if g.1 = x then circ es else 0) es := sp_congr fun g k hp => by
  by_cases hg : g.1 = x
  ·rw [if_pos hg, if_pos hg]
   have hkl : k.length = m := by have := hp.length_eq; simp at this; omega
   have := circ_trl hb hn8 h0 (a := g.1) (b := g.2) (R' := k) hp.symm
   rw [hkl, hg] at this
   exact this
  ·rw [if_neg hg, if_neg hg]
 rw [h1, sp_const, sumE_od]
theorem circ_ext {es : List Ed} (hn8 : ∀ q ∈ es, q.1 < 8 ∧ q.2 < 8) (h : upU (sur es) 8 = 1) : trl (endU es) es.length es (atU (sur es) 8) = circ (es ++ [(endU es, atU (sur es) 8)]) := by
 obtain ⟨h1, h2, -, -⟩ := up_one hn8 h
 have hp : ((endU es, atU (sur es) 8) :: es).Perm (es ++ [(endU es, atU (sur es) 8)]) := List.perm_append_comm (l₁ := [_]) 
 exact circ_trl (bal_perm hp (bal_ext hn8 h)) (fun e he => by
  rcases List.mem_append.1 he with he | he
  ·exact hn8 e he
  ·obtain rfl := List.mem_singleton.1 he
   exact ⟨h2, h1⟩) (by simp) hp.symm
theorem circ_ext_pos {es : List Ed} (hn8 : ∀ q ∈ es, q.1 < 8 ∧ q.2 < 8) (h : upU (sur es) 8 = 1) (hh : Hang es) : 0 < circ (es ++ [(endU es, atU (sur es) 8)]) := by
 obtain ⟨h1, h2, h3, h4⟩ := up_one hn8 h
 have hp : ((endU es, atU (sur es) 8) :: es).Perm (es ++ [(endU es, atU (sur es) 8)]) := List.perm_append_comm (l₁ := [_])
 have hod : od es (atU (sur es) 8) ≠ 0 := fun h0 => by
  have := h4 (atU (sur es) 8)
  rw [if_pos rfl, if_neg fun e => h3 e.symm, sur_def] at this
  omega
 exact circ_pos (bal_perm hp (bal_ext hn8 h)) (hang_perm hp (hang_ext hh hod)) (fun e he => by
  rcases List.mem_append.1 he with he | he
  ·exact hn8 e he
  ·obtain rfl := List.mem_singleton.1 he
   exact ⟨h2, h1⟩) (by simp)
theorem sumC_one {V : List Nat} (hn : V.Nodup) {f : Nat → Int} {a : Nat} (ha : a ∈ V) (h : ∀ x ∈ V, x ≠ a → f x = 0) : sumC V f = f a := by
 have : sumC V f = sumC V fun v => if a = v then f a else 0 := sumC_congr fun v hv => by
  by_cases hva : a = v
  ·rw [if_pos hva, hva]
  ·rw [if_neg hva, h v hv fun e => hva e.symm]
 rw [this, sumC_ite hn ha]
theorem sumC_nonneg {f : Nat → Int} : ∀ {V : List Nat}, (∀ x ∈ V, 0 ≤ f x) → 0 ≤ sumC V f ∧ ∀ x ∈ V, f x ≤ sumC V f
 | [], _ => ⟨Int.le_refl _, fun x hx => by cases hx⟩
 | a :: V, h => by
  obtain ⟨i1, i2⟩ := sumC_nonneg fun x hx => h x (List.mem_cons_of_mem _ hx)
  have h0 := h a List.mem_cons_self
  simp only [sumC]
  refine ⟨by omega, fun x hx => ?_⟩
  rcases List.mem_cons.1 hx with rfl | hx
  ·omega
  ·have := i2 x hx; omega
theorem sumC_some {f : Nat → Int} : ∀ {V : List Nat}, sumC V f ≠ 0 → ∃ x ∈ V, f x ≠ 0
 | [], h => absurd rfl h
 | a :: V, h => by
  by_cases ha : f a = 0
  ·obtain ⟨x, hx, hf⟩ := sumC_some (V := V) (f := f) fun h2 => h (by simp only [sumC, ha, h2]; rfl)
   exact ⟨x, List.mem_cons_of_mem _ hx, hf⟩
  ·exact ⟨a, List.mem_cons_self, ha⟩
theorem need {es : List Ed} (hn8 : ∀ q ∈ es, q.1 < 8 ∧ q.2 < 8) (h0 : es ≠ []) {r a : Nat} (ha : a < 8) (h : trl r es.length es a ≠ 0) : Hang es ∧ od es a ≠ 0 ∧ (∀ x, sur es x = (if a = x then 1 else 0) - if r = x then 1 else 0) ∧ ((a = r ∧ upU (sur es) 8 = 0) ∨ (upU (sur es) 8 = 1 ∧ atU (sur es) 8 = a ∧ endU es = r)) := by
 obtain ⟨h1, h2⟩ := trl_need _ rfl h
 have hsur : ∀ x, sur es x = (if a = x then 1 else 0) - if r = x then 1 else 0 := fun x => by
  have := h1 x
  unfold sur
  split at this <;> split at this <;> omega
 have hod : od es a ≠ 0 := by
  obtain ⟨m, hm⟩ : ∃ m, es.length = m + 1 := ⟨es.length - 1, by have := List.length_pos_iff.2 h0; omega⟩
  rw [hm] at h
  simp only [trl] at h
  obtain ⟨g, k, hp, hg⟩ := sp_some h
  intro ho
  have := od_zero.1 ho g (hp.mem_iff.1 List.mem_cons_self)
  exact hg (if_neg this)
 refine ⟨fun p hp e he f hf => by rw [h2 p hp e he, h2 p hp f hf], hod, hsur, ?_⟩
 by_cases har : a = r
 ·subst har
  refine .inl ⟨rfl, ?_⟩
  have h3 : sur es = fun _ => 0 := funext fun x => by rw [hsur]; omega
  rw [h3]
  rfl
 ·have h3 := upU_le (s := sur es) (a := a) (fun x => by
   rw [hsur]
   by_cases hx : a = x
   ·rw [if_pos hx, if_pos hx.symm]; split <;> omega
   ·rw [if_neg hx, if_neg (show ¬ x = a from fun e => hx e.symm)]; split <;> omega) 8
  rw [if_pos ha] at h3
  have h4 := upU_ge (s := sur es) ha
  rw [hsur a, if_pos rfl, if_neg fun e => har e.symm] at h4
  have h5 : upU (sur es) 8 = 1 := by omega
  obtain ⟨b1, b2, b3, b4⟩ := up_one hn8 h5
  refine .inr ⟨h5, ?_, ?_⟩
  ·have e1 := b4 (atU (sur es) 8)
   rw [if_pos rfl, if_neg fun e => b3 e.symm, hsur] at e1
   apply Classical.byContradiction
   intro hne
   rw [if_neg fun e => hne e.symm] at e1
   split at e1 <;> omega
  ·have e1 := b4 (endU es)
   rw [if_neg b3, if_pos rfl, hsur] at e1
   apply Classical.byContradiction
   intro hne
   have e2 : ¬ r = endU es := fun e => hne e.symm
   rw [if_neg e2] at e1
   split at e1 <;> omega
theorem tw_sum {es : List Ed} (hn8 : ∀ q ∈ es, q.1 < 8 ∧ q.2 < 8) {a : Nat} (ha : a < 8) : tw es.length es a = sumC (List.range 8) fun r => trl r es.length es a :=
 tw_trl List.nodup_range _ rfl (fun e he => List.mem_range.2 (hn8 e he).2) (List.mem_range.2 ha)
theorem mem_strL {N : Nat} {es : List Ed} (h0 : es ≠ []) (hN : N ≤ 8) (hn : ∀ q ∈ es, q.1 < N ∧ q.2 < N) {x : Nat} : x ∈ strL N es ↔ x < 8 ∧ 0 < tw es.length es x := by
 have hn8 : ∀ q ∈ es, q.1 < 8 ∧ q.2 < 8 := fun q hq => by have := hn q hq; omega
 have hnn : ∀ x < 8, ∀ r ∈ List.range 8, 0 ≤ trl r es.length es x := fun x _ r _ => trl_nonneg r _ x rfl
 constructor
 ·intro hx
  unfold strL at hx
  split at hx
  ·cases hx
  ·next hap =>
   have hh : Hang es := (ap_hang h0 hn8).1 (by simpa using hap)
   split at hx
   ·next hu =>
    obtain ⟨h1, h2⟩ := List.mem_filter.1 hx
    have hx8 : x < 8 := by have := List.mem_range.1 h1; omega
    refine ⟨hx8, ?_⟩
    have hb := up_zero hn8 hu
    rw [List.any_eq_true] at h2
    obtain ⟨q, hq, hqx⟩ := h2
    have hod : od es x ≠ 0 := fun h => od_zero.1 h q hq (by simpa using hqx)
    have h3 := trl_closed hb hn8 h0 x
    have h4 := circ_pos hb hh hn8 h0
    have h5 := (sumC_nonneg (hnn x hx8)).2 x (List.mem_range.2 hx8)
    rw [tw_sum hn8 hx8]
    have : 0 < (od es x : Int) * circ es := Int.mul_pos (by omega) h4
    omega
   ·split at hx
    ·next hu =>
     obtain rfl := List.mem_singleton.1 hx
     obtain ⟨h1, h2, -, -⟩ := up_one hn8 hu
     refine ⟨h1, ?_⟩
     have h3 := circ_ext hn8 hu
     have h4 := circ_ext_pos hn8 hu hh
     have h5 := (sumC_nonneg (hnn _ h1)).2 (endU es) (List.mem_range.2 h2)
     rw [tw_sum hn8 h1]
     omega
    ·cases hx
 ·rintro ⟨hx8, hpos⟩
  rw [tw_sum hn8 hx8] at hpos
  obtain ⟨r, hr, hne⟩ := sumC_some (show sumC (List.range 8) (fun r => trl r es.length es x) ≠ 0 by omega)
  obtain ⟨hh, hod, hsur, hor⟩ := need hn8 h0 hx8 hne
  have hap := (ap_hang h0 hn8).2 hh
  unfold strL
  rw [if_neg (by rw [hap]; decide)]
  rcases hor with ⟨_, hu⟩ | ⟨hu, hat, _⟩
  ·rw [if_pos hu]
   have : ∃ q ∈ es, q.1 = x := by
    apply Classical.byContradiction
    intro h
    exact hod (od_zero.2 fun e he h' => h ⟨e, he, h'⟩)
   obtain ⟨q, hq, rfl⟩ := this
   exact List.mem_filter.2 ⟨List.mem_range.2 (hn q hq).1, List.any_eq_true.2 ⟨q, hq, by simp⟩⟩
  ·rw [if_neg (by omega), if_pos hu, hat]
   exact List.mem_singleton.2 rfl
end Go.Ev.YtjcabpldgdafeaaC
namespace Go.Ev.YtjcabpldgdafeaaC
open Go Go.Ev
def cntT (es : List Ed) : Int := sumC (List.range 8) (tw es.length es)
theorem sumC_zero {f : Nat → Int} : ∀ {V : List Nat}, (∀ x ∈ V, f x = 0) → sumC V f = 0
 | [], _ => rfl
 | a :: V, h => by
  simp only [sumC]
  rw [h a List.mem_cons_self, sumC_zero fun x hx => h x (List.mem_cons_of_mem _ hx)]; rfl
theorem cnt_nonneg (es : List Ed) : 0 ≤ cntT es := (sumC_nonneg fun x _ => (tw_box _ x rfl).1).1
theorem cnt_box {es : List Ed} (h0 : es ≠ []) (hn8 : ∀ q ∈ es, q.1 < 8 ∧ q.2 < 8) : cntT es ≤ fctI es.length := by
 obtain ⟨m, hm⟩ : ∃ m, es.length = m + 1 := ⟨es.length - 1, by have := List.length_pos_iff.2 h0; omega⟩
 have h1 : cntT es = sumC (List.range 8) fun r => sp (fun g k => if g.1 = r then tw m k g.2 else 0) es := by
  unfold cntT
  rw [hm]; rfl
 rw [h1, sumC_sp (fun r g k => if g.1 = r then tw m k g.2 else 0)]
 have h2 := (sp_bound (c := fctI m) (Int.le_of_lt (fctI_pos m)) (R := es) (f := fun x l => sumC (List.range 8) fun r => if x.1 = r then tw m l x.2 else 0) fun x l hp => by
  have hx := hn8 x (hp.mem_iff.1 List.mem_cons_self)
  have hl : l.length = m := by have := hp.length_eq; simp at this; omega
  rw [sumC_ite List.nodup_range (List.mem_range.2 hx.1)]
  exact tw_box m x.2 hl).2
 refine Int.le_trans h2 ?_
 rw [hm]
 exact Int.le_refl _
theorem tw_le_cnt (es : List Ed) {a : Nat} (ha : a < 8) : tw es.length es a ≤ cntT es := (sumC_nonneg fun x _ => (tw_box _ x rfl).1).2 a (List.mem_range.2 ha)
theorem od_all {es : List Ed} (hn8 : ∀ q ∈ es, q.1 < 8 ∧ q.2 < 8) : sumC (List.range 8) (fun a => (od es a : Int)) = es.length := by
 rw [sumC_nat]
 have h := (od_sum (p := fun x => decide (x < 8)) (List.range 8) List.nodup_range (fun x => by simp) es).1
 rw [← h]
 have : es.countP (fun e => decide (e.1 < 8)) = es.length := by
  rw [List.countP_eq_length]
  intro e he
  simpa using (hn8 e he).1
 rw [this]
theorem sumC_mulR (c : Int) (f : Nat → Int) : ∀ V, sumC V (fun x => f x * c) = sumC V f * c
 | [] => by simp [sumC]
 | a :: V => by simp only [sumC]; rw [sumC_mulR c f V, Int.add_mul]
section
variable {N : Nat} {es : List Ed}
theorem tw_none (hk : OkB N es) {x : Nat} (hx : x < 8) (h : x ∉ strL N es) : tw es.length es x = 0 := by
 have h1 := (tw_box es.length x rfl).1
 apply Classical.byContradiction
 intro hne
 exact h ((mem_strL hk.ne hk.n8 hk.lt).2 ⟨hx, by omega⟩)
theorem cnt_none (hk : OkB N es) (h : strL N es = []) : cntT es = 0 := sumC_zero fun x hx => tw_none hk (List.mem_range.1 hx) (by rw [h]; simp)
theorem cnt_some (hk : OkB N es) (h : strL N es ≠ []) : 0 < cntT es := by
 obtain ⟨x, hx⟩ := List.exists_mem_of_ne_nil _ h
 obtain ⟨h1, h2⟩ := (mem_strL hk.ne hk.n8 hk.lt).1 hx
 have := tw_le_cnt es h1
 omega
theorem str_some (h : strL N es ≠ []) : apB es (nI4 (ptL es (rootE es))) = false ∧ (upU (sur es) 8 = 0 ∨ upU (sur es) 8 = 1) := by
 unfold strL at h
 by_cases h1 : apB es (nI4 (ptL es (rootE es))) = true
 ·rw [if_pos h1] at h; exact absurd rfl h
 ·rw [if_neg h1] at h
  refine ⟨by simpa using h1, ?_⟩
  by_cases h2 : upU (sur es) 8 = 0
  ·exact .inl h2
  ·rw [if_neg h2] at h
   by_cases h3 : upU (sur es) 8 = 1
   ·exact .inr h3
   ·rw [if_neg h3] at h; exact absurd rfl h
theorem tw_bal (hk : OkB N es) (h : strL N es ≠ []) (hu : upU (sur es) 8 = 0) {a : Nat} (ha : a < 8) : tw es.length es a = (od es a : Int) * circ es := by
 have hn8 := hk.lt8
 rw [tw_sum hn8 ha, sumC_one List.nodup_range (List.mem_range.2 ha) fun r hr hne => ?_]
 ·exact trl_closed (up_zero hn8 hu) hn8 hk.ne a
 ·apply Classical.byContradiction
  intro hz
  obtain ⟨_, _, _, h4⟩ := need hn8 hk.ne ha hz
  rcases h4 with ⟨h5, _⟩ | ⟨h5, _⟩
  ·exact hne h5.symm
  ·omega
theorem cnt_bal (hk : OkB N es) (h : strL N es ≠ []) (hu : upU (sur es) 8 = 0) : cntT es = circ es * es.length := by
 have h1 : cntT es = sumC (List.range 8) fun a => (od es a : Int) * circ es := sumC_congr fun a ha => tw_bal hk h hu (List.mem_range.1 ha)
 rw [h1, sumC_mulR, od_all hk.lt8, Int.mul_comm]
theorem str_one (h : strL N es ≠ []) (hu : upU (sur es) 8 = 1) : strL N es = [atU (sur es) 8] := by
 have := (str_some h).1
 unfold strL
 rw [if_neg (by rw [this]; decide), if_neg (by omega), if_pos hu]
theorem tw_open (hk : OkB N es) (hu : upU (sur es) 8 = 1) : tw es.length es (atU (sur es) 8) = circ (es ++ [(endU es, atU (sur es) 8)]) := by
 have hn8 := hk.lt8
 obtain ⟨h1, h2, h3, h4⟩ := up_one hn8 hu
 rw [tw_sum hn8 h1, sumC_one List.nodup_range (List.mem_range.2 h2) fun r hr hne => ?_]
 ·exact circ_ext hn8 hu
 ·apply Classical.byContradiction
  intro hz
  obtain ⟨_, _, _, h4⟩ := need hn8 hk.ne h1 hz
  rcases h4 with ⟨h5, h6⟩ | ⟨_, _, h7⟩
  ·omega
  ·exact hne h7.symm
theorem cnt_open (hk : OkB N es) (h : strL N es ≠ []) (hu : upU (sur es) 8 = 1) : cntT es = circ (es ++ [(endU es, atU (sur es) 8)]) := by
 have h1 := (up_one hk.lt8 hu).1
 rw [← tw_open hk hu]
 exact sumC_one List.nodup_range (List.mem_range.2 h1) fun x hx hne => tw_none hk (List.mem_range.1 hx) (by rw [str_one h hu]; simpa using hne)
end
end Go.Ev.YtjcabpldgdafeaaC
