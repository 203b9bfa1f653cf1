/- With which notes tunes begin, and how many there are: what the program finds is so. No condition but those that stand in each. -/
import Derived.Test.YtjcabpldgdafeaaAL4Std
import Derived.Test.YtjcabpldgdafeaaAL4Mth
set_option linter.unusedSimpArgs false
set_option linter.unusedVariables false
namespace Go.Ev.YtjcabpldgdafeaaC
open Go Go.Ev
theorem upU_nonneg (s : Nat → Int) : ∀ v, 0 ≤ upU s v
 | 0 => Int.le_refl _
 | v + 1 => by
  have := upU_nonneg s v
  simp only [upU]
  split <;> omega
theorem upU_ge {s : Nat → Int} {x : Nat} : ∀ {v : Nat}, x < v → s x ≤ upU s v
 | v + 1, h => by
  have h0 := upU_nonneg s v
  simp only [upU]
  by_cases hx : x = v
  ·subst hx
   split <;> omega
  ·have := upU_ge (s := s) (show x < v by omega)
   split <;> omega
theorem upU_one {s : Nat → Int} : ∀ {v : Nat}, upU s v = 1 → atU s v < v ∧ s (atU s v) = 1 ∧ ∀ x, x < v → x ≠ atU s v → s x ≤ 0
 | 0, h => by simp [upU] at h
 | v + 1, h => by
  have h0 := upU_nonneg s v
  simp only [upU, atU] at h ⊢
  by_cases hv : 0 < s v
  ·rw [if_pos hv] at h ⊢
   refine ⟨by omega, by omega, fun x hx hne => ?_⟩
   have := upU_ge (s := s) (show x < v by omega)
   omega
  ·rw [if_neg hv, Int.add_zero] at h
   rw [if_neg hv]
   obtain ⟨i1, i2, i3⟩ := upU_one h
   refine ⟨by omega, i2, fun x hx hne => ?_⟩
   by_cases hxv : x = v
   ·subst hxv; omega
   ·exact i3 x (by omega) hne
theorem upU_sum (s : Nat → Int) : ∀ v, upU s v - upU (fun x => - s x) v = sumC (List.range v) s
 | 0 => rfl
 | v + 1 => by
  have hs : ∀ (l : List Nat) (f : Nat → Int) (a : Nat), sumC (l ++ [a]) f = sumC l f + f a := fun l f a => by
   induction l with
   | nil => simp [sumC]
   | cons b r ih => simp only [List.cons_append, sumC, ih]; omega
  rw [List.range_succ, hs, ← upU_sum s v]
  simp only [upU]
  split <;> split <;> omega
theorem upU_le {s : Nat → Int} {a : Nat} (h : ∀ x, s x ≤ if x = a then 1 else 0) : ∀ v, upU s v ≤ if a < v then 1 else 0
 | 0 => by simp [upU]
 | v + 1 => by
  have h1 := upU_le h v
  have h2 := h v
  simp only [upU]
  by_cases hv : v = a
  ·subst hv
   rw [if_neg (Nat.lt_irrefl v)] at h1
   rw [if_pos rfl] at h2
   rw [if_pos (Nat.lt_succ_self v)]
   split <;> omega
  ·rw [if_neg hv] at h2
   rw [if_neg (show ¬ 0 < s v by omega)]
   by_cases hav : a < v
   ·rw [if_pos hav] at h1
    rw [if_pos (by omega)]; omega
   ·rw [if_neg hav] at h1
    split <;> omega
theorem sur_def (es : List Ed) (x : Nat) : sur es x = (od es x : Int) - (idg es x : Int) := rfl
theorem sumC_nat (f : Nat → Nat) (l : List Nat) : sumC l (fun x => (f x : Int)) = ((l.map f).sum : Nat) := by
 induction l with
 | nil => rfl
 | cons a r ih => simp only [sumC, List.map_cons, List.sum_cons, ih]; omega
theorem sur_sum {es : List Ed} (hn8 : ∀ q ∈ es, q.1 < 8 ∧ q.2 < 8) : sumC (List.range 8) (sur es) = 0 := by
 have h1 := od_sum (p := fun x => decide (x < 8)) (List.range 8) List.nodup_range (fun x => by simp) es
 have h2 : es.countP (fun e => decide (e.1 < 8)) = es.length := List.countP_eq_length.2 fun e he => by simpa using (hn8 e he).1
 have h3 : es.countP (fun e => decide (e.2 < 8)) = es.length := List.countP_eq_length.2 fun e he => by simpa using (hn8 e he).2
 have h4 : sumC (List.range 8) (sur es) + sumC (List.range 8) (fun x => (idg es x : Int)) = sumC (List.range 8) fun x => (od es x : Int) := by
  rw [← sumC_add]
  exact sumC_congr fun x _ => by unfold sur; omega
 rw [sumC_nat, sumC_nat, ← h1.1, ← h1.2, h2, h3] at h4
 omega
theorem sur_big {es : List Ed} (hn8 : ∀ q ∈ es, q.1 < 8 ∧ q.2 < 8) {x : Nat} (hx : 8 ≤ x) : sur es x = 0 := by
 have h1 : od es x = 0 := od_zero.2 fun e he h => by have := hn8 e he; omega
 have h2 : idg es x = 0 := idg_zero.2 fun e he h => by have := hn8 e he; omega
 unfold sur; omega
def endU (es : List Ed) : Nat := atU (fun x => - sur es x) 8
theorem up_one {es : List Ed} (hn8 : ∀ q ∈ es, q.1 < 8 ∧ q.2 < 8) (h : upU (sur es) 8 = 1) : atU (sur es) 8 < 8 ∧ endU es < 8 ∧ atU (sur es) 8 ≠ endU es ∧ ∀ x, sur es x = (if atU (sur es) 8 = x then 1 else 0) - if endU es = x then 1 else 0 := by
 have h1 := upU_sum (sur es) 8
 rw [sur_sum hn8] at h1
 obtain ⟨a1, a2, a3⟩ := upU_one h
 obtain ⟨b1, b2, b3⟩ := upU_one (s := fun x => - sur es x) (v := 8) (by omega)
 have hne : atU (sur es) 8 ≠ endU es := fun e => by
  rw [e] at a2
  have : sur es (endU es) = -1 := by unfold endU; omega
  omega
 refine ⟨a1, b1, hne, fun x => ?_⟩
 by_cases hxa : atU (sur es) 8 = x
 ·subst hxa
  rw [if_pos rfl, if_neg fun e => hne e.symm]; omega
 ·rw [if_neg hxa]
  by_cases hxe : endU es = x
  ·subst hxe
   rw [if_pos rfl]; unfold endU; omega
  ·rw [if_neg hxe]
   by_cases hx : x < 8
   ·have := a3 x hx fun e => hxa e.symm
    have := b3 x hx fun e => hxe e.symm
    omega
   ·rw [sur_big hn8 (by omega)]; rfl
theorem sumC_one {V : List Nat} (hn : V.Nodup) {f : Nat → Int} {a : Nat} (ha : a ∈ V) (h : ∀ x ∈ V, x ≠ a → f x = 0) : sumC V f = f a := by
 have : sumC V f = sumC V fun v => if a = v then f a else 0 := sumC_congr fun v hv => by
  by_cases hva : a = v
  ·rw [if_pos hva, hva]
  ·rw [if_neg hva, h v hv fun e => hva e.symm]
 rw [this, sumC_ite hn ha]
theorem need {es : List Ed} (hn8 : ∀ q ∈ es, q.1 < 8 ∧ q.2 < 8) (h0 : es ≠ []) {r a : Nat} (ha : a < 8) (h : trl r es.length es a ≠ 0) : Hang es ∧ od es a ≠ 0 ∧ (∀ x, sur es x = (if a = x then 1 else 0) - if r = x then 1 else 0) ∧ ((a = r ∧ upU (sur es) 8 = 0) ∨ (upU (sur es) 8 = 1 ∧ atU (sur es) 8 = a ∧ endU es = r)) := by
 obtain ⟨h1, h2⟩ := trl_need _ rfl h
 have hsur : ∀ x, sur es x = (if a = x then 1 else 0) - if r = x then 1 else 0 := fun x => by
  have := h1 x
  unfold sur
  split at this <;> split at this <;> omega
 have hod : od es a ≠ 0 := by
  obtain ⟨m, hm⟩ : ∃ m, es.length = m + 1 := ⟨es.length - 1, by have := List.length_pos_iff.2 h0; omega⟩
  rw [hm] at h
  simp only [trl] at h
  obtain ⟨g, k, hp, hg⟩ := sp_some h
  intro ho
  have := od_zero.1 ho g (hp.mem_iff.1 List.mem_cons_self)
  exact hg (if_neg this)
 refine ⟨fun p hp e he f hf => by rw [h2 p hp e he, h2 p hp f hf], hod, hsur, ?_⟩
 by_cases har : a = r
 ·subst har
  refine .inl ⟨rfl, ?_⟩
  have h3 : sur es = fun _ => 0 := funext fun x => by rw [hsur]; omega
  rw [h3]
  rfl
 ·have h3 := upU_le (s := sur es) (a := a) (fun x => by
   rw [hsur]
   by_cases hx : a = x
   ·rw [if_pos hx, if_pos hx.symm]; split <;> omega
   ·rw [if_neg hx, if_neg (show ¬ x = a from fun e => hx e.symm)]; split <;> omega) 8
  rw [if_pos ha] at h3
  have h4 := upU_ge (s := sur es) ha
  rw [hsur a, if_pos rfl, if_neg fun e => har e.symm] at h4
  have h5 : upU (sur es) 8 = 1 := by omega
  obtain ⟨b1, b2, b3, b4⟩ := up_one hn8 h5
  refine .inr ⟨h5, ?_, ?_⟩
  ·have e1 := b4 (atU (sur es) 8)
   rw [if_pos rfl, if_neg fun e => b3 e.symm, hsur] at e1
   apply Classical.byContradiction
   intro hne
   rw [if_neg fun e => hne e.symm] at e1
   split at e1 <;> omega
  ·have e1 := b4 (endU es)
   rw [if_neg b3, if_pos rfl, hsur] at e1
   apply Classical.byContradiction
   intro hne
   have e2 : ¬ r = endU es := fun e => hne e.symm
   rw [if_neg e2] at e1
   split at e1 <;> omega
end Go.Ev.YtjcabpldgdafeaaC
namespace Go.Ev.YtjcabpldgdafeaaC
open Go Go.Ev
theorem sumC_zero {f : Nat → Int} : ∀ {V : List Nat}, (∀ x ∈ V, f x = 0) → sumC V f = 0
 | [], _ => rfl
 | a :: V, h => by
  simp only [sumC]
  rw [h a List.mem_cons_self, sumC_zero fun x hx => h x (List.mem_cons_of_mem _ hx)]; rfl
theorem od_all {es : List Ed} (hn8 : ∀ q ∈ es, q.1 < 8 ∧ q.2 < 8) : sumC (List.range 8) (fun a => (od es a : Int)) = es.length := by
 rw [sumC_nat]
 have h := (od_sum (p := fun x => decide (x < 8)) (List.range 8) List.nodup_range (fun x => by simp) es).1
 rw [← h]
 have : es.countP (fun e => decide (e.1 < 8)) = es.length := by
  rw [List.countP_eq_length]
  intro e he
  simpa using (hn8 e he).1
 rw [this]
end Go.Ev.YtjcabpldgdafeaaC
