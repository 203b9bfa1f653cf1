/- Nearest ways by rounds: the rounds come to an end, and what they leave leads back. Slurs that are played again, as few as can be: always by the nearest way; heights prove that it is the fewest. No condition but those that stand in each. -/
import Derived.Test.YtjcabpldgdafeaaEL4Mth
import Derived.Test.YtjcabpldgdafeaaEL4Eul
set_option linter.unusedSimpArgs false
set_option linter.unusedVariables false
namespace Go.Ev
structure Arc where
 u : Nat
 v : Nat
 c : Int
 id : Int
def sumF (f : Nat → Int) : Nat → Int
 | 0 => 0
 | n + 1 => sumF f n + f n
end Go.Ev
set_option linter.unusedSimpArgs false
set_option linter.unusedVariables false
namespace Go.Ev.YtjcabpldgdafeaaC
open Go Go.Ev
theorem gE_mem {es : List Ed} {i : Nat} (h : i < es.length) : gE es i ∈ es := by rw [gE_get h]; exact List.getElem_mem h
def sP (es : List Ed) (P : Nat → Int) (x : Nat) : Nat → Int
 | 0 => 0
 | k + 1 => sP es P x k + P k * (dl (gE es k).1 x - dl (gE es k).2 x)
def sF (es : List Ed) (P : Nat → Int) (x : Nat) : Int := sur es x + sP es P x es.length
def apA (a : Arc) (P : Nat → Int) : Nat → Int := fun j => P j + (if a.id = (j : Int) + 1 then 1 else 0) - (if a.id = -(j : Int) - 1 then 1 else 0)
def run : List Arc → (Nat → Int) → Nat → Int
 | [], P => P
 | a :: l, P => run l (apA a P)
def cnt (c : Int) (l : List Arc) : Int := (l.countP fun a => a.id == c : Nat)
def Rch (es : List Ed) (a b : Nat) : Prop := ∀ p : Nat → Bool, (∀ e ∈ es, p e.1 = true → p e.2 = true) → p a = true → p b = true
def Tch (es : List Ed) (x : Nat) : Prop := ∃ e ∈ es, e.1 = x ∨ e.2 = x
theorem sP_off {es : List Ed} (P : Nat → Int) {x : Nat} (h : ∀ e ∈ es, e.1 ≠ x ∧ e.2 ≠ x) : ∀ k, k ≤ es.length → sP es P x k = 0
 | 0, _ => rfl
 | k + 1, hk => by
  have := h _ (gE_mem (show k < es.length by omega))
  rw [sP, sP_off P h k (by omega), dl_ne this.1, dl_ne this.2]; simp
theorem sF_off {es : List Ed} (P : Nat → Int) {x : Nat} (h : ¬ Tch es x) : sF es P x = 0 := by
 have h' : ∀ e ∈ es, e.1 ≠ x ∧ e.2 ≠ x := fun e he => ⟨fun h1 => h ⟨e, he, .inl h1⟩, fun h1 => h ⟨e, he, .inr h1⟩⟩
 rw [sF, sP_off P h' _ (Nat.le_refl _), sur_def, od_zero.2 fun e he => (h' e he).1, idg_zero.2 fun e he => (h' e he).2]; rfl
theorem sF_tch {es : List Ed} {P : Nat → Int} {x : Nat} (h : sF es P x ≠ 0) : Tch es x := Classical.byContradiction fun hn => h (sF_off P hn)
theorem tch_lt {N : Nat} {es : List Ed} (hn : ∀ q ∈ es, q.1 < N ∧ q.2 < N) {x : Nat} (h : Tch es x) : x < N := by
 obtain ⟨e, he, rfl | rfl⟩ := h
 ·exact (hn e he).1
 ·exact (hn e he).2
theorem sumC_addf (f g : Nat → Int) : ∀ l : List Nat, sumC l (fun x => f x + g x) = sumC l f + sumC l g
 | [] => rfl
 | a :: l => by simp only [sumC, sumC_addf f g l]; omega
theorem sumC_scale (c : Int) (f : Nat → Int) : ∀ l : List Nat, sumC l (fun x => c * f x) = c * sumC l f
 | [] => by simp [sumC]
 | a :: l => by simp only [sumC, sumC_scale c f l, Int.mul_add]
theorem sumC_hdl (h : Nat → Int) {a N : Nat} (ha : a < N) : sumC (List.range N) (fun x => h x * dl a x) = h a := by
 rw [sumC_one List.nodup_range (List.mem_range.2 ha) fun x _ hx => by rw [dl_ne (Ne.symm hx), Int.mul_zero], dl_self, Int.mul_one]
def hP (es : List Ed) (P h : Nat → Int) : Nat → Int
 | 0 => 0
 | k + 1 => hP es P h k + P k * (h (gE es k).1 - h (gE es k).2)
theorem sum_hP {N : Nat} {es : List Ed} (hn : ∀ q ∈ es, q.1 < N ∧ q.2 < N) (P h : Nat → Int) : ∀ k, k ≤ es.length → sumC (List.range N) (fun x => h x * sP es P x k) = hP es P h k
 | 0, _ => by
  refine sumC_zero fun x _ => ?_
  rw [sP, Int.mul_zero]
 | k + 1, hk => by
  have hq := hn _ (gE_mem (show k < es.length by omega))
  rw [hP, ← sum_hP hn P h k (by omega)]
  have : (fun x => h x * sP es P x (k + 1)) = fun x => h x * sP es P x k + (P k * (h x * dl (gE es k).1 x) + (-P k) * (h x * dl (gE es k).2 x)) := funext fun x => by
   rw [sP, Int.mul_add]
   congr 1
   rw [Int.mul_sub, Int.mul_sub, ← Int.mul_assoc, ← Int.mul_assoc, Int.mul_comm (h x) (P k), Int.mul_assoc, Int.mul_assoc, Int.neg_mul]; omega
  rw [this, sumC_addf, sumC_addf, sumC_scale, sumC_scale, sumC_hdl h hq.1, sumC_hdl h hq.2, Int.mul_sub, Int.neg_mul]; omega
def hS (N : Nat) (es : List Ed) (h : Nat → Int) : Int := sumC (List.range N) fun x => h x * sur es x
def sumP (P : Nat → Int) : Nat → Int
 | 0 => 0
 | k + 1 => sumP P k + P k
theorem sF_sum {N : Nat} {es : List Ed} (hn8 : N ≤ 8) (hn : ∀ q ∈ es, q.1 < N ∧ q.2 < N) (P : Nat → Int) : sumC (List.range 8) (sF es P) = 0 := by
 have hn' : ∀ q ∈ es, q.1 < 8 ∧ q.2 < 8 := fun q hq => by have := hn q hq; omega
 have h1 := sur_sum hn'
 have h2 := sum_hP hn' P (fun _ => 1) es.length (Nat.le_refl _)
 have h3 : ∀ k, hP es P (fun _ => 1) k = 0 := fun k => by
  induction k with
  | zero => rfl
  | succ k ih => rw [hP, ih]; simp
 rw [h3] at h2
 have h4 : sF es P = fun x => sur es x + 1 * sP es P x es.length := funext fun x => by rw [sF, Int.one_mul]
 rw [h4, sumC_addf, h1, h2]; rfl
theorem both {N : Nat} {es : List Ed} (hn8 : N ≤ 8) (hn : ∀ q ∈ es, q.1 < N ∧ q.2 < N) {P : Nat → Int} {x : Nat} (hx : sF es P x ≠ 0) : (∃ t, t < N ∧ 0 < sF es P t) ∧ ∃ r, r < N ∧ sF es P r < 0 := by
 have hs := sF_sum hn8 hn P
 have hxN := tch_lt hn (sF_tch hx)
 have hu := upU_sum (sF es P) 8
 rw [hs] at hu
 have n1 := upU_nonneg (sF es P) 8
 have key : ∀ (s : Nat → Int) (v : Nat), 0 < upU s v → ∃ t, t < v ∧ 0 < s t := fun s v => by
  induction v with
  | zero => intro h; simp [upU] at h
  | succ v ih =>
   intro h
   simp only [upU] at h
   by_cases hv : 0 < s v
   ·exact ⟨v, by omega, hv⟩
   ·rw [if_neg hv, Int.add_zero] at h
    obtain ⟨t, h1, h2⟩ := ih h
    exact ⟨t, by omega, h2⟩
 have hpos : 0 < upU (sF es P) 8 := by
  have g1 := upU_ge (s := sF es P) (show x < 8 by omega)
  have g2 : - sF es P x ≤ upU (fun y => - sF es P y) 8 := upU_ge (s := fun y => - sF es P y) (show x < 8 by omega)
  omega
 obtain ⟨t, t1, t2⟩ := key _ _ hpos
 obtain ⟨r, r1, r2⟩ := key (fun y => - sF es P y) 8 (by omega)
 have r2 : 0 < - sF es P r := r2
 exact ⟨⟨t, tch_lt hn (sF_tch (show sF es P t ≠ 0 by omega)), t2⟩, r, tch_lt hn (sF_tch (show sF es P r ≠ 0 by omega)), by omega⟩
end Go.Ev.YtjcabpldgdafeaaC
