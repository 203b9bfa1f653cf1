/- Whether slurs lead from a note to another one, and from each to each: the program's. No condition but those that stand in each. -/
import Derived.Test.YtjcabpldgdafeaaEL4Flw
import Derived.Test.YtjcabpldgdafeaaEL4Tune
set_option linter.unusedSimpArgs false
set_option linter.unusedVariables false
namespace Go.Ev.YtjcabpldgdafeaaC
open Go Go.Proofs Go.Ev
attribute [local irreducible] Res.all evC evLoop evOps evOper evOp evFn evCall freeze G GO GV GP GC R
set_option maxRecDepth 100000
def mkF (σ : Nat → Int) (e : Ed) : Nat → Int := fun y => if y = e.2 then (if σ e.1 > σ e.2 then σ e.1 else σ e.2) else σ y
def mkL (σ : Nat → Int) (l : List Ed) : Nat → Int := l.foldl mkF σ
theorem mkF_ge (σ : Nat → Int) (e : Ed) (y : Nat) : σ y ≤ mkF σ e y := by
 unfold mkF
 split
 ·next h => subst h; split <;> omega
 ·exact Int.le_refl _
structure Mks (es : List Ed) (a : Nat) (σ : Nat → Int) : Prop where
 b : ∀ y, σ y = 0 ∨ σ y = 1
 s : ∀ y, σ y = 1 → Rch es a y
 o : σ a = 1
theorem Mks.push {es : List Ed} {a : Nat} {σ : Nat → Int} (h : Mks es a σ) {e : Ed} (he : e ∈ es) : Mks es a (mkF σ e) where
 b := fun y => by
  have h1 := h.b e.1; have h2 := h.b e.2; have h3 := h.b y
  unfold mkF
  split
  ·split <;> omega
  ·exact h3
 s := fun y hy => by
  unfold mkF at hy
  split at hy
  ·next hye =>
   subst hye
   split at hy
   ·exact fun p hp ha => hp e he (h.s e.1 hy p hp ha)
   ·exact h.s _ hy
  ·exact h.s y hy
 o := by
  have h1 := mkF_ge σ e a
  have h2 := h.o
  have h3 := h.b e.1; have h4 := h.b e.2; have h5 := h.b a
  unfold mkF at h1 ⊢
  split
  ·next hh => rw [if_pos hh] at h1; split <;> split at h1 <;> omega
  ·exact h2
theorem Mks.all {es : List Ed} {a : Nat} : ∀ {l : List Ed} {σ : Nat → Int}, Mks es a σ → (∀ e ∈ l, e ∈ es) → Mks es a (mkL σ l)
 | [], _, h, _ => h
 | e :: l, σ, h, hl => Mks.all (l := l) (h.push (hl e List.mem_cons_self)) fun f hf => hl f (List.mem_cons_of_mem _ hf)
open Classical in
noncomputable def rchB (es : List Ed) (a b : Nat) : Bool := decide (Rch es a b)
theorem rchB_iff {es : List Ed} {a b : Nat} : rchB es a b = true ↔ Rch es a b := by simp [rchB]
theorem Mks.done {es : List Ed} {a : Nat} {σ : Nat → Int} (h : Mks es a σ) (hc : ∀ e ∈ es, σ e.1 ≤ σ e.2) (b : Nat) : decide (σ b > 0) = rchB es a b := by
 rw [Bool.eq_iff_iff, rchB_iff, decide_eq_true_eq]
 constructor
 ·intro hb
  exact h.s b (by have := h.b b; omega)
 ·intro hr
  have := hr (fun x => decide (0 < σ x)) (fun e he hx => by
   simp only [decide_eq_true_eq] at hx ⊢
   have := hc e he; omega) (by have := h.o; simp [this])
  simpa using this
end Go.Ev.YtjcabpldgdafeaaC
