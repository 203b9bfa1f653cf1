/- Tunes as lists: which lists are tunes, when there is one; read from the end, and with other numbers of notes. No condition but those that stand in each. -/
import Derived.Test.YtjcabpldgdafeaaEL4Tune
set_option linter.unusedSimpArgs false
set_option linter.unusedVariables false
namespace Go.Ev.YtjcabpldgdafeaaC
open Go Go.Ev
def chE : Nat → List Ed → Prop
 | _, [] => True
 | a, e :: l => e.1 = a ∧ chE e.2 l
def enE : Nat → List Ed → Nat
 | a, [] => a
 | _, e :: l => enE e.2 l
theorem chE_app : ∀ (l k : List Ed) (a : Nat), chE a (l ++ k) ↔ chE a l ∧ chE (enE a l) k
 | [], k, a => by simp [chE, enE]
 | e :: l, k, a => by
  simp only [List.cons_append, chE, enE, chE_app l k e.2]
  exact ⟨fun h => ⟨⟨h.1, h.2.1⟩, h.2.2⟩, fun h => ⟨h.1.1, h.1.2, h.2⟩⟩
theorem enE_app : ∀ (l k : List Ed) (a : Nat), enE a (l ++ k) = enE (enE a l) k
 | [], _, _ => rfl
 | e :: l, k, a => by simp only [List.cons_append, enE, enE_app l k e.2]
theorem trl_ge (r : Nat) {e : Ed} {l R : List Ed} (hp : R.Perm (e :: l)) {n : Nat} (hn : l.length = n) : trl r n l e.2 ≤ trl r (n + 1) R e.1 := by
 have := sp_ge (f := fun g k => if g.1 = e.1 then trl r n k g.2 else 0) hp (fun x l l' h => by
  split
  ·exact trl_perm r n _ h
  ·rfl) (fun y k hk => by
  split
  ·refine trl_nonneg r n _ ?_
   have h1 := hk.length_eq
   have h2 := hp.length_eq
   simp only [List.length_cons] at h1 h2
   omega
  ·exact Int.le_refl _)
 rw [if_pos rfl] at this
 exact this
theorem trl_of (r : Nat) : ∀ (l : List Ed) (a : Nat) {R : List Ed}, chE a l → enE a l = r → R.Perm l → 0 < trl r l.length R a
 | [], a, R, _, h2, _ => by simp only [enE] at h2; simp [trl, h2]
 | e :: l, a, R, h1, h2, hp => by
  obtain ⟨h3, h4⟩ := h1
  have ih := trl_of r l e.2 (R := l) h4 h2 (.refl _)
  have := trl_ge r hp (n := l.length) rfl
  rw [h3] at this
  rw [List.length_cons]; omega
theorem sumC_perm {f : Nat → Int} {l k : List Nat} (h : l.Perm k) : sumC l f = sumC k f := by
 induction h with
 | nil => rfl
 | cons x _ ih => simp only [sumC, ih]
 | swap x y l => simp only [sumC]; omega
 | trans _ _ h1 h2 => rw [h1, h2]
theorem sumC_map (f : Nat → Int) (φ : Nat → Nat) : ∀ l : List Nat, sumC (l.map φ) f = sumC l fun x => f (φ x)
 | [] => rfl
 | a :: l => by simp only [List.map_cons, sumC, sumC_map f φ l]
structure Bij (N : Nat) (φ : Nat → Nat) : Prop where
 lt : ∀ x, x < N → φ x < N
 inj : ∀ x y, x < N → y < N → φ x = φ y → x = y
theorem nodup_mapOn {φ : Nat → Nat} : ∀ {l : List Nat}, l.Nodup → (∀ x ∈ l, ∀ y ∈ l, φ x = φ y → x = y) → (l.map φ).Nodup
 | [], _, _ => List.nodup_nil
 | a :: l, hn, h => by
  rw [List.nodup_cons] at hn
  rw [List.map_cons, List.nodup_cons]
  refine ⟨fun hm => ?_, nodup_mapOn hn.2 fun x hx y hy => h x (List.mem_cons_of_mem _ hx) y (List.mem_cons_of_mem _ hy)⟩
  obtain ⟨y, hy, hye⟩ := List.mem_map.1 hm
  have := h y (List.mem_cons_of_mem _ hy) a List.mem_cons_self hye
  exact hn.1 (this ▸ hy)
theorem Bij.perm {N : Nat} {φ : Nat → Nat} (h : Bij N φ) : ((List.range N).map φ).Perm (List.range N) := by
 have hn : ((List.range N).map φ).Nodup := nodup_mapOn List.nodup_range fun x hx y hy => h.inj x y (List.mem_range.1 hx) (List.mem_range.1 hy)
 have hs : ∀ x ∈ (List.range N).map φ, x ∈ List.range N := fun x hx => by
  obtain ⟨y, hy, rfl⟩ := List.mem_map.1 hx
  exact List.mem_range.2 (h.lt y (List.mem_range.1 hy))
 refine (List.perm_ext_iff_of_nodup hn List.nodup_range).2 fun x => ⟨hs x, fun hx => Classical.byContradiction fun hm => ?_⟩
 have h1 : (x :: (List.range N).map φ).Nodup := List.nodup_cons.2 ⟨hm, hn⟩
 have h2 := List.Nodup.length_le_of_subset h1 (l₂ := List.range N) fun y hy => by
  rcases List.mem_cons.1 hy with rfl | hy
  ·exact hx
  ·exact hs y hy
 simp only [List.length_cons, List.length_map, List.length_range] at h2
 omega
theorem Bij.sum {N : Nat} {φ : Nat → Nat} (h : Bij N φ) (f : Nat → Int) : sumC (List.range N) (fun x => f (φ x)) = sumC (List.range N) f := by
 rw [← sumC_map, sumC_perm h.perm]
end Go.Ev.YtjcabpldgdafeaaC
