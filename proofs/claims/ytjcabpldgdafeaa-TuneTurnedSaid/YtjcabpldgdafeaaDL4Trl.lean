/- Tunes as lists: which lists are tunes, when there is one; read from the end, and with other numbers of notes. No condition but those that stand in each. -/
import Derived.Test.YtjcabpldgdafeaaDL4Tune
set_option linter.unusedSimpArgs false
set_option linter.unusedVariables false
namespace Go.Ev.YtjcabpldgdafeaaC
open Go Go.Ev
def chE : Nat → List Ed → Prop
 | _, [] => True
 | a, e :: l => e.1 = a ∧ chE e.2 l
def enE : Nat → List Ed → Nat
 | a, [] => a
 | _, e :: l => enE e.2 l
theorem chE_app : ∀ (l k : List Ed) (a : Nat), chE a (l ++ k) ↔ chE a l ∧ chE (enE a l) k
 | [], k, a => by simp [chE, enE]
 | e :: l, k, a => by
  simp only [List.cons_append, chE, enE, chE_app l k e.2]
  exact ⟨fun h => ⟨⟨h.1, h.2.1⟩, h.2.2⟩, fun h => ⟨h.1.1, h.1.2, h.2⟩⟩
theorem enE_app : ∀ (l k : List Ed) (a : Nat), enE a (l ++ k) = enE (enE a l) k
 | [], _, _ => rfl
 | e :: l, k, a => by simp only [List.cons_append, enE, enE_app l k e.2]
def rvE (e : Ed) : Ed := (e.2, e.1)
theorem chE_rev : ∀ (l : List Ed) (a : Nat), chE a l → chE (enE a l) (l.reverse.map rvE) ∧ enE (enE a l) (l.reverse.map rvE) = a
 | [], _, _ => ⟨trivial, rfl⟩
 | e :: l, a, h => by
  obtain ⟨h1, h2⟩ := h
  obtain ⟨i1, i2⟩ := chE_rev l e.2 h2
  rw [List.reverse_cons, List.map_append, chE_app, enE_app]
  simp only [enE]
  exact ⟨⟨i1, by rw [i2]; exact ⟨rfl, trivial⟩⟩, by rw [i2]; exact h1⟩
theorem trl_last (r : Nat) : ∀ (n : Nat) {R : List Ed} (a : Nat), R.length = n + 1 → trl r (n + 1) R a = sp (fun f k => if f.2 = r then trl f.1 n k a else 0) R
 | 0, R, a, h => by
  match R, h with
  | [e], _ =>
   simp only [trl, sp, Int.add_zero]
   by_cases h1 : e.1 = a <;> by_cases h2 : e.2 = r
   ·rw [if_pos h1, if_pos h2, if_pos h2, if_pos h1.symm]
   ·rw [if_pos h1, if_neg h2, if_neg h2]
   ·rw [if_neg h1, if_pos h2, if_neg (fun h => h1 h.symm)]
   ·rw [if_neg h1, if_neg h2]
 | n + 1, R, a, h => by
  have h1 : trl r (n + 1 + 1) R a = sp (fun g k => sp (fun f m => if f.2 = r then (if g.1 = a then trl f.1 n m g.2 else 0) else 0) k) R := by
   show sp (fun g k => if g.1 = a then trl r (n + 1) k g.2 else 0) R = _
   refine sp_congr fun g k hk => ?_
   have hkl := hk.length_eq
   simp only [List.length_cons] at hkl
   by_cases hg : g.1 = a
   ·rw [if_pos hg, trl_last r n g.2 (R := k) (by omega)]
    refine sp_congr fun f m _ => ?_
    by_cases hf : f.2 = r
    ·rw [if_pos hf, if_pos hf, if_pos hg]
    ·rw [if_neg hf, if_neg hf]
   ·rw [if_neg hg]
    have : sp (fun f m => if f.2 = r then (if g.1 = a then trl f.1 n m g.2 else 0) else 0) k = sp (fun _ _ => 0) k := sp_congr fun f m _ => by
     rw [if_neg hg]; split <;> rfl
    rw [this, sp_zero]
  have h2 : sp (fun f k => if f.2 = r then trl f.1 (n + 1) k a else 0) R = sp (fun f k => sp (fun g m => if f.2 = r then (if g.1 = a then trl f.1 n m g.2 else 0) else 0) k) R := by
   refine sp_congr fun f k _ => ?_
   by_cases hf : f.2 = r
   ·rw [if_pos hf]
    show sp (fun g m => if g.1 = a then trl f.1 n m g.2 else 0) k = _
    exact sp_congr fun g m _ => by rw [if_pos hf]
   ·rw [if_neg hf]
    have : sp (fun g m => if f.2 = r then (if g.1 = a then trl f.1 n m g.2 else 0) else 0) k = sp (fun _ _ => 0) k := sp_congr fun g m _ => if_neg hf
    rw [this, sp_zero]
  rw [h1, h2, sp_swap]
theorem sp_mapE (g : Ed → Ed) : ∀ (R : List Ed) (f : Ed → List Ed → Int), sp f (R.map g) = sp (fun x k => f (g x) (k.map g)) R
 | [], _ => rfl
 | x :: R, f => by
  simp only [List.map_cons, sp]
  rw [sp_mapE g R fun y k => f y (g x :: k)]
theorem trl_rev : ∀ (n : Nat) (R : List Ed) (a r : Nat), R.length = n → trl a n (R.map rvE) r = trl r n R a
 | 0, R, a, r, _ => by
  simp only [trl]
  by_cases h : a = r
  ·rw [if_pos h, if_pos h.symm]
  ·rw [if_neg h, if_neg fun e => h e.symm]
 | n + 1, R, a, r, h => by
  rw [trl_last r n a h]
  show sp (fun g k => if g.1 = r then trl a n k g.2 else 0) (R.map rvE) = _
  rw [sp_mapE]
  refine sp_congr fun f k hk => ?_
  have hkl := hk.length_eq
  simp only [List.length_cons] at hkl
  show (if (rvE f).1 = r then trl a n (k.map rvE) (rvE f).2 else 0) = if f.2 = r then trl f.1 n k a else 0
  by_cases hf : f.2 = r
  ·rw [if_pos (show (rvE f).1 = r from hf), if_pos hf]
   exact trl_rev n k a f.1 (by omega)
  ·rw [if_neg (show ¬ (rvE f).1 = r from hf), if_neg hf]
theorem sumC_comm (F : Nat → Nat → Int) (A : List Nat) : ∀ B : List Nat, sumC A (fun a => sumC B (F a)) = sumC B fun b => sumC A fun a => F a b
 | [] => by
  have : sumC A (fun a => sumC [] (F a)) = 0 := sumC_zero fun _ _ => rfl
  rw [this]; rfl
 | b :: B => by
  simp only [sumC]
  rw [sumC_add, sumC_comm F A B]
theorem sur_rev (es : List Ed) (x : Nat) : sur (es.map rvE) x = - sur es x := by
 have h1 : od (es.map rvE) x = idg es x := by unfold od idg; rw [List.countP_map]; rfl
 have h2 : idg (es.map rvE) x = od es x := by unfold od idg; rw [List.countP_map]; rfl
 rw [sur_def, sur_def, h1, h2]; omega
theorem ok_rev {N : Nat} {es : List Ed} (hk : OkB N es) : OkB N (es.map rvE) where
 n1 := hk.n1
 n8 := hk.n8
 ne := fun h => hk.ne (List.map_eq_nil_iff.1 h)
 le := by rw [List.length_map]; exact hk.le
 lt := fun q hq => by
  obtain ⟨e, he, rfl⟩ := List.mem_map.1 hq
  exact ⟨(hk.lt e he).2, (hk.lt e he).1⟩
theorem cnt_sum {N : Nat} {es : List Ed} (hk : OkB N es) : cntT es = sumC (List.range 8) fun a => sumC (List.range 8) fun r => trl r es.length es a :=
 sumC_congr fun a ha => tw_sum hk.lt8 (List.mem_range.1 ha)
theorem cnt_rev {N : Nat} {es : List Ed} (hk : OkB N es) : cntT (es.map rvE) = cntT es := by
 rw [cnt_sum hk, cnt_sum (ok_rev hk), sumC_comm]
 refine sumC_congr fun r _ => sumC_congr fun a _ => ?_
 rw [List.length_map, trl_rev _ _ _ _ rfl]
def mpE (φ : Nat → Nat) (e : Ed) : Ed := (φ e.1, φ e.2)
theorem tw_map {φ : Nat → Nat} {N : Nat} (hφ : ∀ x y, x < N → y < N → φ x = φ y → x = y) : ∀ (n : Nat) (R : List Ed) (a : Nat), a < N → (∀ e ∈ R, e.1 < N ∧ e.2 < N) → tw n (R.map (mpE φ)) (φ a) = tw n R a
 | 0, _, _, _, _ => rfl
 | n + 1, R, a, ha, hR => by
  show sp (fun g k => if g.1 = φ a then tw n k g.2 else 0) (R.map (mpE φ)) = sp (fun g k => if g.1 = a then tw n k g.2 else 0) R
  rw [sp_mapE]
  refine sp_congr fun f k hk => ?_
  have hf := hR f (hk.mem_iff.1 List.mem_cons_self)
  show (if (mpE φ f).1 = φ a then tw n (k.map (mpE φ)) (mpE φ f).2 else 0) = if f.1 = a then tw n k f.2 else 0
  by_cases h : f.1 = a
  ·rw [if_pos h, if_pos (show (mpE φ f).1 = φ a from by rw [← h]; rfl)]
   exact tw_map hφ n k f.2 hf.2 fun e he => hR e (hk.mem_iff.1 (List.mem_cons_of_mem _ he))
  ·rw [if_neg h, if_neg (show ¬ (mpE φ f).1 = φ a from fun e => h (hφ _ _ hf.1 ha e))]
theorem sumC_perm {f : Nat → Int} {l k : List Nat} (h : l.Perm k) : sumC l f = sumC k f := by
 induction h with
 | nil => rfl
 | cons x _ ih => simp only [sumC, ih]
 | swap x y l => simp only [sumC]; omega
 | trans _ _ h1 h2 => rw [h1, h2]
theorem sumC_map (f : Nat → Int) (φ : Nat → Nat) : ∀ l : List Nat, sumC (l.map φ) f = sumC l fun x => f (φ x)
 | [] => rfl
 | a :: l => by simp only [List.map_cons, sumC, sumC_map f φ l]
structure Bij (N : Nat) (φ : Nat → Nat) : Prop where
 lt : ∀ x, x < N → φ x < N
 inj : ∀ x y, x < N → y < N → φ x = φ y → x = y
theorem nodup_mapOn {φ : Nat → Nat} : ∀ {l : List Nat}, l.Nodup → (∀ x ∈ l, ∀ y ∈ l, φ x = φ y → x = y) → (l.map φ).Nodup
 | [], _, _ => List.nodup_nil
 | a :: l, hn, h => by
  rw [List.nodup_cons] at hn
  rw [List.map_cons, List.nodup_cons]
  refine ⟨fun hm => ?_, nodup_mapOn hn.2 fun x hx y hy => h x (List.mem_cons_of_mem _ hx) y (List.mem_cons_of_mem _ hy)⟩
  obtain ⟨y, hy, hye⟩ := List.mem_map.1 hm
  have := h y (List.mem_cons_of_mem _ hy) a List.mem_cons_self hye
  exact hn.1 (this ▸ hy)
theorem Bij.perm {N : Nat} {φ : Nat → Nat} (h : Bij N φ) : ((List.range N).map φ).Perm (List.range N) := by
 have hn : ((List.range N).map φ).Nodup := nodup_mapOn List.nodup_range fun x hx y hy => h.inj x y (List.mem_range.1 hx) (List.mem_range.1 hy)
 have hs : ∀ x ∈ (List.range N).map φ, x ∈ List.range N := fun x hx => by
  obtain ⟨y, hy, rfl⟩ := List.mem_map.1 hx
  exact List.mem_range.2 (h.lt y (List.mem_range.1 hy))
 refine (List.perm_ext_iff_of_nodup hn List.nodup_range).2 fun x => ⟨hs x, fun hx => Classical.byContradiction fun hm => ?_⟩
 have h1 : (x :: (List.range N).map φ).Nodup := List.nodup_cons.2 ⟨hm, hn⟩
 have h2 := List.Nodup.length_le_of_subset h1 (l₂ := List.range N) fun y hy => by
  rcases List.mem_cons.1 hy with rfl | hy
  ·exact hx
  ·exact hs y hy
 simp only [List.length_cons, List.length_map, List.length_range] at h2
 omega
theorem Bij.sum {N : Nat} {φ : Nat → Nat} (h : Bij N φ) (f : Nat → Int) : sumC (List.range N) (fun x => f (φ x)) = sumC (List.range N) f := by
 rw [← sumC_map, sumC_perm h.perm]
theorem ok_map {N : Nat} {es es' : List Ed} (hk : OkB N es) {φ : Nat → Nat} (hφ : Bij N φ) (hp : es'.Perm (es.map (mpE φ))) : OkB N es' where
 n1 := hk.n1
 n8 := hk.n8
 ne := fun h => hk.ne (by rw [h] at hp; exact List.map_eq_nil_iff.1 (List.nil_perm.1 hp))
 le := by rw [hp.length_eq, List.length_map]; exact hk.le
 lt := fun q hq => by
  obtain ⟨e, he, rfl⟩ := List.mem_map.1 (hp.mem_iff.1 hq)
  exact ⟨hφ.lt _ (hk.lt e he).1, hφ.lt _ (hk.lt e he).2⟩
theorem cnt_map {N : Nat} {es es' : List Ed} (hk : OkB N es) {φ : Nat → Nat} (hφ : Bij N φ) (hp : es'.Perm (es.map (mpE φ))) : cntT es' = cntT es := by
 rw [cnt_N (ok_map hk hφ hp), cnt_N hk, ← hφ.sum]
 refine sumC_congr fun a ha => ?_
 have hl : es'.length = es.length := by rw [hp.length_eq, List.length_map]
 rw [hl, tw_perm _ _ hp, tw_map hφ.inj _ _ _ (List.mem_range.1 ha) hk.lt]
theorem od_mapE {N : Nat} {φ : Nat → Nat} (hφ : Bij N φ) {x : Nat} (hx : x < N) : ∀ {R : List Ed}, (∀ e ∈ R, e.1 < N ∧ e.2 < N) → od (R.map (mpE φ)) (φ x) = od R x ∧ idg (R.map (mpE φ)) (φ x) = idg R x
 | [], _ => ⟨rfl, rfl⟩
 | e :: R, h => by
  obtain ⟨i1, i2⟩ := od_mapE hφ hx (R := R) fun f hf => h f (List.mem_cons_of_mem _ hf)
  have he := h e List.mem_cons_self
  rw [List.map_cons, od_cons, od_cons, idg_cons, idg_cons, i1, i2]
  have a1 : ((mpE φ e).1 = φ x) ↔ e.1 = x := ⟨fun q => hφ.inj _ _ he.1 hx q, fun q => by rw [← q]; rfl⟩
  have a2 : ((mpE φ e).2 = φ x) ↔ e.2 = x := ⟨fun q => hφ.inj _ _ he.2 hx q, fun q => by rw [← q]; rfl⟩
  simp only [a1, a2]
  exact ⟨trivial, trivial⟩
theorem sur_map {N : Nat} {es es' : List Ed} (hk : OkB N es) {φ : Nat → Nat} (hφ : Bij N φ) (hp : es'.Perm (es.map (mpE φ))) {x : Nat} (hx : x < N) : sur es' (φ x) = sur es x := by
 obtain ⟨h1, h2⟩ := od_mapE hφ hx hk.lt
 rw [sur_def, sur_def, od_perm hp, idg_perm hp, h1, h2]
end Go.Ev.YtjcabpldgdafeaaC
