/- Determinants of tables of whole numbers, by the first column: sums, exchanges, equal rows and columns, rows that stand alone. No condition but those that stand in each. -/
set_option linter.unusedSimpArgs false
set_option linter.unusedVariables false
namespace Go.Ev
abbrev Rw := Nat → Int
end Go.Ev
namespace Go.Ev
abbrev Ed := Nat × Nat
def sp (f : Ed → List Ed → Int) : List Ed → Int
 | [] => 0
 | x :: l => f x l + sp (fun y k => f y (x :: k)) l
def trl (r : Nat) : Nat → List Ed → Nat → Int
 | 0, _, a => if a = r then 1 else 0
 | n + 1, R, a => sp (fun g k => if g.1 = a then trl r n k g.2 else 0) R
def od (R : List Ed) (v : Nat) : Nat := R.countP fun e => e.1 == v
def idg (R : List Ed) (v : Nat) : Nat := R.countP fun e => e.2 == v
def dl (a c : Nat) : Int := if a = c then 1 else 0
theorem od_perm {R R' : List Ed} (h : R.Perm R') (v : Nat) : od R v = od R' v := h.countP_eq _
theorem idg_perm {R R' : List Ed} (h : R.Perm R') (v : Nat) : idg R v = idg R' v := h.countP_eq _
theorem od_cons (e : Ed) (R : List Ed) (v : Nat) : od (e :: R) v = od R v + if e.1 = v then 1 else 0 := by
 simp only [od, List.countP_cons, beq_iff_eq]
theorem idg_cons (e : Ed) (R : List Ed) (v : Nat) : idg (e :: R) v = idg R v + if e.2 = v then 1 else 0 := by
 simp only [idg, List.countP_cons, beq_iff_eq]
def upd (A : Nat → Rw) (v : Nat) (x : Rw) : Nat → Rw := fun y => if y = v then x else A y
end Go.Ev
namespace Go.Ev
theorem dl_self (a : Nat) : dl a a = 1 := if_pos rfl
theorem dl_ne {a b : Nat} (h : a ≠ b) : dl a b = 0 := if_neg h
end Go.Ev
namespace Go.Ev
theorem od_zero {R : List Ed} {v : Nat} : od R v = 0 ↔ ∀ e ∈ R, e.1 ≠ v := by
 unfold od
 rw [List.countP_eq_zero]
 simp
theorem idg_zero {R : List Ed} {v : Nat} : idg R v = 0 ↔ ∀ e ∈ R, e.2 ≠ v := by
 unfold idg
 rw [List.countP_eq_zero]
 simp
end Go.Ev
namespace Go.Ev
def sumC : List Nat → (Nat → Int) → Int
 | [], _ => 0
 | c :: cs, f => f c + sumC cs f
theorem sumC_congr {f g : Nat → Int} : ∀ {cs : List Nat}, (∀ c ∈ cs, f c = g c) → sumC cs f = sumC cs g
 | [], _ => rfl
 | c :: cs, h => by simp only [sumC, h c List.mem_cons_self, sumC_congr fun d hd => h d (List.mem_cons_of_mem _ hd)]
theorem sumC_add (f g : Nat → Int) : ∀ cs, sumC cs (fun c => f c + g c) = sumC cs f + sumC cs g
 | [] => rfl
 | c :: cs => by simp only [sumC]; rw [sumC_add f g cs]; omega
theorem sumC_zero : ∀ cs : List Nat, sumC cs (fun _ => 0) = 0
 | [] => rfl
 | c :: cs => by simp only [sumC]; rw [sumC_zero cs]; rfl
theorem sumC_dl {a : Nat} : ∀ {cs : List Nat}, cs.Nodup → a ∈ cs → sumC cs (dl a) = 1
 | c :: cs, hn, h => by
  rw [List.nodup_cons] at hn
  simp only [sumC]
  by_cases hc : a = c
  ·subst hc
   have : sumC cs (dl a) = sumC cs fun _ => 0 := sumC_congr fun d hd => dl_ne fun e => hn.1 (e ▸ hd)
   rw [this, sumC_zero, dl_self]; rfl
  ·rw [dl_ne hc, sumC_dl hn.2 ((List.mem_cons.1 h).resolve_left hc)]; rfl
end Go.Ev
namespace Go.Ev
structure Zm (l : List Nat) (M : Nat → Rw) : Prop where
 off : ∀ x ∈ l, ∀ y ∈ l, x ≠ y → M x y ≤ 0
 row : ∀ x ∈ l, 0 ≤ sumC l (M x)
 leak : ∀ S : List Nat, S.Sublist l → S ≠ [] → ∃ x ∈ S, 0 < sumC S (M x)
theorem sumC_sub {x : Nat} {f : Nat → Int} {S l : List Nat} (hs : S.Sublist l) (hx : x ∈ S) (hn : l.Nodup) (h : ∀ y ∈ l, y ≠ x → f y ≤ 0) : sumC l f ≤ sumC S f := by
 induction hs with
 | slnil => exact Int.le_refl _
 | @cons S l a hs ih =>
  rw [List.nodup_cons] at hn
  have h1 := ih hx hn.2 fun y hy => h y (List.mem_cons_of_mem _ hy)
  have h2 := h a List.mem_cons_self fun e => hn.1 (e ▸ hs.subset hx)
  simp only [sumC]; omega
 | @cons_cons S l a hs ih =>
  rw [List.nodup_cons] at hn
  simp only [sumC]
  by_cases hxS : x ∈ S
  ·have h1 := ih hxS hn.2 fun y hy => h y (List.mem_cons_of_mem _ hy)
   omega
  ·have hxa : x = a := (List.mem_cons.1 hx).resolve_right hxS
   have hle : sumC l f ≤ sumC S f := by
    clear ih
    have hneg : ∀ y ∈ l, f y ≤ 0 := fun y hy => h y (List.mem_cons_of_mem _ hy) fun e => hn.1 (by rw [← hxa, ← e]; exact hy)
    clear h hx hxS hn
    induction hs with
    | slnil => exact Int.le_refl _
    | cons b _ ih => have := hneg b List.mem_cons_self; have := ih fun y hy => hneg y (List.mem_cons_of_mem _ hy); simp only [sumC]; omega
    | cons_cons b _ ih => have := ih fun y hy => hneg y (List.mem_cons_of_mem _ hy); simp only [sumC]; omega
   omega
theorem Zm.sub {l : List Nat} {M : Nat → Rw} (hz : Zm l M) (hn : l.Nodup) {S : List Nat} (hs : S.Sublist l) : Zm S M where
 off := fun x hx y hy h => hz.off x (hs.subset hx) y (hs.subset hy) h
 row := fun x hx => Int.le_trans (hz.row x (hs.subset hx)) (sumC_sub hs hx hn fun y hy h => hz.off x (hs.subset hx) y hy fun e => h e.symm)
 leak := fun S' hs' hne => hz.leak S' (hs'.trans hs) hne
theorem sumC_smul (a : Int) (f : Nat → Int) : ∀ cs, sumC cs (fun c => a * f c) = a * sumC cs f
 | [] => by simp [sumC]
 | c :: cs => by simp only [sumC]; rw [sumC_smul a f cs, Int.mul_add]
def outR (M : Nat → Rw) (v : Nat) : Nat → Rw := fun x c => M v v * M x c - M x v * M v c
theorem sum_out (M : Nat → Rw) (v x : Nat) (S : List Nat) : sumC S (outR M v x) = M v v * sumC (v :: S) (M x) - M x v * sumC (v :: S) (M v) := by
 have h1 : sumC S (outR M v x) = sumC S (fun c => M v v * M x c) + sumC S (fun c => (- M x v) * M v c) := by
  rw [← sumC_add]
  exact sumC_congr fun c _ => by
   simp only [outR]
   rw [Int.neg_mul]; omega
 rw [h1, sumC_smul, sumC_smul]
 simp only [sumC]
 rw [Int.mul_add, Int.mul_add, Int.neg_mul, Int.mul_comm (M x v) (M v v)]
 omega
theorem Zm.out {v : Nat} {l : List Nat} {M : Nat → Rw} (hz : Zm (v :: l) M) (hn : (v :: l).Nodup) (hv : 0 < M v v) : Zm l (outR M v) := by
 have hne : ∀ x ∈ l, x ≠ v := fun x hx e => (List.nodup_cons.1 hn).1 (e ▸ hx)
 have hxv : ∀ x ∈ l, 0 ≤ - M x v := fun x hx => by have := hz.off x (List.mem_cons_of_mem _ hx) v List.mem_cons_self (hne x hx); omega
 have hs : ∀ S : List Nat, S.Sublist l → ∀ y ∈ v :: S, 0 ≤ sumC (v :: S) (M y) := fun S hS y hy => (hz.sub hn (hS.cons_cons v)).row y hy
 refine ⟨fun x hx y hy hxy => ?_, fun x hx => ?_, fun S hS hne' => ?_⟩
 ·simp only [outR]
  have h1 := hz.off x (List.mem_cons_of_mem _ hx) y (List.mem_cons_of_mem _ hy) hxy
  have h2 := hz.off v List.mem_cons_self y (List.mem_cons_of_mem _ hy) fun e => hne y hy e.symm
  have h3 := Int.mul_nonneg (Int.le_of_lt hv) (show 0 ≤ - M x y by omega)
  have h4 := Int.mul_nonneg (hxv x hx) (show 0 ≤ - M v y by omega)
  rw [Int.mul_neg] at h3
  rw [Int.neg_mul_neg] at h4
  omega
 ·rw [sum_out]
  have h1 := Int.mul_nonneg (Int.le_of_lt hv) (hs l (.refl _) x (List.mem_cons_of_mem _ hx))
  have h2 := Int.mul_nonneg (hxv x hx) (hs l (.refl _) v List.mem_cons_self)
  rw [Int.neg_mul] at h2
  omega
 ·have part : ∀ x ∈ S, 0 ≤ M v v * sumC (v :: S) (M x) ∧ 0 ≤ (- M x v) * sumC (v :: S) (M v) := fun x hx =>
   ⟨Int.mul_nonneg (Int.le_of_lt hv) (hs S hS x (List.mem_cons_of_mem _ hx)), Int.mul_nonneg (hxv x (hS.subset hx)) (hs S hS v List.mem_cons_self)⟩
  obtain ⟨y, hy, hy0⟩ := hz.leak (v :: S) (hS.cons_cons v) (by simp)
  rcases List.mem_cons.1 hy with rfl | hyS
  ·obtain ⟨x, hx, hx0⟩ := hz.leak S (hS.cons y) hne'
   by_cases hx1 : 0 < sumC (y :: S) (M x)
   ·refine ⟨x, hx, ?_⟩
    rw [sum_out]
    have h1 := Int.mul_pos hv hx1
    have h2 := (part x hx).2
    rw [Int.neg_mul] at h2
    omega
   ·refine ⟨x, hx, ?_⟩
    rw [sum_out]
    have h3 : 0 < - M x y := by simp only [sumC] at hx1; omega
    have h4 := Int.mul_pos h3 hy0
    have h1 := (part x hx).1
    rw [Int.neg_mul] at h4
    omega
  ·refine ⟨y, hyS, ?_⟩
   rw [sum_out]
   have h1 := Int.mul_pos hv hy0
   have h2 := (part y hyS).2
   rw [Int.neg_mul] at h2
   omega
end Go.Ev
namespace Go.Ev
end Go.Ev
namespace Go.Ev
def Hang (R : List Ed) : Prop := ∀ p : Nat → Bool, (∀ e ∈ R, p e.1 = p e.2) → ∀ e ∈ R, ∀ f ∈ R, p e.1 = p f.1
theorem od_sum {p : Nat → Bool} : ∀ (S : List Nat), S.Nodup → (∀ x, p x = true ↔ x ∈ S) → ∀ R : List Ed, R.countP (fun e => p e.1) = (S.map fun x => od R x).sum ∧ R.countP (fun e => p e.2) = (S.map fun x => idg R x).sum
 | S, hn, hp, [] => by
  have h1 : ∀ l : List Nat, (l.map fun x => od [] x).sum = 0 := fun l => by
   induction l with
   | nil => rfl
   | cons a r ih => simp only [List.map_cons, List.sum_cons, ih]; rfl
  have h2 : ∀ l : List Nat, (l.map fun x => idg [] x).sum = 0 := fun l => by
   induction l with
   | nil => rfl
   | cons a r ih => simp only [List.map_cons, List.sum_cons, ih]; rfl
  exact ⟨(h1 S).symm, (h2 S).symm⟩
 | S, hn, hp, e :: R => by
  obtain ⟨i1, i2⟩ := od_sum S hn hp R
  have one : ∀ (a : Nat) (l : List Nat), l.Nodup → (l.map fun x => if a = x then 1 else 0).sum = if a ∈ l then 1 else 0 := fun a l => by
   induction l with
   | nil => intro _; rfl
   | cons b r ih =>
    intro hnd
    rw [List.nodup_cons] at hnd
    simp only [List.map_cons, List.sum_cons, ih hnd.2]
    by_cases hab : a = b
    ·subst hab; simp [hnd.1]
    ·simp [hab]
  have add : ∀ (f g : Nat → Nat) (l : List Nat), (l.map fun x => f x + g x).sum = (l.map f).sum + (l.map g).sum := fun f g l => by
   induction l with
   | nil => rfl
   | cons b r ih => simp only [List.map_cons, List.sum_cons, ih]; omega
  refine ⟨?_, ?_⟩
  ·have h1 : (S.map fun x => od (e :: R) x) = S.map fun x => od R x + if e.1 = x then 1 else 0 := List.map_congr_left fun x _ => od_cons e R x
   rw [List.countP_cons, i1, h1, add, one _ _ hn]
   congr 1
   by_cases h : e.1 ∈ S
   ·rw [if_pos h, if_pos ((hp _).2 h)]
   ·rw [if_neg h, if_neg fun h' => h ((hp _).1 h')]
  ·have h1 : (S.map fun x => idg (e :: R) x) = S.map fun x => idg R x + if e.2 = x then 1 else 0 := List.map_congr_left fun x _ => idg_cons e R x
   rw [List.countP_cons, i2, h1, add, one _ _ hn]
   congr 1
   by_cases h : e.2 ∈ S
   ·rw [if_pos h, if_pos ((hp _).2 h)]
   ·rw [if_neg h, if_neg fun h' => h ((hp _).1 h')]
end Go.Ev
namespace Go.Ev
def tw : Nat → List Ed → Nat → Int
 | 0, _, _ => 1
 | n + 1, R, a => sp (fun g k => if g.1 = a then tw n k g.2 else 0) R
theorem sp_some : ∀ {R : List Ed} {f : Ed → List Ed → Int}, sp f R ≠ 0 → ∃ x l, (x :: l).Perm R ∧ f x l ≠ 0
 | [], _, h => absurd rfl h
 | z :: R, f, h => by
  by_cases h1 : f z R = 0
  ·have h2 : sp (fun y k => f y (z :: k)) R ≠ 0 := fun h2 => h (by simp only [sp, h1, h2]; rfl)
   obtain ⟨x, l, hp, hf⟩ := sp_some h2
   exact ⟨x, z :: l, (List.Perm.swap z x l).trans (hp.cons z), hf⟩
  ·exact ⟨z, R, .refl _, h1⟩
theorem trl_need {r : Nat} : ∀ (n : Nat) {R : List Ed} {a : Nat}, R.length = n → trl r n R a ≠ 0 → (∀ x, od R x + (if r = x then 1 else 0) = idg R x + if a = x then 1 else 0) ∧ ∀ p : Nat → Bool, (∀ e ∈ R, p e.1 = p e.2) → ∀ e ∈ R, p e.1 = p a
 | 0, R, a, hl, h => by
  obtain rfl : R = [] := List.length_eq_zero_iff.1 hl
  simp only [trl] at h
  have hra : a = r := by
   apply Classical.byContradiction
   intro hne
   exact h (if_neg hne)
  subst hra
  exact ⟨fun x => rfl, fun p _ e he => by cases he⟩
 | n + 1, R, a, hl, h => by
  simp only [trl] at h
  obtain ⟨g, k, hp, hg⟩ := sp_some h
  have hkl : k.length = n := by have := hp.length_eq; simp at this; omega
  by_cases hga : g.1 = a
  ·rw [if_pos hga] at hg
   obtain ⟨i1, i2⟩ := trl_need n hkl hg
   refine ⟨fun x => ?_, fun p hpc e he => ?_⟩
   ·have := i1 x
    rw [← od_perm hp, ← idg_perm hp, od_cons, idg_cons, hga]
    omega
   ·have hgR : g ∈ R := hp.mem_iff.1 List.mem_cons_self
    have h2 := hpc g hgR
    rcases List.mem_cons.1 (hp.mem_iff.2 he) with rfl | he'
    ·rw [hga]
    ·rw [i2 p (fun f hf => hpc f (hp.mem_iff.1 (List.mem_cons_of_mem _ hf))) e he', ← h2, hga]
  ·exact absurd (if_neg hga) hg
end Go.Ev
namespace Go.Ev
def gE (es : List Ed) (i : Nat) : Ed := es.getD i (0, 0)
def rst (es : List Ed) (K : Nat → Bool) : List Ed := ((List.range es.length).filter K).map (gE es)
theorem gE_get {es : List Ed} {i : Nat} (h : i < es.length) : gE es i = es[i] := by simp [gE, List.getD, h]
def bitK (s : Nat) (i : Nat) : Bool := !s.testBit i
def wB (es : List Ed) (s a : Nat) : Int := tw (rst es (bitK s)).length (rst es (bitK s)) a
theorem bitK_div (s i : Nat) : bitK s i = decide (s / 2 ^ i % 2 = 0) := by
 unfold bitK
 rw [Nat.testBit_eq_decide_div_mod_eq, Bool.eq_iff_iff]
 simp only [Bool.not_eq_true', decide_eq_false_iff_not, decide_eq_true_eq]
 omega
theorem sumC_app (f : Nat → Int) : ∀ (l k : List Nat), sumC (l ++ k) f = sumC l f + sumC k f
 | [], k => by simp [sumC]
 | a :: l, k => by simp only [List.cons_append, sumC]; rw [sumC_app f l k]; omega
theorem bit_full {m : Nat} : ∀ i, i < m → bitK (2 ^ m - 1) i = false := fun i hi => by
 unfold bitK
 rw [Nat.testBit_two_pow_sub_one]; simp [hi]
end Go.Ev
