/- Nearest ways by rounds: the rounds come to an end, and what they leave leads back. Slurs that are played again, as few as can be: always by the nearest way; heights prove that it is the fewest. No condition but those that stand in each. -/
import Derived.Test.YtjcabpldgdafeaaDL4Mth
import Derived.Test.YtjcabpldgdafeaaDL4Eul
set_option linter.unusedSimpArgs false
set_option linter.unusedVariables false
namespace Go.Ev
structure Arc where
 u : Nat
 v : Nat
 c : Int
 id : Int
structure Dst where
 d : Nat → Int
 b : Nat → Int
def rlx (s : Dst) (a : Arc) : Dst := if s.d a.u + a.c < s.d a.v then ⟨fun x => if x = a.v then s.d a.u + a.c else s.d x, fun x => if x = a.v then a.id else s.b x⟩ else s
def pss (A : List Arc) (s : Dst) : Dst := A.foldl rlx s
def itr (A : List Arc) (s : Dst) : Nat → Dst
 | 0 => s
 | n + 1 => pss A (itr A s n)
def Fix (A : List Arc) (d : Nat → Int) : Prop := ∀ a ∈ A, d a.v ≤ d a.u + a.c
theorem rlx_le (s : Dst) (a : Arc) (x : Nat) : (rlx s a).d x ≤ s.d x := by
 unfold rlx
 split
 ·next h =>
  show (if x = a.v then s.d a.u + a.c else s.d x) ≤ s.d x
  split
  ·next e => subst e; omega
  ·exact Int.le_refl _
 ·exact Int.le_refl _
theorem rlx_at (s : Dst) (a : Arc) : (rlx s a).d a.v ≤ s.d a.u + a.c := by
 unfold rlx
 split
 ·show (if a.v = a.v then s.d a.u + a.c else _) ≤ _
  rw [if_pos rfl]; exact Int.le_refl _
 ·omega
theorem pss_le : ∀ (A : List Arc) (s : Dst) (x : Nat), (pss A s).d x ≤ s.d x
 | [], _, _ => Int.le_refl _
 | a :: A, s, x => Int.le_trans (pss_le A (rlx s a) x) (rlx_le s a x)
theorem pss_at : ∀ (A : List Arc) (s : Dst) (a : Arc), a ∈ A → (pss A s).d a.v ≤ s.d a.u + a.c
 | b :: A, s, a, h => by
  rcases List.mem_cons.1 h with rfl | h
  ·exact Int.le_trans (pss_le A (rlx s a) a.v) (rlx_at s a)
  ·have h1 := pss_at A (rlx s b) a h
   have h2 := rlx_le s b a.u
   show (pss A (rlx s b)).d a.v ≤ _
   omega
theorem itr_le (A : List Arc) (s : Dst) (x n : Nat) : ∀ k, (itr A s (n + k)).d x ≤ (itr A s n).d x
 | 0 => Int.le_refl _
 | k + 1 => Int.le_trans (pss_le A (itr A s (n + k)) x) (itr_le A s x n k)
theorem itr_mono (A : List Arc) (s : Dst) (x : Nat) {n m : Nat} (h : n ≤ m) : (itr A s m).d x ≤ (itr A s n).d x := by
 have := itr_le A s x n (m - n)
 rwa [show n + (m - n) = m by omega] at this
theorem fix_pss : ∀ (A : List Arc) (s : Dst), Fix A s.d → pss A s = s
 | [], _, _ => rfl
 | a :: A, s, h => by
  have h1 : rlx s a = s := by
   unfold rlx
   rw [if_neg (by have := h a List.mem_cons_self; omega)]
  show pss A (rlx s a) = s
  rw [h1]
  exact fix_pss A s fun b hb => h b (List.mem_cons_of_mem _ hb)
theorem same_fix : ∀ (A : List Arc) (s : Dst), (∀ a ∈ A, (pss A s).d a.v = s.d a.v) → Fix A s.d
 | [], _, _ => fun _ h => by cases h
 | a :: A, s, h => by
  have ha := h a List.mem_cons_self
  have h1 : rlx s a = s := by
   unfold rlx
   split
   ·next hlt =>
    have h2 : (pss A (rlx s a)).d a.v ≤ (rlx s a).d a.v := pss_le _ _ _
    have h3 := rlx_at s a
    have h4 : (pss A (rlx s a)).d a.v = s.d a.v := ha
    omega
   ·rfl
  have h5 : ∀ x, (pss (a :: A) s).d x = (pss A s).d x := fun x => by
   show (pss A (rlx s a)).d x = _
   rw [h1]
  intro b hb
  rcases List.mem_cons.1 hb with rfl | hb
  ·apply Classical.byContradiction
   intro hn
   have hlt : s.d b.u + b.c < s.d b.v := by omega
   have e : (rlx s b).d b.v = s.d b.u + b.c := by
    unfold rlx
    rw [if_pos hlt]
    show (if b.v = b.v then s.d b.u + b.c else _) = _
    rw [if_pos rfl]
   rw [h1] at e
   omega
  ·exact same_fix A s (fun c hc => by rw [← h5]; exact h c (List.mem_cons_of_mem _ hc)) b hb
inductive Chn (A : List Arc) (b : Nat → Int) : Nat → List Arc → Prop
 | nil {v : Nat} : b v = 0 → Chn A b v []
 | cons {a : Arc} {l : List Arc} : a ∈ A → b a.v = a.id → Chn A b a.u l → Chn A b a.v (a :: l)
structure Ids (A : List Arc) : Prop where
 ne : ∀ a ∈ A, a.id ≠ 0
 inj : ∀ a ∈ A, ∀ a' ∈ A, a.id = a'.id → a = a'
structure BInv (A : List Arc) (d0 : Nat → Int) (s : Dst) : Prop where
 root : ∀ v, s.b v = 0 → s.d v = d0 v
 le0 : ∀ v, s.d v ≤ d0 v
 par : ∀ v, s.b v ≠ 0 → ∃ a ∈ A, a.id = s.b v ∧ a.v = v ∧ s.d a.u + a.c ≤ s.d v
 chn : ∀ v, ∃ l, Chn A s.b v l
def Pot (A : List Arc) (h : Nat → Int) : Prop := ∀ a ∈ A, h a.v ≤ h a.u + a.c
theorem chn_uniq {A : List Arc} {b : Nat → Int} (hi : Ids A) : ∀ {v : Nat} {l : List Arc}, Chn A b v l → ∀ {l' : List Arc}, Chn A b v l' → l = l' := by
 intro v l h
 induction h with
 | nil h0 =>
  intro l' h'
  cases h' with
  | nil _ => rfl
  | cons h1 h2 _ => exact absurd (h2.symm.trans h0) (hi.ne _ h1)
 | @cons a l h1 h2 h3 ih =>
  intro l' h'
  generalize hv : a.v = v at h'
  cases h' with
  | nil h0 => exact absurd (h2.symm.trans (hv ▸ h0)) (hi.ne _ h1)
  | @cons a' l'' g1 g2 g3 =>
   have : a = a' := hi.inj a h1 a' g1 (by rw [← h2, hv, g2])
   subst this
   rw [ih g3]
def nds (v : Nat) (l : List Arc) : List Nat := v :: l.map (·.u)
theorem chn_suffix {A : List Arc} {b : Nat → Int} : ∀ {v : Nat} {l : List Arc}, Chn A b v l → ∀ x ∈ nds v l, ∃ l', Chn A b x l' ∧ l'.length ≤ l.length := by
 intro v l h
 induction h with
 | nil h0 =>
  intro x hx
  obtain rfl : x = _ := List.mem_singleton.1 hx
  exact ⟨[], .nil h0, Nat.le_refl _⟩
 | @cons a l h1 h2 h3 ih =>
  intro x hx
  rcases List.mem_cons.1 hx with rfl | hx
  ·exact ⟨_, .cons h1 h2 h3, Nat.le_refl _⟩
  ·obtain ⟨l', g1, g2⟩ := ih x hx
   exact ⟨l', g1, by simp only [List.length_cons]; omega⟩
theorem chn_nodup {A : List Arc} {b : Nat → Int} (hi : Ids A) : ∀ {v : Nat} {l : List Arc}, Chn A b v l → (nds v l).Nodup := by
 intro v l h
 induction h with
 | nil h0 => simp [nds]
 | @cons a l h1 h2 h3 ih =>
  rw [nds, List.nodup_cons]
  refine ⟨fun hm => ?_, ih⟩
  obtain ⟨l', g1, g2⟩ := chn_suffix h3 a.v hm
  have := chn_uniq hi g1 (.cons h1 h2 h3)
  subst this
  simp at g2
  omega
theorem chn_lt {A : List Arc} {b : Nat → Int} {N : Nat} (hA : ∀ a ∈ A, a.u < N) : ∀ {v : Nat} {l : List Arc}, Chn A b v l → ∀ x ∈ l.map (·.u), x < N := by
 intro v l h
 induction h with
 | nil h0 => simp
 | @cons a l h1 h2 h3 ih =>
  intro x hx
  rcases List.mem_cons.1 hx with rfl | hx
  ·exact hA a h1
  ·exact ih x hx
theorem chn_len {A : List Arc} {b : Nat → Int} {N : Nat} (hi : Ids A) (hA : ∀ a ∈ A, a.u < N) {v : Nat} (hv : v < N) {l : List Arc} (h : Chn A b v l) : l.length + 1 ≤ N := by
 have := List.Nodup.length_le_of_subset (l₂ := List.range N) (chn_nodup hi h) fun x hx => List.mem_range.2 (by
  rcases List.mem_cons.1 hx with rfl | hx
  ·exact hv
  ·exact chn_lt hA h x hx)
 simpa [nds] using this
theorem chn_pot {A : List Arc} {d0 h : Nat → Int} {s : Dst} (hi : Ids A) (hs : BInv A d0 s) (hp : Pot A h) : ∀ {v : Nat} {l : List Arc}, Chn A s.b v l → ∀ x ∈ nds v l, s.d x - h x ≤ s.d v - h v := by
 intro v l hc
 induction hc with
 | nil h0 =>
  intro x hx
  obtain rfl : x = _ := List.mem_singleton.1 hx
  exact Int.le_refl _
 | @cons a l h1 h2 h3 ih =>
  intro x hx
  rcases List.mem_cons.1 hx with rfl | hx
  ·exact Int.le_refl _
  ·have g1 := ih x hx
   obtain ⟨a', ha', e1, e2, e3⟩ := hs.par a.v (by rw [h2]; exact hi.ne _ h1)
   have : a' = a := hi.inj a' ha' a h1 (by rw [e1, h2])
   subst this
   have := hp _ h1
   omega
theorem rlx_inv {A : List Arc} {d0 h : Nat → Int} {s : Dst} (hi : Ids A) (hs : BInv A d0 s) (hp : Pot A h) {a : Arc} (ha : a ∈ A) : BInv A d0 (rlx s a) := by
 by_cases hlt : s.d a.u + a.c < s.d a.v
 ·have hb : (rlx s a).b = fun x => if x = a.v then a.id else s.b x := by unfold rlx; rw [if_pos hlt]
  have hd : (rlx s a).d = fun x => if x = a.v then s.d a.u + a.c else s.d x := by unfold rlx; rw [if_pos hlt]
  have hmono := rlx_le s a
  have huv : a.u ≠ a.v := fun e => by
   have := hp a ha
   rw [e] at hlt this
   omega
  obtain ⟨l0, hl0⟩ := hs.chn a.u
  have havoid : ∀ x ∈ nds a.u l0, x ≠ a.v := fun x hx e => by
   have h1 := chn_pot hi hs hp hl0 x hx
   have h2 := hp a ha
   rw [e] at h1
   omega
  have hkeep : ∀ {v : Nat} {l : List Arc}, Chn A s.b v l → (∀ x ∈ nds v l, x ≠ a.v) → Chn A (rlx s a).b v l := by
   intro v l hc
   induction hc with
   | nil h0 =>
    intro hx
    refine .nil ?_
    rw [hb]
    simp only
    rw [if_neg (hx _ List.mem_cons_self)]
    exact h0
   | cons h1 h2 _ ih =>
    intro hx
    refine .cons h1 ?_ (ih fun x hxx => hx x (List.mem_cons_of_mem _ hxx))
    rw [hb]
    simp only
    rw [if_neg (hx _ List.mem_cons_self)]
    exact h2
  have hnew : Chn A (rlx s a).b a.v (a :: l0) := .cons ha (by rw [hb]; simp) (hkeep hl0 havoid)
  refine ⟨fun v hv => ?_, fun v => Int.le_trans (hmono v) (hs.le0 v), fun v hv => ?_, fun v => ?_⟩
  ·rw [hb] at hv
   simp only at hv
   split at hv
   ·exact absurd hv (hi.ne a ha)
   ·next hne => rw [hd]; simp only; rw [if_neg hne]; exact hs.root v hv
  ·by_cases hva : v = a.v
   ·refine ⟨a, ha, by rw [hb, hva]; simp, hva.symm, ?_⟩
    rw [hd, hva]
    simp only
    rw [if_neg huv]
    simp only [if_true]
    exact Int.le_refl _
   ·have hbv : (rlx s a).b v = s.b v := by rw [hb]; simp only; rw [if_neg hva]
    rw [hbv] at hv ⊢
    obtain ⟨a', h1, h2, h3, h4⟩ := hs.par v hv
    refine ⟨a', h1, h2, h3, ?_⟩
    have := hmono a'.u
    have e : (rlx s a).d v = s.d v := by rw [hd]; simp only; rw [if_neg hva]
    omega
  ·obtain ⟨l, hl⟩ := hs.chn v
   induction hl with
   | @nil v h0 =>
    by_cases hva : v = a.v
    ·exact ⟨_, hva ▸ hnew⟩
    ·exact ⟨[], .nil (by rw [hb]; simp only; rw [if_neg hva]; exact h0)⟩
   | @cons a' l h1 h2 _ ih =>
    by_cases hva : a'.v = a.v
    ·exact ⟨_, hva ▸ hnew⟩
    ·obtain ⟨l', hl'⟩ := ih
     exact ⟨_, .cons h1 (by rw [hb]; simp only; rw [if_neg hva]; exact h2) hl'⟩
 ·have : rlx s a = s := by unfold rlx; rw [if_neg hlt]
  rw [this]; exact hs
theorem pss_inv {A : List Arc} {d0 h : Nat → Int} (hi : Ids A) (hp : Pot A h) : ∀ {B : List Arc}, (∀ a ∈ B, a ∈ A) → ∀ {s : Dst}, BInv A d0 s → BInv A d0 (pss B s)
 | [], _, _, hs => hs
 | a :: B, hB, s, hs => pss_inv hi hp (B := B) (fun x hx => hB x (List.mem_cons_of_mem _ hx)) (rlx_inv hi hs hp (hB a List.mem_cons_self))
theorem itr_inv {A : List Arc} {d0 h : Nat → Int} (hi : Ids A) (hp : Pot A h) {s : Dst} (hs : BInv A d0 s) : ∀ n, BInv A d0 (itr A s n)
 | 0 => hs
 | n + 1 => pss_inv hi hp (fun _ h => h) (itr_inv hi hp hs n)
theorem inv_start (A : List Arc) (d0 : Nat → Int) : BInv A d0 ⟨d0, fun _ => 0⟩ :=
 ⟨fun _ _ => rfl, fun _ => Int.le_refl _, fun _ h => absurd rfl h, fun _ => ⟨[], .nil rfl⟩⟩
def sumF (f : Nat → Int) : Nat → Int
 | 0 => 0
 | n + 1 => sumF f n + f n
theorem sumF_le {f g : Nat → Int} : ∀ {n : Nat}, (∀ x, x < n → f x ≤ g x) → sumF f n ≤ sumF g n
 | 0, _ => Int.le_refl _
 | n + 1, h => by
  have h1 := sumF_le (n := n) fun x hx => h x (by omega)
  have h2 := h n (by omega)
  simp only [sumF]; omega
theorem sumF_lt {f g : Nat → Int} {y : Nat} : ∀ {n : Nat}, (∀ x, x < n → f x ≤ g x) → y < n → f y < g y → sumF f n < sumF g n
 | n + 1, h, hy, hl => by
  by_cases hyn : y = n
  ·subst hyn
   have h1 := sumF_le (n := y) fun x hx => h x (by omega)
   simp only [sumF]; omega
  ·have h1 := sumF_lt (n := n) (fun x hx => h x (by omega)) (by omega) hl
   have h2 := h n (by omega)
   simp only [sumF]; omega
theorem low_keep {A : List Arc} {h : Nat → Int} {m : Int} (hp : Pot A h) {s : Dst} (hm : ∀ v, m ≤ s.d v - h v) {a : Arc} (ha : a ∈ A) : ∀ v, m ≤ (rlx s a).d v - h v := by
 intro v
 unfold rlx
 split
 ·show m ≤ (if v = a.v then s.d a.u + a.c else s.d v) - h v
  split
  ·next e => subst e; have := hp a ha; have := hm a.u; omega
  ·exact hm v
 ·exact hm v
theorem low_pss {A : List Arc} {h : Nat → Int} {m : Int} (hp : Pot A h) : ∀ {B : List Arc}, (∀ a ∈ B, a ∈ A) → ∀ {s : Dst}, (∀ v, m ≤ s.d v - h v) → ∀ v, m ≤ (pss B s).d v - h v
 | [], _, _, hs => hs
 | a :: B, hB, s, hs => low_pss hp (B := B) (fun x hx => hB x (List.mem_cons_of_mem _ hx)) (low_keep hp hs (hB a List.mem_cons_self))
theorem low_itr {A : List Arc} {h : Nat → Int} {m : Int} (hp : Pot A h) {s : Dst} (hs : ∀ v, m ≤ s.d v - h v) : ∀ n, ∀ v, m ≤ (itr A s n).d v - h v
 | 0 => hs
 | n + 1 => low_pss hp (fun _ h => h) (low_itr hp hs n)
theorem fix_some {A : List Arc} {h : Nat → Int} {m : Int} {N : Nat} (hp : Pot A h) (hA : ∀ a ∈ A, a.v < N) {s : Dst} (hs : ∀ v, m ≤ s.d v - h v) : ∃ n, Fix A (itr A s n).d := by
 obtain ⟨lo, hlo⟩ : ∃ lo, lo = sumF (fun v => m + h v) N := ⟨_, rfl⟩
 have hlow : ∀ n, lo ≤ sumF (itr A s n).d N := fun n => by
  rw [hlo]
  exact sumF_le fun x _ => by have := low_itr hp hs n x; omega
 have hstep : ∀ n, Fix A (itr A s n).d ∨ sumF (itr A s (n + 1)).d N < sumF (itr A s n).d N := fun n => by
  by_cases hf : ∀ a ∈ A, (pss A (itr A s n)).d a.v = (itr A s n).d a.v
  ·exact .inl (same_fix A _ hf)
  ·right
   obtain ⟨a, ha⟩ := Classical.not_forall.1 hf
   obtain ⟨haA, hne⟩ := Classical.not_imp.1 ha
   have hle := pss_le A (itr A s n)
   exact sumF_lt (y := a.v) (fun x _ => hle x) (hA a haA) (by have := hle a.v; show (pss A (itr A s n)).d a.v < _; omega)
 have hall : ∀ (k n : Nat), (sumF (itr A s n).d N - lo).toNat ≤ k → ∃ n, Fix A (itr A s n).d := fun k => by
  induction k with
  | zero =>
   intro n hk
   rcases hstep n with h | h
   ·exact ⟨n, h⟩
   ·have := hlow (n + 1); have := hlow n; omega
  | succ k ih =>
   intro n hk
   rcases hstep n with h | h
   ·exact ⟨n, h⟩
   ·have := hlow (n + 1); have := hlow n
    exact ih (n + 1) (by omega)
 exact hall _ 0 (Nat.le_refl _)
theorem bf_fix {A : List Arc} {d0 h : Nat → Int} {m : Int} {N : Nat} (hi : Ids A) (hp : Pot A h) (hu : ∀ a ∈ A, a.u < N) (hv : ∀ a ∈ A, a.v < N) (hm : ∀ v, m ≤ d0 v - h v) {n : Nat} (hn : N ≤ n + 1) : BInv A d0 (itr A ⟨d0, fun _ => 0⟩ n) ∧ Fix A (itr A ⟨d0, fun _ => 0⟩ n).d := by
 obtain ⟨s0, hs0⟩ : ∃ s0 : Dst, s0 = ⟨d0, fun _ => 0⟩ := ⟨_, rfl⟩
 rw [← hs0]
 have hinv : ∀ n, BInv A d0 (itr A s0 n) := itr_inv hi hp (by rw [hs0]; exact inv_start A d0)
 have hd0 : s0.d = d0 := by rw [hs0]
 obtain ⟨M, hM⟩ := fix_some (N := N) hp hv (s := s0) (m := m) (by rw [hs0]; exact hm)
 have hst : ∀ k, itr A s0 (M + k) = itr A s0 M := fun k => by
  induction k with
  | zero => rfl
  | succ k ih =>
   show pss A (itr A s0 (M + k)) = _
   rw [ih]
   exact fix_pss A _ hM
 have hge : ∀ k x, (itr A s0 M).d x ≤ (itr A s0 k).d x := fun k x => by
  by_cases hk : k ≤ M
  ·exact itr_mono A s0 x hk
  ·rw [show k = M + (k - M) by omega, hst]
   exact Int.le_refl _
 have hconv : ∀ {v : Nat} {l : List Arc}, Chn A (itr A s0 M).b v l → ∀ k, l.length ≤ k → (itr A s0 k).d v = (itr A s0 M).d v := by
  intro v l hc
  induction hc with
  | @nil v h0 =>
   intro k _
   have h1 := (hinv M).root v h0
   have h2 := (hinv k).le0 v
   have h3 := hge k v
   omega
  | @cons a l h1 h2 h3 ih =>
   intro k hk
   obtain ⟨k, rfl⟩ : ∃ k', k = k' + 1 := ⟨k - 1, by simp at hk; omega⟩
   have g1 := ih k (by simpa using hk)
   have g2 := pss_at A (itr A s0 k) a h1
   have g3 : (itr A s0 (k + 1)).d a.v = (pss A (itr A s0 k)).d a.v := rfl
   have g4 := hge (k + 1) a.v
   obtain ⟨a', ha', e1, e2, e3⟩ := (hinv M).par a.v (by rw [h2]; exact hi.ne _ h1)
   have : a' = a := hi.inj a' ha' a h1 (by rw [e1, h2])
   subst this
   omega
 have hall : ∀ v, v < N → (itr A s0 n).d v = (itr A s0 M).d v := fun v hvN => by
  obtain ⟨l, hl⟩ := (hinv M).chn v
  have := chn_len hi hu hvN hl
  exact hconv hl n (by omega)
 refine ⟨hinv n, fun a ha => ?_⟩
 rw [hall _ (hu a ha), hall _ (hv a ha)]
 exact hM a ha
end Go.Ev
set_option linter.unusedSimpArgs false
set_option linter.unusedVariables false
namespace Go.Ev.YtjcabpldgdafeaaC
open Go Go.Ev
def arcAt (es : List Ed) (P : Nat → Int) (i : Nat) : List Arc := ⟨(gE es i).1, (gE es i).2, 1, (i : Int) + 1⟩ :: if 0 < P i then [⟨(gE es i).2, (gE es i).1, -1, -(i : Int) - 1⟩] else []
def arcs (es : List Ed) (P : Nat → Int) : Nat → List Arc
 | 0 => []
 | k + 1 => arcs es P k ++ arcAt es P k
theorem mem_arcAt {es : List Ed} {P : Nat → Int} {i : Nat} {a : Arc} : a ∈ arcAt es P i ↔ a = ⟨(gE es i).1, (gE es i).2, 1, (i : Int) + 1⟩ ∨ (0 < P i ∧ a = ⟨(gE es i).2, (gE es i).1, -1, -(i : Int) - 1⟩) := by
 unfold arcAt
 rw [List.mem_cons]
 by_cases h : 0 < P i
 ·rw [if_pos h, List.mem_singleton]; simp [h]
 ·rw [if_neg h]; simp [h]
theorem mem_arcs {es : List Ed} {P : Nat → Int} {a : Arc} : ∀ {k : Nat}, a ∈ arcs es P k ↔ ∃ i, i < k ∧ (a = ⟨(gE es i).1, (gE es i).2, 1, (i : Int) + 1⟩ ∨ (0 < P i ∧ a = ⟨(gE es i).2, (gE es i).1, -1, -(i : Int) - 1⟩))
 | 0 => by simp [arcs]
 | k + 1 => by
  rw [arcs, List.mem_append, mem_arcs (k := k), mem_arcAt]
  constructor
  ·rintro (⟨i, hi, h⟩ | h)
   ·exact ⟨i, by omega, h⟩
   ·exact ⟨k, by omega, h⟩
  ·rintro ⟨i, hi, h⟩
   by_cases hk : i = k
   ·subst hk; exact .inr h
   ·exact .inl ⟨i, by omega, h⟩
theorem arcs_ids (es : List Ed) (P : Nat → Int) (k : Nat) : Ids (arcs es P k) where
 ne := fun a ha => by
  obtain ⟨i, _, rfl | ⟨_, rfl⟩⟩ := mem_arcs.1 ha <;> simp only <;> omega
 inj := fun a ha a' ha' h => by
  obtain ⟨i, _, rfl | ⟨_, rfl⟩⟩ := mem_arcs.1 ha <;> obtain ⟨i', _, rfl | ⟨_, rfl⟩⟩ := mem_arcs.1 ha' <;> simp only at h
  ·obtain rfl : i = i' := by omega
   rfl
  ·omega
  ·omega
  ·obtain rfl : i = i' := by omega
   rfl
theorem arcs_cost {es : List Ed} {P : Nat → Int} {k : Nat} {a : Arc} (ha : a ∈ arcs es P k) : -1 ≤ a.c ∧ a.c ≤ 1 := by
 obtain ⟨i, _, rfl | ⟨_, rfl⟩⟩ := mem_arcs.1 ha <;> simp
theorem gE_mem {es : List Ed} {i : Nat} (h : i < es.length) : gE es i ∈ es := by rw [gE_get h]; exact List.getElem_mem h
theorem gE_of {es : List Ed} {e : Ed} (h : e ∈ es) : ∃ i, i < es.length ∧ gE es i = e := by
 obtain ⟨i, hi, rfl⟩ := List.getElem_of_mem h
 exact ⟨i, hi, gE_get hi⟩
theorem arcs_lt {N : Nat} {es : List Ed} (hn : ∀ q ∈ es, q.1 < N ∧ q.2 < N) {P : Nat → Int} {a : Arc} (ha : a ∈ arcs es P es.length) : a.u < N ∧ a.v < N := by
 obtain ⟨i, hi, rfl | ⟨_, rfl⟩⟩ := mem_arcs.1 ha
 ·exact hn _ (gE_mem hi)
 ·exact ⟨(hn _ (gE_mem hi)).2, (hn _ (gE_mem hi)).1⟩
theorem pot_arcs {es : List Ed} {P : Nat → Int} {h : Nat → Int} : Pot (arcs es P es.length) h ↔ ∀ i, i < es.length → h (gE es i).2 ≤ h (gE es i).1 + 1 ∧ (0 < P i → h (gE es i).1 ≤ h (gE es i).2 - 1) := by
 constructor
 ·intro hp i hi
  refine ⟨hp ⟨_, _, 1, (i : Int) + 1⟩ (mem_arcs.2 ⟨i, hi, .inl rfl⟩), fun h0 => ?_⟩
  have := hp ⟨_, _, -1, -(i : Int) - 1⟩ (mem_arcs.2 ⟨i, hi, .inr ⟨h0, rfl⟩⟩)
  simp only at this
  omega
 ·intro hh a ha
  obtain ⟨i, hi, rfl | ⟨h0, rfl⟩⟩ := mem_arcs.1 ha
  ·exact (hh i hi).1
  ·have := (hh i hi).2 h0
   simp only
   omega
def sP (es : List Ed) (P : Nat → Int) (x : Nat) : Nat → Int
 | 0 => 0
 | k + 1 => sP es P x k + P k * (dl (gE es k).1 x - dl (gE es k).2 x)
def sF (es : List Ed) (P : Nat → Int) (x : Nat) : Int := sur es x + sP es P x es.length
def apA (a : Arc) (P : Nat → Int) : Nat → Int := fun j => P j + (if a.id = (j : Int) + 1 then 1 else 0) - (if a.id = -(j : Int) - 1 then 1 else 0)
theorem sP_zero (es : List Ed) (x : Nat) : ∀ k, sP es (fun _ => 0) x k = 0
 | 0 => rfl
 | k + 1 => by rw [sP, sP_zero es x k, Int.zero_mul]; rfl
theorem sF_zero (es : List Ed) : sF es (fun _ => 0) = sur es := funext fun x => by rw [sF, sP_zero, Int.add_zero]
theorem sP_up {es : List Ed} {P P' : Nat → Int} {i : Nat} {t : Int} (h : ∀ j, P' j = P j + if j = i then t else 0) (x : Nat) : ∀ k, sP es P' x k = sP es P x k + if i < k then t * (dl (gE es i).1 x - dl (gE es i).2 x) else 0
 | 0 => by simp [sP]
 | k + 1 => by
  rw [sP, sP, sP_up h x k, h k, Int.add_mul]
  by_cases h1 : k = i
  ·subst h1
   rw [if_pos rfl, if_neg (Nat.lt_irrefl k), if_pos (Nat.lt_succ_self k)]; omega
  ·rw [if_neg h1, Int.zero_mul]
   by_cases h2 : i < k
   ·rw [if_pos h2, if_pos (by omega)]; omega
   ·rw [if_neg h2, if_neg (by omega)]; omega
theorem sF_up {es : List Ed} {P P' : Nat → Int} {i : Nat} (hi : i < es.length) {t : Int} (h : ∀ j, P' j = P j + if j = i then t else 0) (x : Nat) : sF es P' x = sF es P x + t * (dl (gE es i).1 x - dl (gE es i).2 x) := by
 rw [sF, sF, sP_up h, if_pos hi]; omega
theorem sF_ap {es : List Ed} {P0 P : Nat → Int} {a : Arc} (ha : a ∈ arcs es P0 es.length) (x : Nat) : sF es (apA a P) x = sF es P x + dl a.u x - dl a.v x := by
 obtain ⟨i, hi, rfl | ⟨h0, rfl⟩⟩ := mem_arcs.1 ha
 ·rw [sF_up (P := P) hi (t := 1) (fun j => ?_)]
  ·simp only; omega
  ·simp only [apA]
   by_cases hj : j = i
   ·subst hj; rw [if_pos rfl, if_neg (by omega), if_pos rfl]; omega
   ·rw [if_neg (by omega), if_neg (by omega), if_neg hj]; omega
 ·rw [sF_up (P := P) hi (t := -1) (fun j => ?_)]
  ·simp only; omega
  ·simp only [apA]
   by_cases hj : j = i
   ·subst hj; rw [if_neg (by omega), if_pos rfl, if_pos rfl]; omega
   ·rw [if_neg (by omega), if_neg (by omega), if_neg hj]; omega
def run : List Arc → (Nat → Int) → Nat → Int
 | [], P => P
 | a :: l, P => run l (apA a P)
def cnt (c : Int) (l : List Arc) : Int := (l.countP fun a => a.id == c : Nat)
theorem cnt_cons (c : Int) (a : Arc) (l : List Arc) : cnt c (a :: l) = cnt c l + if a.id = c then 1 else 0 := by
 unfold cnt
 rw [List.countP_cons]
 by_cases h : a.id = c
 ·simp [h]
 ·simp [h]
theorem cnt_nonneg' (c : Int) (l : List Arc) : 0 ≤ cnt c l := by unfold cnt; omega
theorem run_val : ∀ (l : List Arc) (P : Nat → Int) (j : Nat), run l P j = P j + cnt ((j : Int) + 1) l - cnt (-(j : Int) - 1) l
 | [], P, j => by simp [run, cnt]
 | a :: l, P, j => by
  rw [run, run_val l, cnt_cons, cnt_cons, apA]; omega
def rootOf : Nat → List Arc → Nat
 | v, [] => v
 | _, a :: l => rootOf a.u l
theorem sF_run {es : List Ed} {P0 : Nat → Int} {b : Nat → Int} : ∀ {v : Nat} {l : List Arc}, Chn (arcs es P0 es.length) b v l → ∀ (P : Nat → Int) (x : Nat), sF es (run l P) x = sF es P x + dl (rootOf v l) x - dl v x := by
 intro v l h
 induction h with
 | nil h0 => intro P x; simp only [run, rootOf]; omega
 | @cons a l h1 h2 h3 ih => intro P x; rw [run, ih, sF_ap h1, rootOf]; omega
theorem chn_root {A : List Arc} {b : Nat → Int} : ∀ {v : Nat} {l : List Arc}, Chn A b v l → b (rootOf v l) = 0 := by
 intro v l h
 induction h with
 | nil h0 => exact h0
 | cons _ _ _ ih => exact ih
theorem chn_mem {A : List Arc} {b : Nat → Int} : ∀ {v : Nat} {l : List Arc}, Chn A b v l → ∀ a ∈ l, a ∈ A ∧ b a.v = a.id := by
 intro v l h
 induction h with
 | nil h0 => intro a ha; cases ha
 | @cons a l h1 h2 h3 ih =>
  intro x hx
  rcases List.mem_cons.1 hx with rfl | hx
  ·exact ⟨h1, h2⟩
  ·exact ih x hx
theorem chn_up {A : List Arc} {s : Dst} (hf : Fix A s.d) (hc : ∀ a ∈ A, a.c ≤ 1) : ∀ {v : Nat} {l : List Arc}, Chn A s.b v l → s.d v ≤ s.d (rootOf v l) + l.length := by
 intro v l h
 induction h with
 | nil h0 => simp [rootOf]
 | @cons a l h1 h2 h3 ih =>
  have := hf a h1
  have := hc a h1
  simp only [rootOf, List.length_cons]; omega
theorem chn_dn {A : List Arc} {d0 : Nat → Int} {s : Dst} (hi : Ids A) (hs : BInv A d0 s) (hc : ∀ a ∈ A, -1 ≤ a.c) : ∀ {v : Nat} {l : List Arc}, Chn A s.b v l → s.d (rootOf v l) ≤ s.d v + l.length := by
 intro v l h
 induction h with
 | nil h0 => simp [rootOf]
 | @cons a l h1 h2 h3 ih =>
  obtain ⟨a', ha', e1, e2, e3⟩ := hs.par a.v (by rw [h2]; exact hi.ne _ h1)
  have : a' = a := hi.inj a' ha' a h1 (by rw [e1, h2])
  subst this
  have := hc _ h1
  simp only [rootOf, List.length_cons]; omega
theorem par_tight {A : List Arc} {d0 : Nat → Int} {s : Dst} (hi : Ids A) (hs : BInv A d0 s) (hf : Fix A s.d) {a : Arc} (ha : a ∈ A) (hb : s.b a.v = a.id) : s.d a.v = s.d a.u + a.c := by
 obtain ⟨a', ha', e1, e2, e3⟩ := hs.par a.v (by rw [hb]; exact hi.ne _ ha)
 have : a' = a := hi.inj a' ha' a ha (by rw [e1, hb])
 subst this
 have := hf _ ha
 omega
theorem chn_ends {A : List Arc} {b : Nat → Int} (hi : Ids A) {v : Nat} {l : List Arc} (h : Chn A b v l) : (l.map (·.v)).Nodup := by
 have key : ∀ {v : Nat} {l : List Arc}, Chn A b v l → ∀ x ∈ l.map (·.v), x ∈ nds v l := by
  intro v l h
  induction h with
  | nil h0 => intro x hx; cases hx
  | @cons a l h1 h2 h3 ih =>
   intro x hx
   rcases List.mem_cons.1 hx with rfl | hx
   ·exact List.mem_cons_self
   ·exact List.mem_cons_of_mem _ (ih x hx)
 have hn := chn_nodup hi h
 induction h with
 | nil h0 => exact List.nodup_nil
 | @cons a l h1 h2 h3 ih =>
  rw [nds, List.map_cons, List.nodup_cons] at hn
  rw [List.map_cons, List.nodup_cons]
  exact ⟨fun hm => hn.1 (key h3 _ hm), ih hn.2⟩
theorem chn_cnt {A : List Arc} {b : Nat → Int} (hi : Ids A) {v : Nat} {l : List Arc} (h : Chn A b v l) (c : Int) : cnt c l ≤ 1 ∧ (0 < cnt c l → ∃ a ∈ l, a.id = c) := by
 have hn := chn_ends hi h
 have hm := chn_mem h
 refine ⟨?_, fun hp => ?_⟩
 ·clear h
  induction l with
  | nil => simp [cnt]
  | cons a l ih =>
   rw [List.map_cons, List.nodup_cons] at hn
   have h1 := ih hn.2 fun x hx => hm x (List.mem_cons_of_mem _ hx)
   rw [cnt_cons]
   by_cases hc : a.id = c
   ·rw [if_pos hc]
    have : cnt c l = 0 := by
     unfold cnt
     have : l.countP (fun a => a.id == c) = 0 := List.countP_eq_zero.2 fun x hx => by
      simp only [beq_iff_eq]
      intro hxc
      have : x = a := hi.inj x (hm x (List.mem_cons_of_mem _ hx)).1 a (hm a List.mem_cons_self).1 (by rw [hxc, hc])
      subst this
      exact hn.1 (List.mem_map.2 ⟨x, hx, rfl⟩)
     omega
    omega
   ·rw [if_neg hc]; omega
 ·unfold cnt at hp
  obtain ⟨a, ha, hc⟩ := List.countP_pos_iff.1 (show 0 < l.countP fun a => a.id == c by omega)
  exact ⟨a, ha, by simpa using hc⟩
def Rch (es : List Ed) (a b : Nat) : Prop := ∀ p : Nat → Bool, (∀ e ∈ es, p e.1 = true → p e.2 = true) → p a = true → p b = true
def Clo (es : List Ed) : Prop := ∀ e ∈ es, ∀ f ∈ es, Rch es e.1 f.1 ∧ Rch es e.1 f.2 ∧ Rch es e.2 f.1 ∧ Rch es e.2 f.2
def Tch (es : List Ed) (x : Nat) : Prop := ∃ e ∈ es, e.1 = x ∨ e.2 = x
theorem clo_tch {es : List Ed} (h : Clo es) {x y : Nat} (hx : Tch es x) (hy : Tch es y) : Rch es x y := by
 obtain ⟨e, he, rfl | rfl⟩ := hx <;> obtain ⟨f, hf, rfl | rfl⟩ := hy
 ·exact (h e he f hf).1
 ·exact (h e he f hf).2.1
 ·exact (h e he f hf).2.2.1
 ·exact (h e he f hf).2.2.2
theorem sP_off {es : List Ed} (P : Nat → Int) {x : Nat} (h : ∀ e ∈ es, e.1 ≠ x ∧ e.2 ≠ x) : ∀ k, k ≤ es.length → sP es P x k = 0
 | 0, _ => rfl
 | k + 1, hk => by
  have := h _ (gE_mem (show k < es.length by omega))
  rw [sP, sP_off P h k (by omega), dl_ne this.1, dl_ne this.2]; simp
theorem sF_off {es : List Ed} (P : Nat → Int) {x : Nat} (h : ¬ Tch es x) : sF es P x = 0 := by
 have h' : ∀ e ∈ es, e.1 ≠ x ∧ e.2 ≠ x := fun e he => ⟨fun h1 => h ⟨e, he, .inl h1⟩, fun h1 => h ⟨e, he, .inr h1⟩⟩
 rw [sF, sP_off P h' _ (Nat.le_refl _), sur_def, od_zero.2 fun e he => (h' e he).1, idg_zero.2 fun e he => (h' e he).2]; rfl
theorem sF_tch {es : List Ed} {P : Nat → Int} {x : Nat} (h : sF es P x ≠ 0) : Tch es x := Classical.byContradiction fun hn => h (sF_off P hn)
theorem tch_lt {N : Nat} {es : List Ed} (hn : ∀ q ∈ es, q.1 < N ∧ q.2 < N) {x : Nat} (h : Tch es x) : x < N := by
 obtain ⟨e, he, rfl | rfl⟩ := h
 ·exact (hn e he).1
 ·exact (hn e he).2
theorem sumC_addf (f g : Nat → Int) : ∀ l : List Nat, sumC l (fun x => f x + g x) = sumC l f + sumC l g
 | [] => rfl
 | a :: l => by simp only [sumC, sumC_addf f g l]; omega
theorem sumC_scale (c : Int) (f : Nat → Int) : ∀ l : List Nat, sumC l (fun x => c * f x) = c * sumC l f
 | [] => by simp [sumC]
 | a :: l => by simp only [sumC, sumC_scale c f l, Int.mul_add]
theorem sumC_hdl (h : Nat → Int) {a N : Nat} (ha : a < N) : sumC (List.range N) (fun x => h x * dl a x) = h a := by
 rw [sumC_one List.nodup_range (List.mem_range.2 ha) fun x _ hx => by rw [dl_ne (Ne.symm hx), Int.mul_zero], dl_self, Int.mul_one]
def hP (es : List Ed) (P h : Nat → Int) : Nat → Int
 | 0 => 0
 | k + 1 => hP es P h k + P k * (h (gE es k).1 - h (gE es k).2)
theorem sum_hP {N : Nat} {es : List Ed} (hn : ∀ q ∈ es, q.1 < N ∧ q.2 < N) (P h : Nat → Int) : ∀ k, k ≤ es.length → sumC (List.range N) (fun x => h x * sP es P x k) = hP es P h k
 | 0, _ => by
  refine sumC_zero fun x _ => ?_
  rw [sP, Int.mul_zero]
 | k + 1, hk => by
  have hq := hn _ (gE_mem (show k < es.length by omega))
  rw [hP, ← sum_hP hn P h k (by omega)]
  have : (fun x => h x * sP es P x (k + 1)) = fun x => h x * sP es P x k + (P k * (h x * dl (gE es k).1 x) + (-P k) * (h x * dl (gE es k).2 x)) := funext fun x => by
   rw [sP, Int.mul_add]
   congr 1
   rw [Int.mul_sub, Int.mul_sub, ← Int.mul_assoc, ← Int.mul_assoc, Int.mul_comm (h x) (P k), Int.mul_assoc, Int.mul_assoc, Int.neg_mul]; omega
  rw [this, sumC_addf, sumC_addf, sumC_scale, sumC_scale, sumC_hdl h hq.1, sumC_hdl h hq.2, Int.mul_sub, Int.neg_mul]; omega
def hS (N : Nat) (es : List Ed) (h : Nat → Int) : Int := sumC (List.range N) fun x => h x * sur es x
def sumP (P : Nat → Int) : Nat → Int
 | 0 => 0
 | k + 1 => sumP P k + P k
theorem hS_hP {N : Nat} {es : List Ed} (hn : ∀ q ∈ es, q.1 < N ∧ q.2 < N) {P : Nat → Int} (hz : ∀ x, x < N → sF es P x = 0) (h : Nat → Int) : hS N es h = - hP es P h es.length := by
 have h1 : sumC (List.range N) (fun x => h x * sF es P x) = 0 := sumC_zero fun x hx => by rw [hz x (List.mem_range.1 hx), Int.mul_zero]
 have h2 : (fun x => h x * sF es P x) = fun x => h x * sur es x + h x * sP es P x es.length := funext fun x => by rw [sF, Int.mul_add]
 rw [h2, sumC_addf, sum_hP hn P h _ (Nat.le_refl _)] at h1
 unfold hS; omega
theorem hP_le {es : List Ed} {P h : Nat → Int} (hp : ∀ i, 0 ≤ P i) (hh : ∀ i, i < es.length → h (gE es i).2 ≤ h (gE es i).1 + 1) : ∀ k, k ≤ es.length → - hP es P h k ≤ sumP P k
 | 0, _ => by simp [hP, sumP]
 | k + 1, hk => by
  have h1 := hP_le hp hh k (by omega)
  have h2 := hh k (by omega)
  have h3 : P k * (h (gE es k).1 - h (gE es k).2) ≥ P k * (-1) := Int.mul_le_mul_of_nonneg_left (by omega) (hp k)
  rw [hP, sumP]; omega
theorem hP_eq {es : List Ed} {P h : Nat → Int} (hp : ∀ i, 0 ≤ P i) (hh : ∀ i, i < es.length → 0 < P i → h (gE es i).2 = h (gE es i).1 + 1) : ∀ k, k ≤ es.length → - hP es P h k = sumP P k
 | 0, _ => by simp [hP, sumP]
 | k + 1, hk => by
  have h1 := hP_eq hp hh k (by omega)
  rw [hP, sumP]
  by_cases h0 : 0 < P k
  ·rw [hh k (by omega) h0, show h (gE es k).1 - (h (gE es k).1 + 1) = -1 by omega]; omega
  ·have : P k = 0 := by have := hp k; omega
   rw [this, Int.zero_mul]; omega
theorem weak {N : Nat} {es : List Ed} (hn : ∀ q ∈ es, q.1 < N ∧ q.2 < N) {P h : Nat → Int} (hz : ∀ x, x < N → sF es P x = 0) (hp : ∀ i, 0 ≤ P i) (hh : ∀ e ∈ es, h e.2 ≤ h e.1 + 1) : hS N es h ≤ sumP P es.length := by
 rw [hS_hP hn hz h]
 exact hP_le hp (fun i hi => hh _ (gE_mem hi)) _ (Nat.le_refl _)
theorem tight {N : Nat} {es : List Ed} (hn : ∀ q ∈ es, q.1 < N ∧ q.2 < N) {P h : Nat → Int} (hz : ∀ x, x < N → sF es P x = 0) (hp : ∀ i, 0 ≤ P i) (hpot : Pot (arcs es P es.length) h) : hS N es h = sumP P es.length := by
 have h1 := pot_arcs.1 hpot
 rw [hS_hP hn hz h]
 exact hP_eq hp (fun i hi h0 => by have := h1 i hi; have := this.2 h0; omega) _ (Nat.le_refl _)
theorem sF_sum {N : Nat} {es : List Ed} (hn8 : N ≤ 8) (hn : ∀ q ∈ es, q.1 < N ∧ q.2 < N) (P : Nat → Int) : sumC (List.range 8) (sF es P) = 0 := by
 have hn' : ∀ q ∈ es, q.1 < 8 ∧ q.2 < 8 := fun q hq => by have := hn q hq; omega
 have h1 := sur_sum hn'
 have h2 := sum_hP hn' P (fun _ => 1) es.length (Nat.le_refl _)
 have h3 : ∀ k, hP es P (fun _ => 1) k = 0 := fun k => by
  induction k with
  | zero => rfl
  | succ k ih => rw [hP, ih]; simp
 rw [h3] at h2
 have h4 : sF es P = fun x => sur es x + 1 * sP es P x es.length := funext fun x => by rw [sF, Int.one_mul]
 rw [h4, sumC_addf, h1, h2]; rfl
theorem sF_big {N : Nat} {es : List Ed} (hn : ∀ q ∈ es, q.1 < N ∧ q.2 < N) (P : Nat → Int) {x : Nat} (hx : N ≤ x) : sF es P x = 0 :=
 sF_off P fun h => by have := tch_lt hn h; omega
structure CInv (es : List Ed) (P : Nat → Int) : Prop where
 nn : ∀ i, 0 ≤ P i
 pot : ∃ h B, Pot (arcs es P es.length) h ∧ ∀ v, -B ≤ h v ∧ h v ≤ B
theorem cinv_zero (es : List Ed) : CInv es fun _ => 0 := ⟨fun _ => Int.le_refl _, fun _ => 0, 0, pot_arcs.2 fun i _ => ⟨by simp, fun h => by omega⟩, fun _ => ⟨Int.le_refl _, Int.le_refl _⟩⟩
def fin0 (es : List Ed) (P : Nat → Int) (N : Nat) (d0 : Nat → Int) : Dst := itr (arcs es P es.length) ⟨d0, fun _ => 0⟩ (2 * N)
theorem fin_fix {N : Nat} {es : List Ed} (hn1 : 1 ≤ N) (hn : ∀ q ∈ es, q.1 < N ∧ q.2 < N) {P : Nat → Int} (hi : CInv es P) {d0 : Nat → Int} {D : Int} (hd : ∀ v, -D ≤ d0 v ∧ d0 v ≤ D) :
  BInv (arcs es P es.length) d0 (fin0 es P N d0) ∧ Fix (arcs es P es.length) (fin0 es P N d0).d ∧ ∃ B, ∀ v, -B ≤ (fin0 es P N d0).d v ∧ (fin0 es P N d0).d v ≤ B := by
 obtain ⟨h, B, hp, hB⟩ := hi.pot
 have hm : ∀ v, -D - B ≤ d0 v - h v := fun v => by have := hd v; have := hB v; omega
 obtain ⟨h1, h2⟩ := bf_fix (N := N) (n := 2 * N) (arcs_ids es P _) hp (fun a ha => (arcs_lt hn ha).1) (fun a ha => (arcs_lt hn ha).2) hm (by omega)
 refine ⟨h1, h2, D + B + B, fun v => ?_⟩
 have h3 := low_itr hp (s := ⟨d0, fun _ => 0⟩) hm (2 * N) v
 have h4 := h1.le0 v
 have := hd v; have := hB v
 unfold fin0
 unfold fin0 at h4
 omega
theorem near {N : Nat} {es : List Ed} (hn1 : 1 ≤ N) (hn8 : N ≤ 8) (hn : ∀ q ∈ es, q.1 < N ∧ q.2 < N) {P : Nat → Int} (hi : CInv es P) {d0 : Nat → Int} (hd : ∀ v, d0 v = 0 ∨ d0 v = 1000) {v : Nat} (hv : v < N) (hl : (fin0 es P N d0).d v < 900) :
  (fin0 es P N d0).d v ≤ 7 ∧ ∃ l, Chn (arcs es P es.length) (fin0 es P N d0).b v l ∧ l.length ≤ 7 ∧ d0 (rootOf v l) = 0 := by
 obtain ⟨h1, h2, _⟩ := fin_fix hn1 hn hi (D := 1000) (d0 := d0) fun v => by rcases hd v with h | h <;> omega
 obtain ⟨l, hl'⟩ := h1.chn v
 have h3 := chn_len (arcs_ids es P _) (fun a ha => (arcs_lt hn ha).1) hv hl'
 have h4 := chn_dn (arcs_ids es P _) h1 (fun a ha => (arcs_cost ha).1) hl'
 have h5 := chn_up h2 (fun a ha => (arcs_cost ha).2) hl'
 have h6 := h1.root _ (chn_root hl')
 have h7 := hd (rootOf v l)
 refine ⟨by omega, l, hl', by omega, by omega⟩
theorem near_rch {N : Nat} {es : List Ed} (hn1 : 1 ≤ N) (hn8 : N ≤ 8) (hn : ∀ q ∈ es, q.1 < N ∧ q.2 < N) {P : Nat → Int} (hi : CInv es P) {d0 : Nat → Int} (hd : ∀ v, d0 v = 0 ∨ d0 v = 1000) {r v : Nat} (hr : d0 r = 0) (h : Rch es r v) : (fin0 es P N d0).d v < 900 := by
 obtain ⟨h1, h2, _⟩ := fin_fix hn1 hn hi (D := 1000) (d0 := d0) fun v => by rcases hd v with h | h <;> omega
 have := h (fun x => decide ((fin0 es P N d0).d x < 900)) (fun e he hx => by
  simp only [decide_eq_true_eq] at hx ⊢
  have := near hn1 hn8 hn hi hd (hn e he).1 hx
  obtain ⟨i, hi', rfl⟩ := gE_of he
  have := h2 ⟨_, _, 1, (i : Int) + 1⟩ (mem_arcs.2 ⟨i, hi', .inl rfl⟩)
  simp only at this
  omega) (by
  have := h1.le0 r
  simp only [decide_eq_true_eq]; omega)
 simpa using this
def dst0 (N : Nat) (s : Nat → Int) (x : Nat) : Int := if x < N ∧ s x < 0 then 0 else 1000
theorem dst0_or (N : Nat) (s : Nat → Int) (x : Nat) : dst0 N s x = 0 ∨ dst0 N s x = 1000 := by unfold dst0; split <;> simp
theorem close_round {N : Nat} {es : List Ed} (hn1 : 1 ≤ N) (hn8 : N ≤ 8) (hn : ∀ q ∈ es, q.1 < N ∧ q.2 < N) {P : Nat → Int} (hi : CInv es P) {t : Nat} (ht : 0 < sF es P t) {l : List Arc}
  (hl : Chn (arcs es P es.length) (fin0 es P N (dst0 N (sF es P))).b t l) (hroot : dst0 N (sF es P) (rootOf t l) = 0) :
  CInv es (run l P) ∧ (∀ j, run l P j ≤ P j + 1) ∧ upU (sF es (run l P)) 8 + 1 = upU (sF es P) 8 ∧ ∀ x, sF es (run l P) x = sF es P x + dl (rootOf t l) x - dl t x := by
 have htN := tch_lt hn (sF_tch (show sF es P t ≠ 0 by omega))
 obtain ⟨h1, h2, B, h3⟩ := fin_fix hn1 hn hi (D := 1000) (d0 := dst0 N (sF es P)) fun v => by rcases dst0_or N (sF es P) v with h | h <;> omega
 have hids := arcs_ids es P es.length
 have hsr : sF es P (rootOf t l) < 0 := by
  unfold dst0 at hroot
  split at hroot
  ·next h => exact h.2
  ·omega
 have hrt : rootOf t l ≠ t := fun h => by rw [h] at hsr; omega
 have hs := sF_run hl P
 have hval : ∀ j, 0 ≤ run l P j ∧ run l P j ≤ P j + 1 := fun j => by
  rw [run_val]
  have c1 := chn_cnt hids hl ((j : Int) + 1)
  have c2 := chn_cnt hids hl (-(j : Int) - 1)
  have n1 := cnt_nonneg' ((j : Int) + 1) l
  have n2 := cnt_nonneg' (-(j : Int) - 1) l
  have n3 := hi.nn j
  refine ⟨?_, by omega⟩
  by_cases h0 : 0 < cnt (-(j : Int) - 1) l
  ·obtain ⟨a, ha, hid⟩ := c2.2 h0
   obtain ⟨haA, hb⟩ := chn_mem hl a ha
   obtain ⟨i, hi', rfl | ⟨hp, rfl⟩⟩ := mem_arcs.1 haA
   ·simp only at hid; omega
   ·simp only at hid
    obtain rfl : i = j := by omega
    omega
  ·omega
 refine ⟨⟨fun j => (hval j).1, (fin0 es P N (dst0 N (sF es P))).d, B, pot_arcs.2 fun i hi' => ⟨?_, fun hp => ?_⟩, h3⟩, fun j => (hval j).2, ?_, hs⟩
 ·exact h2 ⟨_, _, 1, (i : Int) + 1⟩ (mem_arcs.2 ⟨i, hi', .inl rfl⟩)
 ·by_cases h0 : 0 < P i
  ·have := h2 ⟨_, _, -1, -(i : Int) - 1⟩ (mem_arcs.2 ⟨i, hi', .inr ⟨h0, rfl⟩⟩)
   simp only at this
   omega
  ·rw [run_val] at hp
   have n2 := cnt_nonneg' (-(i : Int) - 1) l
   obtain ⟨a, ha, hid⟩ := (chn_cnt hids hl ((i : Int) + 1)).2 (by omega)
   obtain ⟨haA, hb⟩ := chn_mem hl a ha
   have htg := par_tight hids h1 h2 haA hb
   obtain ⟨i', hi2, rfl | ⟨hp2, rfl⟩⟩ := mem_arcs.1 haA
   ·simp only at hid htg
    obtain rfl : i' = i := by omega
    omega
   ·simp only at hid; omega
 ·have key : ∀ v, upU (sF es (run l P)) v + (if t < v then 1 else 0) = upU (sF es P) v := fun v => by
   induction v with
   | zero => simp [upU]
   | succ v ih =>
    simp only [upU]
    have hv := hs v
    by_cases h1 : v = t
    ·subst h1
     rw [dl_self, dl_ne hrt] at hv
     rw [if_neg (Nat.lt_irrefl v)] at ih
     rw [if_pos (Nat.lt_succ_self v), if_pos ht]
     split <;> omega
    ·rw [dl_ne (Ne.symm h1)] at hv
     have e : (if t < v + 1 then (1 : Int) else 0) = if t < v then 1 else 0 := by
      by_cases h2 : t < v
      ·rw [if_pos h2, if_pos (by omega)]
      ·rw [if_neg h2, if_neg (by omega)]
     rw [e]
     by_cases h2 : v = rootOf t l
     ·subst h2
      rw [dl_self] at hv
      rw [if_neg (show ¬ 0 < sF es (run l P) (rootOf t l) by omega), if_neg (show ¬ 0 < sF es P (rootOf t l) by omega)]
      omega
     ·rw [dl_ne (Ne.symm h2)] at hv
      rw [show sF es (run l P) v = sF es P v by omega]
      omega
  have := key 8
  rw [if_pos (by omega)] at this
  exact this
theorem both {N : Nat} {es : List Ed} (hn8 : N ≤ 8) (hn : ∀ q ∈ es, q.1 < N ∧ q.2 < N) {P : Nat → Int} {x : Nat} (hx : sF es P x ≠ 0) : (∃ t, t < N ∧ 0 < sF es P t) ∧ ∃ r, r < N ∧ sF es P r < 0 := by
 have hs := sF_sum hn8 hn P
 have hxN := tch_lt hn (sF_tch hx)
 have hu := upU_sum (sF es P) 8
 rw [hs] at hu
 have n1 := upU_nonneg (sF es P) 8
 have key : ∀ (s : Nat → Int) (v : Nat), 0 < upU s v → ∃ t, t < v ∧ 0 < s t := fun s v => by
  induction v with
  | zero => intro h; simp [upU] at h
  | succ v ih =>
   intro h
   simp only [upU] at h
   by_cases hv : 0 < s v
   ·exact ⟨v, by omega, hv⟩
   ·rw [if_neg hv, Int.add_zero] at h
    obtain ⟨t, h1, h2⟩ := ih h
    exact ⟨t, by omega, h2⟩
 have hpos : 0 < upU (sF es P) 8 := by
  have g1 := upU_ge (s := sF es P) (show x < 8 by omega)
  have g2 : - sF es P x ≤ upU (fun y => - sF es P y) 8 := upU_ge (s := fun y => - sF es P y) (show x < 8 by omega)
  omega
 obtain ⟨t, t1, t2⟩ := key _ _ hpos
 obtain ⟨r, r1, r2⟩ := key (fun y => - sF es P y) 8 (by omega)
 have r2 : 0 < - sF es P r := r2
 exact ⟨⟨t, tch_lt hn (sF_tch (show sF es P t ≠ 0 by omega)), t2⟩, r, tch_lt hn (sF_tch (show sF es P r ≠ 0 by omega)), by omega⟩
theorem sF_box {N : Nat} {es : List Ed} (hn8 : N ≤ 8) (hn : ∀ q ∈ es, q.1 < N ∧ q.2 < N) (P : Nat → Int) (x : Nat) : - upU (sF es P) 8 ≤ sF es P x ∧ sF es P x ≤ upU (sF es P) 8 := by
 have hs := sF_sum hn8 hn P
 have hu := upU_sum (sF es P) 8
 rw [hs] at hu
 by_cases hx : x < 8
 ·have g1 := upU_ge (s := sF es P) hx
  have g2 : - sF es P x ≤ upU (fun y => - sF es P y) 8 := upU_ge (s := fun y => - sF es P y) hx
  omega
 ·have n1 := upU_nonneg (sF es P) 8
  rw [sF_big hn P (by omega)]; omega
theorem upU_len {es : List Ed} (hn8 : ∀ q ∈ es, q.1 < 8 ∧ q.2 < 8) : upU (sur es) 8 ≤ es.length := by
 have h1 : ∀ v, upU (sur es) v ≤ sumC (List.range v) fun a => (od es a : Int) := fun v => by
  induction v with
  | zero => simp [upU, sumC]
  | succ v ih =>
   rw [List.range_succ, sumC_app]
   simp only [upU, sumC]
   have : sur es v ≤ od es v := by rw [sur_def]; omega
   split <;> omega
 have h2 := h1 8
 rw [od_all hn8] at h2
 exact h2
theorem close_some {N : Nat} {es : List Ed} (hn1 : 1 ≤ N) (hn8 : N ≤ 8) (hn : ∀ q ∈ es, q.1 < N ∧ q.2 < N) (hc : Clo es) {P : Nat → Int} (hi : CInv es P) {t : Nat} (ht : 0 < sF es P t) :
  (fin0 es P N (dst0 N (sF es P))).d t ≤ 7 ∧ ∃ l, Chn (arcs es P es.length) (fin0 es P N (dst0 N (sF es P))).b t l ∧ l.length ≤ 7 ∧ dst0 N (sF es P) (rootOf t l) = 0 := by
 obtain ⟨_, r, hr, hr2⟩ := both hn8 hn (show sF es P t ≠ 0 by omega)
 have htt := sF_tch (show sF es P t ≠ 0 by omega)
 have hrt := sF_tch (show sF es P r ≠ 0 by omega)
 have h0 : dst0 N (sF es P) r = 0 := by unfold dst0; rw [if_pos ⟨hr, hr2⟩]
 have h1 := near_rch hn1 hn8 hn hi (dst0_or N _) h0 (clo_tch hc hrt htt)
 exact near hn1 hn8 hn hi (dst0_or N _) (tch_lt hn htt) h1
theorem heights {N : Nat} {es : List Ed} (hn1 : 1 ≤ N) (hn8 : N ≤ 8) (hn : ∀ q ∈ es, q.1 < N ∧ q.2 < N) {P : Nat → Int} (hi : CInv es P) :
  Pot (arcs es P es.length) (fin0 es P N fun _ => 0).d ∧ ∀ v, v < N → -7 ≤ (fin0 es P N fun _ => 0).d v ∧ (fin0 es P N fun _ => 0).d v ≤ 0 := by
 obtain ⟨h1, h2, _⟩ := fin_fix hn1 hn hi (D := 0) (d0 := fun _ => 0) fun v => by simp
 refine ⟨h2, fun v hv => ⟨?_, h1.le0 v⟩⟩
 obtain ⟨l, hl⟩ := h1.chn v
 have h3 := chn_len (arcs_ids es P _) (fun a ha => (arcs_lt hn ha).1) hv hl
 have h4 := chn_dn (arcs_ids es P _) h1 (fun a ha => (arcs_cost ha).1) hl
 have h6 := h1.root _ (chn_root hl)
 omega
theorem hS_shift {N : Nat} {es : List Ed} (hn8 : N ≤ 8) (hn : ∀ q ∈ es, q.1 < N ∧ q.2 < N) (h : Nat → Int) (c : Int) : hS N es (fun x => h x - c) = hS N es h := by
 have hs : sumC (List.range N) (sur es) = 0 := by
  have h1 := sF_sum hn8 hn fun _ => 0
  rw [sF_zero] at h1
  have : ∀ k, N + k ≤ 8 → sumC (List.range (N + k)) (sur es) = sumC (List.range N) (sur es) := fun k => by
   induction k with
   | zero => intro _; rfl
   | succ k ih =>
    intro hk
    rw [← Nat.add_assoc, List.range_succ, sumC_app, ih (by omega)]
    have : sur es (N + k) = 0 := by have := sF_big hn (fun _ => 0) (show N ≤ N + k by omega); rwa [sF_zero] at this
    simp only [sumC, this]; omega
  have := this (8 - N) (by omega)
  rw [show N + (8 - N) = 8 by omega] at this
  omega
 unfold hS
 have : (fun x => (h x - c) * sur es x) = fun x => h x * sur es x + (-c) * sur es x := funext fun x => by rw [Int.sub_mul, Int.neg_mul]; omega
 rw [this, sumC_addf, sumC_scale, hs]; omega
end Go.Ev.YtjcabpldgdafeaaC
