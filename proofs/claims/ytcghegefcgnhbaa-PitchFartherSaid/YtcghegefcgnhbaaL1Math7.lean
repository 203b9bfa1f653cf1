/- What lies between two neighbours; paths that are accepted; one step more. In plain mathematics: no program in sight. No condition. -/
import Derived.Test.YtcghegefcgnhbaaL1Math4
import Derived.Test.YtcghegefcgnhbaaL1Math5
set_option linter.unusedSimpArgs false
set_option linter.unusedVariables false
namespace Go.Ev

/-! ### between two neighbours: the simplest one -/
theorem med_next {x a b : Frac} {m : Int} (h : Nb x m a b) (hx : Prim x) (hp : 0 ≤ x.num) (hq : 0 < x.den) {M : Nat} (hM : (M : Int) = a.den + b.den) :
    (x = ⟨a.num + b.num, a.den + b.den⟩ ∧ lowN x M = x ∧ highN x M = x) ∨ (lowN x M = ⟨a.num + b.num, a.den + b.den⟩ ∧ highN x M = b) ∨ (lowN x M = a ∧ highN x M = ⟨a.num + b.num, a.den + b.den⟩) := by
  have a1 := h.l1
  have b1 := h.h1
  have l1 := h.lt1
  have l2 := h.lt2
  have hdet := h.det
  have n0 := h.n0
  have hb0 : 0 ≤ b.num := by
    refine Classical.byContradiction fun hlt => ?_
    have h6 : b.num * x.den ≤ (-1) * x.den := Int.mul_le_mul_of_nonneg_right (by omega) (by omega)
    have h7 := Int.mul_nonneg hp (show 0 ≤ b.den by omega)
    omega
  have hge := between_den (by omega) (by omega) hdet l1 l2
  have hm0 : 0 < M := by omega
  have mdp : Prim ⟨a.num + b.num, a.den + b.den⟩ := by
    refine prim_of_fst (by simp only; omega) (by simp only; omega) fun c e h0 h1 h2 h3 => ?_
    simp only at h2 h3
    obtain ⟨k, hk⟩ := nb_dvd (a := a.num + b.num) (b := a.den + b.den) (c := b.num) (d := b.den) (n := c) (e := e) (by grind) (by omega)
    have : 1 ≤ k := by
      refine Classical.byContradiction fun hlt => ?_
      have h6 : (a.den + b.den) * k ≤ (a.den + b.den) * 0 := mul_le (by omega) (by omega)
      omega
    have := le_mul (c := a.den + b.den) (by omega) this
    omega
  by_cases he : (a.num + b.num) * x.den = x.num * (a.den + b.den)
  · left
    have hxm : x = ⟨a.num + b.num, a.den + b.den⟩ := prim_eq hx mdp hp hq (by simp only; omega) (by simp only; omega) (by simp only; omega)
    have hxd : x.den = a.den + b.den := by rw [hxm]
    exact ⟨hxm, next_self hx hp hm0 hq (by omega)⟩
  · right
    have hlt : (M : Int) < x.den := by
      refine Classical.byContradiction fun hn => ?_
      have hq' : x.den = a.den + b.den := by omega
      apply he
      have e : x.den = a.den * (b.num * x.den - x.num * b.den) + b.den * (x.num * a.den - a.num * x.den) := by grind
      have u1 : 1 ≤ b.num * x.den - x.num * b.den := by omega
      have v1 : 1 ≤ x.num * a.den - a.num * x.den := by omega
      have eu : b.num * x.den - x.num * b.den = 1 := by
        refine Classical.byContradiction fun hne => ?_
        have h3 : a.den * 2 ≤ a.den * (b.num * x.den - x.num * b.den) := mul_le (by omega) (by omega)
        have h4 := le_mul (c := b.den) (by omega) v1
        omega
      have ev : x.num * a.den - a.num * x.den = 1 := by
        refine Classical.byContradiction fun hne => ?_
        have h3 : b.den * 2 ≤ b.den * (x.num * a.den - a.num * x.den) := mul_le (by omega) (by omega)
        have h4 := le_mul (c := a.den) (by omega) u1
        omega
      grind
    rcases Int.lt_or_gt_of_ne he with h1 | h1
    · left
      have hn : Nb x M ⟨a.num + b.num, a.den + b.den⟩ b := ⟨by simp only; omega, by simp only; omega, b1, by omega, by simp only; omega, by simp only; grind, by simp only; omega, h1, l2⟩
      obtain ⟨e1, e2⟩ := beside_eq hm0 hx hp hq (.inr hn)
      exact ⟨e1.symm, e2.symm⟩
    · right
      have hn : Nb x M a ⟨a.num + b.num, a.den + b.den⟩ := ⟨a1, by omega, by simp only; omega, by simp only; omega, n0, by simp only; grind, by simp only; omega, l1, h1⟩
      obtain ⟨e1, e2⟩ := beside_eq hm0 hx hp hq (.inr hn)
      exact ⟨e1.symm, e2.symm⟩

/-! ### paths are of the kind that is accepted -/
theorem path_pos : ∀ (b a : Nat), 0 < b → b < a → Nat.gcd a b = 1 → (∀ n ∈ pathN a b, 0 < n) ∧ pathN a b ≠ [] := by
  intro b
  induction b using Nat.strongRecOn with
  | _ b ih =>
    intro a hb hlt hg
    unfold pathN
    by_cases hr : a % b = 0
    · have h1 : b ∣ a := Nat.dvd_of_mod_eq_zero hr
      have h2 : Nat.gcd a b = b := Nat.gcd_eq_right h1
      obtain rfl : b = 1 := by omega
      have e : cf a 1 = [a] := by rw [cf_pos (by omega), Nat.mod_one, cf_zero, Nat.div_one]
      rw [e]
      simp only [fixL]
      rw [if_neg (by omega)]
      exact ⟨fun n hn => by simp at hn; omega, by simp⟩
    · have h1 := Nat.mod_lt a hb
      have hg' : Nat.gcd b (a % b) = 1 := by
        rw [Nat.gcd_comm, ← Nat.gcd_rec, Nat.gcd_comm]
        exact hg
      obtain ⟨i1, _⟩ := ih (a % b) h1 b (by omega) h1 hg'
      rw [cf_pos hb, fixL_cons (cf_ne (by omega))]
      refine ⟨fun n hn => ?_, by simp⟩
      rcases List.mem_cons.1 hn with rfl | hn
      · exact (Nat.one_le_div_iff hb).2 (by omega)
      · exact i1 n hn
theorem path_one : pathN 1 1 = [] := by unfold pathN; rw [cf_pos (by omega), show 1 % 1 = 0 from rfl, cf_zero]; rfl
theorem path_ok {u v : Nat} (hu : 0 < u) (hv : 0 < v) (hg : Nat.gcd u v = 1) : pathOk (pathN u v) ∧ (pathN u v = [] → u = 1 ∧ v = 1) := by
  have pos : ∀ L : List Nat, (∀ n ∈ L, 0 < n) → pathOk L := fun L h => by
    match L with
    | [] => trivial
    | [n] => exact h n (by simp)
    | a :: b :: r => exact fun m hm => h m (List.mem_cons_of_mem _ hm)
  rcases Nat.lt_trichotomy u v with h | h | h
  · obtain ⟨h1, h2⟩ := path_pos u v hu h (by rw [Nat.gcd_comm]; exact hg)
    rw [path_turned hu h]
    refine ⟨?_, by simp⟩
    generalize pathN v u = L at *
    cases L with
    | nil => exact (h2 rfl).elim
    | cons b r => exact h1
  · subst h
    obtain rfl := one_of_eq hg
    rw [path_one]
    exact ⟨trivial, fun _ => ⟨rfl, rfl⟩⟩
  · obtain ⟨h1, h2⟩ := path_pos v u hv h hg
    exact ⟨pos _ h1, fun h => (h2 h).elim⟩
theorem path_length {u v : Nat} (hv : v < 2 ^ 14) : (pathN u v).length ≤ 28 := Nat.le_trans (fixL_length _) (cf_length 14 u v hv)
theorem path_le {u v N : Nat} (hu : u ≤ N) (hv : v ≤ N) : ∀ n ∈ pathN u v, n ≤ N := fixL_le _ (cf_le N u v hu hv)

/-! ### one step more -/
theorem walkB_append : ∀ (P Q : List Int) (i : Nat) (s : Bd), walkB i (P ++ Q) s = walkB (i + P.length) Q (walkB i P s)
  | [], Q, i, s => by simp [walkB]
  | n :: P, Q, i, s => by
    rw [List.cons_append, walkB, walkB, walkB_append P Q, List.length_cons]
    congr 1
    omega
theorem walk_more (P : List Int) (n : Int) : walkB 0 (P ++ [n + 1]) wholeB = (walkB 0 (P ++ [n]) wholeB).mv (P.length % 2 == 1) 1 := by
  rw [walkB_append, walkB_append]
  simp only [walkB, Nat.zero_add, Bd.mv_succ]
theorem walk_other (P : List Int) : walkB 0 (P ++ [1]) wholeB = (walkB 0 P wholeB).mv (P.length % 2 == 1) 1 := by
  rw [walkB_append]
  simp only [walkB, Nat.zero_add]

/-- a step to the right, and one to the left -/
theorem mv_sides {s : Bd} (h : s.NN) (hd : s.det = 1) : gapF s.sum (s.mv false 1).sum = 1 ∧ gapF (s.mv true 1).sum s.sum = 1 ∧ s.sum.num ≤ (s.mv false 1).sum.num ∧ (s.mv false 1).sum.num ≤ 2 * s.sum.num ∧ s.sum.den ≤ (s.mv false 1).sum.den ∧ (s.mv false 1).sum.den ≤ 2 * s.sum.den ∧
    s.sum.num ≤ (s.mv true 1).sum.num ∧ (s.mv true 1).sum.num ≤ 2 * s.sum.num ∧ s.sum.den ≤ (s.mv true 1).sum.den ∧ (s.mv true 1).sum.den ≤ 2 * s.sum.den ∧
    s.sum.num + s.sum.den < (s.mv false 1).sum.num + (s.mv false 1).sum.den ∧ s.sum.num + s.sum.den < (s.mv true 1).sum.num + (s.mv true 1).sum.den := by
  have a0 := h.a
  have b0 := h.b
  have c0 := h.c
  have d0 := h.d
  have p1 : 0 < s.c + s.d := by
    refine Classical.byContradiction fun hn => ?_
    have e1 : s.c = 0 := by omega
    have e2 : s.d = 0 := by omega
    simp [Bd.det, e1, e2] at hd
  have p2 : 0 < s.a + s.b := by
    refine Classical.byContradiction fun hn => ?_
    have e1 : s.a = 0 := by omega
    have e2 : s.b = 0 := by omega
    simp [Bd.det, e1, e2] at hd
  simp only [Bd.det] at hd
  simp only [gapF, Bd.sum, Bd.mv, Bool.false_eq_true, if_false, if_true, Int.one_mul]
  refine ⟨by grind, by grind, ?_⟩
  omega

end Go.Ev
