/- Walking a path, and the way back, in plain mathematics: no program in sight. No condition. -/
import Derived.Test.YtcghegefcgnhbaaL1Math1
import Derived.Test.YtcghegefcgnhbaaL1Math3
set_option linter.unusedSimpArgs false
set_option linter.unusedVariables false
namespace Go.Ev

/-! ### walking: bounds move -/
structure Bd where
  a : Int
  b : Int
  c : Int
  d : Int
def Bd.mv (s : Bd) (left : Bool) (n : Int) : Bd := if left then ⟨s.a, s.b, s.c + n * s.a, s.d + n * s.b⟩ else ⟨s.a + n * s.c, s.b + n * s.d, s.c, s.d⟩
def wholeB : Bd := ⟨0, 1, 1, 0⟩
def walkB : Nat → List Int → Bd → Bd
  | _, [], s => s
  | i, n :: r, s => walkB (i + 1) r (s.mv (i % 2 == 1) n)

structure Bd.NN (s : Bd) : Prop where
  a : 0 ≤ s.a
  b : 0 ≤ s.b
  c : 0 ≤ s.c
  d : 0 ≤ s.d
theorem Bd.NN.mv {s : Bd} (h : s.NN) {n : Int} (hn : 0 ≤ n) (left : Bool) : (s.mv left n).NN := by
  have h1 := Int.mul_nonneg hn h.a
  have h2 := Int.mul_nonneg hn h.b
  have h3 := Int.mul_nonneg hn h.c
  have h4 := Int.mul_nonneg hn h.d
  have := h.a
  have := h.b
  have := h.c
  have := h.d
  cases left <;> constructor <;> simp [Bd.mv] <;> omega
structure Bd.LE (s t : Bd) : Prop where
  a : s.a ≤ t.a
  b : s.b ≤ t.b
  c : s.c ≤ t.c
  d : s.d ≤ t.d
theorem Bd.NN.le {s : Bd} (h : s.NN) {n : Int} (hn : 0 ≤ n) (left : Bool) : s.LE (s.mv left n) := by
  have h1 := Int.mul_nonneg hn h.a
  have h2 := Int.mul_nonneg hn h.b
  have h3 := Int.mul_nonneg hn h.c
  have h4 := Int.mul_nonneg hn h.d
  cases left <;> constructor <;> simp [Bd.mv] <;> omega
theorem walkB_le : ∀ (L : List Int) (i : Nat) (s : Bd), s.NN → (∀ n ∈ L, 0 ≤ n) → s.LE (walkB i L s) ∧ (walkB i L s).NN
  | [], i, s, h, _ => ⟨⟨Int.le_refl _, Int.le_refl _, Int.le_refl _, Int.le_refl _⟩, h⟩
  | n :: r, i, s, h, hn => by
    have hn0 := hn n (by simp)
    obtain ⟨h1, h2⟩ := walkB_le r (i + 1) (s.mv (i % 2 == 1) n) (h.mv hn0 _) fun m hm => hn m (List.mem_cons_of_mem _ hm)
    have h3 := h.le hn0 (i % 2 == 1)
    exact ⟨⟨Int.le_trans h3.a h1.a, Int.le_trans h3.b h1.b, Int.le_trans h3.c h1.c, Int.le_trans h3.d h1.d⟩, h2⟩
theorem wholeB_nn : wholeB.NN := by constructor <;> simp [wholeB]
def Bd.det (s : Bd) : Int := s.c * s.b - s.a * s.d
theorem Bd.mv_det (s : Bd) (left : Bool) (n : Int) : (s.mv left n).det = s.det := by
  cases left <;> simp only [Bd.mv, Bd.det, if_true, if_false, Bool.false_eq_true] <;> grind
theorem walkB_det : ∀ (L : List Int) (i : Nat) (s : Bd), (walkB i L s).det = s.det
  | [], _, _ => rfl
  | n :: r, i, s => by rw [walkB, walkB_det r, Bd.mv_det]
theorem Bd.mv_succ (s : Bd) (left : Bool) (n : Int) : (s.mv left n).mv left 1 = s.mv left (n + 1) := by
  cases left <;> simp only [Bd.mv, if_true, if_false, Bool.false_eq_true, Bd.mk.injEq] <;> refine ⟨?_, ?_, ?_, ?_⟩ <;> grind
theorem Bd.mv_zero (s : Bd) (left : Bool) : s.mv left 0 = s := by
  cases left <;> simp [Bd.mv]
def Bd.sum (s : Bd) : Frac := ⟨s.a + s.c, s.b + s.d⟩
theorem sum_prim {s : Bd} (h : s.NN) (hd : s.det = 1) : Nat.gcd s.sum.num.toNat s.sum.den.toNat = 1 := by
  have a0 := h.a
  have b0 := h.b
  have c0 := h.c
  have d0 := h.d
  have e : s.sum.num * s.b - s.a * s.sum.den = 1 := by
    simp only [Bd.det] at hd
    simp only [Bd.sum]
    grind
  have g1 := Nat.gcd_dvd_left s.sum.num.toNat s.sum.den.toNat
  have g2 := Nat.gcd_dvd_right s.sum.num.toNat s.sum.den.toNat
  have n0 : 0 ≤ s.sum.num := by simp only [Bd.sum]; omega
  have m0 : 0 ≤ s.sum.den := by simp only [Bd.sum]; omega
  generalize Nat.gcd s.sum.num.toNat s.sum.den.toNat = g at *
  obtain ⟨x, hx⟩ := g1
  obtain ⟨y, hy⟩ := g2
  have hx' : s.sum.num = (g : Int) * x := by rw [← Int.toNat_of_nonneg n0, hx]; simp
  have hy' : s.sum.den = (g : Int) * y := by rw [← Int.toNat_of_nonneg m0, hy]; simp
  have h1 : (g : Int) * (x * s.b - s.a * y) = 1 := by rw [hx', hy'] at e; grind
  have h2 : (g : Int) ∣ 1 := ⟨_, h1.symm⟩
  have h3 := Int.le_of_dvd (by omega) h2
  have h4 : g ≠ 0 := by
    intro h
    rw [h] at h1
    simp at h1
  omega

/-! ### runs: a list leads from two numbers to 1 and 1 -/
def runs : Nat → List Nat → Nat → Nat → Prop
  | _, [], u, v => u = 1 ∧ v = 1
  | i, n :: L, u, v => if i % 2 = 0 then ∃ u', u = u' + n * v ∧ 0 < u' ∧ 0 < v ∧ runs (i + 1) L u' v else ∃ v', v = v' + n * u ∧ 0 < v' ∧ 0 < u ∧ runs (i + 1) L u v'

theorem runs_path : ∀ (b a : Nat), 0 < a → 0 < b → Nat.gcd a b = 1 → (∀ i, i % 2 = 0 → runs i (fixL (cf a b)) a b) ∧ (∀ i, i % 2 = 1 → runs i (fixL (cf a b)) b a) := by
  intro b
  induction b using Nat.strongRecOn with
  | _ b ih =>
    intro a ha hb hg
    by_cases hr : a % b = 0
    · have h1 : b ∣ a := Nat.dvd_of_mod_eq_zero hr
      have h2 : Nat.gcd a b = b := Nat.gcd_eq_right h1
      obtain rfl : b = 1 := by omega
      have e : cf a 1 = [a] := by rw [cf_pos (by omega), Nat.mod_one, cf_zero, Nat.div_one]
      rw [e]
      simp only [fixL]
      by_cases h : a - 1 = 0
      · obtain rfl : a = 1 := by omega
        rw [if_pos rfl]
        exact ⟨fun i _ => ⟨rfl, rfl⟩, fun i _ => ⟨rfl, rfl⟩⟩
      · rw [if_neg h]
        constructor
        · intro i hi
          simp only [runs]
          rw [if_pos hi]
          exact ⟨1, by omega, by omega, by omega, by simp⟩
        · intro i hi
          simp only [runs]
          rw [if_neg (by omega)]
          exact ⟨1, by omega, by omega, by omega, by simp⟩
    · have h1 := Nat.mod_lt a hb
      have hg' : Nat.gcd b (a % b) = 1 := by
        rw [Nat.gcd_comm, ← Nat.gcd_rec, Nat.gcd_comm]
        exact hg
      obtain ⟨i1, i2⟩ := ih (a % b) h1 b hb (by omega) hg'
      have e : fixL (cf a b) = a / b :: fixL (cf b (a % b)) := by rw [cf_pos hb, fixL_cons (cf_ne (by omega))]
      have hd : a = a % b + a / b * b := by
        have := Nat.div_add_mod a b
        rw [Nat.mul_comm] at this
        omega
      rw [e]
      constructor
      · intro i hi
        simp only [runs]
        rw [if_pos hi]
        exact ⟨a % b, hd, by omega, hb, i2 (i + 1) (by omega)⟩
      · intro i hi
        simp only [runs]
        rw [if_neg (by omega)]
        exact ⟨a % b, hd, by omega, hb, i1 (i + 1) (by omega)⟩

/-- such a list leads there -/
theorem runs_walk : ∀ (L : List Nat) (i u v : Nat) (s : Bd) (X : Frac), runs i L u v → X.num = v * s.a + u * s.c → X.den = v * s.b + u * s.d → (walkB i (L.map fun n : Nat => (n : Int)) s).sum = X
  | [], i, u, v, s, X, h, h1, h2 => by
    obtain ⟨rfl, rfl⟩ := h
    simp only [List.map_nil, walkB, Bd.sum]
    exact Frac.ext' (by simp only; omega) (by simp only; omega)
  | n :: L, i, u, v, s, X, h, h1, h2 => by
    simp only [runs] at h
    rw [List.map_cons, walkB]
    by_cases hi : i % 2 = 0
    · rw [if_pos hi] at h
      obtain ⟨u', rfl, _, _, hr⟩ := h
      have e : (i % 2 == 1) = false := by simp [hi]
      rw [e]
      refine runs_walk L (i + 1) u' v _ X hr ?_ ?_
      · simp only [Bd.mv, Bool.false_eq_true, if_false]
        rw [h1]
        push_cast
        grind
      · simp only [Bd.mv, Bool.false_eq_true, if_false]
        rw [h2]
        push_cast
        grind
    · rw [if_neg hi] at h
      obtain ⟨v', rfl, _, _, hr⟩ := h
      have e : (i % 2 == 1) = true := by simp; omega
      rw [e]
      refine runs_walk L (i + 1) u v' _ X hr ?_ ?_
      · simp only [Bd.mv, if_true]
        rw [h1]
        push_cast
        grind
      · simp only [Bd.mv, if_true]
        rw [h2]
        push_cast
        grind

/-- the way back: a list that leads to 1 and 1 is the path -/
def pathOk : List Nat → Prop
  | [] => True
  | [n] => 0 < n
  | _ :: b :: r => ∀ m ∈ b :: r, 0 < m
theorem pathOk_tail {n : Nat} {L : List Nat} (h : pathOk (n :: L)) : pathOk L ∧ ∀ m ∈ L, 0 < m := by
  cases L with
  | nil => exact ⟨trivial, by simp⟩
  | cons b r =>
    have h' : ∀ m ∈ b :: r, 0 < m := h
    refine ⟨?_, h'⟩
    cases r with
    | nil => exact h' b (by simp)
    | cons c t => exact fun m hm => h' m (List.mem_cons_of_mem _ hm)
theorem runs_cf : ∀ (L : List Nat) (i u v : Nat), pathOk L → 0 < u → 0 < v → runs i L u v → (i % 2 = 0 → fixL (cf u v) = L) ∧ (i % 2 = 1 → fixL (cf v u) = L)
  | [], i, u, v, _, _, _, h => by
    obtain ⟨rfl, rfl⟩ := h
    have : fixL (cf 1 1) = [] := by rw [cf_pos (by omega), show 1 % 1 = 0 from rfl, cf_zero]; rfl
    exact ⟨fun _ => this, fun _ => this⟩
  | n :: L, i, u, v, hp, hu, hv, h => by
    obtain ⟨hp', hpos⟩ := pathOk_tail hp
    have main : ∀ (a b c : Nat), a = c + n * b → 0 < c → 0 < b → (L = [] → c = 1 ∧ b = 1) → (L ≠ [] → c < b ∧ fixL (cf b c) = L) → fixL (cf a b) = n :: L := by
      intro a b c ha hc hb h1 h2
      by_cases hL : L = []
      · obtain ⟨rfl, rfl⟩ := h1 hL
        subst hL
        have hn : 0 < n := hp
        have e : cf a 1 = [a] := by rw [cf_pos (by omega), Nat.mod_one, cf_zero, Nat.div_one]
        rw [e]
        simp only [fixL]
        rw [if_neg (by omega)]
        congr 1
        omega
      · obtain ⟨hlt, he⟩ := h2 hL
        have hd : a / b = n := by
          rw [ha, Nat.add_mul_div_right _ _ hb, Nat.div_eq_of_lt hlt]; omega
        have hm : a % b = c := by rw [ha, Nat.add_mul_mod_self_right, Nat.mod_eq_of_lt hlt]
        rw [cf_pos hb, hd, hm, fixL_cons (cf_ne hc), he]
    simp only [runs] at h
    by_cases hi : i % 2 = 0
    · rw [if_pos hi] at h
      obtain ⟨c, hc, hc0, _, hr⟩ := h
      refine ⟨fun _ => ?_, fun h' => by omega⟩
      refine main u v c hc hc0 hv (fun hL => ?_) (fun hL => ?_)
      · subst hL
        exact hr
      · refine ⟨?_, (runs_cf L (i + 1) c v hp' hc0 hv hr).2 (by omega)⟩
        cases L with
        | nil => exact (hL rfl).elim
        | cons m L' =>
          simp only [runs] at hr
          rw [if_neg (by omega)] at hr
          obtain ⟨v', e, h1, _, _⟩ := hr
          have hm := hpos m (by simp)
          have : 1 * c ≤ m * c := Nat.mul_le_mul_right c hm
          omega
    · rw [if_neg hi] at h
      obtain ⟨c, hc, hc0, _, hr⟩ := h
      refine ⟨fun h' => by omega, fun _ => ?_⟩
      refine main v u c hc hc0 hu (fun hL => ?_) (fun hL => ?_)
      · subst hL
        exact ⟨hr.2, hr.1⟩
      · refine ⟨?_, (runs_cf L (i + 1) u c hp' hu hc0 hr).1 (by omega)⟩
        cases L with
        | nil => exact (hL rfl).elim
        | cons m L' =>
          simp only [runs] at hr
          rw [if_pos (by omega)] at hr
          obtain ⟨v', e, h1, _, _⟩ := hr
          have hm := hpos m (by simp)
          have : 1 * c ≤ m * c := Nat.mul_le_mul_right c hm
          omega

/-- the two numbers to which a list leads -/
def pr : Nat → List Nat → Nat × Nat
  | _, [] => (1, 1)
  | i, n :: L => let p := pr (i + 1) L; if i % 2 = 0 then (p.1 + n * p.2, p.2) else (p.1, p.2 + n * p.1)
theorem pr_pos : ∀ (L : List Nat) (i : Nat), 0 < (pr i L).1 ∧ 0 < (pr i L).2
  | [], _ => by simp [pr]
  | n :: L, i => by
    have := pr_pos L (i + 1)
    simp only [pr]
    split <;> simp only <;> omega
theorem pr_runs : ∀ (L : List Nat) (i : Nat), runs i L (pr i L).1 (pr i L).2
  | [], _ => ⟨rfl, rfl⟩
  | n :: L, i => by
    have h := pr_runs L (i + 1)
    have hp := pr_pos L (i + 1)
    simp only [runs, pr]
    by_cases hi : i % 2 = 0
    · rw [if_pos hi, if_pos hi]
      exact ⟨_, rfl, hp.1, hp.2, h⟩
    · rw [if_neg hi, if_neg hi]
      exact ⟨_, rfl, hp.2, hp.1, h⟩

def longsI (L : List Nat) : List Int := L.map fun n : Nat => (n : Int)
/-- a path leads to its interval -/
theorem path_walk {u v : Nat} (hu : 0 < u) (hv : 0 < v) (hg : Nat.gcd u v = 1) : (walkB 0 (longsI (pathN u v)) wholeB).sum = ⟨u, v⟩ :=
  runs_walk _ 0 u v wholeB ⟨u, v⟩ ((runs_path v u hu hv hg).1 0 rfl) (by simp [wholeB]) (by simp [wholeB])
/-- what a path leads to has this path -/
theorem walk_path {L : List Nat} (h : pathOk L) : ∃ u v : Nat, 0 < u ∧ 0 < v ∧ (walkB 0 (longsI L) wholeB).sum = ⟨u, v⟩ ∧ pathN u v = L := by
  have h1 := pr_runs L 0
  have h2 := pr_pos L 0
  exact ⟨(pr 0 L).1, (pr 0 L).2, h2.1, h2.2, runs_walk _ 0 _ _ wholeB ⟨_, _⟩ h1 (by simp [wholeB]) (by simp [wholeB]), (runs_cf L 0 _ _ h h2.1 h2.2 h1).1 rfl⟩
/-- turned over -/
theorem path_turned {u v : Nat} (hu : 0 < u) (hlt : u < v) : pathN u v = 0 :: pathN v u := by
  unfold pathN
  rw [cf_pos (show 0 < v by omega), Nat.div_eq_of_lt hlt, Nat.mod_eq_of_lt hlt, fixL_cons (cf_ne hu)]

end Go.Ev
