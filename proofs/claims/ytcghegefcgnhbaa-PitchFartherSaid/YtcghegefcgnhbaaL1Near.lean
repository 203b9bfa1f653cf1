/- The nearest fraction: the program sorts two by their denominators, and takes the best. Contracts; conditions stand in each. -/
import Derived.Test.YtcghegefcgnhbaaL1Next
set_option linter.unusedSimpArgs false
set_option linter.unusedVariables false
namespace Go.Ev.YtcghegefcgnhbaaC
open Go Go.Proofs

abbrev r4 (x y : Frac) : List AV := [.int .i64 x.num, .int .i64 x.den, .int .i64 y.num, .int .i64 y.den]
def byDen (x y : Frac) : Frac × Frac := if y.den < x.den then (y, x) else (x, y)

attribute [local irreducible] Res.all evC evLoop evOps evOper evOp evFn evCall freeze G GO GV GP GC R
set_option maxRecDepth 100000

theorem con_cmp (x y : Frac) (hx : BF x) (hy : BF y) : Con T 1 88 [rAV x, rAV y] (.int .i64 (x.den - y.den)) := by
  refine con_intro t88 fun n hn V hV => ?_
  have w1 := hx.2
  have w2 := hy.2
  unfold Bn at w1 w2
  simp (disch := first | assumption | omega) only [c88, go_sem, ↓reduceIte, reduceIte, Nat.reduceEqDiff, Nat.reduceAdd, Nat.reduceMul, reduceCtorEq, Nat.reduceDiv, Nat.reduceLeDiff, Nat.reduceLT, Nat.reduceSub]
  exact hV _ _ (by repeat (first | exact mz_nil _ _ | exact frz_int _ _ _ _ | exact frz_bool _ _ _ | exact frz_slice _ _ _ _ _ | exact frz_ptr _ _ _ _ | exact frz_nilptr _ _ | refine mz_cons ?_ ?_ | refine frz_agg ?_ | refine frz_two ?_ ?_ | refine frz_three ?_ ?_ ?_))
theorem cs_cmp {n base : Nat} {Q : EX × St → Prop} {d : Option Nat} {L : List IOper} {ks : List Kont} {e : Env} {h : Heap} {x y : Frac} (hn : 1 ≤ n) (hx : BF x) (hy : BF y) : GP (evCall T n) base Q d L ks e (evCall T n false (.fn 88) [.agg [.int .i64 x.num, .int .i64 x.den], .agg [.int .i64 y.num, .int .i64 y.den]] h) = GO (evCall T n) base Q L ks ⟨setDst e d (.int .i64 (x.den - y.den)), h⟩ :=
  gp_eq (con_cmp x y hx hy) hn (fz_rat _ _ (fz_rat _ _ (fz_nil _))) (or_pi _ _ _)

/-! ### the sort of two -/
theorem raw_ins (x y : Frac) (key ver : Nat) (cap : Option Nat) (hx : BF x) (hy : BF y) {n : Nat} (hn : 2 ≤ n) (h : Heap) (V : AV × Heap → Prop) (hH : getH h key = .cells ver (r4 x y))
    (hV : ∀ v h', getH h' key = .cells ver (r4 (byDen x y).1 (byDen x y).2) → h.length ≤ h'.length → (∀ k, k < h.length → k ≠ key → getH h' k = getH h k) → V (v, h')) :
    (evCall T n true (.fn 108) [.oslice key ver (some 2) 0 2 cap, .int .i64 0, .int .i64 2, .clo 88 [] []] h).all V := by
  obtain ⟨m, rfl⟩ : ∃ m, n = m + 1 := ⟨n - 1, by omega⟩
  rw [raw_enter t108]
  have hlt := getH_lt hH (by simp)
  have w1 := hx.2
  have w2 := hy.2
  unfold Bn at w1 w2
  have n1 : decide ((1 : Int) < 2) = true := rfl
  have n2 : decide ((2 : Int) < 2) = false := rfl
  have n3 : decide ((1 : Int) > 0) = true := rfl
  have n4 : decide ((0 : Int) > 0) = false := rfl
  have n5 : (1 : Int) - 1 = 0 := rfl
  simp (disch := first | assumption | omega) only [c108, go_sem, ↓reduceIte, reduceIte, Nat.reduceEqDiff, Nat.reduceAdd, Nat.reduceMul, reduceCtorEq, Nat.reduceDiv, Nat.reduceLeDiff, Nat.reduceLT, Nat.reduceSub]
  refine m_loop (fun M st => ∃ a b : Frac, ((M = 1 ∧ a = x ∧ b = y) ∨ (M = 0 ∧ a = (byDen x y).1 ∧ b = (byDen x y).2)) ∧
    At st.env [(0, .oslice key ver (some 2) 0 2 cap), (1, .int .i64 0), (2, .int .i64 2), (3, .clo 88 [] []), (8, .int .i64 (2 - (M : Int)))] ∧ getH st.heap key = .cells ver (r4 a b) ∧ h.length ≤ st.heap.length ∧ (∀ k, k < h.length → k ≠ key → getH st.heap k = getH h k)) 1 (by omega)
    ⟨x, y, .inl ⟨rfl, rfl, rfl⟩, by simp only [go_sem, ↓reduceIte, reduceIte, Nat.reduceEqDiff, Nat.reduceAdd, Nat.reduceMul, reduceCtorEq, Nat.reduceDiv, Nat.reduceLeDiff, Nat.reduceLT, Nat.reduceSub]; rfl, by simp only [getH_append_none, hH], by simp, fun k hk hne => getH_append_none _ _ _⟩ ?_
  rintro M e h2 hM ⟨a, b, hab, hE, hH2, hlen, hoth⟩ P hP
  simp only [At_cons, At_nil] at hE hH2 hlen hoth
  obtain ⟨f0, f1, f2, f3, f8, -⟩ := hE
  rcases hab with ⟨rfl, rfl, rfl⟩ | ⟨rfl, rfl, rfl⟩
  · have e8 : (2 - ((1 : Nat) : Int)) = 1 := rfl
    rw [e8] at f8
    simp (disch := first | assumption | omega) only [go_sem, ↓reduceIte, reduceIte, Nat.reduceEqDiff, Nat.reduceAdd, Nat.reduceMul, reduceCtorEq, Nat.reduceDiv, Nat.reduceLeDiff, Nat.reduceLT, Nat.reduceSub, f0, f1, f2, f3, f8, n1]
    refine m_loop (fun M st => ∃ c d : Frac, ((M = 1 ∧ c = a ∧ d = b) ∨ (M = 0 ∧ c = b ∧ d = a ∧ b.den < a.den)) ∧
      At st.env [(0, .oslice key ver (some 2) 0 2 cap), (1, .int .i64 0), (2, .int .i64 2), (3, .clo 88 [] []), (8, .int .i64 1), (9, .int .i64 M)] ∧ getH st.heap key = .cells ver (r4 c d) ∧ h.length ≤ st.heap.length ∧ (∀ k, k < h.length → k ≠ key → getH st.heap k = getH h k)) 1 (by omega)
      ⟨a, b, .inl ⟨rfl, rfl, rfl⟩, by simp only [go_sem, ↓reduceIte, reduceIte, Nat.reduceEqDiff, Nat.reduceAdd, Nat.reduceMul, reduceCtorEq, Nat.reduceDiv, Nat.reduceLeDiff, Nat.reduceLT, Nat.reduceSub, f0, f1, f2, f3, f8], hH2, hlen, hoth⟩ ?_
    rintro M e h3 hM ⟨c, d, hcd, hE, hH3, hlen3, hoth3⟩ P' hP'
    simp only [At_cons, At_nil] at hE hH3 hlen3 hoth3
    obtain ⟨f0, f1, f2, f3, f8, f9, -⟩ := hE
    rcases hcd with ⟨rfl, rfl, rfl⟩ | ⟨rfl, rfl, rfl, hlt2⟩
    · simp only [Int.cast_ofNat_Int] at f9
      by_cases hd : d.den < c.den
      · have hd' : decide (d.den - c.den < 0) = true := decide_eq_true (by omega)
        simp (disch := first | assumption | omega) only [go_sem, ↓reduceIte, reduceIte, Nat.reduceEqDiff, Nat.reduceAdd, Nat.reduceMul, reduceCtorEq, Nat.reduceDiv, Nat.reduceLeDiff, Nat.reduceLT, Nat.reduceSub, f0, f1, f2, f3, f8, f9, n3, n5, hH3, cs_cmp, hd']
        refine hP' 0 _ (by omega) ⟨d, c, .inr ⟨rfl, rfl, rfl, hd⟩, by simp only [go_sem, ↓reduceIte, reduceIte, Nat.reduceEqDiff, Nat.reduceAdd, Nat.reduceMul, reduceCtorEq, Nat.reduceDiv, Nat.reduceLeDiff, Nat.reduceLT, Nat.reduceSub, f0, f1, f2, f3, f8], by simp only [go_sem, ↓reduceIte, reduceIte, Nat.reduceEqDiff, Nat.reduceAdd, Nat.reduceMul, reduceCtorEq, Nat.reduceDiv, Nat.reduceLeDiff, Nat.reduceLT, Nat.reduceSub], ?_, fun k hk hne => ?_⟩
        · simp only [length_setH]; omega
        · simp only [getH_setH]
          rw [if_neg (fun he => hne he.symm), if_neg (fun he => hne he.symm), hoth3 k hk hne]
      · have hd' : decide (d.den - c.den < 0) = false := decide_eq_false (by omega)
        simp (disch := first | assumption | omega) only [go_sem, ↓reduceIte, reduceIte, Nat.reduceEqDiff, Nat.reduceAdd, Nat.reduceMul, reduceCtorEq, Nat.reduceDiv, Nat.reduceLeDiff, Nat.reduceLT, Nat.reduceSub, f0, f1, f2, f3, f8, f9, n3, n5, hH3, cs_cmp, hd']
        exact hP 0 _ (by omega) ⟨c, d, .inr ⟨rfl, by unfold byDen; rw [if_neg hd], by unfold byDen; rw [if_neg hd]⟩, by simp only [go_sem, ↓reduceIte, reduceIte, Nat.reduceEqDiff, Nat.reduceAdd, Nat.reduceMul, reduceCtorEq, Nat.reduceDiv, Nat.reduceLeDiff, Nat.reduceLT, Nat.reduceSub, f0, f1, f2, f3]; rfl, hH3, hlen3, hoth3⟩
    · simp only [Int.natCast_zero] at f9
      simp (disch := first | assumption | omega) only [go_sem, ↓reduceIte, reduceIte, Nat.reduceEqDiff, Nat.reduceAdd, Nat.reduceMul, reduceCtorEq, Nat.reduceDiv, Nat.reduceLeDiff, Nat.reduceLT, Nat.reduceSub, f0, f1, f2, f3, f8, f9, n4]
      exact hP 0 _ (by omega) ⟨c, d, .inr ⟨rfl, by unfold byDen; rw [if_pos hlt2], by unfold byDen; rw [if_pos hlt2]⟩, by simp only [go_sem, ↓reduceIte, reduceIte, Nat.reduceEqDiff, Nat.reduceAdd, Nat.reduceMul, reduceCtorEq, Nat.reduceDiv, Nat.reduceLeDiff, Nat.reduceLT, Nat.reduceSub, f0, f1, f2, f3]; rfl, hH3, hlen3, hoth3⟩
  · have e8 : (2 - ((0 : Nat) : Int)) = 2 := rfl
    rw [e8] at f8
    simp (disch := first | assumption | omega) only [go_sem, ↓reduceIte, reduceIte, Nat.reduceEqDiff, Nat.reduceAdd, Nat.reduceMul, reduceCtorEq, Nat.reduceDiv, Nat.reduceLeDiff, Nat.reduceLT, Nat.reduceSub, f0, f1, f2, f3, f8, n2]
    exact hV _ _ hH2 hlen hoth

theorem raw_stable (x y : Frac) (key ver : Nat) (cap : Option Nat) (hx : BF x) (hy : BF y) {n : Nat} (hn : 4 ≤ n) (h : Heap) (V : AV × Heap → Prop) (hH : getH h key = .cells ver (r4 x y))
    (hV : ∀ v h', getH h' key = .cells ver (r4 (byDen x y).1 (byDen x y).2) → h.length ≤ h'.length → (∀ k, k < h.length → k ≠ key → getH h' k = getH h k) → V (v, h')) :
    (evCall T n true (.fn 87) [.oslice key ver (some 2) 0 2 cap, .clo 88 [] []] h).all V := by
  obtain ⟨m, rfl⟩ : ∃ m, n = m + 1 + 1 := ⟨n - 2, by omega⟩
  rw [raw_enter t87]
  have hlt := getH_lt hH (by simp)
  simp (disch := first | assumption | omega) only [c87, go_sem, ↓reduceIte, reduceIte, Nat.reduceEqDiff, Nat.reduceAdd, Nat.reduceMul, reduceCtorEq, Nat.reduceDiv, Nat.reduceLeDiff, Nat.reduceLT, Nat.reduceSub]
  refine gp_of ?_
  rw [raw_enter t96]
  have n1 : decide ((20 : Int) ≤ 2) = false := rfl
  have n2 : decide ((20 : Int) < 2) = false := rfl
  simp (disch := first | assumption | omega) only [c96, go_sem, ↓reduceIte, reduceIte, Nat.reduceEqDiff, Nat.reduceAdd, Nat.reduceMul, reduceCtorEq, Nat.reduceDiv, Nat.reduceLeDiff, Nat.reduceLT, Nat.reduceSub]
  refine m_loop1 fun P => ?_
  simp (disch := first | assumption | omega) only [go_sem, ↓reduceIte, reduceIte, Nat.reduceEqDiff, Nat.reduceAdd, Nat.reduceMul, reduceCtorEq, Nat.reduceDiv, Nat.reduceLeDiff, Nat.reduceLT, Nat.reduceSub, n1]
  refine gp_of (raw_ins x y key ver cap hx hy (by omega) _ _ (by simp only [getH_append_none, hH]) ?_)
  intro v h' e1 e2 e3
  simp (disch := first | assumption | omega) only [go_sem, ↓reduceIte, reduceIte, Nat.reduceEqDiff, Nat.reduceAdd, Nat.reduceMul, reduceCtorEq, Nat.reduceDiv, Nat.reduceLeDiff, Nat.reduceLT, Nat.reduceSub]
  refine m_loop1 fun P => ?_
  simp (disch := first | assumption | omega) only [go_sem, ↓reduceIte, reduceIte, Nat.reduceEqDiff, Nat.reduceAdd, Nat.reduceMul, reduceCtorEq, Nat.reduceDiv, Nat.reduceLeDiff, Nat.reduceLT, Nat.reduceSub, n2]
  refine hV _ _ e1 (by simp at e2; omega) fun k hk hne => ?_
  rw [e3 k (by simp; omega) hne, getH_append_none, getH_append_none]

/-! ### nearer -/
def NB (y : Frac) : Prop := BF y ∧ 0 ≤ y.den ∧ y.den ≤ 10000
theorem gap_nb {x y : Frac} (hx : OkI x) (hy : NB y) : -11000000000000 ≤ gapF x y ∧ gapF x y ≤ 11000000000000 := by
  have g1 := hx.n1
  have g2 := hx.n2
  have g3 := hx.d1
  have g4 := hx.d2
  obtain ⟨⟨⟨b1, b2⟩, -⟩, b3, b4⟩ := hy
  have h1 := prod_le (u := x.num) (U := 10000) (v := y.den) (V := 10000) (by omega) g2 b3 b4
  have h2 : (y.num * x.den).natAbs ≤ 1073741824 * 10000 := by rw [Int.natAbs_mul]; exact Nat.mul_le_mul (by omega) (by omega)
  unfold gapF
  omega
theorem iabs_le {a b : Int} (h1 : -b ≤ a) (h2 : a ≤ b) : 0 ≤ iabs a ∧ iabs a ≤ b := by unfold iabs; split <;> omega
theorem near_fits {x y z : Frac} (hx : OkI x) (hy : NB y) (hz : NB z) : 0 ≤ iabs (gapF x y) * z.den ∧ iabs (gapF x y) * z.den ≤ 110000000000000000 := by
  have h1 := gap_nb hx hy
  have h2 := iabs_le (b := 11000000000000) h1.1 h1.2
  have h3 := prod_le (v := z.den) (V := 10000) h2.1 h2.2 hz.2.1 hz.2.2
  omega
theorem max_abs (k : IntKind) (a : Int) : maxOf k a [.int k (0 - a)] = .ret (.int k (iabs a)) := by simp [maxOf, iabs]

theorem con_nearer (x y z : Frac) (hx : OkI x) (hy : NB y) (hz : NB z) : Con T 2 68 [forkV x, rAV y, rAV z] (.bool (nearer x y z)) := by
  refine con_intro t68 fun n hn V hV => ?_
  have bx := hx.bf
  have bY := hy.1
  have bz := hz.1
  obtain ⟨y1, y2⟩ := gap_nb hx hy
  obtain ⟨z1, z2⟩ := gap_nb hx hz
  obtain ⟨p1, p2⟩ := near_fits hx hy hz
  obtain ⟨q1, q2⟩ := near_fits hx hz hy
  simp (disch := first | assumption | omega) only [c68, go_sem, ↓reduceIte, reduceIte, Nat.reduceEqDiff, Nat.reduceAdd, Nat.reduceMul, reduceCtorEq, Nat.reduceDiv, Nat.reduceLeDiff, Nat.reduceLT, Nat.reduceSub, cs_gap, max_abs]
  exact hV _ _ (by repeat (first | exact mz_nil _ _ | exact frz_int _ _ _ _ | exact frz_bool _ _ _ | exact frz_slice _ _ _ _ _ | exact frz_ptr _ _ _ _ | exact frz_nilptr _ _ | refine mz_cons ?_ ?_ | refine frz_agg ?_ | refine frz_two ?_ ?_ | refine frz_three ?_ ?_ ?_))
theorem con_Nearer (x y z : Frac) (hx : OkI x) (hy : NB y) (hz : NB z) : Con T 2 52 [rAV x, rAV y, rAV z] (.bool (nearer x y z)) := by
  refine con_intro t52 fun n hn V hV => ?_
  have bx := hx.bf
  have bY := hy.1
  have bz := hz.1
  obtain ⟨y1, y2⟩ := gap_nb hx hy
  obtain ⟨z1, z2⟩ := gap_nb hx hz
  obtain ⟨p1, p2⟩ := near_fits hx hy hz
  obtain ⟨q1, q2⟩ := near_fits hx hz hy
  simp (disch := first | assumption | omega) only [c52, go_sem, ↓reduceIte, reduceIte, Nat.reduceEqDiff, Nat.reduceAdd, Nat.reduceMul, reduceCtorEq, Nat.reduceDiv, Nat.reduceLeDiff, Nat.reduceLT, Nat.reduceSub, cs_GapOf, max_abs]
  exact hV _ _ (by repeat (first | exact mz_nil _ _ | exact frz_int _ _ _ _ | exact frz_bool _ _ _ | exact frz_slice _ _ _ _ _ | exact frz_ptr _ _ _ _ | exact frz_nilptr _ _ | refine mz_cons ?_ ?_ | refine frz_agg ?_ | refine frz_two ?_ ?_ | refine frz_three ?_ ?_ ?_))

section
variable {n base : Nat} {Q : EX × St → Prop} {d : Option Nat} {L : List IOper} {ks : List Kont} {e : Env} {h : Heap}
theorem cs_nearer {x y z : Frac} (hn : 2 ≤ n) (hx : OkI x) (hy : NB y) (hz : NB z) : GP (evCall T n) base Q d L ks e (evCall T n false (.fn 68) [.ptr [.int .i64 x.num, .int .i64 x.den] 0, .agg [.int .i64 y.num, .int .i64 y.den], .agg [.int .i64 z.num, .int .i64 z.den]] h) = GO (evCall T n) base Q L ks ⟨setDst e d (.bool (nearer x y z)), h⟩ :=
  gp_eq (con_nearer x y z hx hy hz) hn (fz_cons (frz_ptr _ _ _ _) (fz_rat _ _ (fz_rat _ _ (fz_nil _)))) (or_pb _ _)
theorem cs_Nearer {x y z : Frac} (hn : 2 ≤ n) (hx : OkI x) (hy : NB y) (hz : NB z) : GP (evCall T n) base Q d L ks e (evCall T n false (.fn 52) [.agg [.int .i64 x.num, .int .i64 x.den], .agg [.int .i64 y.num, .int .i64 y.den], .agg [.int .i64 z.num, .int .i64 z.den]] h) = GO (evCall T n) base Q L ks ⟨setDst e d (.bool (nearer x y z)), h⟩ :=
  gp_eq (con_Nearer x y z hx hy hz) hn (fz_rat _ _ (fz_rat _ _ (fz_rat _ _ (fz_nil _)))) (or_pb _ _)
end

/-! ### the best of two -/
abbrev cloN (x : Frac) : AV := .clo 90 [] [.ptr [.clo 68 [forkV x] []] 0]
theorem con_n2 (x y z : Frac) (hx : OkI x) (hy : NB y) (hz : NB z) : Con T 3 90 [rAV y, rAV z, .ptr [.clo 68 [forkV x] []] 0] (.bool (nearer x y z)) := by
  refine con_intro t90 fun n hn V hV => ?_
  simp (disch := first | assumption | omega) only [c90, go_sem, ↓reduceIte, reduceIte, Nat.reduceEqDiff, Nat.reduceAdd, Nat.reduceMul, reduceCtorEq, Nat.reduceDiv, Nat.reduceLeDiff, Nat.reduceLT, Nat.reduceSub, cs_nearer]
  exact hV _ _ (by repeat (first | exact mz_nil _ _ | exact frz_int _ _ _ _ | exact frz_bool _ _ _ | exact frz_slice _ _ _ _ _ | exact frz_ptr _ _ _ _ | exact frz_nilptr _ _ | refine mz_cons ?_ ?_ | refine frz_agg ?_ | refine frz_two ?_ ?_ | refine frz_three ?_ ?_ ?_))
theorem frz_cloN (h : Heap) (n : Nat) (x : Frac) : freeze h (n + 5) (cloN x) = .ret (cloN x) :=
  frz_clo (mz_nil _ _) (mz_cons (frz_ptr _ _ _ _) (mz_nil _ _))
theorem con_best (x a b : Frac) (hx : OkI x) (ha : NB a) (hb : NB b) : Con T 4 89 [.slice (some 2) [rAV a, rAV b] false, cloN x] (rAV (if nearer x b a = true then b else a)) := by
  refine con_intro t89 fun n hn V hV => ?_
  replace hV : ∀ a' b' h, (⟨a', b'⟩ : Frac) = (if nearer x b a = true then b else a) → V (.agg [.int .i64 a', .int .i64 b'], h) := fun a' b' h e1 => hV _ _ (by rw [← e1]; exact (by repeat (first | exact mz_nil _ _ | exact frz_int _ _ _ _ | exact frz_bool _ _ _ | exact frz_slice _ _ _ _ _ | exact frz_ptr _ _ _ _ | exact frz_nilptr _ _ | refine mz_cons ?_ ?_ | refine frz_agg ?_ | refine frz_two ?_ ?_ | refine frz_three ?_ ?_ ?_)))
  have n1 : ((0 : Int) ≤ 1) = True := eq_true (by omega)
  have n2 : ((1 : Int) ≤ 2) = True := eq_true (by omega)
  have n3 : (1 : Int).toNat = 1 := rfl
  simp (disch := first | assumption | omega) only [c89, go_sem, ↓reduceIte, reduceIte, Nat.reduceEqDiff, Nat.reduceAdd, Nat.reduceMul, reduceCtorEq, Nat.reduceDiv, Nat.reduceLeDiff, Nat.reduceLT, Nat.reduceSub, n1, n2, n3]
  refine m_loop (fun M st => ∃ (v4 v5 : Nat) (r0 r1 : AV) (c : Frac), ((M = 1 ∧ c = a) ∨ (M = 0 ∧ c = if nearer x b a = true then b else a)) ∧
    At st.env [(1, cloN x), (4, .optr 4 v4 0), (5, .optr 5 v5 0), (12, .slice (some 2) [rAV b] false), (13, .int .i64 1), (14, .int .i64 (1 - (M : Int)))] ∧ getH st.heap 4 = .cells v4 [r0, r1] ∧ getH st.heap 5 = .cells v5 [.int .i64 c.num, .int .i64 c.den]) 1 (by omega)
    ⟨0, 0, .int .i64 0, .int .i64 0, a, .inl ⟨rfl, rfl⟩, by simp only [go_sem, ↓reduceIte, reduceIte, Nat.reduceEqDiff, Nat.reduceAdd, Nat.reduceMul, reduceCtorEq, Nat.reduceDiv, Nat.reduceLeDiff, Nat.reduceLT, Nat.reduceSub]; rfl, by simp only [go_sem, ↓reduceIte, reduceIte, Nat.reduceEqDiff, Nat.reduceAdd, Nat.reduceMul, reduceCtorEq, Nat.reduceDiv, Nat.reduceLeDiff, Nat.reduceLT, Nat.reduceSub], by simp only [go_sem, ↓reduceIte, reduceIte, Nat.reduceEqDiff, Nat.reduceAdd, Nat.reduceMul, reduceCtorEq, Nat.reduceDiv, Nat.reduceLeDiff, Nat.reduceLT, Nat.reduceSub]⟩ ?_
  rintro M e h hM ⟨v4, v5, r0, r1, c, hc, hE, hh4, hh5⟩ P hP
  simp only [At_cons, At_nil] at hE hh4 hh5
  obtain ⟨f1, f4, f5, f12, f13, f14, -⟩ := hE
  rcases hc with ⟨rfl, rfl⟩ | ⟨rfl, rfl⟩
  · have e14 : (1 - ((1 : Nat) : Int)) = 0 := rfl
    have m1 : decide ((0 : Int) < 1) = true := rfl
    rw [e14] at f14
    simp (disch := first | assumption | omega) only [go_sem, ↓reduceIte, reduceIte, Nat.reduceEqDiff, Nat.reduceAdd, Nat.reduceMul, reduceCtorEq, Nat.reduceDiv, Nat.reduceLeDiff, Nat.reduceLT, Nat.reduceSub, f1, f4, f5, f12, f13, f14, m1, hh4, hh5]
    refine gp_con (con_n2 x b c hx hb ha) (by omega) (fz_rat _ _ (fz_rat _ _ (fz_cons (frz_ptr _ _ _ _) (fz_nil _)))) (or_pb _ _) ?_
    by_cases hn : nearer x b c = true
    · simp (disch := first | assumption | omega) only [go_sem, ↓reduceIte, reduceIte, Nat.reduceEqDiff, Nat.reduceAdd, Nat.reduceMul, reduceCtorEq, Nat.reduceDiv, Nat.reduceLeDiff, Nat.reduceLT, Nat.reduceSub, f1, f4, f5, f12, f13, f14, hh4, hh5, hn]
      exact hP 0 _ (by omega) ⟨v4, v5, r0, r1, b, .inr ⟨rfl, by rw [if_pos hn]⟩, by simp only [go_sem, ↓reduceIte, reduceIte, Nat.reduceEqDiff, Nat.reduceAdd, Nat.reduceMul, reduceCtorEq, Nat.reduceDiv, Nat.reduceLeDiff, Nat.reduceLT, Nat.reduceSub, f1, f4, f5, f12, f13]; rfl, by simp only [go_sem, ↓reduceIte, reduceIte, Nat.reduceEqDiff, Nat.reduceAdd, Nat.reduceMul, reduceCtorEq, Nat.reduceDiv, Nat.reduceLeDiff, Nat.reduceLT, Nat.reduceSub, hh4], by simp only [go_sem, ↓reduceIte, reduceIte, Nat.reduceEqDiff, Nat.reduceAdd, Nat.reduceMul, reduceCtorEq, Nat.reduceDiv, Nat.reduceLeDiff, Nat.reduceLT, Nat.reduceSub]⟩
    · simp (disch := first | assumption | omega) only [go_sem, ↓reduceIte, reduceIte, Nat.reduceEqDiff, Nat.reduceAdd, Nat.reduceMul, reduceCtorEq, Nat.reduceDiv, Nat.reduceLeDiff, Nat.reduceLT, Nat.reduceSub, f1, f4, f5, f12, f13, f14, hh4, hh5, hn]
      exact hP 0 _ (by omega) ⟨v4, v5, r0, r1, c, .inr ⟨rfl, by rw [if_neg hn]⟩, by simp only [go_sem, ↓reduceIte, reduceIte, Nat.reduceEqDiff, Nat.reduceAdd, Nat.reduceMul, reduceCtorEq, Nat.reduceDiv, Nat.reduceLeDiff, Nat.reduceLT, Nat.reduceSub, f1, f4, f5, f12, f13]; rfl, by simp only [go_sem, ↓reduceIte, reduceIte, Nat.reduceEqDiff, Nat.reduceAdd, Nat.reduceMul, reduceCtorEq, Nat.reduceDiv, Nat.reduceLeDiff, Nat.reduceLT, Nat.reduceSub, hh4], by simp only [go_sem, ↓reduceIte, reduceIte, Nat.reduceEqDiff, Nat.reduceAdd, Nat.reduceMul, reduceCtorEq, Nat.reduceDiv, Nat.reduceLeDiff, Nat.reduceLT, Nat.reduceSub, hh5]⟩
  · have e14 : (1 - ((0 : Nat) : Int)) = 1 := rfl
    have m1 : decide ((1 : Int) < 1) = false := rfl
    rw [e14] at f14
    simp (disch := first | assumption | omega) only [go_sem, ↓reduceIte, reduceIte, Nat.reduceEqDiff, Nat.reduceAdd, Nat.reduceMul, reduceCtorEq, Nat.reduceDiv, Nat.reduceLeDiff, Nat.reduceLT, Nat.reduceSub, f1, f4, f5, f12, f13, f14, m1, hh4, hh5]
    exact hV _ _ _ rfl

theorem best_nearest (x : Frac) (m : Nat) : (if nearer x (byDen (lowN x m) (highN x m)).2 (byDen (lowN x m) (highN x m)).1 = true then (byDen (lowN x m) (highN x m)).2 else (byDen (lowN x m) (highN x m)).1) = nearestOf x m := by
  have asym : ∀ f g, nearer x f g = true → nearer x g f = false := fun f g h => by
    unfold nearer at *
    simp only [decide_eq_true_eq, decide_eq_false_iff_not] at *
    omega
  unfold byDen nearestOf
  by_cases hd : (highN x m).den < (lowN x m).den
  · simp only [if_pos hd]
    by_cases h1 : nearer x (lowN x m) (highN x m) = true
    · rw [if_pos h1, if_neg]
      rintro (h2 | h2)
      · rw [asym _ _ h2] at h1; cases h1
      · rw [h2.1] at h1; cases h1
    · rw [if_neg h1, if_pos]
      exact .inr ⟨by simpa using h1, hd⟩
  · simp only [if_neg hd]
    by_cases h1 : nearer x (highN x m) (lowN x m) = true
    · rw [if_pos h1, if_pos (.inl h1)]
    · rw [if_neg h1, if_neg]
      rintro (h2 | h2)
      · exact h1 h2
      · exact hd h2.2

theorem low_nb {x : Frac} (hx : OkI x) {m : Nat} (h1 : 1 ≤ m) (h2 : m ≤ 1000) : NB (lowN x m) := by
  have := lowN_den x m (by omega)
  exact ⟨low_bf hx h2, by omega, by omega⟩
theorem high_nb {x : Frac} (hx : OkI x) {m : Nat} (h1 : 1 ≤ m) (h2 : m ≤ 1000) : NB (highN x m) := by
  have := highN_den x (by have := hx.d1; omega) m (by omega)
  exact ⟨high_bf hx h2, by omega, by omega⟩
theorem byDen_nb {x y : Frac} (hx : NB x) (hy : NB y) : NB (byDen x y).1 ∧ NB (byDen x y).2 := by
  unfold byDen
  split
  · exact ⟨hy, hx⟩
  · exact ⟨hx, hy⟩

theorem frz_os2 {h : Heap} {key ver : Nat} {cap : Option Nat} {x y : Frac} (n : Nat) (hH : getH h key = .cells ver (r4 x y)) : freeze h (n + 2) (.oslice key ver (some 2) 0 2 cap) = .ret (.slice (some 2) [rAV x, rAV y] false) := by
  rw [freeze]
  simp only [hH]
  rw [if_pos ⟨trivial, by simp [gsize]⟩, show List.take (2 * gsize (some 2)) (List.drop 0 (r4 x y)) = r4 x y from rfl, show mapR (freeze h (n + 1)) (r4 x y) = .ret (r4 x y) from (by repeat (first | exact mz_nil _ _ | exact frz_int _ _ _ _ | exact frz_bool _ _ _ | exact frz_slice _ _ _ _ _ | exact frz_ptr _ _ _ _ | exact frz_nilptr _ _ | refine mz_cons ?_ ?_ | refine frz_agg ?_ | refine frz_two ?_ ?_ | refine frz_three ?_ ?_ ?_))]
  rfl
theorem con_nearest (x : Frac) (m : Nat) (hx : OkI x) (h1 : 1 ≤ m) (h2 : m ≤ 1000) : Con T 6 66 [forkV x, .int .i64 m] (rAV (nearestOf x m)) := by
  refine con_intro t66 fun n hn V hV => ?_
  have nl := low_nb hx h1 h2
  have nh := high_nb hx h1 h2
  obtain ⟨nb1, nb2⟩ := byDen_nb nl nh
  have hbn := best_nearest x m
  have on : oneB .nilfn = true := rfl
  simp (disch := first | assumption | omega) only [c66, go_sem, ↓reduceIte, reduceIte, Nat.reduceEqDiff, Nat.reduceAdd, Nat.reduceMul, reduceCtorEq, Nat.reduceDiv, Nat.reduceLeDiff, Nat.reduceLT, Nat.reduceSub, cs_beside, on]
  refine gp_of (raw_stable (lowN x m) (highN x m) _ _ _ nl.1 nh.1 (by omega) _ _ (by simp only [go_sem, ↓reduceIte, reduceIte, Nat.reduceEqDiff, Nat.reduceAdd, Nat.reduceMul, reduceCtorEq, Nat.reduceDiv, Nat.reduceLeDiff, Nat.reduceLT, Nat.reduceSub]) ?_)
  intro v h' e1 e2 e3
  generalize byDen (lowN x m) (highN x m) = ab at *
  obtain ⟨a, b⟩ := ab
  simp only [length_setH] at e2
  have e4 : getH h' 4 = .cells 0 [.int .i64 0, .int .i64 0] := by rw [e3 4 (by simp only [length_setH, List.length_replicate]; omega) (by first | omega | (simp only [length_setH, List.length_replicate]; omega))]; simp only [go_sem, ↓reduceIte, reduceIte, Nat.reduceEqDiff, Nat.reduceAdd, Nat.reduceMul, reduceCtorEq, Nat.reduceDiv, Nat.reduceLeDiff, Nat.reduceLT, Nat.reduceSub]
  have e7 : getH h' 7 = .cells 0 [.clo 68 [forkV x] []] := by rw [e3 7 (by simp only [length_setH, List.length_replicate]; omega) (by first | omega | (simp only [length_setH, List.length_replicate]; omega))]; simp only [go_sem, ↓reduceIte, reduceIte, Nat.reduceEqDiff, Nat.reduceAdd, Nat.reduceMul, reduceCtorEq, Nat.reduceDiv, Nat.reduceLeDiff, Nat.reduceLT, Nat.reduceSub]
  simp (disch := first | assumption | omega) only [go_sem, ↓reduceIte, reduceIte, Nat.reduceEqDiff, Nat.reduceAdd, Nat.reduceMul, reduceCtorEq, Nat.reduceDiv, Nat.reduceLeDiff, Nat.reduceLT, Nat.reduceSub]
  refine gp_con (con_best x a b hx nb1 nb2) (by omega) (fz_cons (frz_os2 6 e1) (fz_cons (frz_clo (mz_nil _ _) (mz_cons (frz_optr e7 (mz_cons (frz_clo (mz_cons (frz_ptr _ _ _ _) (mz_nil _ _)) (mz_nil _ _)) (mz_nil _ _))) (mz_nil _ _))) (fz_nil _))) (by simp [plainB, depth]) ?_
  simp (disch := first | assumption | omega) only [go_sem, ↓reduceIte, reduceIte, Nat.reduceEqDiff, Nat.reduceAdd, Nat.reduceMul, reduceCtorEq, Nat.reduceDiv, Nat.reduceLeDiff, Nat.reduceLT, Nat.reduceSub, e4]
  refine hV _ _ ?_
  rw [hbn]
  exact (by repeat (first | exact mz_nil _ _ | exact frz_int _ _ _ _ | exact frz_bool _ _ _ | exact frz_slice _ _ _ _ _ | exact frz_ptr _ _ _ _ | exact frz_nilptr _ _ | refine mz_cons ?_ ?_ | refine frz_agg ?_ | refine frz_two ?_ ?_ | refine frz_three ?_ ?_ ?_))

theorem con_NearestOf (x : Frac) (m : Nat) (hx : OkI x) (h1 : 1 ≤ m) (h2 : m ≤ 1000) : Con T 4 67 [rAV x, .int .i64 m] (rAV (nearestOf x m)) := by
  refine con_intro t67 fun n hn V hV => ?_
  have nl := low_nb hx h1 h2
  have nh := high_nb hx h1 h2
  have hV1 : (nearer x (highN x m) (lowN x m) = true ∨ (nearer x (lowN x m) (highN x m) = false ∧ (highN x m).den < (lowN x m).den)) → ∀ h, V (rAV (highN x m), h) := fun g h => hV _ _ (by unfold nearestOf; rw [if_pos g]; exact (by repeat (first | exact mz_nil _ _ | exact frz_int _ _ _ _ | exact frz_bool _ _ _ | exact frz_slice _ _ _ _ _ | exact frz_ptr _ _ _ _ | exact frz_nilptr _ _ | refine mz_cons ?_ ?_ | refine frz_agg ?_ | refine frz_two ?_ ?_ | refine frz_three ?_ ?_ ?_)))
  have hV2 : ¬ (nearer x (highN x m) (lowN x m) = true ∨ (nearer x (lowN x m) (highN x m) = false ∧ (highN x m).den < (lowN x m).den)) → ∀ h, V (rAV (lowN x m), h) := fun g h => hV _ _ (by unfold nearestOf; rw [if_neg g]; exact (by repeat (first | exact mz_nil _ _ | exact frz_int _ _ _ _ | exact frz_bool _ _ _ | exact frz_slice _ _ _ _ _ | exact frz_ptr _ _ _ _ | exact frz_nilptr _ _ | refine mz_cons ?_ ?_ | refine frz_agg ?_ | refine frz_two ?_ ?_ | refine frz_three ?_ ?_ ?_)))
  clear hV
  generalize hw1 : nearer x (highN x m) (lowN x m) = w1 at *
  generalize hw2 : nearer x (lowN x m) (highN x m) = w2 at *
  cases w1
  · cases w2
    · by_cases hd : (highN x m).den < (lowN x m).den
      · simp (disch := first | assumption | omega) only [c67, go_sem, ↓reduceIte, reduceIte, Nat.reduceEqDiff, Nat.reduceAdd, Nat.reduceMul, reduceCtorEq, Nat.reduceDiv, Nat.reduceLeDiff, Nat.reduceLT, Nat.reduceSub, cs_NextTo, cs_Nearer, hw1, hw2, hd]
        exact hV1 (.inr ⟨rfl, hd⟩) _
      · simp (disch := first | assumption | omega) only [c67, go_sem, ↓reduceIte, reduceIte, Nat.reduceEqDiff, Nat.reduceAdd, Nat.reduceMul, reduceCtorEq, Nat.reduceDiv, Nat.reduceLeDiff, Nat.reduceLT, Nat.reduceSub, cs_NextTo, cs_Nearer, hw1, hw2, hd]
        exact hV2 (by rintro (h | h); cases h; exact hd h.2) _
    · simp (disch := first | assumption | omega) only [c67, go_sem, ↓reduceIte, reduceIte, Nat.reduceEqDiff, Nat.reduceAdd, Nat.reduceMul, reduceCtorEq, Nat.reduceDiv, Nat.reduceLeDiff, Nat.reduceLT, Nat.reduceSub, cs_NextTo, cs_Nearer, hw1, hw2]
      exact hV2 (by rintro (h | h); cases h; cases h.1) _
  · simp (disch := first | assumption | omega) only [c67, go_sem, ↓reduceIte, reduceIte, Nat.reduceEqDiff, Nat.reduceAdd, Nat.reduceMul, reduceCtorEq, Nat.reduceDiv, Nat.reduceLeDiff, Nat.reduceLT, Nat.reduceSub, cs_NextTo, cs_Nearer, hw1, hw2]
    exact hV1 (.inl rfl) _

section
variable {n base : Nat} {Q : EX × St → Prop} {d : Option Nat} {L : List IOper} {ks : List Kont} {e : Env} {h : Heap}
theorem cs_nearest {x : Frac} {m : Nat} (hn : 6 ≤ n) (hx : OkI x) (h1 : 1 ≤ m) (h2 : m ≤ 1000) : GP (evCall T n) base Q d L ks e (evCall T n false (.fn 66) [.ptr [.int .i64 x.num, .int .i64 x.den] 0, .int .i64 m] h) = GO (evCall T n) base Q L ks ⟨setDst e d (rAV (nearestOf x m)), h⟩ :=
  gp_eq (con_nearest x m hx h1 h2) hn (fz_cons (frz_ptr _ _ _ _) (fz_int _ _ _ (fz_nil _))) (by simp [plainB, depth])
theorem cs_NearestOf {x : Frac} {m : Nat} (hn : 4 ≤ n) (hx : OkI x) (h1 : 1 ≤ m) (h2 : m ≤ 1000) : GP (evCall T n) base Q d L ks e (evCall T n false (.fn 67) [.agg [.int .i64 x.num, .int .i64 x.den], .int .i64 m] h) = GO (evCall T n) base Q L ks ⟨setDst e d (rAV (nearestOf x m)), h⟩ :=
  gp_eq (con_NearestOf x m hx h1 h2) hn (fz_rat _ _ (fz_int _ _ _ (fz_nil _))) (by simp [plainB, depth])
end

/-! ### Nearest -/
def nrs (x : Frac) (m : Int) : Frac × Int := if boundErr x m ≠ 0 then (zeroF, boundErr x m) else (nearestOf x m.toNat, 0)
theorem con_Nearest (x : Frac) (m : Int) : Con T 10005 29 [rAV x, .int .i64 m] (.tuple [rAV (nrs x m).1, .int .i64 (nrs x m).2]) := by
  refine con_intro t29 fun n hn V hV => ?_
  replace hV : ∀ a c h, (a, c) = nrs x m → V (.tuple [rAV a, .int .i64 c], h) := fun a c h e1 => hV _ _ (by rw [← e1]; exact (by repeat (first | exact mz_nil _ _ | exact frz_int _ _ _ _ | exact frz_bool _ _ _ | exact frz_slice _ _ _ _ _ | exact frz_ptr _ _ _ _ | exact frz_nilptr _ _ | refine mz_cons ?_ ?_ | refine frz_agg ?_ | refine frz_two ?_ ?_ | refine frz_three ?_ ?_ ?_)))
  have nf : (¬ False) = True := not_false_eq_true
  unfold nrs at hV
  by_cases hc : boundErr x m = 0
  · obtain ⟨ox, m1, m2⟩ := (boundErr_zero x m).1 hc
    obtain ⟨k, hk⟩ := Int.eq_ofNat_of_zero_le (show 0 ≤ m by omega)
    subst hk
    rw [if_neg (by omega)] at hV
    have hk1 : 1 ≤ k := by omega
    have hk2 : k ≤ 1000 := by omega
    simp (disch := first | assumption | omega) only [c29, go_sem, ↓reduceIte, reduceIte, Nat.reduceEqDiff, Nat.reduceAdd, Nat.reduceMul, reduceCtorEq, Nat.reduceDiv, Nat.reduceLeDiff, Nat.reduceLT, Nat.reduceSub, cs_bounded, hc, bne_self_eq_false, cs_nearest, resV_ct, ret_bind, nf]
    exact hV _ _ _ (by simp)
  · have hc' : (boundErr x m != 0) = true := by simp [hc]
    rw [if_pos hc] at hV
    simp (disch := first | assumption | omega) only [c29, go_sem, ↓reduceIte, reduceIte, Nat.reduceEqDiff, Nat.reduceAdd, Nat.reduceMul, reduceCtorEq, Nat.reduceDiv, Nat.reduceLeDiff, Nat.reduceLT, Nat.reduceSub, cs_bounded, hc', resV_ct, ret_bind, nf]
    exact hV zeroF _ _ rfl
theorem con_refNearest (x : Frac) (m : Int) : Con T 5 30 [rAV x, .int .i64 m] (.tuple [rAV (nrs x m).1, .int .i64 (nrs x m).2]) := by
  refine con_intro t30 fun n hn V hV => ?_
  replace hV : ∀ a c h, (a, c) = nrs x m → V (.tuple [rAV a, .int .i64 c], h) := fun a c h e1 => hV _ _ (by rw [← e1]; exact (by repeat (first | exact mz_nil _ _ | exact frz_int _ _ _ _ | exact frz_bool _ _ _ | exact frz_slice _ _ _ _ _ | exact frz_ptr _ _ _ _ | exact frz_nilptr _ _ | refine mz_cons ?_ ?_ | refine frz_agg ?_ | refine frz_two ?_ ?_ | refine frz_three ?_ ?_ ?_)))
  have nf : (¬ False) = True := not_false_eq_true
  unfold nrs at hV
  by_cases hc : boundErr x m = 0
  · obtain ⟨ox, m1, m2⟩ := (boundErr_zero x m).1 hc
    obtain ⟨k, hk⟩ := Int.eq_ofNat_of_zero_le (show 0 ≤ m by omega)
    subst hk
    rw [if_neg (by omega)] at hV
    have hk1 : 1 ≤ k := by omega
    have hk2 : k ≤ 1000 := by omega
    have hc' : (boundErr x k != 0) = false := by simp [hc]
    simp (disch := first | assumption | omega) only [c30, go_sem, ↓reduceIte, reduceIte, Nat.reduceEqDiff, Nat.reduceAdd, Nat.reduceMul, reduceCtorEq, Nat.reduceDiv, Nat.reduceLeDiff, Nat.reduceLT, Nat.reduceSub, cs_Bound, hc', cs_NearestOf, resV_ct, ret_bind, nf]
    exact hV _ _ _ (by simp)
  · have hc' : (boundErr x m != 0) = true := by simp [hc]
    rw [if_pos hc] at hV
    simp (disch := first | assumption | omega) only [c30, go_sem, ↓reduceIte, reduceIte, Nat.reduceEqDiff, Nat.reduceAdd, Nat.reduceMul, reduceCtorEq, Nat.reduceDiv, Nat.reduceLeDiff, Nat.reduceLT, Nat.reduceSub, cs_Bound, hc', resV_ct, ret_bind, nf]
    exact hV zeroF _ _ rfl

/-! ### CheckNearest -/
def chkNr (x f : Frac) (m : Int) : Int := if boundErr x m ≠ 0 then boundErr x m else if f.num < 0 ∨ 1073741824 < f.num ∨ f.den < 1 ∨ m < f.den then 3 else if nearer x (nearestOf x m.toNat) f = true then 17 else 0
theorem con_CheckNearest (x f : Frac) (m : Int) : Con T 10005 31 [rAV x, rAV f, .int .i64 m] (.int .i64 (chkNr x f m)) := by
  refine con_intro t31 fun n hn V hV => ?_
  replace hV : ∀ a h, a = chkNr x f m → V (.int .i64 a, h) := fun a h e1 => hV _ _ (by rw [e1]; exact (by repeat (first | exact mz_nil _ _ | exact frz_int _ _ _ _ | exact frz_bool _ _ _ | exact frz_slice _ _ _ _ _ | exact frz_ptr _ _ _ _ | exact frz_nilptr _ _ | refine mz_cons ?_ ?_ | refine frz_agg ?_ | refine frz_two ?_ ?_ | refine frz_three ?_ ?_ ?_)))
  have nf : (¬ False) = True := not_false_eq_true
  by_cases hc : boundErr x m = 0
  · obtain ⟨ox, m1, m2⟩ := (boundErr_zero x m).1 hc
    obtain ⟨k, hk⟩ := Int.eq_ofNat_of_zero_le (show 0 ≤ m by omega)
    subst hk
    have hk1 : 1 ≤ k := by omega
    have hk2 : k ≤ 1000 := by omega
    by_cases a : 0 ≤ f.num ∧ f.num ≤ 1073741824
    · obtain ⟨a1, a2⟩ := a
      by_cases b : 1 ≤ f.den ∧ f.den ≤ k
      · obtain ⟨b1, b2⟩ := b
        have nf2 : NB f := ⟨⟨by unfold Bn; omega, by unfold Bn; omega⟩, by omega, by omega⟩
        have nn : NB (nearestOf x k) := by
          rcases (nearest_cases x k).1 with e | e <;> rw [e]
          · exact low_nb ox hk1 hk2
          · exact high_nb ox hk1 hk2
        have hN : chkNr x f k = if nearer x (nearestOf x k) f = true then 17 else 0 := by
          unfold chkNr
          rw [if_neg (by omega), if_neg (by omega)]
          rfl
        by_cases hr : nearer x (nearestOf x k) f = true
        · simp (disch := first | assumption | omega) only [c31, go_sem, ↓reduceIte, reduceIte, Nat.reduceEqDiff, Nat.reduceAdd, Nat.reduceMul, reduceCtorEq, Nat.reduceDiv, Nat.reduceLeDiff, Nat.reduceLT, Nat.reduceSub, cs_bounded, hc, bne_self_eq_false, cs_within1, a1, a2, b1, b2, cs_nearest, cs_nearer, hr, nf]
          exact hV _ _ (by rw [hN, if_pos hr])
        · simp (disch := first | assumption | omega) only [c31, go_sem, ↓reduceIte, reduceIte, Nat.reduceEqDiff, Nat.reduceAdd, Nat.reduceMul, reduceCtorEq, Nat.reduceDiv, Nat.reduceLeDiff, Nat.reduceLT, Nat.reduceSub, cs_bounded, hc, bne_self_eq_false, cs_within1, a1, a2, b1, b2, cs_nearest, cs_nearer, hr, nf]
          exact hV _ _ (by rw [hN, if_neg hr])
      · have hw : (decide (1 ≤ f.den) && decide (f.den ≤ (k : Int))) = false := by rw [Bool.eq_false_iff]; simp; omega
        simp (disch := first | assumption | omega) only [c31, go_sem, ↓reduceIte, reduceIte, Nat.reduceEqDiff, Nat.reduceAdd, Nat.reduceMul, reduceCtorEq, Nat.reduceDiv, Nat.reduceLeDiff, Nat.reduceLT, Nat.reduceSub, cs_bounded, hc, bne_self_eq_false, cs_within1, a1, a2, hw, nf]
        exact hV _ _ (by unfold chkNr; rw [if_neg (by omega), if_pos (by omega)])
    · have hw : (decide (0 ≤ f.num) && decide (f.num ≤ 1073741824)) = false := by rw [Bool.eq_false_iff]; simp; omega
      simp (disch := first | assumption | omega) only [c31, go_sem, ↓reduceIte, reduceIte, Nat.reduceEqDiff, Nat.reduceAdd, Nat.reduceMul, reduceCtorEq, Nat.reduceDiv, Nat.reduceLeDiff, Nat.reduceLT, Nat.reduceSub, cs_bounded, hc, bne_self_eq_false, cs_within1, hw, nf]
      exact hV _ _ (by unfold chkNr; rw [if_neg (by omega), if_pos (by omega)])
  · have hc' : (boundErr x m != 0) = true := by simp [hc]
    simp (disch := first | assumption | omega) only [c31, go_sem, ↓reduceIte, reduceIte, Nat.reduceEqDiff, Nat.reduceAdd, Nat.reduceMul, reduceCtorEq, Nat.reduceDiv, Nat.reduceLeDiff, Nat.reduceLT, Nat.reduceSub, cs_bounded, hc', nf]
    exact hV _ _ (by unfold chkNr; rw [if_pos hc])
theorem con_refCheckNearest (x f : Frac) (m : Int) : Con T 5 32 [rAV x, rAV f, .int .i64 m] (.int .i64 (chkNr x f m)) := by
  refine con_intro t32 fun n hn V hV => ?_
  replace hV : ∀ a h, a = chkNr x f m → V (.int .i64 a, h) := fun a h e1 => hV _ _ (by rw [e1]; exact (by repeat (first | exact mz_nil _ _ | exact frz_int _ _ _ _ | exact frz_bool _ _ _ | exact frz_slice _ _ _ _ _ | exact frz_ptr _ _ _ _ | exact frz_nilptr _ _ | refine mz_cons ?_ ?_ | refine frz_agg ?_ | refine frz_two ?_ ?_ | refine frz_three ?_ ?_ ?_)))
  have nf : (¬ False) = True := not_false_eq_true
  by_cases hc : boundErr x m = 0
  · obtain ⟨ox, m1, m2⟩ := (boundErr_zero x m).1 hc
    obtain ⟨k, hk⟩ := Int.eq_ofNat_of_zero_le (show 0 ≤ m by omega)
    subst hk
    have hk1 : 1 ≤ k := by omega
    have hk2 : k ≤ 1000 := by omega
    have hc' : (boundErr x k != 0) = false := by simp [hc]
    have hno : (f.num < 0 ∨ 1073741824 < f.num ∨ f.den < 1 ∨ (k : Int) < f.den) → chkNr x f k = 3 := fun g => by unfold chkNr; rw [if_neg (by omega), if_pos g]
    by_cases a1 : f.num < 0
    · simp (disch := first | assumption | omega) only [c32, go_sem, ↓reduceIte, reduceIte, Nat.reduceEqDiff, Nat.reduceAdd, Nat.reduceMul, reduceCtorEq, Nat.reduceDiv, Nat.reduceLeDiff, Nat.reduceLT, Nat.reduceSub, cs_Bound, hc', a1, nf]
      exact hV _ _ (hno (by omega)).symm
    by_cases a2 : f.num > 1073741824
    · simp (disch := first | assumption | omega) only [c32, go_sem, ↓reduceIte, reduceIte, Nat.reduceEqDiff, Nat.reduceAdd, Nat.reduceMul, reduceCtorEq, Nat.reduceDiv, Nat.reduceLeDiff, Nat.reduceLT, Nat.reduceSub, cs_Bound, hc', a1, a2, nf]
      exact hV _ _ (hno (by omega)).symm
    by_cases a3 : f.den < 1
    · simp (disch := first | assumption | omega) only [c32, go_sem, ↓reduceIte, reduceIte, Nat.reduceEqDiff, Nat.reduceAdd, Nat.reduceMul, reduceCtorEq, Nat.reduceDiv, Nat.reduceLeDiff, Nat.reduceLT, Nat.reduceSub, cs_Bound, hc', a1, a2, a3, nf]
      exact hV _ _ (hno (by omega)).symm
    by_cases a4 : f.den > k
    · simp (disch := first | assumption | omega) only [c32, go_sem, ↓reduceIte, reduceIte, Nat.reduceEqDiff, Nat.reduceAdd, Nat.reduceMul, reduceCtorEq, Nat.reduceDiv, Nat.reduceLeDiff, Nat.reduceLT, Nat.reduceSub, cs_Bound, hc', a1, a2, a3, a4, nf]
      exact hV _ _ (hno (by omega)).symm
    have nf2 : NB f := ⟨⟨by unfold Bn; omega, by unfold Bn; omega⟩, by omega, by omega⟩
    have nn : NB (nearestOf x k) := by
      rcases (nearest_cases x k).1 with e | e <;> rw [e]
      · exact low_nb ox hk1 hk2
      · exact high_nb ox hk1 hk2
    have hN : chkNr x f k = if nearer x (nearestOf x k) f = true then 17 else 0 := by
      unfold chkNr
      rw [if_neg (by omega), if_neg (by omega)]
      rfl
    by_cases hr : nearer x (nearestOf x k) f = true
    · simp (disch := first | assumption | omega) only [c32, go_sem, ↓reduceIte, reduceIte, Nat.reduceEqDiff, Nat.reduceAdd, Nat.reduceMul, reduceCtorEq, Nat.reduceDiv, Nat.reduceLeDiff, Nat.reduceLT, Nat.reduceSub, cs_Bound, hc', a1, a2, a3, a4, cs_NearestOf, cs_Nearer, hr, nf]
      exact hV _ _ (by rw [hN, if_pos hr])
    · simp (disch := first | assumption | omega) only [c32, go_sem, ↓reduceIte, reduceIte, Nat.reduceEqDiff, Nat.reduceAdd, Nat.reduceMul, reduceCtorEq, Nat.reduceDiv, Nat.reduceLeDiff, Nat.reduceLT, Nat.reduceSub, cs_Bound, hc', a1, a2, a3, a4, cs_NearestOf, cs_Nearer, hr, nf]
      exact hV _ _ (by rw [hN, if_neg hr])
  · have hc' : (boundErr x m != 0) = true := by simp [hc]
    simp (disch := first | assumption | omega) only [c32, go_sem, ↓reduceIte, reduceIte, Nat.reduceEqDiff, Nat.reduceAdd, Nat.reduceMul, reduceCtorEq, Nat.reduceDiv, Nat.reduceLeDiff, Nat.reduceLT, Nat.reduceSub, cs_Bound, hc', nf]
    exact hV _ _ (by unfold chkNr; rw [if_pos hc])

section
variable {n base : Nat} {Q : EX × St → Prop} {d : Option Nat} {L : List IOper} {ks : List Kont} {e : Env} {h : Heap}
theorem cs_Nearest {x : Frac} {m : Int} (hn : 10005 ≤ n) : GP (evCall T n) base Q d L ks e (evCall T n false (.fn 29) [.agg [.int .i64 x.num, .int .i64 x.den], .int .i64 m] h) = GO (evCall T n) base Q L ks ⟨setDst e d (.tuple [rAV (nrs x m).1, .int .i64 (nrs x m).2]), h⟩ :=
  gp_eq (con_Nearest x m) hn (fz_rat _ _ (fz_int _ _ _ (fz_nil _))) (by simp [plainB, depth])
theorem cs_refNearest {x : Frac} {m : Int} (hn : 5 ≤ n) : GP (evCall T n) base Q d L ks e (evCall T n false (.fn 30) [.agg [.int .i64 x.num, .int .i64 x.den], .int .i64 m] h) = GO (evCall T n) base Q L ks ⟨setDst e d (.tuple [rAV (nrs x m).1, .int .i64 (nrs x m).2]), h⟩ :=
  gp_eq (con_refNearest x m) hn (fz_rat _ _ (fz_int _ _ _ (fz_nil _))) (by simp [plainB, depth])
theorem cs_CheckNearest {x f : Frac} {m : Int} (hn : 10005 ≤ n) : GP (evCall T n) base Q d L ks e (evCall T n false (.fn 31) [.agg [.int .i64 x.num, .int .i64 x.den], .agg [.int .i64 f.num, .int .i64 f.den], .int .i64 m] h) = GO (evCall T n) base Q L ks ⟨setDst e d (.int .i64 (chkNr x f m)), h⟩ :=
  gp_eq (con_CheckNearest x f m) hn (fz_rat _ _ (fz_rat _ _ (fz_int _ _ _ (fz_nil _)))) (or_pi _ _ _)
theorem cs_refCheckNearest {x f : Frac} {m : Int} (hn : 5 ≤ n) : GP (evCall T n) base Q d L ks e (evCall T n false (.fn 32) [.agg [.int .i64 x.num, .int .i64 x.den], .agg [.int .i64 f.num, .int .i64 f.den], .int .i64 m] h) = GO (evCall T n) base Q L ks ⟨setDst e d (.int .i64 (chkNr x f m)), h⟩ :=
  gp_eq (con_refCheckNearest x f m) hn (fz_rat _ _ (fz_rat _ _ (fz_int _ _ _ (fz_nil _)))) (or_pi _ _ _)
end

end Go.Ev.YtcghegefcgnhbaaC
