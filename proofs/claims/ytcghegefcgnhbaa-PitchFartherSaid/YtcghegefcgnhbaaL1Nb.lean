/- The fractions next to an interval: the program's way, and the reference's. Contracts; conditions stand in each. -/
import Derived.Test.YtcghegefcgnhbaaL1Open
import Derived.Test.YtcghegefcgnhbaaL1Nb0
set_option linter.unusedSimpArgs false
set_option linter.unusedVariables false
namespace Go.Ev.YtcghegefcgnhbaaC
open Go Go.Proofs

attribute [local irreducible] Res.all evC evLoop evOps evOper evOp evFn evCall freeze G GO GV GP GC R
set_option maxRecDepth 100000

theorem con_whole : Con T 1 86 [] (.agg [.int .i64 0, .int .i64 1, .int .i64 1, .int .i64 0]) := by
  refine con_intro t86 fun n hn V hV => ?_
  simp (disch := first | assumption | omega) only [c86, go_sem, ↓reduceIte, reduceIte, Nat.reduceEqDiff, Nat.reduceAdd, Nat.reduceMul, reduceCtorEq, Nat.reduceDiv, Nat.reduceLeDiff, Nat.reduceLT, Nat.reduceSub]
  exact hV _ _ (by repeat (first | exact mz_nil _ _ | exact frz_int _ _ _ _ | exact frz_bool _ _ _ | exact frz_slice _ _ _ _ _ | exact frz_ptr _ _ _ _ | exact frz_nilptr _ _ | refine mz_cons ?_ ?_ | refine frz_agg ?_ | refine frz_two ?_ ?_ | refine frz_three ?_ ?_ ?_))
theorem cs_whole {n base : Nat} {Q : EX × St → Prop} {d : Option Nat} {L : List IOper} {ks : List Kont} {e : Env} {h : Heap} (hn : 1 ≤ n) : GP (evCall T n) base Q d L ks e (evCall T n false (.fn 86) [] h) = GO (evCall T n) base Q L ks ⟨setDst e d (.agg [.int .i64 0, .int .i64 1, .int .i64 1, .int .i64 0]), h⟩ :=
  gp_eq con_whole hn (fz_nil _) rfl

theorem frz_rat2 (h : Heap) (n : Nat) (x y : Frac) : freeze h (n + 3) (.tuple [rAV x, rAV y]) = .ret (.tuple [rAV x, rAV y]) :=
  frz_two (frz_agg (mz_cons (frz_int _ _ _ _) (mz_cons (frz_int _ _ _ _) (mz_nil _ _)))) (frz_agg (mz_cons (frz_int _ _ _ _) (mz_cons (frz_int _ _ _ _) (mz_nil _ _))))

theorem asNat_3 (k : IntKind) : asNat (.int k 3) = some 3 := rfl
abbrev b4 (a b c d : Int) : List AV := [.int .i64 a, .int .i64 b, .int .i64 c, .int .i64 d]

theorem eqInts_b4 (a b c d a' b' c' d' : Int) : eqInts (b4 a b c d) (b4 a' b' c' d') = some (decide (a = a' ∧ b = b' ∧ c = c' ∧ d = d')) := by
  simp only [eqInts, if_true]
  by_cases h1 : a = a' <;> by_cases h2 : b = b' <;> by_cases h3 : c = c' <;> by_cases h4 : d = d' <;> simp [h1, h2, h3, h4]
theorem eaA_b4 (a b c d a' b' c' d' : Int) : eaA 4 false (.agg (b4 a b c d)) (.agg (b4 a' b' c' d')) = .ret (.bool (decide (a = a' ∧ b = b' ∧ c = c' ∧ d = d'))) := by
  simp [eaA, eqInts_b4]
theorem min_mn (k : IntKind) (a b : Int) : minOf k a [.int k b] = .ret (.int k (mn a b)) := by simp [minOf, mn]

/-- what a half of a round reckons fits -/
structure Fits (x : Frac) (m a b c d : Int) : Prop where
  p1 : 0 ≤ x.num * b ∧ x.num * b ≤ 10000000
  p2 : 0 ≤ a * x.den ∧ a * x.den ≤ 100000000
  p3 : 0 ≤ c * x.den ∧ c * x.den ≤ 100000010000
  p4 : 0 ≤ x.num * d ∧ x.num * d ≤ 10000000
  p5 : 0 < x.num * b - a * x.den
  p6 : 0 < c * x.den - x.num * d
  s : 0 ≤ a ∧ a ≤ 10000 ∧ 1 ≤ b ∧ b ≤ m ∧ 1 ≤ c ∧ c ≤ 10000001 ∧ 0 ≤ d ∧ d ≤ m
theorem fits_of {x : Frac} {m a b c d : Int} (hB : Bnd x m a b c d) (hx : OkI x) (hqm : m < x.den) (h2 : m ≤ 1000) : Fits x m a b c d := by
  have g1 := hx.n1
  have g2 := hx.n2
  have g3 := hx.d1
  have g4 := hx.d2
  have v0 := hB.a0
  have v1 := hB.b1
  have v2 := hB.bm
  have v3 := hB.c0
  have v4 := hB.d0
  have v5 := hB.dm
  have al := hB.a_lt (by omega) hqm
  have cl := hB.c_le (by omega) (by omega) hqm (by omega)
  have l1 := hB.lt1
  have l2 := hB.lt2
  exact ⟨prod_le (by omega) g2 (by omega) (show b ≤ 1000 by omega), prod_le v0 (show a ≤ 10000 by omega) (by omega) g4, prod_le (by omega) cl (by omega) g4, prod_le (by omega) g2 v4 (show d ≤ 1000 by omega), by omega, by omega, by omega⟩

theorem con_beside (x : Frac) (m : Nat) (hx : OkI x) (h1 : 1 ≤ m) (h2 : m ≤ 1000) : Con T 2 63 [forkV x, .int .i64 m] (.tuple [rAV (lowN x m), rAV (highN x m)]) := by
  refine con_intro t63 fun n hn V hV => ?_
  have g1 := hx.n1
  have g2 := hx.n2
  have g3 := hx.d1
  have g4 := hx.d2
  by_cases hq : x.den ≤ m
  · obtain ⟨e1, e2⟩ := next_self hx.pr (by omega) h1 (by omega) hq
    rw [e1, e2] at hV
    simp (disch := first | assumption | omega) only [c63, go_sem, ↓reduceIte, reduceIte, Nat.reduceEqDiff, Nat.reduceAdd, Nat.reduceMul, reduceCtorEq, Nat.reduceDiv, Nat.reduceLeDiff, Nat.reduceLT, Nat.reduceSub, hq]
    simp (disch := first | assumption | omega) only [go_sem, ↓reduceIte, reduceIte, Nat.reduceEqDiff, Nat.reduceAdd, Nat.reduceMul, reduceCtorEq, Nat.reduceDiv, Nat.reduceLeDiff, Nat.reduceLT, Nat.reduceSub, resV_cc, ret_bind]
    exact hV _ _ (frz_rat2 _ _ _ _)
  · simp (disch := first | assumption | omega) only [c63, go_sem, ↓reduceIte, reduceIte, Nat.reduceEqDiff, Nat.reduceAdd, Nat.reduceMul, reduceCtorEq, Nat.reduceDiv, Nat.reduceLeDiff, Nat.reduceLT, Nat.reduceSub, hq, cs_whole]
    refine m_loop (fun M st => ∃ (a b c d : Int) (v4 v5 v6 : Nat) (r40 r41 r50 r51 : AV), M = (2 * (m : Int) + 1 - b - d).toNat ∧ Bnd x m a b c d ∧ At st.env [(0, forkV x), (1, .int .i64 m), (4, .optr 4 v4 0), (5, .optr 5 v5 0), (6, .optr 6 v6 0)] ∧ getH st.heap 4 = .cells v4 [r40, r41] ∧ getH st.heap 5 = .cells v5 [r50, r51] ∧ getH st.heap 6 = .cells v6 (b4 a b c d)) (2 * m) (by omega) ⟨0, 1, 1, 0, 0, 0, 0, .int .i64 0, .int .i64 0, .int .i64 0, .int .i64 0, by omega, bnd_whole (by omega) (by omega) (by omega), by simp only [go_sem, ↓reduceIte, reduceIte, Nat.reduceEqDiff, Nat.reduceAdd, Nat.reduceMul, reduceCtorEq, Nat.reduceDiv, Nat.reduceLeDiff, Nat.reduceLT, Nat.reduceSub], by simp only [go_sem, ↓reduceIte, reduceIte, Nat.reduceEqDiff, Nat.reduceAdd, Nat.reduceMul, reduceCtorEq, Nat.reduceDiv, Nat.reduceLeDiff, Nat.reduceLT, Nat.reduceSub], by simp only [go_sem, ↓reduceIte, reduceIte, Nat.reduceEqDiff, Nat.reduceAdd, Nat.reduceMul, reduceCtorEq, Nat.reduceDiv, Nat.reduceLeDiff, Nat.reduceLT, Nat.reduceSub], by simp only [go_sem, ↓reduceIte, reduceIte, Nat.reduceEqDiff, Nat.reduceAdd, Nat.reduceMul, reduceCtorEq, Nat.reduceDiv, Nat.reduceLeDiff, Nat.reduceLT, Nat.reduceSub]⟩ ?_
    rintro M e h hM ⟨a, b, c, d, v4, v5, v6, r40, r41, r50, r51, rfl, hB, hE, hh4, hh5, hh6⟩ P hP
    simp only [At_cons, At_nil] at hE
    obtain ⟨f0, f1, f4, f5, f6, -⟩ := hE
    have hqm : (m : Int) < x.den := by omega
    obtain ⟨⟨p10, p11⟩, ⟨p20, p21⟩, ⟨p30, p31⟩, ⟨p40, p41⟩, p5, p6, s0, s1, s2, s3, s4, s5, s6, s7⟩ := fits_of hB hx hqm (by omega)
    have hB' := hB.dn hx.pr (by omega) hqm (by omega)
    obtain ⟨rA, rR⟩ := hB.round hx.pr (by omega) hqm (by omega) rfl rfl rfl
    have hB'' := hB'.upn hx.pr (by omega) hqm
    have n20 := hB'.upn0
    have fin : ∀ a b c d : Int, Bnd x m a b c d → (m : Int) < b + d → 1 ≤ d → ∀ h', V (.tuple [.agg [.int .i64 a, .int .i64 b], .agg [.int .i64 c, .int .i64 d]], h') := fun a b c d hb e1 e2 h' => by
      obtain ⟨q1, q2⟩ := beside_eq (by omega) hx.pr (by omega) (by omega) (.inr (hb.nb e1 e2))
      exact hV _ _ (by rw [← q1, ← q2]; exact frz_rat2 _ _ ⟨a, b⟩ ⟨c, d⟩)
    have nf : (¬ False) = True := not_false_eq_true
    by_cases hd : d = 0
    · subst hd
      have hd' : ((0 : Int) == 0) = true := rfl
      have hA : dnA x m a b c 0 = x.num / x.den := by unfold dnA; rw [if_pos rfl]
      have hBB : dnB x m a b c 0 = b := by unfold dnB; rw [if_pos rfl]
      rw [hA, hBB] at hB' rA rR hB'' n20
      obtain ⟨⟨p10', p11'⟩, ⟨p20', p21'⟩, ⟨p30', p31'⟩, ⟨p40', p41'⟩, p5', p6', s0', s1', s2', s3', s4', s5', s6', s7'⟩ := fits_of hB' hx hqm (by omega)
      obtain ⟨n2, hn2⟩ : ∃ n2, upN x m (x.num / x.den) b c 0 = n2 := ⟨_, rfl⟩
      have hn2' : mn ((c * x.den - x.num * 0) / (x.num * b - (x.num / x.den) * x.den)) (((m : Int) - 0) / b) = n2 := hn2
      rw [hn2] at rA rR hB'' n20
      obtain ⟨-, -, -, -, -, -, s0'', s1'', s2'', s3'', s4'', s5'', s6'', s7''⟩ := fits_of hB'' hx hqm (by omega)
      rw [Int.zero_add] at hB'' rR rA s6'' s7''
      by_cases hs : a = x.num / x.den ∧ c = c + n2 * (x.num / x.den) ∧ (0 : Int) = n2 * b
      · have := (rA hs.1.symm rfl hs.2.1.symm hs.2.2.symm).2
        omega
      · have hs' : decide (a = x.num / x.den ∧ c = c + n2 * (x.num / x.den) ∧ (0 : Int) = n2 * b) = false := decide_eq_false hs
        simp (disch := first | assumption | omega) only [go_sem, ↓reduceIte, reduceIte, Nat.reduceEqDiff, Nat.reduceAdd, Nat.reduceMul, reduceCtorEq, Nat.reduceDiv, Nat.reduceLeDiff, Nat.reduceLT, Nat.reduceSub, f0, f1, f4, f5, f6, hh4, hh5, hh6, asNat_3, hd', b_quo, min_mn, hn2', eaA_b4, hs', resV_cc, ret_bind, nf]
        have := rR (fun e => hs ⟨e.1.symm, e.2.2.1.symm, e.2.2.2.symm⟩)
        exact hP (2 * (m : Int) + 1 - b - n2 * b).toNat _ (by omega) ⟨_, _, _, _, v4, v5, v6, r40, r41, r50, r51, rfl, hB'', by simp only [go_sem, ↓reduceIte, reduceIte, Nat.reduceEqDiff, Nat.reduceAdd, Nat.reduceMul, reduceCtorEq, Nat.reduceDiv, Nat.reduceLeDiff, Nat.reduceLT, Nat.reduceSub, f0, f1, f4, f5, f6], by simp only [go_sem, ↓reduceIte, reduceIte, Nat.reduceEqDiff, Nat.reduceAdd, Nat.reduceMul, reduceCtorEq, Nat.reduceDiv, Nat.reduceLeDiff, Nat.reduceLT, Nat.reduceSub, hh4], by simp only [go_sem, ↓reduceIte, reduceIte, Nat.reduceEqDiff, Nat.reduceAdd, Nat.reduceMul, reduceCtorEq, Nat.reduceDiv, Nat.reduceLeDiff, Nat.reduceLT, Nat.reduceSub, hh5], by simp only [go_sem, ↓reduceIte, reduceIte, Nat.reduceEqDiff, Nat.reduceAdd, Nat.reduceMul, reduceCtorEq, Nat.reduceDiv, Nat.reduceLeDiff, Nat.reduceLT, Nat.reduceSub]⟩
    · have hd' : (d == 0) = false := by simp [hd]
      obtain ⟨nn, hnn⟩ : ∃ nn, mn ((x.num * b - a * x.den) / (c * x.den - x.num * d)) (((m : Int) - b) / d) = nn := ⟨_, rfl⟩
      have hA : dnA x m a b c d = a + nn * c := by unfold dnA; rw [if_neg hd, hnn]
      have hBB : dnB x m a b c d = b + nn * d := by unfold dnB; rw [if_neg hd, hnn]
      rw [hA, hBB] at hB' rA rR hB'' n20
      obtain ⟨⟨p10', p11'⟩, ⟨p20', p21'⟩, ⟨p30', p31'⟩, ⟨p40', p41'⟩, p5', p6', s0', s1', s2', s3', s4', s5', s6', s7'⟩ := fits_of hB' hx hqm (by omega)
      obtain ⟨n2, hn2⟩ : ∃ n2, upN x m (a + nn * c) (b + nn * d) c d = n2 := ⟨_, rfl⟩
      have hn2' : mn ((c * x.den - x.num * d) / (x.num * (b + nn * d) - (a + nn * c) * x.den)) (((m : Int) - d) / (b + nn * d)) = n2 := hn2
      rw [hn2] at rA rR hB'' n20
      obtain ⟨-, -, -, -, -, -, s0'', s1'', s2'', s3'', s4'', s5'', s6'', s7''⟩ := fits_of hB'' hx hqm (by omega)
      by_cases hs : a = a + nn * c ∧ b = b + nn * d ∧ c = c + n2 * (a + nn * c) ∧ d = d + n2 * (b + nn * d)
      · have hs' : decide (a = a + nn * c ∧ b = b + nn * d ∧ c = c + n2 * (a + nn * c) ∧ d = d + n2 * (b + nn * d)) = true := decide_eq_true hs
        simp (disch := first | assumption | omega) only [go_sem, ↓reduceIte, reduceIte, Nat.reduceEqDiff, Nat.reduceAdd, Nat.reduceMul, reduceCtorEq, Nat.reduceDiv, Nat.reduceLeDiff, Nat.reduceLT, Nat.reduceSub, f0, f1, f4, f5, f6, hh4, hh5, hh6, asNat_3, hd', b_quo, min_mn, hnn, hn2', eaA_b4, hs', resV_cc, ret_bind, nf]
        have := rA hs.1.symm hs.2.1.symm hs.2.2.1.symm hs.2.2.2.symm
        exact fin _ _ _ _ hB'' (by omega) (by omega) _
      · have hs' : decide (a = a + nn * c ∧ b = b + nn * d ∧ c = c + n2 * (a + nn * c) ∧ d = d + n2 * (b + nn * d)) = false := decide_eq_false hs
        simp (disch := first | assumption | omega) only [go_sem, ↓reduceIte, reduceIte, Nat.reduceEqDiff, Nat.reduceAdd, Nat.reduceMul, reduceCtorEq, Nat.reduceDiv, Nat.reduceLeDiff, Nat.reduceLT, Nat.reduceSub, f0, f1, f4, f5, f6, hh4, hh5, hh6, asNat_3, hd', b_quo, min_mn, hnn, hn2', eaA_b4, hs', resV_cc, ret_bind, nf]
        have := rR (fun e => hs ⟨e.1.symm, e.2.1.symm, e.2.2.1.symm, e.2.2.2.symm⟩)
        exact hP (2 * (m : Int) + 1 - (b + nn * d) - (d + n2 * (b + nn * d))).toNat _ (by omega) ⟨_, _, _, _, v4, v5, v6, r40, r41, r50, r51, rfl, hB'', by simp only [go_sem, ↓reduceIte, reduceIte, Nat.reduceEqDiff, Nat.reduceAdd, Nat.reduceMul, reduceCtorEq, Nat.reduceDiv, Nat.reduceLeDiff, Nat.reduceLT, Nat.reduceSub, f0, f1, f4, f5, f6], by simp only [go_sem, ↓reduceIte, reduceIte, Nat.reduceEqDiff, Nat.reduceAdd, Nat.reduceMul, reduceCtorEq, Nat.reduceDiv, Nat.reduceLeDiff, Nat.reduceLT, Nat.reduceSub, hh4], by simp only [go_sem, ↓reduceIte, reduceIte, Nat.reduceEqDiff, Nat.reduceAdd, Nat.reduceMul, reduceCtorEq, Nat.reduceDiv, Nat.reduceLeDiff, Nat.reduceLT, Nat.reduceSub, hh5], by simp only [go_sem, ↓reduceIte, reduceIte, Nat.reduceEqDiff, Nat.reduceAdd, Nat.reduceMul, reduceCtorEq, Nat.reduceDiv, Nat.reduceLeDiff, Nat.reduceLT, Nat.reduceSub]⟩

end Go.Ev.YtcghegefcgnhbaaC
