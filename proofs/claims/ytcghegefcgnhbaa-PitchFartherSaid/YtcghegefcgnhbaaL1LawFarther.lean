/- PitchFarther returns true. -/
import Derived.Test.YtcghegefcgnhbaaL1LawWalked
import Derived.Test.YtcghegefcgnhbaaL1Math7
set_option linter.unusedSimpArgs false
set_option linter.unusedVariables false
namespace Go.Ev.YtcghegefcgnhbaaC
open Go Go.Proofs

structure Further (x : Frac) (p P : List Int) (n : Int) (A B : Frac) : Prop where
  pe : p = P ++ [n]
  n0 : 0 ≤ n
  n1 : n ≤ 5000
  len : p.length ≤ 28
  wa : wlk (P ++ [n + 1]) = (A, 0)
  wb : wlk (p ++ [1]) = (B, 0)
  oa : OkI A
  ob : OkI B
  ma : x.num + x.den < A.num + A.den
  mb : x.num + x.den < B.num + B.den
  even : p.length % 2 = 0 → gapF A x = 1 ∧ gapF x B = 1
  odd : p.length % 2 = 1 → gapF B x = 1 ∧ gapF x A = 1

theorem further {x : Frac} (hx : OkI x) (h1 : x ≠ ⟨1, 1⟩) (hn : x.num ≤ 5000) (hd : x.den ≤ 5000) : ∃ P n A B, Further x (longsI (pathN x.num.toNat x.den.toNat)) P n A B := by
  have g1 := hx.n1
  have g3 := hx.d1
  have hg := hx.pr
  unfold Prim at hg
  have hw := wlk_path hx
  have pl := path_length (u := x.num.toNat) (v := x.den.toNat) (by omega)
  have ple := path_le (u := x.num.toNat) (v := x.den.toNat) (N := 5000) (by omega) (by omega)
  have pw := path_walk (u := x.num.toNat) (v := x.den.toNat) (by omega) (by omega) hg
  have ex : (⟨((x.num.toNat : Nat) : Int), ((x.den.toNat : Nat) : Int)⟩ : Frac) = x := Frac.ext' (by simp only; omega) (by simp only; omega)
  rw [ex] at pw
  have hpl : (longsI (pathN x.num.toNat x.den.toNat)).length ≤ 28 := by rw [longsI_length]; exact pl
  have hple : ∀ n ∈ longsI (pathN x.num.toNat x.den.toNat), 0 ≤ n ∧ n ≤ 5000 := fun n hn => by
    obtain ⟨m, hm, rfl⟩ := List.mem_map.1 hn
    have := ple m hm
    omega
  generalize longsI (pathN x.num.toNat x.den.toNat) = p at *
  have hb : ¬ badP p := fun hb => by
    rw [wErr_bad (by omega) hb] at hw
    have := congrArg Prod.snd hw
    simp at this
  have hne : p ≠ [] := fun h0 => h1 (by rw [← pw, h0]; rfl)
  obtain ⟨P, n, rfl⟩ : ∃ P n, p = P ++ [n] := ⟨p.dropLast, p.getLast hne, (List.dropLast_concat_getLast hne).symm⟩
  have hn0 := hple n (by simp)
  have hnn : (walkB 0 (P ++ [n]) wholeB).NN := (walkB_le _ 0 _ wholeB_nn fun m hm => (hple m hm).1).2
  have hdet : (walkB 0 (P ++ [n]) wholeB).det = 1 := by rw [walkB_det]; simp [Bd.det, wholeB]
  obtain ⟨s1, s2, s3, s4, s5, s6, s7, s8, s9, s10, s11, s12⟩ := mv_sides hnn hdet
  have hmore := walk_more P n
  have hother := walk_other (P ++ [n])
  rw [pw] at s1 s2 s3 s4 s5 s6 s7 s8 s9 s10 s11 s12
  have hz : (0 : Int) ∉ (P ++ [n]).drop 1 := fun h => hb (.inr (.inl h))
  have hbA : ¬ badP (P ++ [n + 1]) := by
    rintro (⟨m, hm, hc⟩ | h | h)
    · rcases List.mem_append.1 hm with hm | hm
      · have := hple m (List.mem_append_left _ hm); omega
      · obtain rfl : m = n + 1 := by simpa using hm
        omega
    · cases P with
      | nil => simp at h
      | cons a r =>
        simp only [List.cons_append, List.drop_succ_cons, List.drop_zero, List.mem_append, List.mem_singleton] at h hz
        rcases h with h | h
        · exact hz (.inl h)
        · omega
    · cases P with
      | nil => simp at h; omega
      | cons a r => simp at h
  have hbB : ¬ badP ((P ++ [n]) ++ [1]) := by
    rintro (⟨m, hm, hc⟩ | h | h)
    · rcases List.mem_append.1 hm with hm | hm
      · have := hple m hm; omega
      · obtain rfl : m = 1 := by simpa using hm
        omega
    · rw [List.drop_append_of_le_length (by simp)] at h
      rcases List.mem_append.1 h with h | h
      · exact hz h
      · simp at h
    · have := congrArg List.length h
      simp at this
  have hlA : (P ++ [n + 1]).length ≤ 40 := by simp at hpl ⊢; omega
  have hlB : ((P ++ [n]) ++ [1]).length ≤ 40 := by simp at hpl ⊢; omega
  have hfA : fitsW (P ++ [n + 1]) := by
    unfold fitsW
    rw [hmore]
    cases (P.length % 2 == 1) <;> exact ⟨by omega, by omega⟩
  have hfB : fitsW ((P ++ [n]) ++ [1]) := by
    unfold fitsW
    rw [hother]
    cases ((P ++ [n]).length % 2 == 1) <;> exact ⟨by omega, by omega⟩
  refine ⟨P, n, (walkB 0 (P ++ [n + 1]) wholeB).sum, (walkB 0 ((P ++ [n]) ++ [1]) wholeB).sum, rfl, hn0.1, hn0.2, hpl, wErr_ok hlA hbA hfA, wErr_ok hlB hbB hfB, (wlk_back hlA hbA hfA).1, (wlk_back hlB hbB hfB).1, ?_, ?_, ?_, ?_⟩
  · rw [hmore]; cases (P.length % 2 == 1) <;> assumption
  · rw [hother]; cases ((P ++ [n]).length % 2 == 1) <;> assumption
  · intro he
    have e1 : (P.length % 2 == 1) = true := by simp at he ⊢; omega
    have e2 : ((P ++ [n]).length % 2 == 1) = false := by rw [he]; rfl
    rw [hmore, hother, e1, e2]
    exact ⟨s2, s1⟩
  · intro he
    have e1 : (P.length % 2 == 1) = false := by simp at he ⊢; omega
    have e2 : ((P ++ [n]).length % 2 == 1) = true := by rw [he]; rfl
    rw [hmore, hother, e1, e2]
    exact ⟨s2, s1⟩

attribute [local irreducible] Res.all evC evLoop evOps evOper evOp evFn evCall freeze G GO GV GP GC R
set_option maxRecDepth 100000

set_option maxHeartbeats 4000000 in
theorem pitchFarther_at (n0 : Nat) (hn : n0 = 20000) (x : Frac) (_ : RWf x) : (evFn (evCall T n0) c14 [rAV x] []).all fun p => p.1 = .bool true := by
  rw [m_fn]
  obtain ⟨n0, rfl⟩ : ∃ m, n0 = m + 1 := ⟨n0 - 1, by omega⟩
  have nf : (¬ False) = True := not_false_eq_true
  obtain ⟨One, o1, o2, o3⟩ : ∃ One : Frac, 1 = One.num ∧ 1 = One.den ∧ One = ⟨1, 1⟩ := ⟨⟨1, 1⟩, rfl, rfl, rfl⟩
  by_cases hc : chkI x = 0
  case neg =>
    have hc' : (chkI x == 0) = false := by simp [hc]
    simp (disch := first | assumption | omega) only [c14, go_sem, ↓reduceIte, reduceIte, Nat.reduceEqDiff, Nat.reduceAdd, Nat.reduceMul, reduceCtorEq, Nat.reduceDiv, Nat.reduceLeDiff, Nat.reduceLT, Nat.reduceSub, cs_fine, hc', cs_Works]
  have hc' : (chkI x == 0) = true := by simp [hc]
  have hx := (chkI_zero x).1 hc
  have g1 := hx.n1; have g2 := hx.n2; have g3 := hx.d1; have g4 := hx.d2
  by_cases h1 : x = One
  · have h1' : decide (x = One) = true := decide_eq_true h1
    simp (disch := first | assumption | omega) only [c14, go_sem, ↓reduceIte, reduceIte, Nat.reduceEqDiff, Nat.reduceAdd, Nat.reduceMul, reduceCtorEq, Nat.reduceDiv, Nat.reduceLeDiff, Nat.reduceLT, Nat.reduceSub, cs_fine, hc', eaA_rat, cs_by One, h1', cs_Works]
  have h1' : decide (x = One) = false := decide_eq_false h1
  by_cases g5 : x.num > 5000
  · simp (disch := first | assumption | omega) only [c14, go_sem, ↓reduceIte, reduceIte, Nat.reduceEqDiff, Nat.reduceAdd, Nat.reduceMul, reduceCtorEq, Nat.reduceDiv, Nat.reduceLeDiff, Nat.reduceLT, Nat.reduceSub, cs_fine, hc', eaA_rat, cs_by One, h1', g5, cs_Works]
  by_cases g6 : x.den > 5000
  · simp (disch := first | assumption | omega) only [c14, go_sem, ↓reduceIte, reduceIte, Nat.reduceEqDiff, Nat.reduceAdd, Nat.reduceMul, reduceCtorEq, Nat.reduceDiv, Nat.reduceLeDiff, Nat.reduceLT, Nat.reduceSub, cs_fine, hc', eaA_rat, cs_by One, h1', g5, g6, cs_Works]
  obtain ⟨P, n, A, B, hf⟩ := further hx (by rw [← o3]; exact h1) (by omega) (by omega)
  have hp := pth_ok hx
  generalize longsI (pathN x.num.toNat x.den.toNat) = p at *
  obtain ⟨pe, k0, k1, len, wa, wb, oa, ob, ma, mb, even, odd⟩ := hf
  have hpl : p.length = P.length + 1 := by rw [pe]; simp
  have g7 : ¬ ((p.length : Nat) : Int) < 1 := by omega
  have g8 : ¬ ((p.length : Nat) : Int) ≥ 40 := by omega
  simp (disch := first | assumption | omega) only [c14, go_sem, ↓reduceIte, reduceIte, Nat.reduceEqDiff, Nat.reduceAdd, Nat.reduceMul, reduceCtorEq, Nat.reduceDiv, Nat.reduceLeDiff, Nat.reduceLT, Nat.reduceSub, cs_fine, hc', eaA_rat, cs_by One, h1', g5, g6, cs_Path, hp, bne_self_eq_false, g7, g8]
  refine gp_of (raw_longs [] true _ _ fun h1 l1 l2 => ?_)
  simp (disch := first | assumption | omega) only [go_sem, ↓reduceIte, reduceIte, Nat.reduceEqDiff, Nat.reduceAdd, Nat.reduceMul, reduceCtorEq, Nat.reduceDiv, Nat.reduceLeDiff, Nat.reduceLT, Nat.reduceSub]
  refine gp_append (l := []) (l2 := p) (m := p.length) (by first | with_reducible rfl | (simp only [length_setH, List.length_append, List.length_replicate]; done) | (simp only [length_setH, List.length_append, List.length_replicate]; omega)) (own_nil h1.length _ _) (Nat.le_refl _) (by rw [cs_ints]) rfl (by omega) (by simp; omega) fun v h2 hv k3 k4 k5 k6 => ?_
  rw [List.nil_append] at hv
  simp (disch := first | assumption | omega) only [go_sem, ↓reduceIte, reduceIte, Nat.reduceEqDiff, Nat.reduceAdd, Nat.reduceMul, reduceCtorEq, Nat.reduceDiv, Nat.reduceLeDiff, Nat.reduceLT, Nat.reduceSub]
  refine gp_of (raw_longs [] true _ _ fun h3 l3 l4 => ?_)
  simp (disch := first | assumption | omega) only [go_sem, ↓reduceIte, reduceIte, Nat.reduceEqDiff, Nat.reduceAdd, Nat.reduceMul, reduceCtorEq, Nat.reduceDiv, Nat.reduceLeDiff, Nat.reduceLT, Nat.reduceSub]
  refine gp_append (l := []) (l2 := p) (m := p.length) (by first | with_reducible rfl | (simp only [length_setH, List.length_append, List.length_replicate]; done) | (simp only [length_setH, List.length_append, List.length_replicate]; omega)) (own_nil h3.length _ _) (Nat.le_refl _) (by rw [cs_ints]) rfl (by omega) (by simp; omega) fun w h4 hw j3 j4 j5 j6 => ?_
  rw [List.nil_append] at hw
  simp (disch := first | assumption | omega) only [go_sem, ↓reduceIte, reduceIte, Nat.reduceEqDiff, Nat.reduceAdd, Nat.reduceMul, reduceCtorEq, Nat.reduceDiv, Nat.reduceLeDiff, Nat.reduceLT, Nat.reduceSub]
  refine gp_append1 (a := 1) (by first | with_reducible rfl | (simp only [length_setH, List.length_append, List.length_replicate]; done) | (simp only [length_setH, List.length_append, List.length_replicate]; omega)) hw (by omega) (by omega) fun u h5 hu i3 i4 i5 i6 => ?_
  have hpn : p ≠ [] := fun h0 => by rw [h0] at hpl; simp at hpl
  rcases hv with ⟨hv0, _⟩ | ⟨K1, ver, hk1, rfl, hH⟩
  · exact absurd hv0 hpn
  have hK1 := getH_lt hH (by simp)
  rcases hw with ⟨hw0, _⟩ | ⟨K2, ver2, hk2, rfl, hH2⟩
  · exact absurd hw0 hpn
  have hH3 : getH h5 K1 = .cells ver (p.map (.int .i64)) := by
    rw [i5 K1 (by omega) (by simp [keyOf]; omega), j5 K1 (by omega) (by simp [keyOf]), l3 K1 hK1, hH]
  have b1 : getH h1 1 = .cells 0 [.int .i64 x.num, .int .i64 x.den] := by rw [l1 1 (by simp [length_setH])]; simp only [go_sem, ↓reduceIte, reduceIte, Nat.reduceEqDiff, Nat.reduceAdd, Nat.reduceMul, reduceCtorEq, Nat.reduceDiv, Nat.reduceLeDiff, Nat.reduceLT, Nat.reduceSub]
  have L1 : 145 ≤ h1.length := by simp only [length_setH, List.length_append, List.length_replicate] at l2; omega
  have b5 : getH h5 1 = .cells 0 [.int .i64 x.num, .int .i64 x.den] := by
    rw [i5 1 (by omega) (by simp [keyOf]; omega), j5 1 (by omega) (by simp [keyOf]), l3 1 (by omega), k5 1 (by omega) (by simp [keyOf]), b1]
  have hsub : ((p.length : Nat) : Int) - 1 = ((P.length : Nat) : Int) := by omega
  have hPlt : P.length < p.length := by omega
  have hget : p[P.length]? = some n := by rw [pe, List.getElem?_append_right (Nat.le_refl _), Nat.sub_self]; rfl
  have hset : p.set P.length (n + 1) = P ++ [n + 1] := by rw [pe, List.set_append_right _ _ (Nat.le_refl _), Nat.sub_self]; rfl
  have hset2 : (P ++ [n + 1]).length = p.length := by rw [hpl]; simp
  have hgn : ¬ n ≥ 10000 := by omega
  have huK : ∀ j, keyOf u = some j → j ≠ K1 := fun j hj => by
    rcases i6 j hj with h | h
    · simp [keyOf] at h; omega
    · omega
  simp (disch := first | assumption | omega) only [go_sem, ↓reduceIte, reduceIte, Nat.reduceEqDiff, Nat.reduceAdd, Nat.reduceMul, reduceCtorEq, Nat.reduceDiv, Nat.reduceLeDiff, Nat.reduceLT, Nat.reduceSub, hH3, hsub, hPlt, hget, hgn, hset]
  refine ⟨by omega, ?_⟩
  refine gp_con (con_Walk (P ++ [n + 1])) (by omega) (fz_cons (frz_own (ver := ver) (l := P ++ [n + 1]) (getH_setH_self _ _ _) hset2.symm) (fz_nil _)) (by simp [plainB, depth]) ?_
  rw [wa]
  have hu' : ∀ a b c, Own h3.length (setH (setH (setH h5 K1 a) 7 b) 7 c) u .i64 (p ++ [1]) := fun a b c => by
    refine ((hu.other fun j hj => getH_setH_ne _ _ _ _ (Ne.symm (huK j hj))).setH (by omega)).setH (by omega)
  have nK1 : ¬ K1 = 1 := by omega
  have nK7 : ¬ K1 = 7 := by omega
  simp (disch := first | assumption | omega) only [go_sem, ↓reduceIte, reduceIte, Nat.reduceEqDiff, Nat.reduceAdd, Nat.reduceMul, reduceCtorEq, Nat.reduceDiv, Nat.reduceLeDiff, Nat.reduceLT, Nat.reduceSub, b5, nK1, nK7]
  refine gp_con (con_Walk (p ++ [1])) (by omega) (fz_cons (frz_Own (hu' _ _ _)) (fz_nil _)) (by simp [plainB, depth]) ?_
  rw [wb]
  have ba := oa.bf
  have bb := ob.bf
  have bx := hx.bf
  have fa : (chkI A == 0) = true := by rw [(chkI_zero _).2 oa]; rfl
  have fb : (chkI B == 0) = true := by rw [(chkI_zero _).2 ob]; rfl
  have a1 := oa.n1; have a2 := oa.n2; have a3 := oa.d1; have a4 := oa.d2
  have c1 := ob.n1; have c2 := ob.n2; have c3 := ob.d1; have c4 := ob.d2
  have ma' : ¬ A.num + A.den ≤ x.num + x.den := by omega
  have mb' : ¬ B.num + B.den ≤ x.num + x.den := by omega
  by_cases hpar : p.length % 2 = 0
  · have hp2 : (((p.length : Nat) : Int) % 2 == 0) = true := by simp; omega
    obtain ⟨e1, e2⟩ := even hpar
    have q1 : gapF A x > 0 := by omega
    have q2 : gapF x B > 0 := by omega
    simp (disch := first | assumption | omega) only [go_sem, ↓reduceIte, reduceIte, Nat.reduceEqDiff, Nat.reduceAdd, Nat.reduceMul, reduceCtorEq, Nat.reduceDiv, Nat.reduceLeDiff, Nat.reduceLT, Nat.reduceSub, b5, nK1, nK7, bne_self_eq_false, cs_fine, fa, fb, ma', mb', nf, Bool.and_self, Nat.zero_add, b_remI, hp2, cs_GapOf, q1, q2, cs_Works]
  · have hp2 : (((p.length : Nat) : Int) % 2 == 0) = false := by simp; omega
    obtain ⟨e1, e2⟩ := odd (by omega)
    have q1 : gapF B x > 0 := by omega
    have q2 : gapF x A > 0 := by omega
    simp (disch := first | assumption | omega) only [go_sem, ↓reduceIte, reduceIte, Nat.reduceEqDiff, Nat.reduceAdd, Nat.reduceMul, reduceCtorEq, Nat.reduceDiv, Nat.reduceLeDiff, Nat.reduceLT, Nat.reduceSub, b5, nK1, nK7, bne_self_eq_false, cs_fine, fa, fb, ma', mb', nf, Bool.and_self, Nat.zero_add, b_remI, hp2, cs_GapOf, q1, q2, cs_Works]

def pitchFarther_n : Nat := 20000
theorem pitchFarther_ev (x : Frac) (h1 : RWf x) : (evFn (evCall T pitchFarther_n) c14 [rAV x] []).all fun p => p.1 = .bool true := pitchFarther_at _ rfl x h1

end Go.Ev.YtcghegefcgnhbaaC
