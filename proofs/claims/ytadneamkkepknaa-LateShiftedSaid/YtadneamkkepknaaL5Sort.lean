/- The orders by their Due, as the program sorts them. Contracts; conditions stand in each. -/
import Derived.Test.YtadneamkkepknaaL5Prog2
set_option linter.unusedSimpArgs false
set_option linter.unusedVariables false
namespace Go.Ev.YtadneamkkepknaaC
open Go Go.Proofs

attribute [local irreducible] Res.all evC evLoop evOps evOper evOp evFn evCall freeze G GO GV GP GC R
set_option maxRecDepth 100000

/-! ### 97, 99, 87, 92: cmp.Compare -/
def cmpI (x y : Int) : Int := if x < y then -1 else if x > y then 1 else 0

theorem cs_97 {n base : Nat} {Q : EX × St → Prop} {d : Option Nat} {L : List IOper} {ks : List Kont} {e : Env} {h : Heap} {x : Int} (hn : 1 ≤ n) : GP (evCall T n) base Q d L ks e (evCall T n false (.fn 97) [.int .i64 x] h) = GO (evCall T n) base Q L ks ⟨setDst e d (.bool false), h⟩ := by
  have c : Con T 1 97 [.int .i64 x] (.bool false) := by
    refine con_intro t97 fun n hn V hV => ?_
    have hb : (x != x) = false := by simp
    simp (disch := first | assumption | omega) only [c97, go_sem, ↓reduceIte, reduceIte, Nat.reduceEqDiff, Nat.reduceAdd, Nat.reduceMul, reduceCtorEq, Nat.reduceDiv, Nat.reduceLeDiff, Nat.reduceLT, Nat.reduceSub, hb]
    exact hV _ _ (frz_bool _ _ _)
  exact gp_eq c hn (by repeat (first | exact fz_nil _ | refine fz_slice _ _ _ _ ?_ | refine fz_int _ _ _ ?_)) rfl

theorem cs_99 {n base : Nat} {Q : EX × St → Prop} {d : Option Nat} {L : List IOper} {ks : List Kont} {e : Env} {h : Heap} {x : Int} (hn : 1 ≤ n) : GP (evCall T n) base Q d L ks e (evCall T n false (.fn 99) [.int .i64 x] h) = GO (evCall T n) base Q L ks ⟨setDst e d (.bool false), h⟩ := by
  have c : Con T 1 99 [.int .i64 x] (.bool false) := by
    refine con_intro t99 fun n hn V hV => ?_
    have hb : (x != x) = false := by simp
    simp (disch := first | assumption | omega) only [c99, go_sem, ↓reduceIte, reduceIte, Nat.reduceEqDiff, Nat.reduceAdd, Nat.reduceMul, reduceCtorEq, Nat.reduceDiv, Nat.reduceLeDiff, Nat.reduceLT, Nat.reduceSub, hb]
    exact hV _ _ (frz_bool _ _ _)
  exact gp_eq c hn (by repeat (first | exact fz_nil _ | refine fz_slice _ _ _ _ ?_ | refine fz_int _ _ _ ?_)) rfl

theorem cs_87 {n base : Nat} {Q : EX × St → Prop} {d : Option Nat} {L : List IOper} {ks : List Kont} {e : Env} {h : Heap} {x y : Int} (hn : 2 ≤ n) : GP (evCall T n) base Q d L ks e (evCall T n false (.fn 87) [.int .i64 x, .int .i64 y] h) = GO (evCall T n) base Q L ks ⟨setDst e d (.int .i64 (cmpI x y)), h⟩ := by
  have c : Con T 2 87 [.int .i64 x, .int .i64 y] (.int .i64 (cmpI x y)) := by
    refine con_intro t87 fun n hn V hV => ?_
    unfold cmpI at hV
    by_cases g1 : x < y
    · simp (disch := first | assumption | omega) only [c87, go_sem, ↓reduceIte, reduceIte, Nat.reduceEqDiff, Nat.reduceAdd, Nat.reduceMul, reduceCtorEq, Nat.reduceDiv, Nat.reduceLeDiff, Nat.reduceLT, Nat.reduceSub, cs_97, g1]
      exact hV _ _ (by rw [if_pos g1, frz_int])
    by_cases g2 : x > y
    · simp (disch := first | assumption | omega) only [c87, go_sem, ↓reduceIte, reduceIte, Nat.reduceEqDiff, Nat.reduceAdd, Nat.reduceMul, reduceCtorEq, Nat.reduceDiv, Nat.reduceLeDiff, Nat.reduceLT, Nat.reduceSub, cs_97, g1, g2]
      exact hV _ _ (by rw [if_neg g1, if_pos g2, frz_int])
    · simp (disch := first | assumption | omega) only [c87, go_sem, ↓reduceIte, reduceIte, Nat.reduceEqDiff, Nat.reduceAdd, Nat.reduceMul, reduceCtorEq, Nat.reduceDiv, Nat.reduceLeDiff, Nat.reduceLT, Nat.reduceSub, cs_97, g1, g2]
      exact hV _ _ (by rw [if_neg g1, if_neg g2, frz_int])
  exact gp_eq c hn (by repeat (first | exact fz_nil _ | refine fz_slice _ _ _ _ ?_ | refine fz_int _ _ _ ?_)) rfl

theorem cs_92 {n base : Nat} {Q : EX × St → Prop} {d : Option Nat} {L : List IOper} {ks : List Kont} {e : Env} {h : Heap} {x y : Int} (hn : 2 ≤ n) : GP (evCall T n) base Q d L ks e (evCall T n false (.fn 92) [.int .i64 x, .int .i64 y] h) = GO (evCall T n) base Q L ks ⟨setDst e d (.int .i64 (cmpI x y)), h⟩ := by
  have c : Con T 2 92 [.int .i64 x, .int .i64 y] (.int .i64 (cmpI x y)) := by
    refine con_intro t92 fun n hn V hV => ?_
    unfold cmpI at hV
    by_cases g1 : x < y
    · simp (disch := first | assumption | omega) only [c92, go_sem, ↓reduceIte, reduceIte, Nat.reduceEqDiff, Nat.reduceAdd, Nat.reduceMul, reduceCtorEq, Nat.reduceDiv, Nat.reduceLeDiff, Nat.reduceLT, Nat.reduceSub, cs_99, g1]
      exact hV _ _ (by rw [if_pos g1, frz_int])
    by_cases g2 : x > y
    · simp (disch := first | assumption | omega) only [c92, go_sem, ↓reduceIte, reduceIte, Nat.reduceEqDiff, Nat.reduceAdd, Nat.reduceMul, reduceCtorEq, Nat.reduceDiv, Nat.reduceLeDiff, Nat.reduceLT, Nat.reduceSub, cs_99, g1, g2]
      exact hV _ _ (by rw [if_neg g1, if_pos g2, frz_int])
    · simp (disch := first | assumption | omega) only [c92, go_sem, ↓reduceIte, reduceIte, Nat.reduceEqDiff, Nat.reduceAdd, Nat.reduceMul, reduceCtorEq, Nat.reduceDiv, Nat.reduceLeDiff, Nat.reduceLT, Nat.reduceSub, cs_99, g1, g2]
      exact hV _ _ (by rw [if_neg g1, if_neg g2, frz_int])
  exact gp_eq c hn (by repeat (first | exact fz_nil _ | refine fz_slice _ _ _ _ ?_ | refine fz_int _ _ _ ?_)) rfl

/-! ### 86: the comparison of two orders by their Due -/
theorem con_86 (l : List Order) (x y : Int) (hx : 0 ≤ x ∧ x < l.length) (hy : 0 ≤ y ∧ y < l.length) : Con T 3 86 [.int .i64 x, .int .i64 y, .ptr [ords l] 0] (.int .i64 (cmpI (dueOf l x) (dueOf l y))) := by
  refine con_intro t86 fun n hn V hV => ?_
  obtain ⟨i, rfl⟩ := Int.eq_ofNat_of_zero_le hx.1
  obtain ⟨j, rfl⟩ := Int.eq_ofNat_of_zero_le hy.1
  obtain ⟨a, ha⟩ := get_ex (l := l) (i := i) (by omega)
  obtain ⟨b, hb⟩ := get_ex (l := l) (i := j) (by omega)
  simp (disch := first | assumption | omega) only [c86, go_sem, ↓reduceIte, reduceIte, Nat.reduceEqDiff, Nat.reduceAdd, Nat.reduceMul, reduceCtorEq, Nat.reduceDiv, Nat.reduceLeDiff, Nat.reduceLT, Nat.reduceSub, ha, hb, oAV, cs_87]
  refine hV _ _ ?_
  rw [frz_int]
  simp [dueOf, ha, hb]

theorem cmpI_lt (x y : Int) : decide (cmpI x y < 0) = decide (x < y) := by
  rw [Bool.eq_iff_iff]
  simp only [decide_eq_true_eq, cmpI]
  split
  · simp_all
  · split <;> simp_all <;> omega

/-! ### 100: an insertion sort -/
theorem swap_set (a : List Int) (y x : Int) (b : List Int) (j : Nat) (hj : j = a.length) : ((a ++ y :: x :: b).set (j + 1) y).set j x = a ++ x :: y :: b := by
  subst hj
  rw [List.set_append_right _ _ (by omega), List.set_append_right _ _ (by omega)]
  simp

/-- what the sort is handed, and leaves -/
def Pre100 (l : List Order) (xs : List Int) (key ver k1 v1 : Nat) (h : Heap) : Prop := getH h key = .cells ver (xs.map (.int .i64)) ∧ getH h k1 = .cells v1 [ords l] ∧ key ≠ k1 ∧ key < h.length ∧ k1 < h.length
def Post100 (ys : List Int) (key ver : Nat) (h h' : Heap) : Prop := getH h' key = .cells ver (ys.map (.int .i64)) ∧ h.length ≤ h'.length ∧ ∀ k, k < h.length → k ≠ key → getH h' k = getH h k

theorem raw_100 (l : List Order) (xs : List Int) (key ver k1 v1 : Nat) (cap : Option Nat) (hl : xs.length ≤ 15) (hx : ∀ x ∈ xs, 0 ≤ x ∧ x < l.length) {n : Nat} (hn : 4 ≤ n) (h : Heap) (V : AV × Heap → Prop) (hpre : Pre100 l xs key ver k1 v1 h)
    (hV : ∀ v h', Post100 (isort (dueOf l) [] xs) key ver h h' → V (v, h')) : (evCall T n true (.fn 100) [.oslice key ver none 0 xs.length cap, .int .i64 0, .int .i64 xs.length, .clo 86 [] [.optr k1 v1 0]] h).all V := by
  obtain ⟨m, rfl⟩ : ∃ m, n = m + 1 := ⟨n - 1, by omega⟩
  rw [raw_enter t100]
  obtain ⟨p1, p2, p3, p4, p5⟩ := hpre
  have hfin : ∀ (h' : Heap) (v : AV), getH h' key = .cells ver ((isort (dueOf l) [] xs).map (.int .i64)) → h.length ≤ h'.length → (∀ k, k < h.length → k ≠ key → getH h' k = getH h k) → V (v, h') := fun h' v a b c => hV v h' ⟨a, b, c⟩
  clear hV
  match xs, hl, hx, p1, hfin with
  | [], hl, hx, p1, hfin =>
    have hlt : ¬ ((1 : Int) < 0) := by omega
    simp (disch := first | assumption | omega) only [c100, go_sem, ↓reduceIte, reduceIte, Nat.reduceEqDiff, Nat.reduceAdd, Nat.reduceMul, reduceCtorEq, Nat.reduceDiv, Nat.reduceLeDiff, Nat.reduceLT, Nat.reduceSub, hlt]
    refine m_loop1 fun P => ?_
    simp (disch := first | assumption | omega) only [go_sem, ↓reduceIte, reduceIte, Nat.reduceEqDiff, Nat.reduceAdd, Nat.reduceMul, reduceCtorEq, Nat.reduceDiv, Nat.reduceLeDiff, Nat.reduceLT, Nat.reduceSub, hlt]
    refine hfin _ _ ?_ ?_ ?_
    · rw [getH_append_none, p1]; rfl
    · simp
    · intro k hk hne
      rw [getH_append_none]
  | x0 :: xs, hl, hx, p1, hfin =>
  simp (disch := first | assumption | omega) only [c100, go_sem, ↓reduceIte, reduceIte, Nat.reduceEqDiff, Nat.reduceAdd, Nat.reduceMul, reduceCtorEq, Nat.reduceDiv, Nat.reduceLeDiff, Nat.reduceLT, Nat.reduceSub]
  simp only [List.length_cons] at hl
  refine m_loop (fun M st => ∃ (c done rest : List Int), M = xs.length + 1 - done.length ∧ c = done ++ rest ∧ c.length = xs.length + 1 ∧ (∀ x ∈ c, 0 ≤ x ∧ x < l.length) ∧ isort (dueOf l) done rest = isort (dueOf l) [] (x0 :: xs) ∧
    At st.env [(0, .oslice key ver none 0 (xs.length + 1) cap), (1, .int .i64 0), (2, .int .i64 (xs.length + 1 : Nat)), (3, .clo 86 [] [.optr k1 v1 0]), (8, .int .i64 done.length)] ∧ getH st.heap key = .cells ver (c.map (.int .i64)) ∧ h.length ≤ st.heap.length ∧ (∀ k, k < h.length → k ≠ key → getH st.heap k = getH h k)) xs.length (by omega) ⟨x0 :: xs, [x0], xs, by simp, rfl, rfl, hx, rfl, by simp [go_sem, ↓reduceIte, reduceIte, Nat.reduceEqDiff, Nat.reduceAdd, Nat.reduceMul, reduceCtorEq, Nat.reduceDiv, Nat.reduceLeDiff, Nat.reduceLT, Nat.reduceSub], by rw [getH_append_none, p1], by simp, fun k hk hne => getH_append_none _ _ _⟩ ?_
  rintro M e h2 hM ⟨c, done, rest, rfl, hc, hcl, hcx, hiso, hE, hH, hlen, hoth⟩ P hP
  simp only [At_cons, At_nil] at hE hH hlen hoth
  obtain ⟨h0, h1, h2', h3, h8, -⟩ := hE
  have hdl : done.length + rest.length = xs.length + 1 := by rw [← hcl, hc, List.length_append]
  by_cases hlt : done.length < xs.length + 1
  · match rest, hc, hiso, hdl with
    | [], hc, hiso, hdl => simp at hdl; omega
    | x :: rest, hc, hiso, hdl =>
    have hlt' : (done.length : Int) < (xs.length : Int) + 1 := by omega
    simp (disch := first | assumption | omega) only [go_sem, ↓reduceIte, reduceIte, Nat.reduceEqDiff, Nat.reduceAdd, Nat.reduceMul, reduceCtorEq, Nat.reduceDiv, Nat.reduceLeDiff, Nat.reduceLT, Nat.reduceSub, h0, h1, h2', h3, h8, hlt']
    simp only [List.length_cons] at hdl
    refine m_loop (fun M st => ∃ (pr post c : List Int), M = pr.length ∧ c = pr.reverse ++ x :: (post ++ rest) ∧ c.length = xs.length + 1 ∧ (∀ x ∈ c, 0 ≤ x ∧ x < l.length) ∧ bub (dueOf l) pr x post = bub (dueOf l) done.reverse x [] ∧ pr.length + post.length = done.length ∧
      At st.env [(0, .oslice key ver none 0 (xs.length + 1) cap), (1, .int .i64 0), (2, .int .i64 (xs.length + 1 : Nat)), (3, .clo 86 [] [.optr k1 v1 0]), (8, .int .i64 done.length), (9, .int .i64 pr.length)] ∧ getH st.heap key = .cells ver (c.map (.int .i64)) ∧ h.length ≤ st.heap.length ∧ (∀ k, k < h.length → k ≠ key → getH st.heap k = getH h k)) done.length (by omega)
      ⟨done.reverse, [], c, by simp, by simp [hc], hcl, hcx, rfl, by simp, by simp [go_sem, ↓reduceIte, reduceIte, Nat.reduceEqDiff, Nat.reduceAdd, Nat.reduceMul, reduceCtorEq, Nat.reduceDiv, Nat.reduceLeDiff, Nat.reduceLT, Nat.reduceSub, h0, h1, h2', h3, h8], hH, hlen, hoth⟩ ?_
    rintro M e h4 hM ⟨pr, post, c, rfl, hc, hcl, hcx, hbub, hpl, hE, hH, hlen, hoth⟩ P2 hP2
    simp only [At_cons, At_nil] at hE hH hlen hoth
    obtain ⟨h0, h1, h2', h3, h8, h9, -⟩ := hE
    have hk1 : getH h4 k1 = .cells v1 [ords l] := by rw [hoth k1 p5 (Ne.symm p3), p2]
    have hdone : ∀ ys, ys = bub (dueOf l) done.reverse x [] → ys.length = done.length + 1 ∧ isort (dueOf l) ys rest = isort (dueOf l) [] (x0 :: xs) := fun ys hy => by
      constructor
      · rw [hy, bub_length]; simp
      · rw [hy, ← hiso]; rfl
    have hstop : ∀ e : Env, At e [(0, .oslice key ver none 0 (xs.length + 1) cap), (1, .int .i64 0), (2, .int .i64 (xs.length + 1 : Nat)), (3, .clo 86 [] [.optr k1 v1 0]), (8, .int .i64 ((done.length : Int) + 1))] → pr.reverse ++ x :: post = bub (dueOf l) done.reverse x [] → P ⟨e, h4⟩ := fun e he hb => by
      obtain ⟨g1, g2⟩ := hdone _ hb
      refine hP (xs.length + 1 - (done.length + 1)) _ (by simp; omega) ⟨c, pr.reverse ++ x :: post, rest, by rw [g1], by rw [hc]; simp, hcl, hcx, g2, ?_, hH, hlen, hoth⟩
      rw [g1]
      exact he
    match pr, hM, hc, hbub, hpl, h9, hP2, hstop with
    | [], hM, hc, hbub, hpl, h9, hP2, hstop =>
      have z : ¬ ((0 : Int) > 0) := by omega
      simp (disch := first | assumption | omega) only [go_sem, ↓reduceIte, reduceIte, Nat.reduceEqDiff, Nat.reduceAdd, Nat.reduceMul, reduceCtorEq, Nat.reduceDiv, Nat.reduceLeDiff, Nat.reduceLT, Nat.reduceSub, h0, h1, h2', h3, h8, h9, z]
      refine hstop _ (by simp only [go_sem, ↓reduceIte, reduceIte, Nat.reduceEqDiff, Nat.reduceAdd, Nat.reduceMul, reduceCtorEq, Nat.reduceDiv, Nat.reduceLeDiff, Nat.reduceLT, Nat.reduceSub, h0, h1, h2', h3]) ?_
      rw [← hbub]
      rfl
    | y :: r, hM, hc, hbub, hpl, h9, hP2, hstop =>
      have hcl' : r.length + 1 + 1 + (post ++ rest).length = xs.length + 1 := by rw [← hcl, hc]; simp; omega
      have hy : c[r.length]? = some y := by rw [hc]; simp
      have hx' : c[r.length + 1]? = some x := by rw [hc]; simp
      have hyb := hcx y (List.mem_of_getElem? hy)
      have hxb := hcx x (List.mem_of_getElem? hx')
      simp only [List.length_append] at hcl'
      simp only [List.length_cons] at h9 hpl
      have z : ((r.length : Int) + 1 > 0) := by omega
      simp (disch := first | assumption | omega) only [go_sem, ↓reduceIte, reduceIte, Nat.reduceEqDiff, Nat.reduceAdd, Nat.reduceMul, reduceCtorEq, Nat.reduceDiv, Nat.reduceLeDiff, Nat.reduceLT, Nat.reduceSub, h0, h1, h2', h3, h8, h9, z, hH, hx', hy, Int.add_sub_cancel]
      refine ⟨by omega, by omega, ?_⟩
      refine gp_con (con_86 l x y hxb hyb) (by omega) (fz_int _ _ _ (fz_int _ _ _ (fz_cons (frz_optr hk1 (mz_cons (frz_slice _ _ _ _ _) (mz_nil _ _))) (fz_nil _)))) (or_pi _ _ _) ?_
      by_cases hf : dueOf l x < dueOf l y
      · have hf' : decide (cmpI (dueOf l x) (dueOf l y) < 0) = true := by rw [cmpI_lt]; simp [hf]
        simp (disch := first | assumption | omega) only [go_sem, ↓reduceIte, reduceIte, Nat.reduceEqDiff, Nat.reduceAdd, Nat.reduceMul, reduceCtorEq, Nat.reduceDiv, Nat.reduceLeDiff, Nat.reduceLT, Nat.reduceSub, h0, h1, h2', h3, h8, h9, hf', hH, hx', hy, Int.add_sub_cancel]
        have hswap : (c.set (r.length + 1) y).set r.length x = r.reverse ++ x :: (y :: post ++ rest) := by
          rw [hc, List.reverse_cons, List.append_assoc]
          exact swap_set r.reverse y x (post ++ rest) r.length (by simp)
        refine ⟨by omega, by omega, by omega, by omega, by omega, by rw [List.length_set]; omega, hP2 r.length _ (by simp) ⟨r, y :: post, (c.set (r.length + 1) y).set r.length x, rfl, hswap, by simp [hcl], ?_, ?_, by simp; omega, by simp only [go_sem, ↓reduceIte, reduceIte, Nat.reduceEqDiff, Nat.reduceAdd, Nat.reduceMul, reduceCtorEq, Nat.reduceDiv, Nat.reduceLeDiff, Nat.reduceLT, Nat.reduceSub, h0, h1, h2', h3, h8], by simp only [go_sem, ↓reduceIte, reduceIte, Nat.reduceEqDiff, Nat.reduceAdd, Nat.reduceMul, reduceCtorEq, Nat.reduceDiv, Nat.reduceLeDiff, Nat.reduceLT, Nat.reduceSub], by simp only [go_sem, ↓reduceIte, reduceIte, Nat.reduceEqDiff, Nat.reduceAdd, Nat.reduceMul, reduceCtorEq, Nat.reduceDiv, Nat.reduceLeDiff, Nat.reduceLT, Nat.reduceSub]; omega, ?_⟩⟩
        · intro z hz
          rw [hswap] at hz
          apply hcx
          rw [hc]
          simp only [List.mem_append, List.mem_cons, List.mem_reverse, List.reverse_cons] at hz ⊢
          rcases hz with h | h | (h | h) | h <;> simp [h]
        · rw [← hbub]
          conv => rhs; rw [bub, if_pos hf]
        · intro k hk hne
          have hne' : ¬ key = k := fun h => hne h.symm
          simp only [go_sem, ↓reduceIte, reduceIte, Nat.reduceEqDiff, Nat.reduceAdd, Nat.reduceMul, reduceCtorEq, Nat.reduceDiv, Nat.reduceLeDiff, Nat.reduceLT, Nat.reduceSub, hne']
          exact hoth k hk hne
      · have hf' : decide (cmpI (dueOf l x) (dueOf l y) < 0) = false := by rw [cmpI_lt]; simp; omega
        simp (disch := first | assumption | omega) only [go_sem, ↓reduceIte, reduceIte, Nat.reduceEqDiff, Nat.reduceAdd, Nat.reduceMul, reduceCtorEq, Nat.reduceDiv, Nat.reduceLeDiff, Nat.reduceLT, Nat.reduceSub, h0, h1, h2', h3, h8, h9, hf']
        refine hstop _ (by simp only [go_sem, ↓reduceIte, reduceIte, Nat.reduceEqDiff, Nat.reduceAdd, Nat.reduceMul, reduceCtorEq, Nat.reduceDiv, Nat.reduceLeDiff, Nat.reduceLT, Nat.reduceSub, h0, h1, h2', h3]) ?_
        rw [← hbub, bub, if_neg hf]
        simp
  · have hlt' : ¬ (done.length : Int) < (xs.length : Int) + 1 := by omega
    simp (disch := first | assumption | omega) only [go_sem, ↓reduceIte, reduceIte, Nat.reduceEqDiff, Nat.reduceAdd, Nat.reduceMul, reduceCtorEq, Nat.reduceDiv, Nat.reduceLeDiff, Nat.reduceLT, Nat.reduceSub, h0, h1, h2', h3, h8, hlt']
    have : rest = [] := by cases rest with | nil => rfl | cons a b => simp at hdl; omega
    subst this
    exact hfin _ _ (by rw [hH, hc, ← hiso, List.append_nil]; rfl) hlen hoth

/-! ### 96, 85: slices.SortStableFunc -/
theorem raw_96 (l : List Order) (xs : List Int) (key ver k1 v1 : Nat) (cap : Option Nat) (hl : xs.length ≤ 15) (hx : ∀ x ∈ xs, 0 ≤ x ∧ x < l.length) {n : Nat} (hn : 5 ≤ n) (h : Heap) (V : AV × Heap → Prop) (hpre : Pre100 l xs key ver k1 v1 h)
    (hV : ∀ v h', Post100 (isort (dueOf l) [] xs) key ver h h' → V (v, h')) : (evCall T n true (.fn 96) [.oslice key ver none 0 xs.length cap, .int .i64 xs.length, .clo 86 [] [.optr k1 v1 0]] h).all V := by
  obtain ⟨m, rfl⟩ : ∃ m, n = m + 1 := ⟨n - 1, by omega⟩
  rw [raw_enter t96]
  obtain ⟨p1, p2, p3, p4, p5⟩ := hpre
  have g20 : ¬ ((20 : Int) ≤ xs.length) := by omega
  simp (disch := first | assumption | omega) only [c96, go_sem, ↓reduceIte, reduceIte, Nat.reduceEqDiff, Nat.reduceAdd, Nat.reduceMul, reduceCtorEq, Nat.reduceDiv, Nat.reduceLeDiff, Nat.reduceLT, Nat.reduceSub]
  refine m_loop1 fun P => ?_
  simp (disch := first | assumption | omega) only [go_sem, ↓reduceIte, reduceIte, Nat.reduceEqDiff, Nat.reduceAdd, Nat.reduceMul, reduceCtorEq, Nat.reduceDiv, Nat.reduceLeDiff, Nat.reduceLT, Nat.reduceSub, g20]
  refine gp_of (raw_100 l xs key ver k1 v1 cap hl hx (n := m) (by omega) (h ++ List.replicate 63 .none) _ ⟨by rw [getH_append_none]; exact p1, by rw [getH_append_none]; exact p2, p3, by rw [List.length_append]; omega, by rw [List.length_append]; omega⟩ ?_)
  rintro v h' ⟨q1, q2, q3⟩
  have g21 : ¬ ((20 : Int) < xs.length) := by omega
  simp (disch := first | assumption | omega) only [go_sem, ↓reduceIte, reduceIte, Nat.reduceEqDiff, Nat.reduceAdd, Nat.reduceMul, reduceCtorEq, Nat.reduceDiv, Nat.reduceLeDiff, Nat.reduceLT, Nat.reduceSub]
  refine m_loop1 fun P => ?_
  simp (disch := first | assumption | omega) only [go_sem, ↓reduceIte, reduceIte, Nat.reduceEqDiff, Nat.reduceAdd, Nat.reduceMul, reduceCtorEq, Nat.reduceDiv, Nat.reduceLeDiff, Nat.reduceLT, Nat.reduceSub, g21]
  rw [List.length_append] at q2
  refine hV _ _ ⟨q1, by omega, fun k hk hne => ?_⟩
  rw [q3 k (by rw [List.length_append]; omega) hne, getH_append_none]

theorem raw_85 (l : List Order) (xs : List Int) (key ver k1 v1 : Nat) (cap : Option Nat) (hl : xs.length ≤ 15) (hx : ∀ x ∈ xs, 0 ≤ x ∧ x < l.length) {n : Nat} (hn : 6 ≤ n) (h : Heap) (V : AV × Heap → Prop) (hpre : Pre100 l xs key ver k1 v1 h)
    (hV : ∀ v h', Post100 (isort (dueOf l) [] xs) key ver h h' → V (v, h')) : (evCall T n true (.fn 85) [.oslice key ver none 0 xs.length cap, .clo 86 [] [.optr k1 v1 0]] h).all V := by
  obtain ⟨m, rfl⟩ : ∃ m, n = m + 1 := ⟨n - 1, by omega⟩
  rw [raw_enter t85]
  obtain ⟨p1, p2, p3, p4, p5⟩ := hpre
  simp (disch := first | assumption | omega) only [c85, go_sem, ↓reduceIte, reduceIte, Nat.reduceEqDiff, Nat.reduceAdd, Nat.reduceMul, reduceCtorEq, Nat.reduceDiv, Nat.reduceLeDiff, Nat.reduceLT, Nat.reduceSub]
  refine gp_of (raw_96 l xs key ver k1 v1 cap hl hx (n := m) (by omega) (h ++ List.replicate 9 .none) _ ⟨by rw [getH_append_none]; exact p1, by rw [getH_append_none]; exact p2, p3, by rw [List.length_append]; omega, by rw [List.length_append]; omega⟩ ?_)
  rintro v h' ⟨q1, q2, q3⟩
  simp (disch := first | assumption | omega) only [go_sem, ↓reduceIte, reduceIte, Nat.reduceEqDiff, Nat.reduceAdd, Nat.reduceMul, reduceCtorEq, Nat.reduceDiv, Nat.reduceLeDiff, Nat.reduceLT, Nat.reduceSub]
  rw [List.length_append] at q2
  refine hV _ _ ⟨q1, by omega, fun k hk hne => ?_⟩
  rw [q3 k (by rw [List.length_append]; omega) hne, getH_append_none]

/-! ### the same, where there is nothing -/
theorem raw_100_nil (c : AV) {n : Nat} (hn : 4 ≤ n) (h : Heap) (V : AV × Heap → Prop) (hV : ∀ v h', (∀ k, k < h.length → getH h' k = getH h k) → V (v, h')) : (evCall T n true (.fn 100) [.slice none [] true, .int .i64 0, .int .i64 0, c] h).all V := by
  obtain ⟨m, rfl⟩ : ∃ m, n = m + 1 := ⟨n - 1, by omega⟩
  rw [raw_enter t100]
  have hlt : ¬ ((1 : Int) < 0) := by omega
  simp (disch := first | assumption | omega) only [c100, go_sem, ↓reduceIte, reduceIte, Nat.reduceEqDiff, Nat.reduceAdd, Nat.reduceMul, reduceCtorEq, Nat.reduceDiv, Nat.reduceLeDiff, Nat.reduceLT, Nat.reduceSub]
  refine m_loop1 fun P => ?_
  simp (disch := first | assumption | omega) only [go_sem, ↓reduceIte, reduceIte, Nat.reduceEqDiff, Nat.reduceAdd, Nat.reduceMul, reduceCtorEq, Nat.reduceDiv, Nat.reduceLeDiff, Nat.reduceLT, Nat.reduceSub, hlt]
  refine hV _ _ fun k hk => ?_
  rw [getH_append_none]

theorem raw_96_nil (c : AV) {n : Nat} (hn : 5 ≤ n) (h : Heap) (V : AV × Heap → Prop) (hV : ∀ v h', (∀ k, k < h.length → getH h' k = getH h k) → V (v, h')) : (evCall T n true (.fn 96) [.slice none [] true, .int .i64 0, c] h).all V := by
  obtain ⟨m, rfl⟩ : ∃ m, n = m + 1 := ⟨n - 1, by omega⟩
  rw [raw_enter t96]
  have hlt : ¬ ((20 : Int) ≤ 0) := by omega
  have hlt2 : ¬ ((20 : Int) < 0) := by omega
  simp (disch := first | assumption | omega) only [c96, go_sem, ↓reduceIte, reduceIte, Nat.reduceEqDiff, Nat.reduceAdd, Nat.reduceMul, reduceCtorEq, Nat.reduceDiv, Nat.reduceLeDiff, Nat.reduceLT, Nat.reduceSub]
  refine m_loop1 fun P => ?_
  simp (disch := first | assumption | omega) only [go_sem, ↓reduceIte, reduceIte, Nat.reduceEqDiff, Nat.reduceAdd, Nat.reduceMul, reduceCtorEq, Nat.reduceDiv, Nat.reduceLeDiff, Nat.reduceLT, Nat.reduceSub, hlt]
  refine gp_of (raw_100_nil c (n := m) (by omega) (h ++ List.replicate 63 .none) _ fun v h' hh => ?_)
  simp (disch := first | assumption | omega) only [go_sem, ↓reduceIte, reduceIte, Nat.reduceEqDiff, Nat.reduceAdd, Nat.reduceMul, reduceCtorEq, Nat.reduceDiv, Nat.reduceLeDiff, Nat.reduceLT, Nat.reduceSub]
  refine m_loop1 fun P => ?_
  simp (disch := first | assumption | omega) only [go_sem, ↓reduceIte, reduceIte, Nat.reduceEqDiff, Nat.reduceAdd, Nat.reduceMul, reduceCtorEq, Nat.reduceDiv, Nat.reduceLeDiff, Nat.reduceLT, Nat.reduceSub, hlt2]
  refine hV _ _ fun k hk => ?_
  rw [hh k (by rw [List.length_append]; omega), getH_append_none]

theorem raw_85_nil (c : AV) {n : Nat} (hn : 6 ≤ n) (h : Heap) (V : AV × Heap → Prop) (hV : ∀ v h', (∀ k, k < h.length → getH h' k = getH h k) → V (v, h')) : (evCall T n true (.fn 85) [.slice none [] true, c] h).all V := by
  obtain ⟨m, rfl⟩ : ∃ m, n = m + 1 := ⟨n - 1, by omega⟩
  rw [raw_enter t85]
  simp (disch := first | assumption | omega) only [c85, go_sem, ↓reduceIte, reduceIte, Nat.reduceEqDiff, Nat.reduceAdd, Nat.reduceMul, reduceCtorEq, Nat.reduceDiv, Nat.reduceLeDiff, Nat.reduceLT, Nat.reduceSub]
  refine gp_of (raw_96_nil c (n := m) (by omega) (h ++ List.replicate 9 .none) _ fun v h' hh => ?_)
  simp (disch := first | assumption | omega) only [go_sem, ↓reduceIte, reduceIte, Nat.reduceEqDiff, Nat.reduceAdd, Nat.reduceMul, reduceCtorEq, Nat.reduceDiv, Nat.reduceLeDiff, Nat.reduceLT, Nat.reduceSub]
  refine hV _ _ fun k hk => ?_
  rw [hh k (by rw [List.length_append]; omega), getH_append_none]

/-! ### 68: byDue -/
theorem idx_step {n k : Nat} (hk : k < n) : (idx n).take (k + 1) = (idx n).take k ++ [(k : Int)] := by
  rw [List.take_add_one, show (idx n)[k]? = some (k : Int) by simp [idx, hk]]
  rfl

theorem con_68 (l : List Order) (hl : l.length ≤ 15) : Con T 7 68 [.agg [ords l]] (ints (seqOf l)) := by
  refine con_intro t68 fun n hn V hV => ?_
  simp (disch := first | assumption | omega) only [c68, go_sem, ↓reduceIte, reduceIte, Nat.reduceEqDiff, Nat.reduceAdd, Nat.reduceMul, reduceCtorEq, Nat.reduceDiv, Nat.reduceLeDiff, Nat.reduceLT, Nat.reduceSub]
  refine m_loop (fun M st => ∃ (k : Nat) (v : AV), M = l.length - k ∧ k ≤ l.length ∧ At st.env [(1, .optr 1 0 0), (3, v), (7, .int .i64 l.length), (8, .int .i64 k)] ∧ Own 20 st.heap v .i64 ((idx l.length).take k) ∧ getH st.heap 1 = .cells 0 [ords l] ∧ 20 ≤ st.heap.length) l.length (by omega)
    ⟨0, .slice none [] true, by simp, by omega, by simp [go_sem, ↓reduceIte, reduceIte, Nat.reduceEqDiff, Nat.reduceAdd, Nat.reduceMul, reduceCtorEq, Nat.reduceDiv, Nat.reduceLeDiff, Nat.reduceLT, Nat.reduceSub], own_nil .., by simp [go_sem, ↓reduceIte, reduceIte, Nat.reduceEqDiff, Nat.reduceAdd, Nat.reduceMul, reduceCtorEq, Nat.reduceDiv, Nat.reduceLeDiff, Nat.reduceLT, Nat.reduceSub], by simp [go_sem, ↓reduceIte, reduceIte, Nat.reduceEqDiff, Nat.reduceAdd, Nat.reduceMul, reduceCtorEq, Nat.reduceDiv, Nat.reduceLeDiff, Nat.reduceLT, Nat.reduceSub]⟩ ?_
  rintro M e h hM ⟨k, v, rfl, hk, hE, hO, hH, hlen⟩ P hP
  simp only [At_cons, At_nil] at hE hO hH hlen
  obtain ⟨h1, h3, h7, h8, -⟩ := hE
  by_cases hlt : k < l.length
  · simp (disch := first | assumption | omega) only [go_sem, ↓reduceIte, reduceIte, Nat.reduceEqDiff, Nat.reduceAdd, Nat.reduceMul, reduceCtorEq, Nat.reduceDiv, Nat.reduceLeDiff, Nat.reduceLT, Nat.reduceSub, h1, h3, h7, h8, hlt]
    refine gp_append1 (by first | with_reducible rfl | (simp only [length_setH, List.length_append, List.length_replicate]; done) | (simp only [length_setH, List.length_append, List.length_replicate]; omega)) hO hlen (by simp; omega) fun x' h' hO' hF hL _ _ => ?_
    simp (disch := first | assumption | omega) only [go_sem, ↓reduceIte, reduceIte, Nat.reduceEqDiff, Nat.reduceAdd, Nat.reduceMul, reduceCtorEq, Nat.reduceDiv, Nat.reduceLeDiff, Nat.reduceLT, Nat.reduceSub, h1, h3, h7, h8]
    exact hP (l.length - (k + 1)) _ (by omega) ⟨k + 1, x', rfl, by omega, by simp only [go_sem, ↓reduceIte, reduceIte, Nat.reduceEqDiff, Nat.reduceAdd, Nat.reduceMul, reduceCtorEq, Nat.reduceDiv, Nat.reduceLeDiff, Nat.reduceLT, Nat.reduceSub, h1, h7], by rw [idx_step hlt]; exact hO', by rw [hF 1 (by omega)]; exact hH, Nat.le_trans hlen hL⟩
  · simp (disch := first | assumption | omega) only [go_sem, ↓reduceIte, reduceIte, Nat.reduceEqDiff, Nat.reduceAdd, Nat.reduceMul, reduceCtorEq, Nat.reduceDiv, Nat.reduceLeDiff, Nat.reduceLT, Nat.reduceSub, h1, h3, h7, h8, hlt]
    obtain rfl : k = l.length := by omega
    rw [List.take_of_length_le (by rw [idx_length]; omega)] at hO
    rcases hO with ⟨hnil, rfl⟩ | ⟨key, ver, hk20, rfl, hH2⟩
    · refine gp_of (raw_85_nil _ (n := n) (by omega) h _ fun v h' hh => ?_)
      simp (disch := first | assumption | omega) only [go_sem, ↓reduceIte, reduceIte, Nat.reduceEqDiff, Nat.reduceAdd, Nat.reduceMul, reduceCtorEq, Nat.reduceDiv, Nat.reduceLeDiff, Nat.reduceLT, Nat.reduceSub, h3]
      have h0 : l.length = 0 := by rw [← idx_length l.length, hnil]; rfl
      exact hV _ _ (by rw [frz_slice, seqOf, h0]; rfl)
    · rw [idx_length]
      rw [idx_length] at h3
      have := raw_85 l (idx l.length) key ver 1 0 none (by rw [idx_length]; omega) (fun x hx => idx_mem.1 hx) (n := n) (by omega) h
      rw [idx_length] at this
      refine gp_of (this _ ⟨hH2, hH, by omega, getH_lt hH2 (by simp), getH_lt hH (by simp)⟩ ?_)
      rintro v h' ⟨q1, q2, q3⟩
      simp (disch := first | assumption | omega) only [go_sem, ↓reduceIte, reduceIte, Nat.reduceEqDiff, Nat.reduceAdd, Nat.reduceMul, reduceCtorEq, Nat.reduceDiv, Nat.reduceLeDiff, Nat.reduceLT, Nat.reduceSub, h3]
      exact hV _ _ (by rw [frz_own q1 (seqOf_length l).symm]; rfl)

theorem cs_68 {n base : Nat} {Q : EX × St → Prop} {d : Option Nat} {L : List IOper} {ks : List Kont} {e : Env} {h : Heap} {l : List Order} (hn : 7 ≤ n) (hl : l.length ≤ 15) : GP (evCall T n) base Q d L ks e (evCall T n false (.fn 68) [.agg [.slice (some 3) (l.map oAV) false]] h) = GO (evCall T n) base Q L ks ⟨setDst e d (ints (seqOf l)), h⟩ := by
  refine gp_eq (con_68 l hl) hn (fz_cons ?_ (fz_nil _)) rfl
  rw [freeze]
  simp only [mz_cons (frz_slice _ _ _ _ _) (mz_nil _ _)]
  rfl

end Go.Ev.YtadneamkkepknaaC
