/- How many fractions there are between two intervals: the program's way, by a range over a function, and the reference's. Contracts; conditions stand in each. -/
import Derived.Test.YtcghegefcgnhbaaL1Simp
import Derived.Test.YtcghegefcgnhbaaL1Math6
set_option linter.unusedSimpArgs false
set_option linter.unusedVariables false
namespace Go.Ev.YtcghegefcgnhbaaC
open Go Go.Proofs

theorem range_filter_succ (p : Nat → Bool) (n : Nat) : ((List.range (n + 1)).filter p).length = ((List.range n).filter p).length + (if p n = true then 1 else 0) := by
  rw [List.range_succ, List.filter_append, List.length_append]
  congr 1
  rw [List.filter_cons]
  split <;> rfl
/-- how many there are ahead of n by d -/
def upTo (lo hi : Frac) (d n : Nat) : Nat := cntM lo hi (d - 1) + ((List.range n).filter fun n => okC lo hi n d).length
theorem upTo_next (lo hi : Frac) (d : Nat) : upTo lo hi (d + 1) (4 * (d + 1) + 1) = upTo lo hi (d + 2) 0 := by
  unfold upTo
  simp [cntM, cntD]
theorem upTo_succ (lo hi : Frac) (d n : Nat) : upTo lo hi d (n + 1) = upTo lo hi d n + (if okC lo hi n d = true then 1 else 0) := by
  unfold upTo
  rw [range_filter_succ]
  omega
theorem upTo_le (lo hi : Frac) (d n : Nat) : upTo lo hi d n ≤ cntM lo hi (d - 1) + n := by
  unfold upTo
  have := List.length_filter_le (fun n => okC lo hi n d) (List.range n)
  simp at this
  omega
theorem upTo_small (lo hi : Frac) {d n : Nat} (hd : d ≤ 51) (hn : n ≤ 300) : upTo lo hi d n ≤ 6000 := by
  have h1 := upTo_le lo hi d n
  have h2 := cntM_5000 lo hi (m := d - 1) (by omega)
  omega
theorem okC_iff (lo hi : Frac) (n d : Nat) : okC lo hi n d = true ↔ Nat.gcd n d = 1 ∧ 0 ≤ gapF lo ⟨n, d⟩ ∧ 0 ≤ gapF ⟨n, d⟩ hi := by
  unfold okC
  simp only [Bool.and_eq_true, decide_eq_true_eq, and_assoc]

attribute [local irreducible] Res.all evC evLoop evOps evOper evOp evFn evCall freeze G GO GV GP GC R
set_option maxRecDepth 100000

theorem con_upTo (m : Int) : Con T 1 70 [.int .i64 m] (.clo 91 [] [.ptr [.int .i64 m] 0]) := by
  refine con_intro t70 fun n hn V hV => ?_
  simp (disch := first | assumption | omega) only [c70, go_sem, ↓reduceIte, reduceIte, Nat.reduceEqDiff, Nat.reduceAdd, Nat.reduceMul, reduceCtorEq, Nat.reduceDiv, Nat.reduceLeDiff, Nat.reduceLT, Nat.reduceSub]
  exact hV _ _ (frz_clo (mz_nil _ _) (mz_cons (frz_optr (cs := [.int .i64 m]) (by simp only [go_sem, ↓reduceIte, reduceIte, Nat.reduceEqDiff, Nat.reduceAdd, Nat.reduceMul, reduceCtorEq, Nat.reduceDiv, Nat.reduceLeDiff, Nat.reduceLT, Nat.reduceSub]) (by repeat (first | exact mz_nil _ _ | exact frz_int _ _ _ _ | exact frz_bool _ _ _ | exact frz_slice _ _ _ _ _ | exact frz_ptr _ _ _ _ | exact frz_nilptr _ _ | refine mz_cons ?_ ?_ | refine frz_agg ?_ | refine frz_two ?_ ?_ | refine frz_three ?_ ?_ ?_))) (mz_nil _ _)))

theorem raw_upTo (m : Nat) (hm : m ≤ 50) (key ver : Nat) (J : Nat → Nat → Heap → Prop) (hJ : ∀ d n h, J d n h → J d n (h ++ List.replicate 26 .none)) {n : Nat} (hn : 60 ≤ n)
    (hskip : ∀ d k h, d ≤ m → k ≤ 4 * d → J d k h → Nat.gcd k d ≠ 1 → J d (k + 1) h) (hnext : ∀ d h, J d (4 * d + 1) h → 1 ≤ d → J (d + 1) 0 h)
    (hy : ∀ d k h, 1 ≤ d → d ≤ m → k ≤ 4 * d → Nat.gcd k d = 1 → J d k h → (evCall T (n - 1) true (.yld key ver) [.agg [.int .i64 (k : Int), .int .i64 (d : Int)]] h).all fun p => p.1 = .bool true ∧ J d (k + 1) p.2) (h : Heap) (h0 : J 1 0 h) (V : AV × Heap → Prop) (hV : ∀ v h', J (m + 1) 0 h' → V (v, h')) :
    (evCall T n true (.fn 91) [.yld key ver, .ptr [.int .i64 m] 0] h).all V := by
  obtain ⟨q, rfl⟩ : ∃ q, n = q + 1 := ⟨n - 1, by omega⟩
  rw [raw_enter t91]
  simp (disch := first | assumption | omega) only [c91, go_sem, ↓reduceIte, reduceIte, Nat.reduceEqDiff, Nat.reduceAdd, Nat.reduceMul, reduceCtorEq, Nat.reduceDiv, Nat.reduceLeDiff, Nat.reduceLT, Nat.reduceSub]
  refine m_loop (fun M st => ∃ d : Nat, M = m - d ∧ d ≤ m ∧ At st.env [(0, .yld key ver), (1, .ptr [.int .i64 m] 0), (3, .int .i64 ((d : Int) + 1))] ∧ J (d + 1) 0 st.heap) m (by omega) ⟨0, by omega, by omega, by simp only [go_sem, ↓reduceIte, reduceIte, Nat.reduceEqDiff, Nat.reduceAdd, Nat.reduceMul, reduceCtorEq, Nat.reduceDiv, Nat.reduceLeDiff, Nat.reduceLT, Nat.reduceSub], hJ _ _ _ h0⟩ ?_
  rintro M e h hM ⟨d, rfl, hd, hE, hH⟩ P hP
  simp only [At_cons, At_nil] at hE hH
  obtain ⟨f0, f1, f3, -⟩ := hE
  by_cases hlt : d < m
  · have hle : decide ((d : Int) + 1 ≤ m) = true := decide_eq_true (by omega)
    simp (disch := first | assumption | omega) only [go_sem, ↓reduceIte, reduceIte, Nat.reduceEqDiff, Nat.reduceAdd, Nat.reduceMul, reduceCtorEq, Nat.reduceDiv, Nat.reduceLeDiff, Nat.reduceLT, Nat.reduceSub, f0, f1, f3, hle]
    refine m_loop (fun M st => ∃ k : Nat, M = 4 * (d + 1) + 1 - k ∧ k ≤ 4 * (d + 1) + 1 ∧ At st.env [(0, .yld key ver), (1, .ptr [.int .i64 m] 0), (3, .int .i64 ((d : Int) + 1)), (4, .int .i64 k)] ∧ J (d + 1) k st.heap) (4 * (d + 1) + 1) (by omega) ⟨0, by omega, by omega, by simp only [go_sem, ↓reduceIte, reduceIte, Nat.reduceEqDiff, Nat.reduceAdd, Nat.reduceMul, reduceCtorEq, Nat.reduceDiv, Nat.reduceLeDiff, Nat.reduceLT, Nat.reduceSub, f0, f1, f3], hH⟩ ?_
    rintro M e h hM2 ⟨k, rfl, hk, hE, hH⟩ P' hP'
    simp only [At_cons, At_nil] at hE hH
    obtain ⟨f0, f1, f3, f4, -⟩ := hE
    by_cases hlt2 : k ≤ 4 * (d + 1)
    · have hle2 : decide ((k : Int) ≤ 4 * ((d : Int) + 1)) = true := decide_eq_true (by omega)
      have ed : ((d : Int) + 1) = ((d + 1 : Nat) : Int) := by simp
      have hcm := con_common (d + 1) k
      rw [← ed] at hcm
      by_cases hg : Nat.gcd k (d + 1) = 1
      · have hg' : (((Nat.gcd k (d + 1) : Nat) : Int) != 1) = false := by rw [hg]; rfl
        simp (disch := first | assumption | omega) only [go_sem, ↓reduceIte, reduceIte, Nat.reduceEqDiff, Nat.reduceAdd, Nat.reduceMul, reduceCtorEq, Nat.reduceDiv, Nat.reduceLeDiff, Nat.reduceLT, Nat.reduceSub, f0, f1, f3, f4, hle2]
        refine gp_con hcm (by omega) (by repeat (first | exact fz_nil _ | refine fz_slice _ _ _ _ ?_ | refine fz_int _ _ _ ?_)) (or_pi _ _ _) ?_
        simp (disch := first | assumption | omega) only [go_sem, ↓reduceIte, reduceIte, Nat.reduceEqDiff, Nat.reduceAdd, Nat.reduceMul, reduceCtorEq, Nat.reduceDiv, Nat.reduceLeDiff, Nat.reduceLT, Nat.reduceSub, f0, f1, f3, f4, hg']
        refine gp_of (Res.all_mono _ (hy (d + 1) k h (by omega) (by omega) hlt2 hg hH) ?_)
        rintro ⟨v, h'⟩ ⟨hv, hJ'⟩
        simp only at hv hJ'
        subst hv
        simp (disch := first | assumption | omega) only [go_sem, ↓reduceIte, reduceIte, Nat.reduceEqDiff, Nat.reduceAdd, Nat.reduceMul, reduceCtorEq, Nat.reduceDiv, Nat.reduceLeDiff, Nat.reduceLT, Nat.reduceSub, f0, f1, f3, f4]
        exact hP' (4 * (d + 1) + 1 - (k + 1)) _ (by omega) ⟨k + 1, rfl, by omega, by simp only [go_sem, ↓reduceIte, reduceIte, Nat.reduceEqDiff, Nat.reduceAdd, Nat.reduceMul, reduceCtorEq, Nat.reduceDiv, Nat.reduceLeDiff, Nat.reduceLT, Nat.reduceSub, f0, f1, f3], hJ'⟩
      · have hg' : (((Nat.gcd k (d + 1) : Nat) : Int) != 1) = true := by simp; omega
        simp (disch := first | assumption | omega) only [go_sem, ↓reduceIte, reduceIte, Nat.reduceEqDiff, Nat.reduceAdd, Nat.reduceMul, reduceCtorEq, Nat.reduceDiv, Nat.reduceLeDiff, Nat.reduceLT, Nat.reduceSub, f0, f1, f3, f4, hle2]
        refine gp_con hcm (by omega) (by repeat (first | exact fz_nil _ | refine fz_slice _ _ _ _ ?_ | refine fz_int _ _ _ ?_)) (or_pi _ _ _) ?_
        simp (disch := first | assumption | omega) only [go_sem, ↓reduceIte, reduceIte, Nat.reduceEqDiff, Nat.reduceAdd, Nat.reduceMul, reduceCtorEq, Nat.reduceDiv, Nat.reduceLeDiff, Nat.reduceLT, Nat.reduceSub, f0, f1, f3, f4, hg']
        exact hP' (4 * (d + 1) + 1 - (k + 1)) _ (by omega) ⟨k + 1, rfl, by omega, by simp only [go_sem, ↓reduceIte, reduceIte, Nat.reduceEqDiff, Nat.reduceAdd, Nat.reduceMul, reduceCtorEq, Nat.reduceDiv, Nat.reduceLeDiff, Nat.reduceLT, Nat.reduceSub, f0, f1, f3], hskip _ _ _ (by omega) hlt2 hH hg⟩
    · have hle2 : decide ((k : Int) ≤ 4 * ((d : Int) + 1)) = false := decide_eq_false (by omega)
      have hk' : k = 4 * (d + 1) + 1 := by omega
      simp (disch := first | assumption | omega) only [go_sem, ↓reduceIte, reduceIte, Nat.reduceEqDiff, Nat.reduceAdd, Nat.reduceMul, reduceCtorEq, Nat.reduceDiv, Nat.reduceLeDiff, Nat.reduceLT, Nat.reduceSub, f0, f1, f3, f4, hle2]
      exact hP (m - (d + 1)) _ (by omega) ⟨d + 1, rfl, by omega, by simp only [go_sem, ↓reduceIte, reduceIte, Nat.reduceEqDiff, Nat.reduceAdd, Nat.reduceMul, reduceCtorEq, Nat.reduceDiv, Nat.reduceLeDiff, Nat.reduceLT, Nat.reduceSub, f0, f1], hnext (d + 1) _ (hk' ▸ hH) (by omega)⟩
  · have hle : decide ((d : Int) + 1 ≤ m) = false := decide_eq_false (by omega)
    obtain rfl : d = m := by omega
    simp (disch := first | assumption | omega) only [go_sem, ↓reduceIte, reduceIte, Nat.reduceEqDiff, Nat.reduceAdd, Nat.reduceMul, reduceCtorEq, Nat.reduceDiv, Nat.reduceLeDiff, Nat.reduceLT, Nat.reduceSub, f0, f1, f3, hle]
    exact hV _ _ hH

theorem cs_upTo {n base : Nat} {Q : EX × St → Prop} {d : Option Nat} {L : List IOper} {ks : List Kont} {e : Env} {h : Heap} {m : Int} (hn : 1 ≤ n) : GP (evCall T n) base Q d L ks e (evCall T n false (.fn 70) [.int .i64 m] h) = GO (evCall T n) base Q L ks ⟨setDst e d (.clo 91 [] [.ptr [.int .i64 m] 0]), h⟩ :=
  gp_eq (con_upTo m) hn (by repeat (first | exact fz_nil _ | refine fz_slice _ _ _ _ ?_ | refine fz_int _ _ _ ?_)) (by rfl)

/-! ### Count -/
def cntErr (lo hi : Frac) (m : Int) : Int := if openErr [lo, hi] ≠ 0 then openErr [lo, hi] else if m < 1 ∨ 50 < m then 2 else if hi.num > 4 * hi.den then 4 else 0
def cnt (lo hi : Frac) (m : Int) : Int × Int := if cntErr lo hi m ≠ 0 then (0, cntErr lo hi m) else (cntM lo hi m.toNat, 0)

set_option maxHeartbeats 1000000 in
theorem con_Count (lo hi : Frac) (m : Int) : Con T 10004 35 [rAV lo, rAV hi, .int .i64 m] (.tuple [.int .i64 (cnt lo hi m).1, .int .i64 (cnt lo hi m).2]) := by
  refine con_intro t35 fun n hn V hV => ?_
  replace hV : ∀ a c h, (a, c) = cnt lo hi m → V (.tuple [.int .i64 a, .int .i64 c], h) := fun a c h e1 => hV _ _ (by rw [← e1]; exact (by repeat (first | exact mz_nil _ _ | exact frz_int _ _ _ _ | exact frz_bool _ _ _ | exact frz_slice _ _ _ _ _ | exact frz_ptr _ _ _ _ | exact frz_nilptr _ _ | refine mz_cons ?_ ?_ | refine frz_agg ?_ | refine frz_two ?_ ?_ | refine frz_three ?_ ?_ ?_)))
  have nf : (¬ False) = True := not_false_eq_true
  have on : oneB (if openErr [lo, hi] = 0 then forkV lo else .nilptr) = true := by split <;> rfl
  have oc : AV.cells (if openErr [lo, hi] = 0 then forkV lo else .nilptr) = [if openErr [lo, hi] = 0 then forkV lo else .nilptr] := by split <;> rfl
  by_cases hc : openErr [lo, hi] = 0
  case neg =>
    have hc' : (openErr [lo, hi] != 0) = true := by simp [hc]
    simp (disch := first | assumption | omega) only [c35, go_sem, ↓reduceIte, reduceIte, Nat.reduceEqDiff, Nat.reduceAdd, Nat.reduceMul, reduceCtorEq, Nat.reduceDiv, Nat.reduceLeDiff, Nat.reduceLT, Nat.reduceSub, List.range_succ, List.range_zero, Nat.zero_mul, Nat.one_mul, cs_open2, if_neg hc, hc', nf]
    exact hV _ _ _ (by unfold cnt cntErr; rw [if_pos hc, if_pos hc])
  obtain ⟨ol, oh⟩ := (open_two_zero lo hi).1 hc
  have bl := ol.bf
  have bh := oh.bf
  have h1 := oh.n1
  have h2 := oh.n2
  have h3 := oh.d1
  have h4 := oh.d2
  by_cases g : 1 ≤ m ∧ m ≤ 50
  case neg =>
    have hw : (decide (1 ≤ m) && decide (m ≤ 50)) = false := by rw [Bool.eq_false_iff]; simp; omega
    have hE : cntErr lo hi m = 2 := by unfold cntErr; rw [if_neg (by omega), if_pos (by omega)]
    simp (disch := first | assumption | omega) only [c35, go_sem, ↓reduceIte, reduceIte, Nat.reduceEqDiff, Nat.reduceAdd, Nat.reduceMul, reduceCtorEq, Nat.reduceDiv, Nat.reduceLeDiff, Nat.reduceLT, Nat.reduceSub, List.range_succ, List.range_zero, Nat.zero_mul, Nat.one_mul, cs_open2, hc, bne_self_eq_false, cs_within1, hw, nf]
    exact hV _ _ _ (by unfold cnt; rw [if_pos (by omega), hE])
  obtain ⟨g1, g2⟩ := g
  obtain ⟨k, hk⟩ := Int.eq_ofNat_of_zero_le (show 0 ≤ m by omega)
  subst hk
  by_cases hov : hi.num > 4 * hi.den
  · have hE : cntErr lo hi k = 4 := by unfold cntErr; rw [if_neg (by omega), if_neg (by omega), if_pos hov]
    simp (disch := first | assumption | omega) only [c35, go_sem, ↓reduceIte, reduceIte, Nat.reduceEqDiff, Nat.reduceAdd, Nat.reduceMul, reduceCtorEq, Nat.reduceDiv, Nat.reduceLeDiff, Nat.reduceLT, Nat.reduceSub, List.range_succ, List.range_zero, Nat.zero_mul, Nat.one_mul, cs_open2, hc, bne_self_eq_false, cs_within1, g1, g2, hov, nf]
    exact hV _ _ _ (by unfold cnt; rw [if_pos (by omega), hE])
  have hE : cntErr lo hi k = 0 := by unfold cntErr; rw [if_neg (by omega), if_neg (by omega), if_neg hov]
  have hfin : ∀ h, V (.tuple [.int .i64 (upTo lo hi (k + 1) 0 : Nat), .int .i64 0], h) := fun h => hV _ _ _ (by
    unfold cnt
    rw [if_neg (by omega)]
    simp [upTo])
  simp (disch := first | assumption | omega) only [c35, go_sem, ↓reduceIte, reduceIte, Nat.reduceEqDiff, Nat.reduceAdd, Nat.reduceMul, reduceCtorEq, Nat.reduceDiv, Nat.reduceLeDiff, Nat.reduceLT, Nat.reduceSub, List.range_succ, List.range_zero, Nat.zero_mul, Nat.one_mul, cs_open2, hc, bne_self_eq_false, cs_within1, g1, g2, hov, nf, cs_upTo]
  refine g_cut (fun st => At st.env [(4, .optr 4 0 0), (8, .optr 8 0 0), (10, .optr 10 0 0), (36, .clo 91 [] [.ptr [.int .i64 k] 0])] ∧ st.heap.length = 53 ∧ getH st.heap 4 = .cells 0 [.int .i64 hi.num, .int .i64 hi.den] ∧ getH st.heap 8 = .cells 0 [forkV lo] ∧ getH st.heap 10 = .cells 0 [.int .i64 0])
    ⟨by simp only [go_sem, ↓reduceIte, reduceIte, Nat.reduceEqDiff, Nat.reduceAdd, Nat.reduceMul, reduceCtorEq, Nat.reduceDiv, Nat.reduceLeDiff, Nat.reduceLT, Nat.reduceSub], by simp [length_setH], by simp only [go_sem, ↓reduceIte, reduceIte, Nat.reduceEqDiff, Nat.reduceAdd, Nat.reduceMul, reduceCtorEq, Nat.reduceDiv, Nat.reduceLeDiff, Nat.reduceLT, Nat.reduceSub], by simp only [go_sem, ↓reduceIte, reduceIte, Nat.reduceEqDiff, Nat.reduceAdd, Nat.reduceMul, reduceCtorEq, Nat.reduceDiv, Nat.reduceLeDiff, Nat.reduceLT, Nat.reduceSub], by simp only [go_sem, ↓reduceIte, reduceIte, Nat.reduceEqDiff, Nat.reduceAdd, Nat.reduceMul, reduceCtorEq, Nat.reduceDiv, Nat.reduceLeDiff, Nat.reduceLT, Nat.reduceSub]⟩ ?_
  rintro e h ⟨hE', hlen, j4, j8, j10⟩
  simp only [At_cons, At_nil] at hE' hlen j4 j8 j10
  obtain ⟨f4, f8, f10, f36, -⟩ := hE'
  refine m_rangeF' (g := 91) (first := []) (captured := [.ptr [.int .i64 k] 0]) (by simp only [go_sem, ↓reduceIte, reduceIte, Nat.reduceEqDiff, Nat.reduceAdd, Nat.reduceMul, reduceCtorEq, Nat.reduceDiv, Nat.reduceLeDiff, Nat.reduceLT, Nat.reduceSub, f36]) hlen fun lf l1 l2 l3 l4 l5 => ?_
  refine raw_upTo k (by omega) 53 0 (fun d i h' => getH h' 53 = .loop 0 .ready none lf ∧ getH h' 4 = .cells 0 [.int .i64 hi.num, .int .i64 hi.den] ∧ getH h' 8 = .cells 0 [forkV lo] ∧ getH h' 10 = .cells 0 [.int .i64 (upTo lo hi d i : Nat)]) (fun d i h' hJ => ?_) (by omega) (fun d i h' d2 i1 hJ hg => ?_) (fun d h' hJ hd => ?_) (fun d i h' d1 d2 i1 hg hJ => ?_) _ ?_ _ (fun v h' hJ => ?_)
  · obtain ⟨a1, a2, a3, a4⟩ := hJ
    exact ⟨by rw [getH_append_none, a1], by rw [getH_append_none, a2], by rw [getH_append_none, a3], by rw [getH_append_none, a4]⟩
  · obtain ⟨a1, a2, a3, a4⟩ := hJ
    have hno : okC lo hi i d = false := by
      rw [Bool.eq_false_iff]
      intro h
      exact hg ((okC_iff lo hi i d).1 h).1
    exact ⟨a1, a2, a3, by rw [a4, upTo_succ, hno]; simp⟩
  · obtain ⟨a1, a2, a3, a4⟩ := hJ
    obtain ⟨d', rfl⟩ : ∃ d', d = d' + 1 := ⟨d - 1, by omega⟩
    exact ⟨a1, a2, a3, by rw [a4, upTo_next]⟩
  · obtain ⟨a1, a2, a3, a4⟩ := hJ
    obtain ⟨q, rfl⟩ : ∃ q, n = q + 2 := ⟨n - 2, by omega⟩
    have hsm := upTo_small lo hi (d := d) (n := i) (by omega) (by omega)
    show (evCall T (q + 1) true (.yld 53 0) [.agg [.int .i64 (i : Int), .int .i64 (d : Int)]] h').all _
    refine m_round a1 (by rw [l3]; rfl) ?_
    rw [l4]
    simp (disch := first | assumption | omega) only [go_sem, ↓reduceIte, reduceIte, Nat.reduceEqDiff, Nat.reduceAdd, Nat.reduceMul, reduceCtorEq, Nat.reduceDiv, Nat.reduceLeDiff, Nat.reduceLT, Nat.reduceSub, l1, l2, l3, setPs]
    refine ⟨none, lf, a1, ?_⟩
    rw [l5]
    have bF : BF ⟨(i : Int), (d : Int)⟩ := by unfold BF Bn; simp only; omega
    have n1 : ¬ 53 = 11 := by omega
    have c1 := con_gap lo ⟨i, d⟩ bl bF
    have c2 := con_gap ⟨i, d⟩ hi bF bh
    simp (disch := first | assumption | omega) only [go_sem, ↓reduceIte, reduceIte, Nat.reduceEqDiff, Nat.reduceAdd, Nat.reduceMul, reduceCtorEq, Nat.reduceDiv, Nat.reduceLeDiff, Nat.reduceLT, Nat.reduceSub, f4, f8, f10, a1, a2, a3, a4]
    refine gp_con c1 (by omega) (fz_cons (frz_ptr _ _ _ _) (fz_rat _ ⟨i, d⟩ (fz_nil _))) (or_pi _ _ _) ?_
    by_cases k1 : gapF lo ⟨i, d⟩ ≥ 0
    · simp (disch := first | assumption | omega) only [go_sem, ↓reduceIte, reduceIte, Nat.reduceEqDiff, Nat.reduceAdd, Nat.reduceMul, reduceCtorEq, Nat.reduceDiv, Nat.reduceLeDiff, Nat.reduceLT, Nat.reduceSub, f4, f8, f10, a1, a2, a3, a4, k1]
      refine gp_con c2 (by omega) (fz_cons (frz_optr (cs := [.int .i64 i, .int .i64 d]) (by simp only [go_sem, ↓reduceIte, reduceIte, Nat.reduceEqDiff, Nat.reduceAdd, Nat.reduceMul, reduceCtorEq, Nat.reduceDiv, Nat.reduceLeDiff, Nat.reduceLT, Nat.reduceSub]) (by repeat (first | exact mz_nil _ _ | exact frz_int _ _ _ _ | exact frz_bool _ _ _ | exact frz_slice _ _ _ _ _ | exact frz_ptr _ _ _ _ | exact frz_nilptr _ _ | refine mz_cons ?_ ?_ | refine frz_agg ?_ | refine frz_two ?_ ?_ | refine frz_three ?_ ?_ ?_))) (fz_rat _ _ (fz_nil _))) (or_pi _ _ _) ?_
      by_cases k2 : gapF ⟨i, d⟩ hi ≥ 0
      · have ho : okC lo hi i d = true := (okC_iff lo hi i d).2 ⟨hg, k1, k2⟩
        rw [upTo_succ, if_pos ho]
        simp (disch := first | assumption | omega) only [go_sem, ↓reduceIte, reduceIte, Nat.reduceEqDiff, Nat.reduceAdd, Nat.reduceMul, reduceCtorEq, Nat.reduceDiv, Nat.reduceLeDiff, Nat.reduceLT, Nat.reduceSub, f4, f8, f10, a1, a2, a3, a4, k2]
        exact ⟨_, _, lf, rfl, rfl⟩
      · have ho : okC lo hi i d = false := by rw [Bool.eq_false_iff]; exact fun h => k2 ((okC_iff lo hi i d).1 h).2.2
        rw [upTo_succ, ho]
        simp (disch := first | assumption | omega) only [go_sem, ↓reduceIte, reduceIte, Nat.reduceEqDiff, Nat.reduceAdd, Nat.reduceMul, reduceCtorEq, Nat.reduceDiv, Nat.reduceLeDiff, Nat.reduceLT, Nat.reduceSub, f4, f8, f10, a1, a2, a3, a4, k2]
        exact ⟨_, _, lf, rfl, rfl⟩
    · have ho : okC lo hi i d = false := by rw [Bool.eq_false_iff]; exact fun h => k1 ((okC_iff lo hi i d).1 h).2.1
      rw [upTo_succ, ho]
      simp (disch := first | assumption | omega) only [go_sem, ↓reduceIte, reduceIte, Nat.reduceEqDiff, Nat.reduceAdd, Nat.reduceMul, reduceCtorEq, Nat.reduceDiv, Nat.reduceLeDiff, Nat.reduceLT, Nat.reduceSub, f4, f8, f10, a1, a2, a3, a4, k1]
      exact ⟨_, _, lf, rfl, rfl⟩
  · have h0 : upTo lo hi 1 0 = 0 := by simp [upTo, cntM]
    rw [h0]
    exact ⟨by simp only [go_sem, ↓reduceIte, reduceIte, Nat.reduceEqDiff, Nat.reduceAdd, Nat.reduceMul, reduceCtorEq, Nat.reduceDiv, Nat.reduceLeDiff, Nat.reduceLT, Nat.reduceSub], by simp only [go_sem, ↓reduceIte, reduceIte, Nat.reduceEqDiff, Nat.reduceAdd, Nat.reduceMul, reduceCtorEq, Nat.reduceDiv, Nat.reduceLeDiff, Nat.reduceLT, Nat.reduceSub]; exact j4, by simp only [go_sem, ↓reduceIte, reduceIte, Nat.reduceEqDiff, Nat.reduceAdd, Nat.reduceMul, reduceCtorEq, Nat.reduceDiv, Nat.reduceLeDiff, Nat.reduceLT, Nat.reduceSub]; exact j8, by simp only [go_sem, ↓reduceIte, reduceIte, Nat.reduceEqDiff, Nat.reduceAdd, Nat.reduceMul, reduceCtorEq, Nat.reduceDiv, Nat.reduceLeDiff, Nat.reduceLT, Nat.reduceSub]; exact j10⟩
  · obtain ⟨a1, a2, a3, a4⟩ := hJ
    refine ⟨.ready, none, lf, a1, by simp, ?_⟩
    simp (disch := first | assumption | omega) only [go_sem, ↓reduceIte, reduceIte, Nat.reduceEqDiff, Nat.reduceAdd, Nat.reduceMul, reduceCtorEq, Nat.reduceDiv, Nat.reduceLeDiff, Nat.reduceLT, Nat.reduceSub, f4, f8, f10, a4]
    exact hfin _

end Go.Ev.YtcghegefcgnhbaaC
