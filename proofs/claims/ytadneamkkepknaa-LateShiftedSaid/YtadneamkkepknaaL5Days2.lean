/- The shortest delay and its day, by a range over a function that yields the days. Contracts; conditions stand in each. -/
import Derived.Test.YtadneamkkepknaaL5Days
set_option linter.unusedSimpArgs false
set_option linter.unusedVariables false
namespace Go.Ev.YtadneamkkepknaaC
open Go Go.Proofs

attribute [local irreducible] Res.all evC evLoop evOps evOper evOp evFn evCall freeze G GO GV GP GC R
set_option maxRecDepth 100000

/-! ### 88, 98: days -/
theorem con_88 (l : List Order) : Con T 1 88 [.agg [ords l]] (.clo 98 [] [.ptr [ords l] 0]) := by
  refine con_intro t88 fun n hn V hV => ?_
  simp (disch := first | assumption | omega) only [c88, go_sem, ↓reduceIte, reduceIte, Nat.reduceEqDiff, Nat.reduceAdd, Nat.reduceMul, reduceCtorEq, Nat.reduceDiv, Nat.reduceLeDiff, Nat.reduceLT, Nat.reduceSub]
  exact hV _ _ (frz_clo (mz_nil _ _) (mz_cons (frz_optr (cs := [ords l]) (by simp [go_sem, ↓reduceIte, reduceIte, Nat.reduceEqDiff, Nat.reduceAdd, Nat.reduceMul, reduceCtorEq, Nat.reduceDiv, Nat.reduceLeDiff, Nat.reduceLT, Nat.reduceSub]) (mz_cons (frz_slice _ _ _ _ _) (mz_nil _ _))) (mz_nil _ _)))

theorem raw_98 (l : List Order) (hl : l.length ≤ 15) (key ver : Nat) (J : List Int → Heap → Prop) (hJ : ∀ r h, J r h → J r (h ++ List.replicate 29 .none)) {n : Nat} (hn : 8 ≤ n)
    (hy : ∀ d r h, J (d :: r) h → d ∈ daysOf l → (evCall T (n - 1) true (.yld key ver) [.int .i64 d] h).all fun p => p.1 = .bool true ∧ J r p.2) (h : Heap) (h0 : J (daysOf l) h) (V : AV × Heap → Prop) (hV : ∀ v h', J [] h' → V (v, h')) :
    (evCall T n true (.fn 98) [.yld key ver, .ptr [ords l] 0] h).all V := by
  obtain ⟨m, rfl⟩ : ∃ m, n = m + 1 := ⟨n - 1, by omega⟩
  rw [raw_enter t98]
  have hsl := seqOf_length l
  have h1 : (1 : Nat) ≤ 1 := by omega
  simp (disch := first | assumption | omega) only [c98, go_sem, ↓reduceIte, reduceIte, Nat.reduceEqDiff, Nat.reduceAdd, Nat.reduceMul, reduceCtorEq, Nat.reduceDiv, Nat.reduceLeDiff, Nat.reduceLT, Nat.reduceSub, h1, cs_68]
  refine m_loop (fun M st => ∃ (k : Nat) (last : Int), M = l.length - k ∧ k ≤ l.length ∧ At st.env [(0, .yld key ver), (1, .ptr [ords l] 0), (3, .int .i64 last), (8, ints (seqOf l)), (9, .int .i64 l.length), (10, .int .i64 k)] ∧ J (daysGo (dueOf l) last ((seqOf l).drop k)) st.heap ∧ (∀ d, d ∈ daysGo (dueOf l) last ((seqOf l).drop k) → d ∈ daysOf l)) l.length (by omega)
    ⟨0, -1, by simp, by omega, by simp [go_sem, ↓reduceIte, reduceIte, Nat.reduceEqDiff, Nat.reduceAdd, Nat.reduceMul, reduceCtorEq, Nat.reduceDiv, Nat.reduceLeDiff, Nat.reduceLT, Nat.reduceSub, hsl], hJ _ _ h0, fun d hd => hd⟩ ?_
  rintro M e h hM ⟨k, last, rfl, hk, hE, hH, hD⟩ P hP
  simp only [At_cons, At_nil] at hE hH
  obtain ⟨h0, h1, h3, h8, h9, h10, -⟩ := hE
  by_cases hlt : k < l.length
  · obtain ⟨i, hi⟩ := get_ex (l := seqOf l) (i := k) (by omega)
    have hib := seqOf_mem.1 (List.mem_of_getElem? hi)
    obtain ⟨j, rfl⟩ := Int.eq_ofNat_of_zero_le hib.1
    obtain ⟨o, ho⟩ := get_ex (l := l) (i := j) (by omega)
    rw [drop_cons hi, daysGo, dueOf_nat ho] at hH hD
    by_cases hgt : o.due > last
    · rw [if_pos hgt] at hH hD
      simp (disch := first | assumption | omega) only [go_sem, ↓reduceIte, reduceIte, Nat.reduceEqDiff, Nat.reduceAdd, Nat.reduceMul, reduceCtorEq, Nat.reduceDiv, Nat.reduceLeDiff, Nat.reduceLT, Nat.reduceSub, h0, h1, h3, h8, h9, h10, hlt, hi, ho, oAV, hgt]
      refine gp_of (Res.all_mono _ (hy o.due _ h hH (hD _ List.mem_cons_self)) ?_)
      rintro ⟨v, h'⟩ ⟨hv, hJ'⟩
      simp only at hv hJ'
      subst hv
      simp (disch := first | assumption | omega) only [go_sem, ↓reduceIte, reduceIte, Nat.reduceEqDiff, Nat.reduceAdd, Nat.reduceMul, reduceCtorEq, Nat.reduceDiv, Nat.reduceLeDiff, Nat.reduceLT, Nat.reduceSub, h0, h1, h3, h8, h9, h10]
      exact hP (l.length - (k + 1)) _ (by omega) ⟨k + 1, o.due, rfl, by omega, by simp only [go_sem, ↓reduceIte, reduceIte, Nat.reduceEqDiff, Nat.reduceAdd, Nat.reduceMul, reduceCtorEq, Nat.reduceDiv, Nat.reduceLeDiff, Nat.reduceLT, Nat.reduceSub, h0, h1, h8, h9], hJ', fun d hd => hD d (List.mem_cons_of_mem _ hd)⟩
    · rw [if_neg hgt] at hH hD
      simp (disch := first | assumption | omega) only [go_sem, ↓reduceIte, reduceIte, Nat.reduceEqDiff, Nat.reduceAdd, Nat.reduceMul, reduceCtorEq, Nat.reduceDiv, Nat.reduceLeDiff, Nat.reduceLT, Nat.reduceSub, h0, h1, h3, h8, h9, h10, hlt, hi, ho, oAV, hgt]
      exact hP (l.length - (k + 1)) _ (by omega) ⟨k + 1, last, rfl, by omega, by simp only [go_sem, ↓reduceIte, reduceIte, Nat.reduceEqDiff, Nat.reduceAdd, Nat.reduceMul, reduceCtorEq, Nat.reduceDiv, Nat.reduceLeDiff, Nat.reduceLT, Nat.reduceSub, h0, h1, h3, h8, h9], hH, hD⟩
  · rw [List.drop_eq_nil_of_le (by omega)] at hH
    simp (disch := first | assumption | omega) only [go_sem, ↓reduceIte, reduceIte, Nat.reduceEqDiff, Nat.reduceAdd, Nat.reduceMul, reduceCtorEq, Nat.reduceDiv, Nat.reduceLeDiff, Nat.reduceLT, Nat.reduceSub, h0, h1, h3, h8, h9, h10, hlt]
    exact hV _ _ hH

/-! ### 73: tight -/
def refTight (l : List Order) (s : Int) : Int × Int × Int := if dayErr l s ≠ 0 then (0, 0, dayErr l s) else match tightOf l s with | some (a, m) => (a, m, 0) | none => (0, 0, 0)
def tightV (l : List Order) (s : Int) : AV := .tuple [.int .i64 (refTight l s).1, .int .i64 (refTight l s).2.1, .int .i64 (refTight l s).2.2]

theorem con_73 (l : List Order) (s : Int) (hl : l.length ≤ 15) : Con T 12 73 [ords l, .int .i64 s] (tightV l s) := by
  refine con_intro t73 fun n hn V hV => ?_
  replace hV : ∀ a b c h, a = (refTight l s).1 → b = (refTight l s).2.1 → c = (refTight l s).2.2 → V (.tuple [.int .i64 a, .int .i64 b, .int .i64 c], h) := fun a b c h e1 e2 e3 => hV _ _ (by rw [e1, e2, e3]; exact frz_three (frz_int _ _ _ _) (frz_int _ _ _ _) (frz_int _ _ _ _))
  unfold refTight at hV
  by_cases hc : chkSide l s = 0
  · have hc' : (chkSide l s != 0) = false := by simp [hc]
    obtain ⟨hval, hs⟩ := (chkSide_zero l s).1 hc
    have hsb := side_bd' hval s
    by_cases h0 : l.length = 0
    · have h0' : ((l.length : Int) == 0) = true := beq_iff_eq.2 (by omega)
      have hde : dayErr l s = 5 := by rw [dayErr, if_neg (by omega), if_pos h0]
      rw [if_pos (by omega)] at hV
      simp (disch := first | assumption | omega) only [c73, go_sem, ↓reduceIte, reduceIte, Nat.reduceEqDiff, Nat.reduceAdd, Nat.reduceMul, reduceCtorEq, Nat.reduceDiv, Nat.reduceLeDiff, Nat.reduceLT, Nat.reduceSub, cs_69, sidedV, hc', hc, deskV, h0']
      exact hV _ _ _ _ rfl rfl hde.symm
    · have h0' : ((l.length : Int) == 0) = false := beq_eq_false_iff_ne.2 (by omega)
      have hde : dayErr l s = 0 := by rw [dayErr, if_neg (by omega), if_neg h0]
      rw [if_neg (by omega)] at hV
      have z1 : (1 : Nat) ≤ 2 := by omega
      have c88 : ∀ (e : Env) (h : Heap) (Q : EX × St → Prop) (d : Option Nat) (L : List IOper) (ks : List Kont), GP (evCall T n) 0 Q d L ks e (evCall T n false (.fn 88) [.agg [.slice (some 3) (l.map oAV) false]] h) = GO (evCall T n) 0 Q L ks ⟨setDst e d (.clo 98 [] [.ptr [ords l] 0]), h⟩ := fun e h Q d L ks =>
        gp_eq (con_88 l) (by omega) (fz_cons (frz_agg (mz_cons (frz_slice _ _ _ _ _) (mz_nil _ _))) (fz_nil _)) rfl
      obtain ⟨at0, ht1, ht2, ht3, ht4, ht5, -⟩ := tight_spec hval (by omega) s
      rw [ht1] at hV
      have hb0 : ((0 : Int) != 0) = false := rfl
      simp (disch := first | assumption | omega) only [c73, go_sem, ↓reduceIte, reduceIte, Nat.reduceEqDiff, Nat.reduceAdd, Nat.reduceMul, reduceCtorEq, Nat.reduceDiv, Nat.reduceLeDiff, Nat.reduceLT, Nat.reduceSub, cs_69, sidedV, hc', hc, deskV, h0', hb0, z1, c88]
      refine g_cut (fun st => At st.env [(7, .optr 7 0 0), (9, .optr 9 0 0), (10, .optr 10 0 0), (11, .optr 11 0 0), (33, .clo 98 [] [.ptr [ords l] 0])] ∧ st.heap.length = 51 ∧ getH st.heap 7 = .cells 0 [deskV l s] ∧ getH st.heap 9 = .cells 0 [.bool true] ∧ getH st.heap 10 = .cells 0 [.int .i64 0] ∧ getH st.heap 11 = .cells 0 [.int .i64 0])
        ⟨by simp only [go_sem, ↓reduceIte, reduceIte, Nat.reduceEqDiff, Nat.reduceAdd, Nat.reduceMul, reduceCtorEq, Nat.reduceDiv, Nat.reduceLeDiff, Nat.reduceLT, Nat.reduceSub], by simp [length_setH], by simp only [go_sem, ↓reduceIte, reduceIte, Nat.reduceEqDiff, Nat.reduceAdd, Nat.reduceMul, reduceCtorEq, Nat.reduceDiv, Nat.reduceLeDiff, Nat.reduceLT, Nat.reduceSub, deskV], by simp only [go_sem, ↓reduceIte, reduceIte, Nat.reduceEqDiff, Nat.reduceAdd, Nat.reduceMul, reduceCtorEq, Nat.reduceDiv, Nat.reduceLeDiff, Nat.reduceLT, Nat.reduceSub], by simp only [go_sem, ↓reduceIte, reduceIte, Nat.reduceEqDiff, Nat.reduceAdd, Nat.reduceMul, reduceCtorEq, Nat.reduceDiv, Nat.reduceLeDiff, Nat.reduceLT, Nat.reduceSub], by simp only [go_sem, ↓reduceIte, reduceIte, Nat.reduceEqDiff, Nat.reduceAdd, Nat.reduceMul, reduceCtorEq, Nat.reduceDiv, Nat.reduceLeDiff, Nat.reduceLT, Nat.reduceSub]⟩ ?_
      rintro e h ⟨hE, hlen, g7, g9, g10, g11⟩
      simp only [At_cons, At_nil] at hE hlen g7 g9 g10 g11
      obtain ⟨h7, h9, h10, h11, h33, -⟩ := hE
      refine m_rangeF' (g := 98) (first := []) (captured := [.ptr [ords l] 0]) (by simp only [go_sem, ↓reduceIte, reduceIte, Nat.reduceEqDiff, Nat.reduceAdd, Nat.reduceMul, reduceCtorEq, Nat.reduceDiv, Nat.reduceLeDiff, Nat.reduceLT, Nat.reduceSub, h33]) hlen fun lf f1 f2 f3 f4 f5 => ?_
      refine raw_98 l hl 51 0 (fun r h' => ∃ (first : Bool) (a m : Int), getH h' 51 = .loop 0 .ready none lf ∧ getH h' 7 = .cells 0 [deskV l s] ∧ getH h' 9 = .cells 0 [.bool first] ∧ getH h' 10 = .cells 0 [.int .i64 a] ∧ getH h' 11 = .cells 0 [.int .i64 m] ∧
        r.foldl (tightStep (bd l (side l s))) (if first then none else some (a, m)) = tightOf l s) (fun r h' hJ => ?_) (by omega) (fun d r h' hJ hd => ?_) _ ?_ _ (fun v h' hJ => ?_)
      · obtain ⟨first, a, m, j1, j2, j3, j4, j5, j6⟩ := hJ
        exact ⟨first, a, m, by rw [getH_append_none, j1], by rw [getH_append_none, j2], by rw [getH_append_none, j3], by rw [getH_append_none, j4], by rw [getH_append_none, j5], j6⟩
      · obtain ⟨first, a, m, j1, j2, j3, j4, j5, j6⟩ := hJ
        obtain ⟨q, rfl⟩ : ∃ q, n = q + 2 := ⟨n - 2, by omega⟩
        have hdb : -100000 ≤ d ∧ d ≤ 100000 := by
          obtain ⟨i, hi, rfl⟩ := (daysOf_mem l hval d).1 hd
          have hib := seqOf_mem.1 hi
          obtain ⟨j, rfl⟩ := Int.eq_ofNat_of_zero_le hib.1
          obtain ⟨o, ho⟩ := get_ex (l := l) (i := j) (by omega)
          have hok := hval.ok o (List.mem_of_getElem? ho)
          have := hok.d0
          have := hok.d1
          rw [dueOf_nat ho]
          omega
        show (evCall T (q + 1) true (.yld 51 0) [.int .i64 d] h').all _
        refine m_round j1 (by rw [f3]; rfl) ?_
        rw [f4]
        simp (disch := first | assumption | omega) only [go_sem, ↓reduceIte, reduceIte, Nat.reduceEqDiff, Nat.reduceAdd, Nat.reduceMul, reduceCtorEq, Nat.reduceDiv, Nat.reduceLeDiff, Nat.reduceLT, Nat.reduceSub, f1, f2, f3, setPs]
        refine ⟨none, lf, j1, ?_⟩
        rw [f5]
        cases first with
        | true =>
          simp (disch := first | assumption | omega) only [go_sem, ↓reduceIte, reduceIte, Nat.reduceEqDiff, Nat.reduceAdd, Nat.reduceMul, reduceCtorEq, Nat.reduceDiv, Nat.reduceLeDiff, Nat.reduceLT, Nat.reduceSub, h7, h9, h10, h11, j2, j3, j4, j5, cs_70, bdV]
          exact ⟨_, _, lf, rfl, false, d, _, rfl, rfl, rfl, rfl, j6⟩
        | false =>
          by_cases hgt : bd l (side l s) d > m
          · simp (disch := first | assumption | omega) only [go_sem, ↓reduceIte, reduceIte, Nat.reduceEqDiff, Nat.reduceAdd, Nat.reduceMul, reduceCtorEq, Nat.reduceDiv, Nat.reduceLeDiff, Nat.reduceLT, Nat.reduceSub, h7, h9, h10, h11, j2, j3, j4, j5, cs_70, bdV, hgt]
            rw [List.foldl_cons] at j6
            simp only [Bool.false_eq_true, if_false, tightStep, if_pos hgt] at j6
            exact ⟨_, _, lf, rfl, false, d, _, rfl, rfl, rfl, rfl, j6⟩
          · simp (disch := first | assumption | omega) only [go_sem, ↓reduceIte, reduceIte, Nat.reduceEqDiff, Nat.reduceAdd, Nat.reduceMul, reduceCtorEq, Nat.reduceDiv, Nat.reduceLeDiff, Nat.reduceLT, Nat.reduceSub, h7, h9, h10, h11, j2, j3, j4, j5, cs_70, bdV, hgt]
            rw [List.foldl_cons] at j6
            simp only [Bool.false_eq_true, if_false, tightStep, if_neg hgt] at j6
            exact ⟨_, _, lf, rfl, false, a, m, rfl, rfl, rfl, rfl, j6⟩
      · have n51 : ¬ 51 = 7 := by omega
        exact ⟨true, 0, 0, by simp only [go_sem, ↓reduceIte, reduceIte, Nat.reduceEqDiff, Nat.reduceAdd, Nat.reduceMul, reduceCtorEq, Nat.reduceDiv, Nat.reduceLeDiff, Nat.reduceLT, Nat.reduceSub], by simp only [go_sem, ↓reduceIte, reduceIte, Nat.reduceEqDiff, Nat.reduceAdd, Nat.reduceMul, reduceCtorEq, Nat.reduceDiv, Nat.reduceLeDiff, Nat.reduceLT, Nat.reduceSub]; exact g7, by simp only [go_sem, ↓reduceIte, reduceIte, Nat.reduceEqDiff, Nat.reduceAdd, Nat.reduceMul, reduceCtorEq, Nat.reduceDiv, Nat.reduceLeDiff, Nat.reduceLT, Nat.reduceSub]; exact g9, by simp only [go_sem, ↓reduceIte, reduceIte, Nat.reduceEqDiff, Nat.reduceAdd, Nat.reduceMul, reduceCtorEq, Nat.reduceDiv, Nat.reduceLeDiff, Nat.reduceLT, Nat.reduceSub]; exact g10, by simp only [go_sem, ↓reduceIte, reduceIte, Nat.reduceEqDiff, Nat.reduceAdd, Nat.reduceMul, reduceCtorEq, Nat.reduceDiv, Nat.reduceLeDiff, Nat.reduceLT, Nat.reduceSub]; exact g11, rfl⟩
      · obtain ⟨first, a, m, j1, j2, j3, j4, j5, j6⟩ := hJ
        refine ⟨.ready, none, lf, j1, by simp, ?_⟩
        have hfirst : first = false := by
          cases first with
          | false => rfl
          | true => rw [ht1] at j6; cases j6
        subst hfirst
        rw [ht1] at j6
        have e1 : some (a, m) = some (at0, bd l (side l s) at0) := j6
        simp only [Option.some.injEq, Prod.mk.injEq] at e1
        obtain ⟨rfl, rfl⟩ := e1
        simp (disch := first | assumption | omega) only [go_sem, ↓reduceIte, reduceIte, Nat.reduceEqDiff, Nat.reduceAdd, Nat.reduceMul, reduceCtorEq, Nat.reduceDiv, Nat.reduceLeDiff, Nat.reduceLT, Nat.reduceSub, h7, h9, h10, h11, j4, j5]
        exact hV _ _ _ _ rfl rfl rfl
  · have hc' : (chkSide l s != 0) = true := by simp [hc]
    have hde : dayErr l s = chkSide l s := by rw [dayErr, if_pos hc]
    rw [if_pos (by omega)] at hV
    simp (disch := first | assumption | omega) only [c73, go_sem, ↓reduceIte, reduceIte, Nat.reduceEqDiff, Nat.reduceAdd, Nat.reduceMul, reduceCtorEq, Nat.reduceDiv, Nat.reduceLeDiff, Nat.reduceLT, Nat.reduceSub, cs_69, sidedV, hc', if_neg hc]
    exact hV _ _ _ _ rfl rfl hde.symm

end Go.Ev.YtadneamkkepknaaC
