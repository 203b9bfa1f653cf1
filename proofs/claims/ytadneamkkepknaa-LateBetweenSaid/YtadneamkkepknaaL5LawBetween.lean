/- The law LateBetween answers true, whatever it is handed. Conditions: the arguments are integers that fit their kinds, and lists no longer than memory allows. -/
import Derived.Test.YtadneamkkepknaaL5LawProved
set_option linter.unusedSimpArgs false
set_option linter.unusedVariables false
namespace Go.Ev.YtadneamkkepknaaC
open Go Go.Proofs

theorem worked_getD {l : List Order} (b : List Int) (i : Nat) : (worked l b).getD i 0 = match l[i]? with | some o => workedAt o b i | none => 0 := by
  rw [List.getD_eq_getElem?_getD, worked, List.getElem?_mapIdx]
  cases l[i]? <;> rfl
theorem side_getD (l : List Order) (s : Int) (i : Nat) : (side l s).getD i 0 = match l[i]? with | some o => (if s = 1 then o.hi else o.lo) | none => 0 := by
  rw [List.getD_eq_getElem?_getD, side, List.getElem?_map]
  cases l[i]? <;> rfl
theorem between {l : List Order} (hv : Valid l) (b S : List Int) (i : Nat) : (endsOf S (side l 0)).getD i 0 ≤ (endsOf S (worked l b)).getD i 0 ∧ (endsOf S (worked l b)).getD i 0 ≤ (endsOf S (side l 1)).getD i 0 := by
  have h : ∀ i : Nat, (side l 0).getD i 0 ≤ (worked l b).getD i 0 ∧ (worked l b).getD i 0 ≤ (side l 1).getD i 0 := fun i => by
    rw [worked_getD, side_getD, side_getD]
    cases ho : l[i]? with
    | none => simp
    | some o => simpa using workedAt_bd (hv.ok o (List.mem_of_getElem? ho)) b i
  exact ⟨runEnds_mono (fun i => (h i).1) S 0 0 _ _ (Int.le_refl 0) rfl (fun _ => Int.le_refl _) i, runEnds_mono (fun i => (h i).2) S 0 0 _ _ (Int.le_refl 0) rfl (fun _ => Int.le_refl _) i⟩
theorem kinds_ok {l : List Order} (hv : Valid l) {S : List Int} (hs : Seq l.length S) : refKinds l S = (kindsOf l S, 0) := by
  rw [refKinds, if_neg (by rw [chkSeq_ok hv hs]; omega)]

attribute [local irreducible] Res.all evC evLoop evOps evOper evOp evFn evCall freeze G GO GV GP GC R
set_option maxRecDepth 100000

theorem lateBetween_at (n40 : Nat) (hn : n40 = 40) (l : List Order) (b ds : List Int) (_ : ∀ a ∈ l, OWf a) (hlm : l.length ≤ maxLen) (hbw : ∀ n ∈ b, (Lit.int .u8 n).wf = true) (hbm : b.length ≤ maxLen) (hdw : ∀ n ∈ ds, (Lit.int .u8 n).wf = true) (hdm : ds.length ≤ maxLen) :
    (evFn (evCall T n40) c12 [ords l, .slice none (b.map (.int .u8)) false, .slice none (ds.map (.int .u8)) false] []).all fun p => p.1 = .bool true := by
  rw [m_fn]
  by_cases hc : chk l = 0
  case neg => simp (disch := first | assumption | omega) only [c12, go_sem, ↓reduceIte, reduceIte, Nat.reduceEqDiff, Nat.reduceAdd, Nat.reduceMul, reduceCtorEq, Nat.reduceDiv, Nat.reduceLeDiff, Nat.reduceLT, Nat.reduceSub, cs_46, hc, cs_18']
  have hv := (chk_zero l).1 hc
  have hl : l.length ≤ 15 := Nat.le_trans hv.len (by omega)
  by_cases g3 : (b.length : Int) > 40
  · simp (disch := first | assumption | omega) only [c12, go_sem, ↓reduceIte, reduceIte, Nat.reduceEqDiff, Nat.reduceAdd, Nat.reduceMul, reduceCtorEq, Nat.reduceDiv, Nat.reduceLeDiff, Nat.reduceLT, Nat.reduceSub, cs_46, hc, g3, cs_18']
  have hb : b.length ≤ 40 := by omega
  by_cases g4 : (ds.length : Int) > 40
  · simp (disch := first | assumption | omega) only [c12, go_sem, ↓reduceIte, reduceIte, Nat.reduceEqDiff, Nat.reduceAdd, Nat.reduceMul, reduceCtorEq, Nat.reduceDiv, Nat.reduceLeDiff, Nat.reduceLT, Nat.reduceSub, cs_46, hc, g3, g4, cs_18']
  have hd : ds.length ≤ 40 := by omega
  have hsm := small_of hbw
  have hsd := small_of hdw
  have hgs := given_seq b l.length
  have hgl := given_length b l.length
  have hwl := worked_length l ds
  have e0 := ends_ok hv hgs (side_length l 0) (side_ok hv 0)
  have e1 := ends_ok hv hgs (side_length l 1) (side_ok hv 1)
  have e2 := ends_ok hv hgs hwl (worked_ok hv ds)
  have e3 := kinds_ok hv hgs
  have l0 : (endsOf (given b l.length) (side l 0)).length = l.length := by rw [endsOf_length, hgl]
  have l1 : (endsOf (given b l.length) (side l 1)).length = l.length := by rw [endsOf_length, hgl]
  have l2 : (endsOf (given b l.length) (worked l ds)).length = l.length := by rw [endsOf_length, hgl]
  have l3 : (kindsOf l (given b l.length)).length = l.length := by simp [kindsOf]
  have hbet := between hv ds (given b l.length)
  have hkr : ∀ i : Nat, i < l.length → (kindsOf l (given b l.length))[i]? = some (kindR l (given b l.length) i) := fun i hi => by simp [kindsOf, hi]
  have hkd : ∀ i : Nat, kindR l (given b l.length) i = if (endsOf (given b l.length) (side l 0)).getD i 0 > dueN l i then 0 else if (endsOf (given b l.length) (side l 1)).getD i 0 ≤ dueN l i then 2 else 1 := fun i => rfl
  have hg15 : (given b l.length).length ≤ 15 := by omega
  generalize hS : given b l.length = S at *
  generalize kindR l S = kf at *
  generalize hE0 : endsOf S (side l 0) = E0 at *
  generalize hE1 : endsOf S (side l 1) = E1 at *
  generalize hE2 : endsOf S (worked l ds) = E2 at *
  generalize hK : kindsOf l S = K at *
  simp (disch := first | assumption | omega) only [c12, go_sem, ↓reduceIte, reduceIte, Nat.reduceEqDiff, Nat.reduceAdd, Nat.reduceMul, reduceCtorEq, Nat.reduceDiv, Nat.reduceLeDiff, Nat.reduceLT, Nat.reduceSub, cs_46, hc, g3, g4]
  simp (disch := first | assumption | omega) only [cs_49, hS]
  simp (disch := first | assumption | omega) only [go_sem, ↓reduceIte, reduceIte, Nat.reduceEqDiff, Nat.reduceAdd, Nat.reduceMul, reduceCtorEq, Nat.reduceDiv, Nat.reduceLeDiff, Nat.reduceLT, Nat.reduceSub, cs_47]
  simp (disch := first | assumption | omega) only [cs_19, e0]
  simp (disch := first | assumption | omega) only [go_sem, ↓reduceIte, reduceIte, Nat.reduceEqDiff, Nat.reduceAdd, Nat.reduceMul, reduceCtorEq, Nat.reduceDiv, Nat.reduceLeDiff, Nat.reduceLT, Nat.reduceSub, cs_50]
  simp (disch := first | assumption | omega) only [cs_19, e2]
  simp (disch := first | assumption | omega) only [go_sem, ↓reduceIte, reduceIte, Nat.reduceEqDiff, Nat.reduceAdd, Nat.reduceMul, reduceCtorEq, Nat.reduceDiv, Nat.reduceLeDiff, Nat.reduceLT, Nat.reduceSub, cs_47]
  simp (disch := first | assumption | omega) only [cs_19, e1]
  simp (disch := first | assumption | omega) only [go_sem, ↓reduceIte, reduceIte, Nat.reduceEqDiff, Nat.reduceAdd, Nat.reduceMul, reduceCtorEq, Nat.reduceDiv, Nat.reduceLeDiff, Nat.reduceLT, Nat.reduceSub]
  simp (disch := first | assumption | omega) only [cs_28, e3]
  refine go_cut [(0, ords l), (8, ints E0), (9, .int .i64 0), (10, ints E2), (11, .int .i64 0), (12, ints E1), (13, .int .i64 0), (64, .tuple [ints K, .int .i64 0])] (by simp only [go_sem, ↓reduceIte, reduceIte, Nat.reduceEqDiff, Nat.reduceAdd, Nat.reduceMul, reduceCtorEq, Nat.reduceDiv, Nat.reduceLeDiff, Nat.reduceLT, Nat.reduceSub]) fun e h hE => ?_
  simp only [At_cons, At_nil] at hE
  obtain ⟨h0, h8, h9, h10, h11, h12, h13, h61, -⟩ := hE
  simp (disch := first | assumption | omega) only [go_sem, ↓reduceIte, reduceIte, Nat.reduceEqDiff, Nat.reduceAdd, Nat.reduceMul, reduceCtorEq, Nat.reduceDiv, Nat.reduceLeDiff, Nat.reduceLT, Nat.reduceSub, h0, h8, h9, h10, h11, h12, h13, h61, bne_self_eq_false, l0, l1, l2, l3]
  refine m_loop (fun M st => ∃ (k : Nat), M = l.length - k ∧ k ≤ l.length ∧ At st.env [(0, ords l), (8, ints E0), (10, ints E2), (12, ints E1), (14, ints K), (16, .int .i64 k)]) l.length (by omega)
    ⟨0, by simp, by omega, by simp only [go_sem, ↓reduceIte, reduceIte, Nat.reduceEqDiff, Nat.reduceAdd, Nat.reduceMul, reduceCtorEq, Nat.reduceDiv, Nat.reduceLeDiff, Nat.reduceLT, Nat.reduceSub, h0, h8, h10, h12]⟩ ?_
  clear h0 h8 h9 h10 h11 h12 h13 h61
  rintro M e h hM ⟨k, rfl, hk, hE⟩ P hP
  simp only [At_cons, At_nil] at hE
  obtain ⟨h0, h8, h10, h12, h14, h16, -⟩ := hE
  by_cases hlt : k < l.length
  · obtain ⟨o, ho⟩ := get_ex hlt
    obtain ⟨x0, hx0⟩ := get_ex (l := E0) (i := k) (by omega)
    obtain ⟨x1, hx1⟩ := get_ex (l := E1) (i := k) (by omega)
    obtain ⟨x2, hx2⟩ := get_ex (l := E2) (i := k) (by omega)
    have hkk := hkr k hlt
    have hkv := hkd k
    have hbt := hbet k
    rw [dueN_get ho] at hkv
    simp only [List.getD_eq_getElem?_getD, hx0, hx1, hx2, Option.getD_some] at hkv hbt
    generalize kf k = kv at *
    have b1 : ¬ x0 > x2 := by omega
    have b2 : ¬ x2 > x1 := by omega
    have r20 : ((2 : Int) == 0) = false := rfl
    have r02 : ((0 : Int) == 2) = false := rfl
    have r10 : ((1 : Int) == 0) = false := rfl
    have r12 : ((1 : Int) == 2) = false := rfl
    have rtt : (true == true) = true := rfl
    have rff : (false == false) = true := rfl
    have rttt : (true != true) = false := rfl
    have s0 : ¬ (0 : Int) < 0 := by omega
    have s1 : ¬ (1 : Int) < 0 := by omega
    have s2 : ¬ (2 : Int) < 0 := by omega
    have u0 : ¬ (0 : Int) > 2 := by omega
    have u1 : ¬ (1 : Int) > 2 := by omega
    have u2 : ¬ (2 : Int) > 2 := by omega
    have fin : ∀ e : Env, At e [(0, ords l), (8, ints E0), (10, ints E2), (12, ints E1), (14, ints K), (16, .int .i64 ((k : Int) + 1))] → P ⟨e, h⟩ := fun e he => hP (l.length - (k + 1)) _ (by omega) ⟨k + 1, rfl, by omega, he⟩
    by_cases g1 : x0 > o.due
    · rw [if_pos g1] at hkv
      subst hkv
      have g2 : ¬ x1 ≤ o.due := by omega
      have g3 : ¬ x2 ≤ o.due := by omega
      simp (disch := first | assumption | omega) only [go_sem, ↓reduceIte, reduceIte, Nat.reduceEqDiff, Nat.reduceAdd, Nat.reduceMul, reduceCtorEq, Nat.reduceDiv, Nat.reduceLeDiff, Nat.reduceLT, Nat.reduceSub, h0, h8, h10, h12, h14, h16, hlt, ho, oAV, hx0, hx1, hx2, hkk, b1, b2, g1, g2, g3, r02, beq_self_eq_true, rtt, rff, rttt, bne_self_eq_false, s0, s1, s2, u0, u1, u2]
      exact fin _ (by simp only [go_sem, ↓reduceIte, reduceIte, Nat.reduceEqDiff, Nat.reduceAdd, Nat.reduceMul, reduceCtorEq, Nat.reduceDiv, Nat.reduceLeDiff, Nat.reduceLT, Nat.reduceSub, h0, h8, h10, h12, h14])
    · rw [if_neg g1] at hkv
      by_cases g2 : x1 ≤ o.due
      · rw [if_pos g2] at hkv
        subst hkv
        have g3 : ¬ x2 > o.due := by omega
        simp (disch := first | assumption | omega) only [go_sem, ↓reduceIte, reduceIte, Nat.reduceEqDiff, Nat.reduceAdd, Nat.reduceMul, reduceCtorEq, Nat.reduceDiv, Nat.reduceLeDiff, Nat.reduceLT, Nat.reduceSub, h0, h8, h10, h12, h14, h16, hlt, ho, oAV, hx0, hx1, hx2, hkk, b1, b2, g1, g2, g3, r20, beq_self_eq_true, rtt, rff, rttt, bne_self_eq_false, s0, s1, s2, u0, u1, u2]
        exact fin _ (by simp only [go_sem, ↓reduceIte, reduceIte, Nat.reduceEqDiff, Nat.reduceAdd, Nat.reduceMul, reduceCtorEq, Nat.reduceDiv, Nat.reduceLeDiff, Nat.reduceLT, Nat.reduceSub, h0, h8, h10, h12, h14])
      · rw [if_neg g2] at hkv
        subst hkv
        simp (disch := first | assumption | omega) only [go_sem, ↓reduceIte, reduceIte, Nat.reduceEqDiff, Nat.reduceAdd, Nat.reduceMul, reduceCtorEq, Nat.reduceDiv, Nat.reduceLeDiff, Nat.reduceLT, Nat.reduceSub, h0, h8, h10, h12, h14, h16, hlt, ho, oAV, hx0, hx1, hx2, hkk, b1, b2, g1, g2, r10, r12, beq_self_eq_true, rtt, rff, rttt, bne_self_eq_false, s0, s1, s2, u0, u1, u2]
        exact fin _ (by simp only [go_sem, ↓reduceIte, reduceIte, Nat.reduceEqDiff, Nat.reduceAdd, Nat.reduceMul, reduceCtorEq, Nat.reduceDiv, Nat.reduceLeDiff, Nat.reduceLT, Nat.reduceSub, h0, h8, h10, h12, h14])
  · simp (disch := first | assumption | omega) only [go_sem, ↓reduceIte, reduceIte, Nat.reduceEqDiff, Nat.reduceAdd, Nat.reduceMul, reduceCtorEq, Nat.reduceDiv, Nat.reduceLeDiff, Nat.reduceLT, Nat.reduceSub, h0, h16, hlt, cs_18']

def lateBetween_n : Nat := 40
theorem lateBetween_ev (l : List Order) (b ds : List Int) (h1 : ∀ a ∈ l, OWf a) (h2 : l.length ≤ maxLen) (h3 : ∀ n ∈ b, (Lit.int .u8 n).wf = true) (h4 : b.length ≤ maxLen) (h5 : ∀ n ∈ ds, (Lit.int .u8 n).wf = true) (h6 : ds.length ≤ maxLen) :
    (evFn (evCall T lateBetween_n) c12 [ords l, .slice none (b.map (.int .u8)) false, .slice none (ds.map (.int .u8)) false] []).all fun p => p.1 = .bool true := lateBetween_at _ rfl l b ds h1 h2 h3 h4 h5 h6

end Go.Ev.YtadneamkkepknaaC
