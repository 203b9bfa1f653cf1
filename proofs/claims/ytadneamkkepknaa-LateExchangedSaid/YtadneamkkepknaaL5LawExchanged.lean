/- The law LateExchanged answers true, whatever it is handed. Conditions: the arguments are integers that fit their kinds, and lists no longer than memory allows. -/
import Derived.Test.YtadneamkkepknaaL5LawProved
import Derived.Test.YtadneamkkepknaaL5Math6
set_option linter.unusedSimpArgs false
set_option linter.unusedVariables false
namespace Go.Ev.YtadneamkkepknaaC
open Go Go.Proofs

theorem workOk_nonneg {l : List Order} (hv : Valid l) {w : List Int} (hl : w.length = l.length) (h : workOk l w = true) : ∀ x ∈ w, 0 ≤ x := fun x hx => (workOk_of hl h hv.ok x hx).1

attribute [local irreducible] Res.all evC evLoop evOps evOper evOp evFn evCall freeze G GO GV GP GC R
set_option maxRecDepth 100000

theorem lateExchanged_at (n40 : Nat) (hn : n40 = 40) (l : List Order) (b : List Int) (ds : List Int) (wn : Int) (_ : ∀ a ∈ l, OWf a) (hlm : l.length ≤ maxLen) (hbw : ∀ n ∈ b, (Lit.int .u8 n).wf = true) (hbm : b.length ≤ maxLen) (hdw : ∀ n ∈ ds, (Lit.int .u8 n).wf = true) (hdm : ds.length ≤ maxLen) (hww : (Lit.int .u8 wn).wf = true) :
    (evFn (evCall T n40) c9 [ords l, .slice none (b.map (.int .u8)) false, .slice none (ds.map (.int .u8)) false, .int .u8 wn] []).all fun p => p.1 = .bool true := by
  rw [m_fn]
  by_cases hc : chk l = 0
  case neg => simp (disch := first | assumption | omega) only [c9, go_sem, ↓reduceIte, reduceIte, Nat.reduceEqDiff, Nat.reduceAdd, Nat.reduceMul, reduceCtorEq, Nat.reduceDiv, Nat.reduceLeDiff, Nat.reduceLT, Nat.reduceSub, cs_46, hc, cs_18']
  have hv := (chk_zero l).1 hc
  have hl : l.length ≤ 15 := Nat.le_trans hv.len (by omega)
  by_cases hl0 : (l.length : Int) < 2
  · simp (disch := first | assumption | omega) only [c9, go_sem, ↓reduceIte, reduceIte, Nat.reduceEqDiff, Nat.reduceAdd, Nat.reduceMul, reduceCtorEq, Nat.reduceDiv, Nat.reduceLeDiff, Nat.reduceLT, Nat.reduceSub, cs_46, hc, hl0, cs_18']
  have h0 : 0 < l.length := by omega
  by_cases g3 : (b.length : Int) > 40
  · simp (disch := first | assumption | omega) only [c9, go_sem, ↓reduceIte, reduceIte, Nat.reduceEqDiff, Nat.reduceAdd, Nat.reduceMul, reduceCtorEq, Nat.reduceDiv, Nat.reduceLeDiff, Nat.reduceLT, Nat.reduceSub, cs_46, hc, hl0, g3, cs_18']
  have hb : b.length ≤ 40 := by omega
  by_cases g4 : (ds.length : Int) > 40
  · simp (disch := first | assumption | omega) only [c9, go_sem, ↓reduceIte, reduceIte, Nat.reduceEqDiff, Nat.reduceAdd, Nat.reduceMul, reduceCtorEq, Nat.reduceDiv, Nat.reduceLeDiff, Nat.reduceLT, Nat.reduceSub, cs_46, hc, hl0, g3, g4, cs_18']
  have hd : ds.length ≤ 40 := by omega
  have hsm := small_of hbw
  have hsd := small_of hdw
  have hwb := bounds_u8 hww
  obtain ⟨k0, rfl⟩ := Int.eq_ofNat_of_zero_le hwb.1
  obtain ⟨m, hm⟩ : ∃ m : Nat, l.length = m + 2 := ⟨l.length - 2, by omega⟩
  have hm' : (l.length : Int) - 1 = (m : Int) + 1 := by omega
  have hk := Nat.mod_lt k0 (show 0 < m + 1 by omega)
  generalize hkk : k0 % (m + 1) = k at *
  have hgs := given_seq b l.length
  have hgl := given_length b l.length
  obtain ⟨a, ha⟩ := get_ex (l := given b l.length) (i := k) (by omega)
  obtain ⟨c, hc2⟩ := get_ex (l := given b l.length) (i := k + 1) (by omega)
  have hab := hgs.lt.1 a (List.mem_of_getElem? ha)
  have hcb := hgs.lt.1 c (List.mem_of_getElem? hc2)
  obtain ⟨an, rfl⟩ := Int.eq_ofNat_of_zero_le hab.1
  obtain ⟨cn, rfl⟩ := Int.eq_ofNat_of_zero_le hcb.1
  obtain ⟨oa, hoa⟩ := get_ex (l := l) (i := an) (by omega)
  obtain ⟨oc, hoc⟩ := get_ex (l := l) (i := cn) (by omega)
  have hwl := worked_length l ds
  have hwo := worked_ok hv ds
  have hw0 := workOk_nonneg hv hwl hwo
  have e5 := delay_ok hv h0 hgs hwl hwo
  have hex := fun hlt => exch_delay (l := l) hgs hw0 ha hc2 hlt
  rw [dueOf_nat hoa, dueOf_nat hoc] at hex
  have hg15 : (given b l.length).length ≤ 15 := by omega
  generalize hS : given b l.length = S at *
  have hSl : S.length = m + 2 := by omega
  have q1 : k < S.length := by omega
  have q2 : k + 1 < S.length := by omega
  have q3 : k + 1 ≤ S.length := by omega
  have q4 : ∀ x : Int, k + 1 + 1 ≤ (S.set k x).length := fun x => by rw [List.length_set]; omega
  simp (disch := first | assumption | omega) only [c9, go_sem, ↓reduceIte, reduceIte, Nat.reduceEqDiff, Nat.reduceAdd, Nat.reduceMul, reduceCtorEq, Nat.reduceDiv, Nat.reduceLeDiff, Nat.reduceLT, Nat.reduceSub, cs_46, hc, hl0, g3, g4]
  simp (disch := first | assumption | omega) only [cs_49, hS]
  simp (disch := first | assumption | omega) only [go_sem, ↓reduceIte, reduceIte, Nat.reduceEqDiff, Nat.reduceAdd, Nat.reduceMul, reduceCtorEq, Nat.reduceDiv, Nat.reduceLeDiff, Nat.reduceLT, Nat.reduceSub, cs_50, hm', b_rem1, hkk]
  refine gp_append (m := S.length) (l2 := S) (by first | with_reducible rfl | (simp only [length_setH, List.length_append, List.length_replicate]; done) | (simp only [length_setH, List.length_append, List.length_replicate]; omega)) (own_nil 114 _ .i64) (by simp) (cs_ints _ _ _ _) rfl (by omega) (by simp; omega) fun x h hO _ hlen _ _ => ?_
  rcases hO with ⟨hnil, _⟩ | ⟨key, ver, hkey, rfl, hH⟩
  · rw [List.nil_append] at hnil; rw [hnil] at hSl; simp at hSl
  rw [List.nil_append] at hH ⊢
  refine go_cutE [(0, ords l), (9, ints S), (10, ints (worked l ds)), (11, .int .i64 k), (51, .oslice key ver none 0 S.length none)] (by simp only [go_sem, ↓reduceIte, reduceIte, Nat.reduceEqDiff, Nat.reduceAdd, Nat.reduceMul, reduceCtorEq, Nat.reduceDiv, Nat.reduceLeDiff, Nat.reduceLT, Nat.reduceSub]) fun e hE => ?_
  simp only [At_cons, At_nil] at hE
  obtain ⟨h0, h9, h10, h11, h51, -⟩ := hE
  by_cases hlt : oc.due < oa.due
  · obtain ⟨hs2, hle⟩ := hex hlt
    have e6 := delay_ok hv (by omega) hs2 hwl hwo
    have hxl : ((S.set k (cn : Int)).set (k + 1) (an : Int)).length = S.length := by simp
    have hle' := hle
    generalize hX : (S.set k (cn : Int)).set (k + 1) (an : Int) = X at *
    simp (disch := first | assumption | omega) only [go_sem, ↓reduceIte, reduceIte, Nat.reduceEqDiff, Nat.reduceAdd, Nat.reduceMul, reduceCtorEq, Nat.reduceDiv, Nat.reduceLeDiff, Nat.reduceLT, Nat.reduceSub, h0, h9, h10, h11, h51, ha, hc2, hoa, hoc, oAV, hlt, q1, q2, q3, hH, q4, hX]
    simp (disch := first | assumption | omega) only [cs_21, e5]
    simp (disch := first | assumption | omega) only [go_sem, ↓reduceIte, reduceIte, Nat.reduceEqDiff, Nat.reduceAdd, Nat.reduceMul, reduceCtorEq, Nat.reduceDiv, Nat.reduceLeDiff, Nat.reduceLT, Nat.reduceSub, h0, h9, h10, h11, h51]
    refine gp_con (con_21 l X (worked l ds) hl (by omega)) (by omega) (fz_slice _ _ _ _ (fz_cons (frz_own (getH_setH_self ..) (by omega)) (fz_slice _ _ _ _ (fz_nil _)))) (or_plain rfl) ?_
    simp (disch := first | assumption | omega) only [go_sem, ↓reduceIte, reduceIte, Nat.reduceEqDiff, Nat.reduceAdd, Nat.reduceMul, reduceCtorEq, Nat.reduceDiv, Nat.reduceLeDiff, Nat.reduceLT, Nat.reduceSub, delayV, e6, hle', cs_18', beq_self_eq_true]
  · simp (disch := first | assumption | omega) only [go_sem, ↓reduceIte, reduceIte, Nat.reduceEqDiff, Nat.reduceAdd, Nat.reduceMul, reduceCtorEq, Nat.reduceDiv, Nat.reduceLeDiff, Nat.reduceLT, Nat.reduceSub, h0, h9, h10, h11, h51, ha, hc2, hoa, hoc, oAV, hlt]
    simp (disch := first | assumption | omega) only [cs_21, e5]
    simp (disch := first | assumption | omega) only [go_sem, ↓reduceIte, reduceIte, Nat.reduceEqDiff, Nat.reduceAdd, Nat.reduceMul, reduceCtorEq, Nat.reduceDiv, Nat.reduceLeDiff, Nat.reduceLT, Nat.reduceSub, h0, h9, h10, h11, h51]
    refine gp_con (con_21 l S (worked l ds) hl (by omega)) (by omega) (fz_slice _ _ _ _ (fz_cons (frz_own hH rfl) (fz_slice _ _ _ _ (fz_nil _)))) (or_plain rfl) ?_
    have hle' : delayOf l S (worked l ds) ≤ delayOf l S (worked l ds) := Int.le_refl _
    simp (disch := first | assumption | omega) only [go_sem, ↓reduceIte, reduceIte, Nat.reduceEqDiff, Nat.reduceAdd, Nat.reduceMul, reduceCtorEq, Nat.reduceDiv, Nat.reduceLeDiff, Nat.reduceLT, Nat.reduceSub, delayV, e5, hle', cs_18', beq_self_eq_true]

def lateExchanged_n : Nat := 40
theorem lateExchanged_ev (l : List Order) (b ds : List Int) (wn : Int) (h1 : ∀ a ∈ l, OWf a) (h2 : l.length ≤ maxLen) (h3 : ∀ n ∈ b, (Lit.int .u8 n).wf = true) (h4 : b.length ≤ maxLen) (h5 : ∀ n ∈ ds, (Lit.int .u8 n).wf = true) (h6 : ds.length ≤ maxLen) (h7 : (Lit.int .u8 wn).wf = true) :
    (evFn (evCall T lateExchanged_n) c9 [ords l, .slice none (b.map (.int .u8)) false, .slice none (ds.map (.int .u8)) false, .int .u8 wn] []).all fun p => p.1 = .bool true := lateExchanged_at _ rfl l b ds wn h1 h2 h3 h4 h5 h6 h7

end Go.Ev.YtadneamkkepknaaC
