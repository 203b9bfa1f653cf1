/- The law LateProved answers true, whatever it is handed. Conditions: the arguments are integers that fit their kinds, and lists no longer than memory allows. -/
import Derived.Test.YtadneamkkepknaaL5Given
import Derived.Test.YtadneamkkepknaaL5LawDays
import Derived.Test.YtadneamkkepknaaL5LawSeqs
import Derived.Test.YtadneamkkepknaaL5Math5
import Derived.OpenShut
set_option linter.unusedSimpArgs false
set_option linter.unusedVariables false
namespace Go.Ev.YtadneamkkepknaaC
open Go Go.Proofs

theorem small_of {l : List Int} (h : ∀ n ∈ l, (Lit.int .u8 n).wf = true) : Small l := fun x hx => bounds_u8 (h x hx)
theorem chk_big {l : List Order} (h : 15 < l.length) : chk l = 6 := by unfold chk; rw [if_pos (by omega)]

/-- the shortest delay, and its day -/
def shortest (l : List Order) (s : Int) : Int := delayOf l (seqOf l) (side l s)
theorem short_day {l : List Order} (hv : Valid l) (h0 : 0 < l.length) {s : Int} (hs : s = 0 ∨ s = 1) : ∃ a, refShort l s = (shortest l s, 0) ∧ refDay l s = (a, 0) ∧ refBound l s a = (shortest l s, 0) ∧ someDue l a = true ∧ bd l (side l s) a = shortest l s ∧ 0 ≤ a ∧ a ≤ 2000 ∧
    ∀ d, d < a → ¬ (someDue l d = true ∧ bd l (side l s) d = bd l (side l s) a) := by
  have hd := (dayErr_zero l s).2 ⟨hv, hs, h0⟩
  have hc := (chkSide_zero l s).2 ⟨hv, hs⟩
  obtain ⟨a, e1, e2, e3, e4, e5, e6⟩ := refTight_ok hd
  refine ⟨a, by rw [refShort, e1, hd]; rfl, by rw [refDay, e1, hd], ?_, e2, e3, e4, e5, e6⟩
  rw [refBound, if_neg (by omega), if_neg (by omega), if_pos e2, e3]
  rfl
theorem delay_ok {l : List Order} (hv : Valid l) (h0 : 0 < l.length) {S w : List Int} (hs : Seq l.length S) (hw : w.length = l.length) (hwo : workOk l w = true) : refDelay l S w = (delayOf l S w, 0) := by
  rw [refDelay, if_neg (by rw [chkWork_ok hv hs hw hwo]; omega), if_neg (by omega)]
theorem ends_ok {l : List Order} (hv : Valid l) {S w : List Int} (hs : Seq l.length S) (hw : w.length = l.length) (hwo : workOk l w = true) : refEnds l S w = (endsOf S w, 0) := by
  rw [refEnds, if_neg (by rw [chkWork_ok hv hs hw hwo]; omega)]
theorem seq_ok {l : List Order} (hv : Valid l) : refSeq l = (seqOf l, 0) := by
  rw [refSeq, if_neg (by rw [(chk_zero l).2 hv]; omega)]
theorem bound_any {l : List Order} (hv : Valid l) {s : Int} (hs : s = 0 ∨ s = 1) {d : Int} (h0 : 0 ≤ d) (h1 : d ≤ 2000) : (∃ b, refBound l s d = (b, 0) ∧ ∀ S, Seq l.length S → b ≤ delayOf l S (side l s)) ∨ ∃ b, refBound l s d = (b, 5) := by
  rw [refBound, if_neg (by rw [(chkSide_zero l s).2 ⟨hv, hs⟩]; omega), if_neg (by omega)]
  by_cases h : someDue l d = true
  · rw [if_pos h]
    exact .inl ⟨_, rfl, fun S hS => bd_le hS (side_pos hv s) h⟩
  · rw [if_neg h]
    exact .inr ⟨_, rfl⟩

attribute [local irreducible] Res.all evC evLoop evOps evOper evOp evFn evCall freeze G GO GV GP GC R
set_option maxRecDepth 100000

theorem lateProved_at (n40 : Nat) (hn : n40 = 40) (l : List Order) (b : List Int) (sd dy : Int) (_ : ∀ a ∈ l, OWf a) (hlm : l.length ≤ maxLen) (hbw : ∀ n ∈ b, (Lit.int .u8 n).wf = true) (hbm : b.length ≤ maxLen) (hsd : (Lit.int .u8 sd).wf = true) (hdy : (Lit.int .u16 dy).wf = true) :
    (evFn (evCall T n40) c8 [ords l, .slice none (b.map (.int .u8)) false, .int .u8 sd, .int .u16 dy] []).all fun p => p.1 = .bool true := by
  rw [m_fn]
  by_cases hc : chk l = 0
  case neg => simp (disch := first | assumption | omega) only [c8, go_sem, ↓reduceIte, reduceIte, Nat.reduceEqDiff, Nat.reduceAdd, Nat.reduceMul, reduceCtorEq, Nat.reduceDiv, Nat.reduceLeDiff, Nat.reduceLT, Nat.reduceSub, cs_46, hc, cs_18']
  have hv := (chk_zero l).1 hc
  have hl : l.length ≤ 15 := Nat.le_trans hv.len (by omega)
  by_cases hl0 : l.length = 0
  · have hl0' : ((l.length : Int) == 0) = true := beq_iff_eq.2 (by omega)
    simp (disch := first | assumption | omega) only [c8, go_sem, ↓reduceIte, reduceIte, Nat.reduceEqDiff, Nat.reduceAdd, Nat.reduceMul, reduceCtorEq, Nat.reduceDiv, Nat.reduceLeDiff, Nat.reduceLT, Nat.reduceSub, cs_46, hc, hl0', cs_18']
  have hl0' : ((l.length : Int) == 0) = false := beq_eq_false_iff_ne.2 (by omega)
  have h0 : 0 < l.length := by omega
  by_cases g3 : (b.length : Int) > 40
  · simp (maxSteps := 1000000) (disch := first | assumption | omega) only [c8, go_sem, ↓reduceIte, reduceIte, Nat.reduceEqDiff, Nat.reduceAdd, Nat.reduceMul, reduceCtorEq, Nat.reduceDiv, Nat.reduceLeDiff, Nat.reduceLT, Nat.reduceSub, cs_46, hc, hl0', g3, cs_18']
  have hb : b.length ≤ 40 := by omega
  have hsm := small_of hbw
  have hsb := bounds_u8 hsd
  have hdb := bounds_u16 hdy
  obtain ⟨sn, rfl⟩ := Int.eq_ofNat_of_zero_le hsb.1
  obtain ⟨dn, rfl⟩ := Int.eq_ofNat_of_zero_le hdb.1
  have hs2 : sn % 2 < 2 := Nat.mod_lt _ (by omega)
  have hs : ((sn % 2 : Nat) : Int) = 0 ∨ ((sn % 2 : Nat) : Int) = 1 := by omega
  have hd2 : dn % 2001 < 2001 := Nat.mod_lt _ (by omega)
  generalize hsn : sn % 2 = s at *
  generalize hdn : dn % 2001 = dd at *
  have hwl := side_length l (s : Int)
  have hgs := given_seq b l.length
  have hsq := seqOf_seq l
  have hso := side_ok hv (s : Int)
  obtain ⟨a, e1, e2, e3, _, _, _, _, _⟩ := short_day hv h0 hs
  have e4 := delay_ok hv h0 hsq hwl hso
  have e5 := delay_ok hv h0 hgs hwl hso
  have e6 := seq_ok hv
  have e7 := chkSeq_ok hv hsq
  have hsl : (seqOf l).length ≤ 15 := by rw [seqOf_length]; omega
  have hgl : (given b l.length).length ≤ 15 := by rw [given_length]; omega
  have hle : ¬ delayOf l (given b l.length) (side l (s : Int)) < shortest l (s : Int) := by
    have := shortest_le hv h0 (s : Int) hgs (side_pos hv s) fun i => Int.le_refl _
    unfold shortest
    omega
  have e4' : refDelay l (seqOf l) (side l (s : Int)) = (shortest l (s : Int), 0) := e4
  simp (disch := first | assumption | omega) only [c8, go_sem, ↓reduceIte, reduceIte, Nat.reduceEqDiff, Nat.reduceAdd, Nat.reduceMul, reduceCtorEq, Nat.reduceDiv, Nat.reduceLeDiff, Nat.reduceLT, Nat.reduceSub, cs_46, hc, hl0', g3, b_rem2, hsn, cs_47, cs_33, cs_35, cs_26, e1, e2, e6, cs_48, e7, bne_self_eq_false]
  simp (disch := first | assumption | omega) only [cs_21, e4']
  refine go_cut [(0, ords l), (1, .slice none (b.map (.int .u8)) false), (3, .int .u16 dn), (9, .int .i64 s), (10, ints (side l s)), (11, .int .i64 (shortest l s)), (13, .int .i64 a), (79, .tuple [.int .i64 (shortest l s), .int .i64 0])] (by simp only [go_sem, ↓reduceIte, reduceIte, Nat.reduceEqDiff, Nat.reduceAdd, Nat.reduceMul, reduceCtorEq, Nat.reduceDiv, Nat.reduceLeDiff, Nat.reduceLT, Nat.reduceSub]) fun e h hE => ?_
  simp only [At_cons, At_nil] at hE
  obtain ⟨h0, h1, h3, h9, h10, h11, h13, h79, -⟩ := hE
  rcases bound_any hv hs (d := (dd : Int)) (by omega) (by omega) with ⟨bb, e8, h8⟩ | ⟨bb, e8⟩
  · have k1 : bb ≤ shortest l (s : Int) := h8 _ hsq
    have k2 := h8 _ hgs
    simp (disch := first | assumption | omega) only [go_sem, ↓reduceIte, reduceIte, Nat.reduceEqDiff, Nat.reduceAdd, Nat.reduceMul, reduceCtorEq, Nat.reduceDiv, Nat.reduceLeDiff, Nat.reduceLT, Nat.reduceSub, h0, h1, h3, h9, h10, h11, h13, h79, b_rem2001, hdn, cs_21, e5]
    simp (disch := first | assumption | omega) only [cs_49]
    simp (disch := first | assumption | omega) only [go_sem, ↓reduceIte, reduceIte, Nat.reduceEqDiff, Nat.reduceAdd, Nat.reduceMul, reduceCtorEq, Nat.reduceDiv, Nat.reduceLeDiff, Nat.reduceLT, Nat.reduceSub, h0, h1, h3, h9, h10, h11, h13, h79, b_rem2001, hdn, cs_21, e5]
    simp (disch := first | assumption | omega) only [cs_31, e3]
    simp (disch := first | assumption | omega) only [go_sem, ↓reduceIte, reduceIte, Nat.reduceEqDiff, Nat.reduceAdd, Nat.reduceMul, reduceCtorEq, Nat.reduceDiv, Nat.reduceLeDiff, Nat.reduceLT, Nat.reduceSub, h0, h1, h3, h9, h10, h11, h13, h79, b_rem2001, hdn, cs_21, e5]
    simp (disch := first | assumption | omega) only [cs_31, e8]
    simp (disch := first | assumption | omega) only [go_sem, ↓reduceIte, reduceIte, Nat.reduceEqDiff, Nat.reduceAdd, Nat.reduceMul, reduceCtorEq, Nat.reduceDiv, Nat.reduceLeDiff, Nat.reduceLT, Nat.reduceSub, h0, h1, h3, h9, h10, h11, h13, h79, hle, k1, k2, cs_18', bne_self_eq_false, beq_self_eq_true]
  · have z : ((5 : Int) == 0) = false := rfl
    simp (disch := first | assumption | omega) only [go_sem, ↓reduceIte, reduceIte, Nat.reduceEqDiff, Nat.reduceAdd, Nat.reduceMul, reduceCtorEq, Nat.reduceDiv, Nat.reduceLeDiff, Nat.reduceLT, Nat.reduceSub, h0, h1, h3, h9, h10, h11, h13, h79, b_rem2001, hdn, cs_21, e5]
    simp (disch := first | assumption | omega) only [cs_49]
    simp (disch := first | assumption | omega) only [go_sem, ↓reduceIte, reduceIte, Nat.reduceEqDiff, Nat.reduceAdd, Nat.reduceMul, reduceCtorEq, Nat.reduceDiv, Nat.reduceLeDiff, Nat.reduceLT, Nat.reduceSub, h0, h1, h3, h9, h10, h11, h13, h79, b_rem2001, hdn, cs_21, e5]
    simp (disch := first | assumption | omega) only [cs_31, e3]
    simp (disch := first | assumption | omega) only [go_sem, ↓reduceIte, reduceIte, Nat.reduceEqDiff, Nat.reduceAdd, Nat.reduceMul, reduceCtorEq, Nat.reduceDiv, Nat.reduceLeDiff, Nat.reduceLT, Nat.reduceSub, h0, h1, h3, h9, h10, h11, h13, h79, b_rem2001, hdn, cs_21, e5]
    simp (disch := first | assumption | omega) only [cs_31, e8]
    simp (disch := first | assumption | omega) only [go_sem, ↓reduceIte, reduceIte, Nat.reduceEqDiff, Nat.reduceAdd, Nat.reduceMul, reduceCtorEq, Nat.reduceDiv, Nat.reduceLeDiff, Nat.reduceLT, Nat.reduceSub, h0, h1, h3, h9, h10, h11, h13, h79, hle, z, cs_18', bne_self_eq_false, beq_self_eq_true]

def lateProved_n : Nat := 40
theorem lateProved_ev (l : List Order) (b : List Int) (sd dy : Int) (h1 : ∀ a ∈ l, OWf a) (h2 : l.length ≤ maxLen) (h3 : ∀ n ∈ b, (Lit.int .u8 n).wf = true) (h4 : b.length ≤ maxLen) (h5 : (Lit.int .u8 sd).wf = true) (h6 : (Lit.int .u16 dy).wf = true) :
    (evFn (evCall T lateProved_n) c8 [ords l, .slice none (b.map (.int .u8)) false, .int .u8 sd, .int .u16 dy] []).all fun p => p.1 = .bool true := lateProved_at _ rfl l b sd dy h1 h2 h3 h4 h5 h6

end Go.Ev.YtadneamkkepknaaC
