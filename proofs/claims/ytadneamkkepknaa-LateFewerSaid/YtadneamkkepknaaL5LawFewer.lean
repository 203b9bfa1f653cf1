/- The law LateFewer answers true, whatever it is handed. Conditions: the arguments are integers that fit their kinds, and lists no longer than memory allows. -/
import Derived.Test.YtadneamkkepknaaL5LawFewest
set_option linter.unusedSimpArgs false
set_option linter.unusedVariables false
namespace Go.Ev.YtadneamkkepknaaC
open Go Go.Proofs

theorem b_and16 (a b : Nat) (ha : a ≤ 65535) (hb : b ≤ 65535) : binA .and (.int .u16 (a : Int)) (.int .u16 (b : Int)) = .ret (.int .u16 ((a &&& b : Nat) : Int)) := by
  simp only [binA, binI, if_true]
  congr 2
  have h1 : (BitVec.ofInt 16 (a : Int) &&& BitVec.ofInt 16 (b : Int)).toNat = a &&& b := by
    rw [BitVec.toNat_and]
    have e1 : (BitVec.ofInt 16 (a : Int)).toNat = a := by
      rw [BitVec.ofInt_natCast, BitVec.toNat_ofNat]
      omega
    have e2 : (BitVec.ofInt 16 (b : Int)).toNat = b := by
      rw [BitVec.ofInt_natCast, BitVec.toNat_ofNat]
      omega
    rw [e1, e2]
  show IntKind.u16.wrap ((BitVec.ofInt 16 (a : Int) &&& BitVec.ofInt 16 (b : Int)).toNat : Int) = _
  rw [h1]
  have h2 : a &&& b ≤ a := Nat.and_le_left
  simp only [IntKind.wrap, IntKind.signed, IntKind.bits]
  simp
  omega
theorem bitB_and (a b i : Nat) : bitB (a &&& b) i = (bitB a i && bitB b i) := by
  have h : ∀ x : Nat, bitB x i = x.testBit i := fun x => by rw [Nat.testBit_eq_decide_div_mod_eq]; rfl
  rw [h, h, h, Nat.testBit_and]
theorem listed_sub (a b n : Nat) : (listed (a &&& b) n).Sublist (listed a n) := by
  have e : listed (a &&& b) n = (listed a n).filter fun i => bitB b i.toNat := by
    rw [listed, listed, List.filter_filter]
    congr 1
    funext i
    rw [bitB_and, Bool.and_comm]
  rw [e]
  exact List.filter_sublist

theorem wk_side_le {l : List Order} (hv : Valid l) (i : Int) : wk (side l 0) i ≤ wk (side l 1) i := side_le hv i.toNat
theorem feas_sides {l : List Order} (hv : Valid l) {T : List Int} (h : Feas l (side l 1) T) : Feas l (side l 0) T :=
  h.mono (side_pos hv 1) (side_pos hv 0) fun i _ => ⟨wk_side_le hv i, Int.le_refl _⟩
theorem kept_sides {l : List Order} (hv : Valid l) : (keptOf l 1).length ≤ (keptOf l 0).length := by
  obtain ⟨h1, h2, h3⟩ := keptOf_facts hv 1
  exact feas_le hv 0 h1 h2 (feas_sides hv h3)

attribute [local irreducible] Res.all evC evLoop evOps evOper evOp evFn evCall freeze G GO GV GP GC R
set_option maxRecDepth 100000

theorem lateFewer_at (n40 : Nat) (hn : n40 = 40) (l : List Order) (bt ls : Int) (_ : ∀ a ∈ l, OWf a) (hlm : l.length ≤ maxLen) (hbt : (Lit.int .u16 bt).wf = true) (hls : (Lit.int .u16 ls).wf = true) :
    (evFn (evCall T n40) c11 [ords l, .int .u16 bt, .int .u16 ls] []).all fun p => p.1 = .bool true := by
  rw [m_fn]
  by_cases hc : chk l = 0
  case neg => simp (disch := first | assumption | omega) only [c11, go_sem, ↓reduceIte, reduceIte, Nat.reduceEqDiff, Nat.reduceAdd, Nat.reduceMul, reduceCtorEq, Nat.reduceDiv, Nat.reduceLeDiff, Nat.reduceLT, Nat.reduceSub, cs_46, hc, cs_18']
  have hv := (chk_zero l).1 hc
  have hl : l.length ≤ 15 := Nat.le_trans hv.len (by omega)
  have hbb := bounds_u16 hbt
  have hlb := bounds_u16 hls
  obtain ⟨bn, rfl⟩ := Int.eq_ofNat_of_zero_le hbb.1
  obtain ⟨ln, rfl⟩ := Int.eq_ofNat_of_zero_le hlb.1
  have hbn : bn < 4611686018427387904 := by omega
  have hand : bn &&& ln ≤ bn := Nat.and_le_left
  have hband : bn &&& ln < 4611686018427387904 := by omega
  have hsub := listed_sub bn ln l.length
  have hA15 : (listed bn l.length).length ≤ 15 := by have := listed_len bn l.length; omega
  have hB15 : (listed (bn &&& ln) l.length).length ≤ 15 := by have := listed_len (bn &&& ln) l.length; omega
  have hiA := inc_filter l.length fun i => bitB bn i.toNat
  have hiB := inc_filter l.length fun i => bitB (bn &&& ln) i.toNat
  have facts : ∀ s : Int, s = 0 ∨ s = 1 → (chkKept l s (listed bn l.length) = 0 ∧ chkKept l s (listed (bn &&& ln) l.length) = 0) ∨ (chkKept l s (listed bn l.length) = 12) := fun s hs => by
    rcases chkKept_inc hv hs hiA with ⟨h1, h2⟩ | ⟨h1, h2⟩
    · rcases chkKept_inc hv hs hiB with ⟨h3, h4⟩ | ⟨h3, h4⟩
      · exact .inl ⟨h1, h3⟩
      · exact (h4 (h2.sub (side_pos hv s) hsub)).elim
    · exact .inr h1
  have hsides : chkKept l 1 (listed bn l.length) = 0 → chkKept l 0 (listed bn l.length) = 0 := fun h => by
    rcases chkKept_inc hv (.inr rfl) hiA with ⟨h1, h2⟩ | ⟨h1, h2⟩
    · rcases chkKept_inc hv (.inl rfl) hiA with ⟨h3, h4⟩ | ⟨h3, h4⟩
      · exact h3
      · exact (h4 (feas_sides hv h2)).elim
    · have h1' : chkKept l 1 (listed bn l.length) = 12 := h1
      omega
  have e0 := refFewest_ok hv (s := 0) (.inl rfl)
  have e1 := refFewest_ok hv (s := 1) (.inr rfl)
  have hmany : (l.length : Int) - (keptOf l 0).length ≤ (l.length : Int) - (keptOf l 1).length := by have := kept_sides hv; omega
  have f0 := facts 0 (.inl rfl)
  have f1 := facts 1 (.inr rfl)
  clear facts
  generalize hA : listed bn l.length = A at *
  generalize hB : listed (bn &&& ln) l.length = B at *
  have hb16 := b_and16 bn ln (by omega) (by omega)
  have z12 : ((12 : Int) == 0) = false := rfl
  have z12' : ((12 : Int) != 0) = true := rfl
  simp (disch := first | assumption | omega) only [c11, go_sem, ↓reduceIte, reduceIte, Nat.reduceEqDiff, Nat.reduceAdd, Nat.reduceMul, reduceCtorEq, Nat.reduceDiv, Nat.reduceLeDiff, Nat.reduceLT, Nat.reduceSub, cs_46, hc, hb16]
  simp (disch := first | assumption | omega) only [cs_51, hA]
  simp (disch := first | assumption | omega) only [go_sem, ↓reduceIte, reduceIte, Nat.reduceEqDiff, Nat.reduceAdd, Nat.reduceMul, reduceCtorEq, Nat.reduceDiv, Nat.reduceLeDiff, Nat.reduceLT, Nat.reduceSub, hb16]
  simp (disch := first | assumption | omega) only [cs_51, hB]
  simp (disch := first | assumption | omega) only [go_sem, ↓reduceIte, reduceIte, Nat.reduceEqDiff, Nat.reduceAdd, Nat.reduceMul, reduceCtorEq, Nat.reduceDiv, Nat.reduceLeDiff, Nat.reduceLT, Nat.reduceSub]
  refine m_loop (fun M st => ∃ (k : Nat) (b0 b1 : Bool) (n0 n1 : Int), M = 2 - k ∧ k ≤ 2 ∧ At st.env [(0, ords l), (7, ints A), (8, ints B), (9, .optr 9 0 0), (10, .optr 10 0 0), (11, .int .i64 k)] ∧ getH st.heap 9 = .cells 0 [.bool b0, .bool b1] ∧ getH st.heap 10 = .cells 0 [.int .i64 n0, .int .i64 n1] ∧
    (1 ≤ k → b0 = (chkKept l 0 A == 0) ∧ n0 = (l.length : Int) - (keptOf l 0).length) ∧ (2 ≤ k → b1 = (chkKept l 1 A == 0) ∧ n1 = (l.length : Int) - (keptOf l 1).length)) 2 (by omega)
    ⟨0, false, false, 0, 0, rfl, by omega, by simp only [go_sem, ↓reduceIte, reduceIte, Nat.reduceEqDiff, Nat.reduceAdd, Nat.reduceMul, reduceCtorEq, Nat.reduceDiv, Nat.reduceLeDiff, Nat.reduceLT, Nat.reduceSub], by simp only [go_sem, ↓reduceIte, reduceIte, Nat.reduceEqDiff, Nat.reduceAdd, Nat.reduceMul, reduceCtorEq, Nat.reduceDiv, Nat.reduceLeDiff, Nat.reduceLT, Nat.reduceSub], by simp only [go_sem, ↓reduceIte, reduceIte, Nat.reduceEqDiff, Nat.reduceAdd, Nat.reduceMul, reduceCtorEq, Nat.reduceDiv, Nat.reduceLeDiff, Nat.reduceLT, Nat.reduceSub], by omega, by omega⟩ ?_
  rintro M e h hM ⟨k, b0, b1, n0, n1, rfl, hk, hE, hH9, hH10, i0, i1⟩ P hP
  simp only [At_cons, At_nil] at hE hH9 hH10
  obtain ⟨h0, h7, h8, h9, h10, h11, -⟩ := hE
  match k, hk, h11, i0, i1, hP with
  | 0, hk, h11, i0, i1, hP =>
    have h11' : getE e 11 = .int .i64 0 := h11
    have z0 : (0 : Int) < 2 := by omega
    rcases f0 with ⟨f, g⟩ | f
    · simp (disch := first | assumption | omega) only [go_sem, ↓reduceIte, reduceIte, Nat.reduceEqDiff, Nat.reduceAdd, Nat.reduceMul, reduceCtorEq, Nat.reduceDiv, Nat.reduceLeDiff, Nat.reduceLT, Nat.reduceSub, h0, h7, h8, h9, h10, h11', hH9, hH10, z0]
      simp (disch := first | assumption | omega) only [cs_39, f]
      simp (disch := first | assumption | omega) only [go_sem, ↓reduceIte, reduceIte, Nat.reduceEqDiff, Nat.reduceAdd, Nat.reduceMul, reduceCtorEq, Nat.reduceDiv, Nat.reduceLeDiff, Nat.reduceLT, Nat.reduceSub, h0, h7, h8, h9, h10, h11', hH9, hH10]
      simp (disch := first | assumption | omega) only [cs_39, g]
      simp (disch := first | assumption | omega) only [go_sem, ↓reduceIte, reduceIte, Nat.reduceEqDiff, Nat.reduceAdd, Nat.reduceMul, reduceCtorEq, Nat.reduceDiv, Nat.reduceLeDiff, Nat.reduceLT, Nat.reduceSub, h0, h7, h8, h9, h10, h11', hH9, hH10]
      simp (disch := first | assumption | omega) only [cs_42, e0]
      simp (disch := first | assumption | omega) only [go_sem, ↓reduceIte, reduceIte, Nat.reduceEqDiff, Nat.reduceAdd, Nat.reduceMul, reduceCtorEq, Nat.reduceDiv, Nat.reduceLeDiff, Nat.reduceLT, Nat.reduceSub, h0, h7, h8, h9, h10, h11', hH9, hH10, bne_self_eq_false, beq_self_eq_true]
      exact hP (2 - 1) _ (by omega) ⟨1, true, b1, (l.length : Int) - (keptOf l 0).length, n1, rfl, by omega, by simp only [go_sem, ↓reduceIte, reduceIte, Nat.reduceEqDiff, Nat.reduceAdd, Nat.reduceMul, reduceCtorEq, Nat.reduceDiv, Nat.reduceLeDiff, Nat.reduceLT, Nat.reduceSub, h0, h7, h8, h9, h10], by simp only [go_sem, ↓reduceIte, reduceIte, Nat.reduceEqDiff, Nat.reduceAdd, Nat.reduceMul, reduceCtorEq, Nat.reduceDiv, Nat.reduceLeDiff, Nat.reduceLT, Nat.reduceSub, hH9], by simp only [go_sem, ↓reduceIte, reduceIte, Nat.reduceEqDiff, Nat.reduceAdd, Nat.reduceMul, reduceCtorEq, Nat.reduceDiv, Nat.reduceLeDiff, Nat.reduceLT, Nat.reduceSub, hH10], fun _ => ⟨by rw [f]; rfl, rfl⟩, by omega⟩
    · simp (disch := first | assumption | omega) only [go_sem, ↓reduceIte, reduceIte, Nat.reduceEqDiff, Nat.reduceAdd, Nat.reduceMul, reduceCtorEq, Nat.reduceDiv, Nat.reduceLeDiff, Nat.reduceLT, Nat.reduceSub, h0, h7, h8, h9, h10, h11', hH9, hH10, z0]
      simp (disch := first | assumption | omega) only [cs_39, f]
      simp (disch := first | assumption | omega) only [go_sem, ↓reduceIte, reduceIte, Nat.reduceEqDiff, Nat.reduceAdd, Nat.reduceMul, reduceCtorEq, Nat.reduceDiv, Nat.reduceLeDiff, Nat.reduceLT, Nat.reduceSub, h0, h7, h8, h9, h10, h11', hH9, hH10]
      simp (disch := first | assumption | omega) only [cs_39]
      simp (disch := first | assumption | omega) only [go_sem, ↓reduceIte, reduceIte, Nat.reduceEqDiff, Nat.reduceAdd, Nat.reduceMul, reduceCtorEq, Nat.reduceDiv, Nat.reduceLeDiff, Nat.reduceLT, Nat.reduceSub, h0, h7, h8, h9, h10, h11', hH9, hH10]
      simp (disch := first | assumption | omega) only [cs_42, e0]
      simp (disch := first | assumption | omega) only [go_sem, ↓reduceIte, reduceIte, Nat.reduceEqDiff, Nat.reduceAdd, Nat.reduceMul, reduceCtorEq, Nat.reduceDiv, Nat.reduceLeDiff, Nat.reduceLT, Nat.reduceSub, h0, h7, h8, h9, h10, h11', hH9, hH10, bne_self_eq_false, z12, z12']
      exact hP (2 - 1) _ (by omega) ⟨1, false, b1, (l.length : Int) - (keptOf l 0).length, n1, rfl, by omega, by simp only [go_sem, ↓reduceIte, reduceIte, Nat.reduceEqDiff, Nat.reduceAdd, Nat.reduceMul, reduceCtorEq, Nat.reduceDiv, Nat.reduceLeDiff, Nat.reduceLT, Nat.reduceSub, h0, h7, h8, h9, h10], by simp only [go_sem, ↓reduceIte, reduceIte, Nat.reduceEqDiff, Nat.reduceAdd, Nat.reduceMul, reduceCtorEq, Nat.reduceDiv, Nat.reduceLeDiff, Nat.reduceLT, Nat.reduceSub, hH9], by simp only [go_sem, ↓reduceIte, reduceIte, Nat.reduceEqDiff, Nat.reduceAdd, Nat.reduceMul, reduceCtorEq, Nat.reduceDiv, Nat.reduceLeDiff, Nat.reduceLT, Nat.reduceSub, hH10], fun _ => ⟨by rw [f]; rfl, rfl⟩, by omega⟩
  | 1, hk, h11, i0, i1, hP =>
    have h11' : getE e 11 = .int .i64 1 := h11
    have z0 : (1 : Int) < 2 := by omega
    obtain ⟨rfl, rfl⟩ := i0 (by omega)
    rcases f1 with ⟨f, g⟩ | f
    · simp (disch := first | assumption | omega) only [go_sem, ↓reduceIte, reduceIte, Nat.reduceEqDiff, Nat.reduceAdd, Nat.reduceMul, reduceCtorEq, Nat.reduceDiv, Nat.reduceLeDiff, Nat.reduceLT, Nat.reduceSub, h0, h7, h8, h9, h10, h11', hH9, hH10, z0]
      simp (disch := first | assumption | omega) only [cs_39, f]
      simp (disch := first | assumption | omega) only [go_sem, ↓reduceIte, reduceIte, Nat.reduceEqDiff, Nat.reduceAdd, Nat.reduceMul, reduceCtorEq, Nat.reduceDiv, Nat.reduceLeDiff, Nat.reduceLT, Nat.reduceSub, h0, h7, h8, h9, h10, h11', hH9, hH10]
      simp (disch := first | assumption | omega) only [cs_39, g]
      simp (disch := first | assumption | omega) only [go_sem, ↓reduceIte, reduceIte, Nat.reduceEqDiff, Nat.reduceAdd, Nat.reduceMul, reduceCtorEq, Nat.reduceDiv, Nat.reduceLeDiff, Nat.reduceLT, Nat.reduceSub, h0, h7, h8, h9, h10, h11', hH9, hH10]
      simp (disch := first | assumption | omega) only [cs_42, e1]
      simp (disch := first | assumption | omega) only [go_sem, ↓reduceIte, reduceIte, Nat.reduceEqDiff, Nat.reduceAdd, Nat.reduceMul, reduceCtorEq, Nat.reduceDiv, Nat.reduceLeDiff, Nat.reduceLT, Nat.reduceSub, h0, h7, h8, h9, h10, h11', hH9, hH10, bne_self_eq_false, beq_self_eq_true]
      exact hP (2 - 2) _ (by omega) ⟨2, (chkKept l 0 A == 0), true, (l.length : Int) - (keptOf l 0).length, (l.length : Int) - (keptOf l 1).length, rfl, by omega, by simp only [go_sem, ↓reduceIte, reduceIte, Nat.reduceEqDiff, Nat.reduceAdd, Nat.reduceMul, reduceCtorEq, Nat.reduceDiv, Nat.reduceLeDiff, Nat.reduceLT, Nat.reduceSub, h0, h7, h8, h9, h10, Int.reduceAdd], by simp only [go_sem, ↓reduceIte, reduceIte, Nat.reduceEqDiff, Nat.reduceAdd, Nat.reduceMul, reduceCtorEq, Nat.reduceDiv, Nat.reduceLeDiff, Nat.reduceLT, Nat.reduceSub, hH9], by simp only [go_sem, ↓reduceIte, reduceIte, Nat.reduceEqDiff, Nat.reduceAdd, Nat.reduceMul, reduceCtorEq, Nat.reduceDiv, Nat.reduceLeDiff, Nat.reduceLT, Nat.reduceSub, hH10], fun _ => ⟨rfl, rfl⟩, fun _ => ⟨by rw [f]; rfl, rfl⟩⟩
    · simp (disch := first | assumption | omega) only [go_sem, ↓reduceIte, reduceIte, Nat.reduceEqDiff, Nat.reduceAdd, Nat.reduceMul, reduceCtorEq, Nat.reduceDiv, Nat.reduceLeDiff, Nat.reduceLT, Nat.reduceSub, h0, h7, h8, h9, h10, h11', hH9, hH10, z0]
      simp (disch := first | assumption | omega) only [cs_39, f]
      simp (disch := first | assumption | omega) only [go_sem, ↓reduceIte, reduceIte, Nat.reduceEqDiff, Nat.reduceAdd, Nat.reduceMul, reduceCtorEq, Nat.reduceDiv, Nat.reduceLeDiff, Nat.reduceLT, Nat.reduceSub, h0, h7, h8, h9, h10, h11', hH9, hH10]
      simp (disch := first | assumption | omega) only [cs_39]
      simp (disch := first | assumption | omega) only [go_sem, ↓reduceIte, reduceIte, Nat.reduceEqDiff, Nat.reduceAdd, Nat.reduceMul, reduceCtorEq, Nat.reduceDiv, Nat.reduceLeDiff, Nat.reduceLT, Nat.reduceSub, h0, h7, h8, h9, h10, h11', hH9, hH10]
      simp (disch := first | assumption | omega) only [cs_42, e1]
      simp (disch := first | assumption | omega) only [go_sem, ↓reduceIte, reduceIte, Nat.reduceEqDiff, Nat.reduceAdd, Nat.reduceMul, reduceCtorEq, Nat.reduceDiv, Nat.reduceLeDiff, Nat.reduceLT, Nat.reduceSub, h0, h7, h8, h9, h10, h11', hH9, hH10, bne_self_eq_false, z12, z12']
      exact hP (2 - 2) _ (by omega) ⟨2, (chkKept l 0 A == 0), false, (l.length : Int) - (keptOf l 0).length, (l.length : Int) - (keptOf l 1).length, rfl, by omega, by simp only [go_sem, ↓reduceIte, reduceIte, Nat.reduceEqDiff, Nat.reduceAdd, Nat.reduceMul, reduceCtorEq, Nat.reduceDiv, Nat.reduceLeDiff, Nat.reduceLT, Nat.reduceSub, h0, h7, h8, h9, h10, Int.reduceAdd], by simp only [go_sem, ↓reduceIte, reduceIte, Nat.reduceEqDiff, Nat.reduceAdd, Nat.reduceMul, reduceCtorEq, Nat.reduceDiv, Nat.reduceLeDiff, Nat.reduceLT, Nat.reduceSub, hH9], by simp only [go_sem, ↓reduceIte, reduceIte, Nat.reduceEqDiff, Nat.reduceAdd, Nat.reduceMul, reduceCtorEq, Nat.reduceDiv, Nat.reduceLeDiff, Nat.reduceLT, Nat.reduceSub, hH10], fun _ => ⟨rfl, rfl⟩, fun _ => ⟨by rw [f]; rfl, rfl⟩⟩
  | 2, hk, h11, i0, i1, hP =>
    have h11' : getE e 11 = .int .i64 2 := h11
    have z0 : ¬ (2 : Int) < 2 := by omega
    obtain ⟨rfl, rfl⟩ := i0 (by omega)
    obtain ⟨rfl, rfl⟩ := i1 (by omega)
    rcases f1 with ⟨f, -⟩ | f
    · have f' := hsides f
      rw [f, f'] at hH9
      simp (disch := first | assumption | omega) only [go_sem, ↓reduceIte, reduceIte, Nat.reduceEqDiff, Nat.reduceAdd, Nat.reduceMul, reduceCtorEq, Nat.reduceDiv, Nat.reduceLeDiff, Nat.reduceLT, Nat.reduceSub, h0, h7, h8, h9, h10, h11', hH9, hH10, z0, beq_self_eq_true, hmany, cs_18']
    · rw [f] at hH9
      simp (disch := first | assumption | omega) only [go_sem, ↓reduceIte, reduceIte, Nat.reduceEqDiff, Nat.reduceAdd, Nat.reduceMul, reduceCtorEq, Nat.reduceDiv, Nat.reduceLeDiff, Nat.reduceLT, Nat.reduceSub, h0, h7, h8, h9, h10, h11', hH9, hH10, z0, z12, hmany, cs_18']

def lateFewer_n : Nat := 40
theorem lateFewer_ev (l : List Order) (bt ls : Int) (h1 : ∀ a ∈ l, OWf a) (h2 : l.length ≤ maxLen) (h3 : (Lit.int .u16 bt).wf = true) (h4 : (Lit.int .u16 ls).wf = true) :
    (evFn (evCall T lateFewer_n) c11 [ords l, .int .u16 bt, .int .u16 ls] []).all fun p => p.1 = .bool true := lateFewer_at _ rfl l bt ls h1 h2 h3 h4

end Go.Ev.YtadneamkkepknaaC
