/- The law LateFewest answers true, whatever it is handed. Conditions: the arguments are integers that fit their kinds, and lists no longer than memory allows. -/
import Derived.Test.YtadneamkkepknaaL5LawProved
import Derived.Test.YtadneamkkepknaaL5LawKepts
import Derived.Test.YtadneamkkepknaaL5LawFewests
import Derived.Test.YtadneamkkepknaaL5Math7
set_option linter.unusedSimpArgs false
set_option linter.unusedVariables false
namespace Go.Ev.YtadneamkkepknaaC
open Go Go.Proofs

theorem refFewest_ok {l : List Order} (hv : Valid l) {s : Int} (hs : s = 0 ∨ s = 1) : refFewest l s = ((l.length : Int) - (keptOf l s).length, 0) := by
  rw [refFewest, if_neg (by rw [(chkSide_zero l s).2 ⟨hv, hs⟩]; omega), most_kept hv s]
theorem listed_len (b n : Nat) : (listed b n).length ≤ n := by
  have := List.length_filter_le (fun i => bitB b i.toNat) (idx n)
  rwa [idx_length] at this
theorem filter_take_step {S : List Int} {k : Nat} {i : Int} (p : Int → Bool) (hk : S[k]? = some i) : (S.take (k + 1)).filter p = (S.take k).filter p ++ if p i = true then [i] else [] := by
  rw [List.take_add_one, hk, List.filter_append]
  congr 1
  simp only [Option.toList_some, List.filter_cons, List.filter_nil]

attribute [local irreducible] Res.all evC evLoop evOps evOper evOp evFn evCall freeze G GO GV GP GC R
set_option maxRecDepth 100000

set_option maxHeartbeats 1000000 in
theorem lateFewest_at (n40 : Nat) (hn : n40 = 40) (l : List Order) (sd bt : Int) (_ : ∀ a ∈ l, OWf a) (hlm : l.length ≤ maxLen) (hsd : (Lit.int .u8 sd).wf = true) (hbt : (Lit.int .u16 bt).wf = true) :
    (evFn (evCall T n40) c10 [ords l, .int .u8 sd, .int .u16 bt] []).all fun p => p.1 = .bool true := by
  rw [m_fn]
  by_cases hc : chk l = 0
  case neg => simp (disch := first | assumption | omega) only [c10, go_sem, ↓reduceIte, reduceIte, Nat.reduceEqDiff, Nat.reduceAdd, Nat.reduceMul, reduceCtorEq, Nat.reduceDiv, Nat.reduceLeDiff, Nat.reduceLT, Nat.reduceSub, cs_46, hc, cs_18']
  have hv := (chk_zero l).1 hc
  have hl : l.length ≤ 15 := Nat.le_trans hv.len (by omega)
  have hsb := bounds_u8 hsd
  have hbb := bounds_u16 hbt
  obtain ⟨sn, rfl⟩ := Int.eq_ofNat_of_zero_le hsb.1
  obtain ⟨bn, rfl⟩ := Int.eq_ofNat_of_zero_le hbb.1
  have hbn : bn < 4611686018427387904 := by omega
  have hs2 : sn % 2 < 2 := Nat.mod_lt _ (by omega)
  have hs : ((sn % 2 : Nat) : Int) = 0 ∨ ((sn % 2 : Nat) : Int) = 1 := by omega
  generalize hsn : sn % 2 = s at *
  have e1 := refKept_ok hv hs
  have e2 := refFewest_ok hv hs
  have hkl := keptL_len hv (s : Int)
  have hkle := kept_le hv (s : Int)
  have hk15 : (keptL l (s : Int)).length ≤ 15 := by omega
  rw [← hkl] at e2 hkle
  have e3 := kept_chk hv hs
  have hll := listed_len bn l.length
  have hl15 : (listed bn l.length).length ≤ 15 := by omega
  have e4 : ((chkKept l (s : Int) (listed bn l.length) = 0) ∧ (listed bn l.length).length ≤ (keptL l (s : Int)).length) ∨ chkKept l (s : Int) (listed bn l.length) = 12 := by
    rcases chkKept_inc hv hs (inc_filter l.length fun i => bitB bn i.toNat) with ⟨h, hf⟩ | ⟨h, _⟩
    · refine .inl ⟨h, ?_⟩
      rw [hkl]
      exact feas_le hv (s : Int) (listed_facts _ _).2 (listed_facts _ _).1 hf
    · exact .inr h
  have hsl := seqOf_length l
  have hfirst := first_seq (l := l) (s : Int)
  have hcount := late_count hv (s : Int)
  rw [← hkl] at hcount
  have hwl := side_length l (s : Int)
  have hwo := side_ok hv (s : Int)
  have e5 := ends_ok hv hfirst hwl hwo
  have hel : (endsOf (first l (s : Int) ++ others l (s : Int)) (side l (s : Int))).length = l.length := by rw [endsOf_length, hfirst.len]
  have hfl := hfirst.len
  have hfd : first l (s : Int) = (seqOf l).filter fun i => (keptL l (s : Int)).contains i := rfl
  have hod : others l (s : Int) = (seqOf l).filter fun i => !(keptL l (s : Int)).contains i := rfl
  generalize hK : keptL l (s : Int) = K at *
  generalize hL : listed bn l.length = B at *
  simp (disch := first | assumption | omega) only [c10, go_sem, ↓reduceIte, reduceIte, Nat.reduceEqDiff, Nat.reduceAdd, Nat.reduceMul, reduceCtorEq, Nat.reduceDiv, Nat.reduceLeDiff, Nat.reduceLT, Nat.reduceSub, cs_46, hc, b_rem2, hsn, cs_37, e1, cs_42, e2, bne_self_eq_false]
  simp (disch := first | assumption | omega) only [cs_39, e3]
  simp (disch := first | assumption | omega) only [go_sem, ↓reduceIte, reduceIte, Nat.reduceEqDiff, Nat.reduceAdd, Nat.reduceMul, reduceCtorEq, Nat.reduceDiv, Nat.reduceLeDiff, Nat.reduceLT, Nat.reduceSub, bne_self_eq_false]
  simp (disch := first | assumption | omega) only [cs_40, e3]
  simp (disch := first | assumption | omega) only [go_sem, ↓reduceIte, reduceIte, Nat.reduceEqDiff, Nat.reduceAdd, Nat.reduceMul, reduceCtorEq, Nat.reduceDiv, Nat.reduceLeDiff, Nat.reduceLT, Nat.reduceSub, bne_self_eq_false]
  simp (disch := first | assumption | omega) only [cs_51, hL]
  refine go_cutL 168 (by simp) [(0, ords l), (7, .int .i64 s), (8, ints K), (10, .int .i64 ((l.length : Int) - K.length)), (73, ints B)] (by simp only [go_sem, ↓reduceIte, reduceIte, Nat.reduceEqDiff, Nat.reduceAdd, Nat.reduceMul, reduceCtorEq, Nat.reduceDiv, Nat.reduceLeDiff, Nat.reduceLT, Nat.reduceSub]) fun e h hlen hE => ?_
  simp only [At_cons, At_nil] at hE
  obtain ⟨h0, h7, h8, h10, h73, -⟩ := hE
  have z12 : ((12 : Int) == 0) = false := rfl
  have z12' : ((12 : Int) != 0) = true := rfl
  apply go_join (call := evCall T n40) (base := 0) (Q := Fin [.tmp 6] fun p => p.1 = .bool true) fun e h => 168 ≤ h.length ∧ At e [(0, ords l), (7, .int .i64 s), (8, ints K), (10, .int .i64 ((l.length : Int) - K.length)), (96, ints (seqOf l))]
  case main =>
    intro key
    rcases e4 with ⟨e4, hle⟩ | e4
    · have hle' : ¬ (B.length : Int) > K.length := by omega
      simp (disch := first | assumption | omega) only [go_sem, ↓reduceIte, reduceIte, Nat.reduceEqDiff, Nat.reduceAdd, Nat.reduceMul, reduceCtorEq, Nat.reduceDiv, Nat.reduceLeDiff, Nat.reduceLT, Nat.reduceSub, h0, h7, h8, h10, h73]
      simp (disch := first | assumption | omega) only [cs_39, e4]
      simp (disch := first | assumption | omega) only [go_sem, ↓reduceIte, reduceIte, Nat.reduceEqDiff, Nat.reduceAdd, Nat.reduceMul, reduceCtorEq, Nat.reduceDiv, Nat.reduceLeDiff, Nat.reduceLT, Nat.reduceSub, h0, h7, h8, h10, h73, hle', bne_self_eq_false, beq_self_eq_true]
      simp (disch := first | assumption | omega) only [cs_52]
      apply key
      exact ⟨hlen, by simp only [go_sem, ↓reduceIte, reduceIte, Nat.reduceEqDiff, Nat.reduceAdd, Nat.reduceMul, reduceCtorEq, Nat.reduceDiv, Nat.reduceLeDiff, Nat.reduceLT, Nat.reduceSub, h0, h7, h8, h10]⟩
    · simp (disch := first | assumption | omega) only [go_sem, ↓reduceIte, reduceIte, Nat.reduceEqDiff, Nat.reduceAdd, Nat.reduceMul, reduceCtorEq, Nat.reduceDiv, Nat.reduceLeDiff, Nat.reduceLT, Nat.reduceSub, h0, h7, h8, h10, h73]
      simp (disch := first | assumption | omega) only [cs_39, e4]
      simp (disch := first | assumption | omega) only [go_sem, ↓reduceIte, reduceIte, Nat.reduceEqDiff, Nat.reduceAdd, Nat.reduceMul, reduceCtorEq, Nat.reduceDiv, Nat.reduceLeDiff, Nat.reduceLT, Nat.reduceSub, h0, h7, h8, h10, h73, bne_self_eq_false, z12, z12']
      simp (disch := first | assumption | omega) only [cs_52]
      apply key
      exact ⟨hlen, by simp only [go_sem, ↓reduceIte, reduceIte, Nat.reduceEqDiff, Nat.reduceAdd, Nat.reduceMul, reduceCtorEq, Nat.reduceDiv, Nat.reduceLeDiff, Nat.reduceLT, Nat.reduceSub, h0, h7, h8, h10]⟩
  case key =>
    clear h0 h7 h8 h10 h73 hlen
    rintro e h ⟨hlen, hE⟩
    simp only [At_cons, At_nil] at hE
    obtain ⟨h0, h7, h8, h10, h96, -⟩ := hE
    simp (disch := first | assumption | omega) only [go_sem, ↓reduceIte, reduceIte, Nat.reduceEqDiff, Nat.reduceAdd, Nat.reduceMul, reduceCtorEq, Nat.reduceDiv, Nat.reduceLeDiff, Nat.reduceLT, Nat.reduceSub, h0, h7, h8, h10, h96]
    refine m_loop (fun M st => ∃ (k : Nat) (v1 v2 : AV), M = l.length - k ∧ k ≤ l.length ∧ At st.env [(0, ords l), (7, .int .i64 s), (8, ints K), (10, .int .i64 ((l.length : Int) - K.length)), (14, ints (seqOf l)), (15, v1), (16, v2), (17, .int .i64 k)] ∧
      Own 168 st.heap v1 .i64 (((seqOf l).take k).filter fun i => K.contains i) ∧ Own 168 st.heap v2 .i64 (((seqOf l).take k).filter fun i => !K.contains i) ∧ (∀ j, keyOf v1 = some j → keyOf v2 ≠ some j) ∧ 168 ≤ st.heap.length) l.length (by omega)
      ⟨0, .slice none [] true, .slice none [] true, by simp, by omega, by simp only [go_sem, ↓reduceIte, reduceIte, Nat.reduceEqDiff, Nat.reduceAdd, Nat.reduceMul, reduceCtorEq, Nat.reduceDiv, Nat.reduceLeDiff, Nat.reduceLT, Nat.reduceSub, h0, h7, h8, h10], own_nil .., own_nil .., by simp [keyOf], hlen⟩ ?_
    clear h0 h7 h8 h10 h96 hlen
    rintro M e h hM ⟨k, v1, v2, rfl, hk, hE, hO1, hO2, hdis, hlen⟩ P hP
    simp only [At_cons, At_nil] at hE hO1 hO2 hlen
    obtain ⟨h0, h7, h8, h10, h14, h15, h16, h17, -⟩ := hE
    by_cases hlt : k < l.length
    · obtain ⟨i, hi⟩ := get_ex (l := seqOf l) (i := k) (by omega)
      have hf1 := filter_take_step (fun i => K.contains i) hi
      have hf2 := filter_take_step (fun i => !K.contains i) hi
      have hb1 : (((seqOf l).take k).filter fun i => K.contains i).length + 1 ≤ 20 := by
        have := List.length_filter_le (fun i => K.contains i) ((seqOf l).take k)
        rw [List.length_take] at this; omega
      have hb2 : (((seqOf l).take k).filter fun i => !K.contains i).length + 1 ≤ 20 := by
        have := List.length_filter_le (fun i => !K.contains i) ((seqOf l).take k)
        rw [List.length_take] at this; omega
      have hpm := place_mem K i
      have hk1 := hO1.keyLt
      have hk2 := hO2.keyLt
      by_cases hin : i ∈ K
      · have hge : place K i ≥ 0 := hpm.2 hin
        rw [if_pos (by simpa using hin)] at hf1
        rw [if_neg (by simpa using hin), List.append_nil] at hf2
        simp (disch := first | assumption | omega) only [go_sem, ↓reduceIte, reduceIte, Nat.reduceEqDiff, Nat.reduceAdd, Nat.reduceMul, reduceCtorEq, Nat.reduceDiv, Nat.reduceLeDiff, Nat.reduceLT, Nat.reduceSub, h0, h7, h8, h10, h14, h15, h16, h17, hsl, hlt, hi, cs_53, hge]
        refine gp_append1 (by first | with_reducible rfl | (simp only [length_setH, List.length_append, List.length_replicate]; done) | (simp only [length_setH, List.length_append, List.length_replicate]; omega)) hO1 hlen (by omega) fun x' h' hO' hF hL hG hK' => ?_
        simp (disch := first | assumption | omega) only [go_sem, ↓reduceIte, reduceIte, Nat.reduceEqDiff, Nat.reduceAdd, Nat.reduceMul, reduceCtorEq, Nat.reduceDiv, Nat.reduceLeDiff, Nat.reduceLT, Nat.reduceSub, h0, h7, h8, h10, h14, h16, h17]
        refine hP (l.length - (k + 1)) _ (by omega) ⟨k + 1, x', v2, rfl, by omega, by simp only [go_sem, ↓reduceIte, reduceIte, Nat.reduceEqDiff, Nat.reduceAdd, Nat.reduceMul, reduceCtorEq, Nat.reduceDiv, Nat.reduceLeDiff, Nat.reduceLT, Nat.reduceSub, h0, h7, h8, h10, h14, h16], by rw [hf1]; exact hO', ?_, ?_, Nat.le_trans hlen hL⟩
        · rw [hf2]
          refine hO2.other fun j hj => hG j (hk2 j hj) fun h1 => hdis j h1 hj
        · intro j hj hj2
          rcases hK' j hj with h1 | h1
          · exact hdis j h1 hj2
          · have := hk2 j hj2; omega
      · have hge : ¬ place K i ≥ 0 := fun h => hin (hpm.1 h)
        rw [if_neg (by simpa using hin), List.append_nil] at hf1
        rw [if_pos (by simpa using hin)] at hf2
        simp (disch := first | assumption | omega) only [go_sem, ↓reduceIte, reduceIte, Nat.reduceEqDiff, Nat.reduceAdd, Nat.reduceMul, reduceCtorEq, Nat.reduceDiv, Nat.reduceLeDiff, Nat.reduceLT, Nat.reduceSub, h0, h7, h8, h10, h14, h15, h16, h17, hsl, hlt, hi, cs_53, hge]
        refine gp_append1 (by first | with_reducible rfl | (simp only [length_setH, List.length_append, List.length_replicate]; done) | (simp only [length_setH, List.length_append, List.length_replicate]; omega)) hO2 hlen (by omega) fun x' h' hO' hF hL hG hK' => ?_
        simp (disch := first | assumption | omega) only [go_sem, ↓reduceIte, reduceIte, Nat.reduceEqDiff, Nat.reduceAdd, Nat.reduceMul, reduceCtorEq, Nat.reduceDiv, Nat.reduceLeDiff, Nat.reduceLT, Nat.reduceSub, h0, h7, h8, h10, h14, h15, h17]
        refine hP (l.length - (k + 1)) _ (by omega) ⟨k + 1, v1, x', rfl, by omega, by simp only [go_sem, ↓reduceIte, reduceIte, Nat.reduceEqDiff, Nat.reduceAdd, Nat.reduceMul, reduceCtorEq, Nat.reduceDiv, Nat.reduceLeDiff, Nat.reduceLT, Nat.reduceSub, h0, h7, h8, h10, h14, h15], ?_, by rw [hf2]; exact hO', ?_, Nat.le_trans hlen hL⟩
        · rw [hf1]
          refine hO1.other fun j hj => hG j (hk1 j hj) fun h1 => hdis j hj h1
        · intro j hj hj2
          rcases hK' j hj2 with h1 | h1
          · exact hdis j hj h1
          · have := hk1 j hj; omega
    · obtain rfl : k = l.length := by omega
      rw [List.take_of_length_le (by omega), ← hfd] at hO1
      rw [List.take_of_length_le (by omega), ← hod] at hO2
      have hfo : (first l (s : Int)).length + (others l (s : Int)).length = l.length := by rw [← List.length_append]; exact hfl
      simp (disch := first | assumption | omega) only [go_sem, ↓reduceIte, reduceIte, Nat.reduceEqDiff, Nat.reduceAdd, Nat.reduceMul, reduceCtorEq, Nat.reduceDiv, Nat.reduceLeDiff, Nat.reduceLT, Nat.reduceSub, h0, h7, h8, h10, h14, h15, h16, h17, hsl, hlt]
      refine gp_append0 (m := (others l (s : Int)).length) (l2 := others l (s : Int)) (by first | with_reducible rfl | (simp only [length_setH, List.length_append, List.length_replicate]; done) | (simp only [length_setH, List.length_append, List.length_replicate]; omega)) hO1 hlen (own_cs hO2) rfl (by omega) fun x3 h3 hO3 hF3 hL3 _ _ => ?_
      simp (disch := first | assumption | omega) only [go_sem, ↓reduceIte, reduceIte, Nat.reduceEqDiff, Nat.reduceAdd, Nat.reduceMul, reduceCtorEq, Nat.reduceDiv, Nat.reduceLeDiff, Nat.reduceLT, Nat.reduceSub, h0, h7, h8, h10, cs_47]
      refine gpF_con (conF_19 l (first l (s : Int) ++ others l (s : Int)) (side l (s : Int)) hl (by omega)) (by omega) (fz_slice _ _ _ _ (fz_cons (frz_Own hO3) (fz_slice _ _ _ _ (fz_nil _)))) ?_
      generalize endsOf (first l (s : Int) ++ others l (s : Int)) (side l (s : Int)) = E at *
      simp (disch := first | assumption | omega) only [go_sem, ↓reduceIte, reduceIte, Nat.reduceEqDiff, Nat.reduceAdd, Nat.reduceMul, reduceCtorEq, Nat.reduceDiv, Nat.reduceLeDiff, Nat.reduceLT, Nat.reduceSub, endsV, e5, h0, h7, h8, h10, bne_self_eq_false, hel]
      refine m_loop (fun M st => ∃ (k : Nat), M = l.length - k ∧ k ≤ l.length ∧ lateN l E k ≤ k ∧ At st.env [(0, ords l), (10, .int .i64 ((l.length : Int) - K.length)), (18, ints E), (19, .int .i64 (lateN l E k : Nat)), (20, .int .i64 k)]) l.length (by omega)
        ⟨0, by simp, by omega, by simp [lateN], by simp only [go_sem, ↓reduceIte, reduceIte, Nat.reduceEqDiff, Nat.reduceAdd, Nat.reduceMul, reduceCtorEq, Nat.reduceDiv, Nat.reduceLeDiff, Nat.reduceLT, Nat.reduceSub, h0, h10, lateN, List.range_zero, List.filter_nil]⟩ ?_
      clear h0 h7 h8 h10 h14 h15 h16 h17 hO1 hO2 hO3 hF3 hL3 hlen hdis
      rintro M e h hM ⟨k, rfl, hk, hlk, hE⟩ P2 hP2
      simp only [At_cons, At_nil] at hE
      obtain ⟨h0, h10, h18, h19, h20, -⟩ := hE
      by_cases hlt : k < l.length
      · obtain ⟨o, ho⟩ := get_ex hlt
        obtain ⟨x, hx⟩ := get_ex (l := E) (i := k) (by omega)
        have hls := lateN_succ l E k
        have hli : lateI l E k = decide (x > o.due) := by
          simp only [lateI, dueN_get ho, List.getD_eq_getElem?_getD, hx, Option.getD_some]
        by_cases hgt : x > o.due
        · rw [hli, if_pos (by simpa using hgt)] at hls
          simp (disch := first | assumption | omega) only [go_sem, ↓reduceIte, reduceIte, Nat.reduceEqDiff, Nat.reduceAdd, Nat.reduceMul, reduceCtorEq, Nat.reduceDiv, Nat.reduceLeDiff, Nat.reduceLT, Nat.reduceSub, h0, h10, h18, h19, h20, hlt, ho, hx, oAV, hgt]
          exact hP2 (l.length - (k + 1)) _ (by omega) ⟨k + 1, rfl, by omega, by omega, by rw [hls]; simp only [go_sem, ↓reduceIte, reduceIte, Nat.reduceEqDiff, Nat.reduceAdd, Nat.reduceMul, reduceCtorEq, Nat.reduceDiv, Nat.reduceLeDiff, Nat.reduceLT, Nat.reduceSub, h0, h10, h18]⟩
        · rw [hli, if_neg (by simpa using hgt)] at hls
          simp (disch := first | assumption | omega) only [go_sem, ↓reduceIte, reduceIte, Nat.reduceEqDiff, Nat.reduceAdd, Nat.reduceMul, reduceCtorEq, Nat.reduceDiv, Nat.reduceLeDiff, Nat.reduceLT, Nat.reduceSub, h0, h10, h18, h19, h20, hlt, ho, hx, oAV, hgt]
          exact hP2 (l.length - (k + 1)) _ (by omega) ⟨k + 1, rfl, by omega, by omega, by rw [hls]; simp only [go_sem, ↓reduceIte, reduceIte, Nat.reduceEqDiff, Nat.reduceAdd, Nat.reduceMul, reduceCtorEq, Nat.reduceDiv, Nat.reduceLeDiff, Nat.reduceLT, Nat.reduceSub, h0, h10, h18, h19]⟩
      · obtain rfl : k = l.length := by omega
        have hce : (((lateN l E l.length : Nat) : Int) == (l.length : Int) - K.length) = true := by rw [beq_iff_eq, hcount]; omega
        simp (disch := first | assumption | omega) only [go_sem, ↓reduceIte, reduceIte, Nat.reduceEqDiff, Nat.reduceAdd, Nat.reduceMul, reduceCtorEq, Nat.reduceDiv, Nat.reduceLeDiff, Nat.reduceLT, Nat.reduceSub, h0, h10, h18, h19, h20, hlt, hce, cs_18']

def lateFewest_n : Nat := 40
theorem lateFewest_ev (l : List Order) (sd bt : Int) (h1 : ∀ a ∈ l, OWf a) (h2 : l.length ≤ maxLen) (h3 : (Lit.int .u8 sd).wf = true) (h4 : (Lit.int .u16 bt).wf = true) :
    (evFn (evCall T lateFewest_n) c10 [ords l, .int .u8 sd, .int .u16 bt] []).all fun p => p.1 = .bool true := lateFewest_at _ rfl l sd bt h1 h2 h3 h4

end Go.Ev.YtadneamkkepknaaC
