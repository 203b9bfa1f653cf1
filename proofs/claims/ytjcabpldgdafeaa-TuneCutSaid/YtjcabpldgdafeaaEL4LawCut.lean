/- The law TuneCut answers true: a tune less its first slur, and one less its last. No condition but those that stand in each. -/
import Derived.Test.YtjcabpldgdafeaaEL4Fn11
import Derived.Test.YtjcabpldgdafeaaEL4Cut
set_option linter.unusedSimpArgs false
set_option linter.unusedVariables false
namespace Go.Ev.YtjcabpldgdafeaaC
open Go Go.Proofs Go.Ev
theorem chE_tail {o : Nat} {t : List Nat} {es : List Ed} {b : Nat} (h : chE b ((o :: t).map (gE es))) : chE (gE es o).2 (t.map (gE es)) := by
 rw [List.map_cons] at h; exact h.2
theorem chE_init {o : Nat} {t : List Nat} {es : List Ed} {b : Nat} (h : chE b ((t ++ [o]).map (gE es))) : chE b (t.map (gE es)) := by
 rw [List.map_append] at h; exact ((chE_app _ _ _).1 h).1
def Dk (x y : AV) : Prop := ∀ j, keyOf x = some j → keyOf y ≠ some j
attribute [local irreducible] Res.all evC evLoop evOps evOper evOp evFn evCall freeze G GO GV GP GC R
set_option maxRecDepth 100000
set_option maxHeartbeats 2000000 in
theorem tuneCut_at (n40 : Nat) (hn : n40 = 20000) (b : Bk) (hw : BkWf b) : (evFn (evCall T n40) c11 [bkA b] []).all fun p => p.1 = .bool true := by
 rw [m_fn]
 have h21 : 21 ≤ n40 := by omega
 have h10 : 10 ≤ n40 := by omega
 have h1 : 1 ≤ n40 := by omega
 have e00 : ((0 : Int) == 0) = true := rfl
 by_cases hf : fineB b = true
 ·obtain ⟨hc, h11'⟩ := fine_ok hf
  obtain ⟨N, es, rfl, hk⟩ := chk_ok hc
  have h11' : es.length ≤ 11 := by simpa [bkN] using h11'
  have hsl : (bkN N es).slurs.length = es.length := by simp [bkN]
  by_cases h2 : es.length < 2
  ·have d2 : decide (((bkN N es).slurs.length : Int) < 2) = true := by rw [decide_eq_true_eq, hsl]; omega
   simp (disch := first | assumption | omega) only [c11, go_sem, ↓reduceIte, cs_fine, hf, d2, cs_Works hn]
  have d2 : decide (((bkN N es).slurs.length : Int) < 2) = false := by rw [decide_eq_false_iff_not, hsl]; omega
  have k1 := con_counted hk h11'
  by_cases hs : strL N es = []
  ·have ht := tuL_none hk hs
   have hcn := cnt_none hk hs
   have hz : nI4 [] = [] := rfl
   rw [ht, hcn, hz] at k1
   simp (disch := first | assumption | omega) only [c11, go_sem, ↓reduceIte, cs_fine, hf, d2, gp_bk k1 h21, e00, cs_Works hn]
  ·obtain ⟨t1, t2, t3, b, t4⟩ := tuL_ok hk hs
   have hcn := cnt_some hk hs
   have d4 : (cntT es == 0) = false := by rw [beq_eq_false_iff_ne]; omega
   have hp : prs (bkN N es).slurs = .slice (some 2) (es.map edA) false := by simp only [prs, bkN, map_eI]
   have hnN : (bkN N es).notes = (N : Int) := rfl
   obtain ⟨TL, hTL⟩ : ∃ TL, TL = tuL es := ⟨_, rfl⟩
   rw [← hTL] at t1 t2 t3 t4 k1
   obtain ⟨o, ta, hoa⟩ : ∃ o ta, TL = o :: ta := by
    cases TL with
    | nil => simp at t2; omega
    | cons o ta => exact ⟨o, ta, rfl⟩
   obtain ⟨tb, z, hob⟩ : ∃ tb z, TL = tb ++ [z] := ⟨TL.dropLast, TL.getLast (by rw [hoa]; simp), (List.dropLast_concat_getLast _).symm⟩
   have hal : ta.length + 1 = es.length := by rw [← t2, hoa]; rfl
   have hbl : tb.length + 1 = es.length := by rw [← t2, hob]; simp
   have ho : o < es.length := t3 o (by rw [hoa]; exact List.mem_cons_self)
   have hz : z < es.length := t3 z (by rw [hob]; simp)
   have ca := cut_ck hk (o := o) (by omega) (by rw [← hoa]; exact t1) hal (by rw [← hoa]; exact t3) (chE_tail (by rw [← hoa]; exact t4))
   have cb := cut_ck hk (o := z) (t := tb) (by omega) (by rw [hob] at t1; exact (List.perm_append_comm (l₁ := [z])).nodup_iff.2 t1) hbl (fun x hx => t3 x (by rw [hob]; simp at hx ⊢; exact hx.symm)) (chE_init (by rw [← hob]; exact t4))
   have hkA := ok_cut hk o (by omega) ho
   have hkB := ok_cut hk z (by omega) hz
   have hlA := List.length_eraseIdx_of_lt ho
   have hlB := List.length_eraseIdx_of_lt hz
   have l1 := con_less (N := N) (es := es) (t := nI4 TL) (i := 0) (j := o) (by rw [nI4_len]; omega) (by simp [nI4, hoa]) ho (by omega) (by omega)
   have l2 := con_less (N := N) (es := es) (t := nI4 TL) (i := es.length - 1) (j := z) (by rw [nI4_len]; omega) (by simp [nI4, hob, ← hbl]) hz (by omega) (by omega)
   have kA := con_counted hkA (by omega)
   have kB := con_counted hkB (by omega)
   have cA := con_CheckTune (bkN N (es.eraseIdx o)) (nI4 (ta.map (shN o))) (by simp [bkN]; omega) (by rw [nI4_len, List.length_map]; omega)
   have cB := con_CheckTune (bkN N (es.eraseIdx z)) (nI4 (tb.map (shN z))) (by simp [bkN]; omega) (by rw [nI4_len, List.length_map]; omega)
   have dA : decide (cntT (es.eraseIdx o) > 0) = true := by rw [decide_eq_true_eq]; exact cnt_ck hkA ca
   have dB : decide (cntT (es.eraseIdx z) > 0) = true := by rw [decide_eq_true_eq]; exact cnt_ck hkB cb
   unfold ckA at cA cB
   rw [ca] at cA
   rw [cb] at cB
   rw [bkN_A] at kA kB cA cB l1 l2
   have hcast : ((es.length - 1 : Nat) : Int) = (es.length : Int) - 1 := by omega
   rw [hcast] at l2
   have hTl : (nI4 TL).length = es.length := by rw [nI4_len]; exact t2
   simp (disch := first | assumption | omega) only [c11, go_sem, ↓reduceIte, cs_fine, hf, d2, gp_bk k1 h21, d4]
   refine ⟨by decide, ?_⟩
   rw [hp, hnN]
   have fz0 : ∀ h' (l : List Int) (i : Int), fz h' [.agg [.int .i64 (N : Int), .slice (some 2) (es.map edA) false], ints l, .int .i64 i] = .ret [.agg [.int .i64 (N : Int), eds es], ints l, .int .i64 i] := fun h' l i => fz_cons (frz_agg (mz_cons (frz_int _ _ _ _) (mz_cons (frz_slice _ _ _ _ _) (mz_nil _ _)))) (fz_slice _ _ _ _ (fz_int _ _ _ (fz_nil _)))
   refine gp_con l1 h1 (fz0 _ _ _) rfl ?_
   simp (disch := first | assumption | omega) only [go_sem, ↓reduceIte]
   refine ⟨by decide, ?_⟩
   rw [hTl]
   refine gp_con l2 h1 (fz0 _ _ _) rfl ?_
   obtain ⟨A, hA⟩ : ∃ A, A = es.eraseIdx o := ⟨_, rfl⟩
   obtain ⟨B, hB⟩ : ∃ B, B = es.eraseIdx z := ⟨_, rfl⟩
   rw [← hA] at kA cA dA ⊢
   rw [← hB] at kB cB dB ⊢
   have fz1 : ∀ h' (C : List Ed), fz h' [.agg [.int .i64 (N : Int), eds C]] = .ret [.agg [.int .i64 (N : Int), eds C]] := fun h' C => fz_cons (frz_agg (mz_cons (frz_int _ _ _ _) (mz_cons (frz_slice _ _ _ _ _) (mz_nil _ _)))) (fz_nil _)
   simp (config := { maxSteps := 3000000 }) (disch := first | assumption | omega) only [go_sem, ↓reduceIte]
   refine gp_con kA h21 (fz1 _ _) rfl ?_
   simp (config := { maxSteps := 3000000 }) (disch := first | assumption | omega) only [go_sem, ↓reduceIte]
   refine gp_con kB h21 (fz1 _ _) rfl ?_
   obtain ⟨CA, hCA⟩ : ∃ CA, CA = cntT A := ⟨_, rfl⟩
   obtain ⟨CB, hCB⟩ : ∃ CB, CB = cntT B := ⟨_, rfl⟩
   rw [← hCA] at dA ⊢
   rw [← hCB] at dB ⊢
   simp (config := { maxSteps := 3000000 }) (disch := first | assumption | omega) only [go_sem, ↓reduceIte]
   refine m_loop (fun M st => ∃ (i : Nat) (xa xb : AV), M = es.length - i ∧ i ≤ es.length ∧ At st.env [(4, ints (nI4 TL)), (6, .optr 6 0 0), (7, .optr 7 0 0), (8, .int .i64 CA), (10, .bool true), (11, .int .i64 CB), (13, .bool true), (14, xa), (15, xb), (16, .int .i64 i)] ∧ getH st.heap 6 = .cells 0 [.int .i64 N, eds A] ∧ getH st.heap 7 = .cells 0 [.int .i64 N, eds B] ∧
     Own 140 st.heap xa .i64 (nI4 (((TL.take i).drop 1).map (shN o))) ∧ Own 140 st.heap xb .i64 (nI4 ((TL.take (min i (es.length - 1))).map (shN z))) ∧ Dk xa xb ∧ 140 ≤ st.heap.length) es.length (by omega)
    ⟨0, .slice none [] true, .slice none [] true, by omega, by omega, by simp only [go_sem, ↓reduceIte], by simp only [go_sem, ↓reduceIte], by simp only [go_sem, ↓reduceIte], own_nil .., by rw [Nat.zero_min]; exact own_nil .., fun j h => by simp [keyOf] at h, by simp [length_setH]⟩ ?_
   rintro M e h hM ⟨i, xa, xb, rfl, hi, hE, g6, g7, hO1, hO2, hD, hh⟩ P hP
   simp only [At_cons, At_nil] at hE g6 g7 hO1 hO2 hh
   obtain ⟨f4, f6, f7, f8, f10, f11, f13, f14, f15, f16, -⟩ := hE
   have hlen : (nI4 TL).length = es.length := hTl
   by_cases hlt : i < es.length
   ·have hti : i < TL.length := by omega
    have hgi : ((nI4 TL).map (AV.int .i64))[i]? = some (.int .i64 (TL[i] : Int)) := by simp [nI4, hti]
    have hg0 : ((nI4 TL).map (AV.int .i64))[0]? = some (.int .i64 (o : Int)) := by simp [nI4, hoa]
    obtain ⟨m, hm⟩ : ∃ m, es.length - 1 = m := ⟨_, rfl⟩
    have hgz : ((nI4 TL).map (AV.int .i64))[m]? = some (.int .i64 (z : Int)) := by rw [← hm]; simp [nI4, hob, ← hbl]
    have hzi : (es.length : Int) - 1 = (m : Int) := by omega
    have hml : m < es.length := by omega
    have hpl : 0 < es.length := by omega
    have hxi := t3 _ (List.getElem_mem hti)
    have s1 := con_shifted TL[i] o (by omega) (by omega)
    have s2 := con_shifted TL[i] z (by omega) (by omega)
    have z1 : ∀ {base : Nat} {Q : EX × St → Prop} {d : Option Nat} {L : List IOper} {ks : List Kont} {e : Env} {h : Heap}, GP (evCall T n40) base Q d L ks e (evCall T n40 false (.fn 46) [.int .i64 (TL[i] : Int), .int .i64 (o : Int)] h) = GO (evCall T n40) base Q L ks ⟨setDst e d (.int .i64 (shN o TL[i] : Nat)), h⟩ := gp_eq s1 h1 (fz_int _ _ _ (fz_int _ _ _ (fz_nil _))) rfl
    have z2 : ∀ {base : Nat} {Q : EX × St → Prop} {d : Option Nat} {L : List IOper} {ks : List Kont} {e : Env} {h : Heap}, GP (evCall T n40) base Q d L ks e (evCall T n40 false (.fn 46) [.int .i64 (TL[i] : Int), .int .i64 (z : Int)] h) = GO (evCall T n40) base Q L ks ⟨setDst e d (.int .i64 (shN z TL[i] : Nat)), h⟩ := gp_eq s2 h1 (fz_int _ _ _ (fz_int _ _ _ (fz_nil _))) rfl
    have htk : TL.take (i + 1) = TL.take i ++ [TL[i]] := by rw [List.take_add_one, List.getElem?_eq_getElem hti]; rfl
    have hb2 : i + 1 < es.length → nI4 ((TL.take (min i (es.length - 1))).map (shN z)) ++ [((shN z TL[i] : Nat) : Int)] = nI4 ((TL.take (min (i + 1) (es.length - 1))).map (shN z)) := fun hl => by
     rw [show min i (es.length - 1) = i by omega, show min (i + 1) (es.length - 1) = i + 1 by omega, htk, List.map_append, nI4_app]
     rfl
    have ha2 : 0 < i → nI4 (((TL.take i).drop 1).map (shN o)) ++ [((shN o TL[i] : Nat) : Int)] = nI4 (((TL.take (i + 1)).drop 1).map (shN o)) := fun hl => by
     rw [htk, List.drop_append_of_le_length (by rw [List.length_take]; omega), List.map_append, nI4_app]
     rfl
    have hlen2 : ∀ (k : Nat) (f : Nat → Nat), k ≤ 12 → (nI4 ((TL.take k).map f)).length ≤ 12 := fun k f hk => by rw [nI4_len, List.length_map, List.length_take]; omega
    have hk1 := hO1.keyLt
    have hk2 := hO2.keyLt
    by_cases hi0 : i = 0
    ·have d1 : decide ((i : Int) > 0) = false := by rw [decide_eq_false_iff_not]; omega
     have d2 : decide ((i : Int) + 1 < es.length) = true := by rw [decide_eq_true_eq]; omega
     simp (config := { maxSteps := 3000000 }) (disch := first | assumption | omega) only [go_sem, ↓reduceIte, f4, f6, f7, f8, f10, f11, f13, f14, f15, f16, hlt, hgi, hg0, hgz, z1, z2, d1, d2, hlen, hzi, hml, hpl]
     refine gp_append1 rfl hO2 hh (by have := hlen2 (min i (es.length - 1)) (shN z) (by omega); omega) fun x' h' hO' hF hL hF2 hK => ?_
     rw [hb2 (by omega)] at hO'
     simp (config := { maxSteps := 3000000 }) (disch := first | assumption | omega) only [go_sem, ↓reduceIte, f4, f6, f7, f8, f10, f11, f13, f14, f15, f16, hlt, hgi, hg0, hgz, z1, z2, d1, d2, hlen, hzi, hml, hpl]
     have ht1 : ((TL.take (i + 1)).drop 1) = (TL.take i).drop 1 := by rw [hi0, hoa]; rfl
     rw [← ht1] at hO1
     exact hP (es.length - (i + 1)) _ (by omega) ⟨i + 1, xa, x', rfl, by omega, by simp only [go_sem, ↓reduceIte, f4, f6, f7, f8, f10, f11, f13, f14], by rw [hF 6 (by omega), g6], by rw [hF 7 (by omega), g7], hO1.other fun j hj => hF2 j (hk1 j hj) fun h5 => hD j hj h5, hO', fun j hj hj6 => by
      rcases hK j hj6 with h5 | h5
      ·exact hD j hj h5
      ·have := hk1 j hj; omega, by simp only; omega⟩
    ·have d1 : decide ((i : Int) > 0) = true := by rw [decide_eq_true_eq]; omega
     simp (config := { maxSteps := 3000000 }) (disch := first | assumption | omega) only [go_sem, ↓reduceIte, f4, f6, f7, f8, f10, f11, f13, f14, f15, f16, hlt, hgi, hg0, hgz, z1, z2, d1, hlen, hzi, hml, hpl]
     refine gp_append1 rfl hO1 hh (by have := hlen2 i (fun x => x) (by omega); rw [nI4_len, List.length_map, List.length_drop, List.length_take]; omega) fun x' h' hO' hF hL hF2 hK => ?_
     rw [ha2 (by omega)] at hO'
     have hO2' := hO2.other fun j hj => hF2 j (hk2 j hj) fun h5 => hD j h5 hj
     have hD' : Dk x' xb := fun j hj hj6 => by
      rcases hK j hj with h5 | h5
      ·exact hD j h5 hj6
      ·have := hk2 j hj6; omega
     have hk1' := hO'.keyLt
     have g6' := hF 6 (by omega)
     have g7' := hF 7 (by omega)
     rw [g6] at g6'
     rw [g7] at g7'
     by_cases hl : i + 1 < es.length
     ·have d2 : decide ((i : Int) + 1 < es.length) = true := by rw [decide_eq_true_eq]; omega
      simp (config := { maxSteps := 3000000 }) (disch := first | assumption | omega) only [go_sem, ↓reduceIte, f4, f6, f7, f8, f10, f11, f13, f14, f15, f16, hlt, hgi, hg0, hgz, z1, z2, d1, d2, hlen, hzi, hml, hpl]
      refine gp_append1 rfl hO2' (by omega) (by have := hlen2 (min i (es.length - 1)) (shN z) (by omega); omega) fun x2 h2' hO3 hF3 hL3 hF4 hK3 => ?_
      rw [hb2 hl] at hO3
      simp (config := { maxSteps := 3000000 }) (disch := first | assumption | omega) only [go_sem, ↓reduceIte, f4, f6, f7, f8, f10, f11, f13, f14, f15, f16, hlt, hgi, hg0, hgz, z1, z2, d1, d2, hlen, hzi, hml, hpl]
      exact hP (es.length - (i + 1)) _ (by omega) ⟨i + 1, x', x2, rfl, by omega, by simp only [go_sem, ↓reduceIte, f4, f6, f7, f8, f10, f11, f13], by rw [hF3 6 (by omega), g6'], by rw [hF3 7 (by omega), g7'], hO'.other fun j hj => hF4 j (hk1' j hj) fun h5 => hD' j hj h5, hO3, fun j hj hj6 => by
       rcases hK3 j hj6 with h5 | h5
       ·exact hD' j hj h5
       ·have := hk1' j hj; omega, by simp only; omega⟩
     ·have d2 : decide ((i : Int) + 1 < es.length) = false := by rw [decide_eq_false_iff_not]; omega
      simp (config := { maxSteps := 3000000 }) (disch := first | assumption | omega) only [go_sem, ↓reduceIte, f4, f6, f7, f8, f10, f11, f13, f14, f15, f16, hlt, hgi, hg0, hgz, z1, z2, d1, d2, hlen, hzi, hml, hpl]
      rw [show min i (es.length - 1) = min (i + 1) (es.length - 1) by omega] at hO2'
      exact hP (es.length - (i + 1)) _ (by omega) ⟨i + 1, x', xb, rfl, by omega, by simp only [go_sem, ↓reduceIte, f4, f6, f7, f8, f10, f11, f13, f15], g6', g7', hO', hO2', hD', by simp only; omega⟩
   ·obtain rfl : i = es.length := by omega
    have hta : (TL.take es.length).drop 1 = ta := by rw [← t2, List.take_length, hoa]; rfl
    have htb : TL.take (min es.length (es.length - 1)) = tb := by
     rw [show min es.length (es.length - 1) = tb.length by omega, hob]
     exact List.take_left
    rw [hta] at hO1
    rw [htb] at hO2
    simp (config := { maxSteps := 3000000 }) (disch := first | assumption | omega) only [go_sem, ↓reduceIte, f4, f6, f7, f8, f10, f11, f13, f14, f15, f16, hlt, hlen, g6, g7]
    refine gp_con cA h10 (fz_cons (frz_agg (mz_cons (frz_int _ _ _ _) (mz_cons (frz_slice _ _ _ _ _) (mz_nil _ _)))) (fz_cons (frz_Own hO1) (fz_nil _))) (by rw [Bool.or_eq_true]; exact .inr rfl) ?_
    simp (config := { maxSteps := 3000000 }) (disch := first | assumption | omega) only [go_sem, ↓reduceIte, f4, f6, f7, f8, f10, f11, f13, f14, f15, f16, hlt, hlen, g6, g7]
    refine gp_con cB h10 (fz_cons (frz_agg (mz_cons (frz_int _ _ _ _) (mz_cons (frz_slice _ _ _ _ _) (mz_nil _ _)))) (fz_cons (frz_Own hO2) (fz_nil _))) (by rw [Bool.or_eq_true]; exact .inr rfl) ?_
    simp (config := { maxSteps := 3000000 }) (disch := first | assumption | omega) only [go_sem, ↓reduceIte, f4, f6, f7, f8, f10, f11, f13, f14, f15, f16, hlt, hlen, g6, g7, dA, dB, e00, cs_Works hn]
 ·have hf' : fineB b = false := by simpa using hf
  simp (disch := first | assumption | omega) only [c11, go_sem, ↓reduceIte, cs_fine, hf', cs_Works hn]
def tuneCut_n : Nat := 20000
theorem tuneCut_ev (b : Bk) (hw : BkWf b) : (evFn (evCall T tuneCut_n) c11 [bkA b] []).all fun p => p.1 = .bool true := tuneCut_at _ rfl b hw
end Go.Ev.YtjcabpldgdafeaaC
