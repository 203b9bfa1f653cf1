/- The law TuneProved answers true: no plays that close a book have a lesser sum than heights prove. No condition but those that stand in each. -/
import Derived.Test.YtjcabpldgdafeaaBL4Fn8
import Derived.Test.YtjcabpldgdafeaaBL4Tnl
set_option linter.unusedSimpArgs false
set_option linter.unusedVariables false
namespace Go.Ev.YtjcabpldgdafeaaC
open Go Go.Proofs
theorem ckG_ok {N : Nat} {es : List Ed} (hk : OkB N es) {p : List Int} (h : (ckG N es p).2 = 0) : cloB es = true ∧ (∀ x, x < N → sF es (plF p) x = 0) ∧ (∀ i, 0 ≤ plF p i) ∧ (ckG N es p).1 = sumP (plF p) es.length := by
 unfold ckG at h ⊢
 split at h
 ·exact absurd h (by decide)
 ·next c1 =>
  rw [if_neg c1]
  split at h
  ·exact absurd h (by decide)
  ·next c2 =>
   rw [if_neg c2]
   split at h
   ·next c3 =>
    rw [if_pos c3]
    rw [Bool.and_eq_true] at c3
    have hw : withinB 0 60 p = true := by simpa using c2
    refine ⟨c3.2, fun x hx => ?_, fun i => (plF_box (by omega) hw i).1, rfl⟩
    have := List.all_eq_true.1 (show (List.range 8).all (fun x => decide (sF es (plF p) x = 0)) = true from c3.1) x (List.mem_range.2 (by have := hk.n8; omega))
    simpa using this
   ·exact absurd h (by decide)
theorem ckH_ok {N : Nat} {es : List Ed} {q : List Int} (h : (ckH N es q).2 = 0) : (∀ e ∈ es, plF q e.2 ≤ plF q e.1 + 1) ∧ (ckH N es q).1 = hS N es (plF q) := by
 unfold ckH at h ⊢
 split at h
 ·exact absurd h (by decide)
 ·next c1 =>
  rw [if_neg c1]
  split at h
  ·exact absurd h (by decide)
  ·next c2 =>
   rw [if_neg c2]
   split at h
   ·exact absurd h (by decide)
   ·next c3 =>
    rw [if_neg c3]
    refine ⟨fun e he => ?_, rfl⟩
    have c3' : es.any (fun e => decide (plF q e.2 > plF q e.1 + 1)) = false := by simpa using c3
    have := List.any_eq_false.1 c3' e he
    simp only [decide_eq_true_eq] at this
    omega
theorem sumP_zero {P : Nat → Int} (hP : ∀ i, 0 ≤ P i) : ∀ k, sumP P k = 0 → ∀ j, j < k → P j = 0
 | 0, _, j, hj => by omega
 | k + 1, h, j, hj => by
  rw [sumP] at h
  have h1 := sumP_nn hP k
  have h2 := hP k
  by_cases hjk : j = k
  ·subst hjk; omega
  ·exact sumP_zero hP k (by omega) j (by omega)
theorem val_zero {N : Nat} {es : List Ed} (hk : OkB N es) (hc : Clo es) : sumP (agP N es) es.length = 0 ↔ ∀ x, sur es x = 0 := by
 obtain ⟨g1, g2, _⟩ := agP_ok hk hc
 constructor
 ·intro h x
  have h1 := sumP_zero g1.nn _ h
  have h2 := g2 x
  rw [sF, sP_congr (Q := fun _ => 0) h1 x _ (Nat.le_refl _), sP_zero, Int.add_zero] at h2
  exact h2
 ·intro h
  have hu : upU (sur es) 8 = 0 := by
   have : ∀ v, upU (sur es) v = 0 := fun v => by
    induction v with
    | zero => rfl
    | succ v ih => simp only [upU, ih, h]; rfl
   exact this 8
  have : agP N es = fun _ => 0 := by unfold agP; rw [hu]; rfl
  rw [this]
  have : ∀ k, sumP (fun _ => 0) k = 0 := fun k => by
   induction k with
   | zero => rfl
   | succ k ih => rw [sumP, ih]; rfl
  exact this _
theorem clo_hang {es : List Ed} (hc : Clo es) : Hang es := fun p hp e he f hf => by
 have h1 := (hc e he f hf).1 p (fun g hg hx => by rw [← hp g hg]; exact hx)
 have h2 := (hc f hf e he).1 p (fun g hg hx => by rw [← hp g hg]; exact hx)
 cases h3 : p e.1 with
 | true => exact (h1 h3).symm
 | false =>
  cases h4 : p f.1 with
  | false => rfl
  | true => rw [h2 h4] at h3; cases h3
theorem bal_str {N : Nat} {es : List Ed} (hk : OkB N es) (hh : Hang es) (h : ∀ x, sur es x = 0) : strL N es ≠ [] := by
 have hu : upU (sur es) 8 = 0 := by
  have : ∀ v, upU (sur es) v = 0 := fun v => by
   induction v with
   | zero => rfl
   | succ v ih => simp only [upU, ih, h]; rfl
  exact this 8
 obtain ⟨q, hq, hr⟩ := root_mem hk.ne
 have hm : rootE es ∈ strL N es := by
  unfold strL
  rw [if_neg (by rw [(ap_hang hk.ne hk.lt8).2 hh]; decide), if_pos hu]
  exact List.mem_filter.2 ⟨List.mem_range.2 (by rw [← hr]; exact (hk.lt q hq).1), List.any_eq_true.2 ⟨q, hq, by simpa using hr⟩⟩
 intro h0
 rw [h0] at hm
 cases hm
attribute [local irreducible] Res.all evC evLoop evOps evOper evOp evFn evCall freeze G GO GV GP GC R
set_option maxRecDepth 100000
set_option maxHeartbeats 4000000 in
theorem tuneProved_at (n40 : Nat) (hn : n40 = 20000) (b : Bk) (p q : List Int) (hw : BkWf b) (hmp : p.length ≤ maxLen) (hmq : q.length ≤ maxLen) : (evFn (evCall T n40) c8 [bkA b, ints p, ints q] []).all fun p => p.1 = .bool true := by
 rw [m_fn]
 have h21 : 21 ≤ n40 := by omega
 have h13 : 13 ≤ n40 := by omega
 have h4 : 4 ≤ n40 := by omega
 have h3 : 3 ≤ n40 := by omega
 have e00 : ((0 : Int) == 0) = true := rfl
 have b00 : ((0 : Int) != 0) = false := rfl
 have ne : ∀ c : Int, (c != c) = false := fun c => by simp
 by_cases hf : fineB b = true
 ·obtain ⟨hc, h11'⟩ := fine_ok hf
  by_cases hlp : p.length > 30
  ·have d2 : decide ((p.length : Int) > 30) = true := by rw [decide_eq_true_eq]; omega
   simp (disch := first | assumption | omega) only [c8, go_sem, ↓reduceIte, cs_fine, hf, d2, cs_Works hn]
  have d2 : decide ((p.length : Int) > 30) = false := by rw [decide_eq_false_iff_not]; omega
  by_cases hlq : q.length > 20
  ·have d3 : decide ((q.length : Int) > 20) = true := by rw [decide_eq_true_eq]; omega
   simp (disch := first | assumption | omega) only [c8, go_sem, ↓reduceIte, cs_fine, hf, d2, d3, cs_Works hn]
  have d3 : decide ((q.length : Int) > 20) = false := by rw [decide_eq_false_iff_not]; omega
  obtain ⟨N, es, rfl, hk⟩ := chk_ok hc
  have h11' : es.length ≤ 11 := by simpa [bkN] using h11'
  have hn8 := hk.n8
  have k1 := con_Again hk
  have k2 := con_Heights hk
  have k3 := con_CheckAgain hk p (by omega)
  have k4 := con_CheckHeights hk q (by omega)
  have k5 := con_counted hk h11'
  have hG := ckG_ok hk (p := p)
  have hH := ckH_ok (N := N) (es := es) (q := q)
  generalize ckG N es p = r1 at k3 hG
  generalize ckH N es q = r2 at k4 hH
  obtain ⟨gm, ge⟩ := r1
  obtain ⟨hm, he⟩ := r2
  simp only [twoA] at k3 k4 hG hH
  cases hcl : cloB es with
  | true =>
   have hco := cloB_iff.1 hcl
   rw [hcl, if_pos rfl] at k1 k2
   obtain ⟨a1, a2, a3⟩ := agP_ok hk hco
   obtain ⟨o1, o2, o3, _⟩ := htH_ok hk hco
   have k6 := con_CheckAgain hk (srN es.length (agP N es)) (by rw [srN_len]; omega)
   have k7 := con_CheckHeights hk (srN N (htH N es)) (by rw [srN_len]; omega)
   have k8 := con_refAgain hk (srN es.length (agP N es)) (by rw [srN_len]; omega)
   have k9 := con_refHeights hk (srN N (htH N es)) (by rw [srN_len]; omega)
   rw [ckG_own hk hcl] at k6 k8
   rw [ckH_own hk hcl] at k7 k9
   simp only [twoA] at k6 k7 k8 k9
   have hv := val_zero hk hco
   have w1 : ge = 0 → sumP (agP N es) es.length ≤ gm := fun h => by
    obtain ⟨_, q1, q2, q3⟩ := hG h
    rw [q3, ← o3]
    exact weak hk.lt q1 q2 o2
   have w2 : he = 0 → hm ≤ sumP (agP N es) es.length := fun h => by
    obtain ⟨q1, q2⟩ := hH h
    rw [q2]
    exact weak hk.lt (fun x _ => a2 x) a1.nn q1
   obtain ⟨VV, hVV⟩ : ∃ VV, VV = sumP (agP N es) es.length := ⟨_, rfl⟩
   rw [← hVV] at k6 k7 k8 k9 hv w1 w2
   obtain ⟨B3, hB3⟩ : ∃ B3, B3 = (ge == 0) := ⟨_, rfl⟩
   obtain ⟨B4, hB4⟩ : ∃ B4, B4 = (he == 0) := ⟨_, rfl⟩
   have eV : (VV != VV) = false := ne VV
   by_cases hs : strL N es = []
   ·have ht := tuL_none hk hs
    have hz : nI4 [] = [] := rfl
    rw [ht, hz] at k5
    have dV : (VV == 0) = false := by
     rw [beq_eq_false_iff_ne]
     intro h
     exact bal_str hk (clo_hang hco) (hv.1 h) hs
    have d0 : decide ((0 : Int) > 0) = false := rfl
    have q0 : ((false == false) != false) = true := rfl
    cases B3 with
    | true =>
     have g0 : ge = 0 := by simpa using hB3.symm
     have l1 : decide (gm < VV) = false := by rw [decide_eq_false_iff_not]; have := w1 g0; omega
     cases B4 with
     | true =>
      have g1 : he = 0 := by simpa using hB4.symm
      have l2 : decide (hm > VV) = false := by rw [decide_eq_false_iff_not]; have := w2 g1; omega
      have l3 : decide (gm < hm) = false := by rw [decide_eq_false_iff_not]; have := w1 g0; have := w2 g1; omega
      simp (disch := first | assumption | omega) only [c8, go_sem, ↓reduceIte, cs_fine, hf, d2, d3, gp_bk k1 h13, gp_bk k2 h13, gp_bkI k3 h13, gp_bkI k4 h13, gp_bk k5 h21, b00, ← hB3, ← hB4, l1, l2, l3, gp_bkI k6 h13, gp_bkI k7 h13, gp_bkI k8 h3, gp_bkI k9 h3, eV, d0, dV, q0, cs_Works hn, List.length_nil]
     | false =>
      simp (disch := first | assumption | omega) only [c8, go_sem, ↓reduceIte, cs_fine, hf, d2, d3, gp_bk k1 h13, gp_bk k2 h13, gp_bkI k3 h13, gp_bkI k4 h13, gp_bk k5 h21, b00, ← hB3, ← hB4, l1, gp_bkI k6 h13, gp_bkI k7 h13, gp_bkI k8 h3, gp_bkI k9 h3, eV, d0, dV, q0, cs_Works hn, List.length_nil]
    | false =>
     cases B4 with
     | true =>
      have g1 : he = 0 := by simpa using hB4.symm
      have l2 : decide (hm > VV) = false := by rw [decide_eq_false_iff_not]; have := w2 g1; omega
      simp (disch := first | assumption | omega) only [c8, go_sem, ↓reduceIte, cs_fine, hf, d2, d3, gp_bk k1 h13, gp_bk k2 h13, gp_bkI k3 h13, gp_bkI k4 h13, gp_bk k5 h21, b00, ← hB3, ← hB4, l2, gp_bkI k6 h13, gp_bkI k7 h13, gp_bkI k8 h3, gp_bkI k9 h3, eV, d0, dV, q0, cs_Works hn, List.length_nil]
     | false =>
      simp (disch := first | assumption | omega) only [c8, go_sem, ↓reduceIte, cs_fine, hf, d2, d3, gp_bk k1 h13, gp_bk k2 h13, gp_bkI k3 h13, gp_bkI k4 h13, gp_bk k5 h21, b00, ← hB3, ← hB4, gp_bkI k6 h13, gp_bkI k7 h13, gp_bkI k8 h3, gp_bkI k9 h3, eV, d0, dV, q0, cs_Works hn, List.length_nil]
   ·obtain ⟨t1, t2, t3, b, t4⟩ := tuL_ok hk hs
    have hck := trail_ck hk t1 t2 t3 t4
    obtain ⟨a, r, _, _, hcr, _, _, hsu⟩ := ck_need hk (t := nI4 (tuL es)) (by rw [hck])
    have k10 := con_refTune (bkN N es) (nI4 (tuL es)) (by simp [bkN]; omega) (by rw [nI4_len]; omega)
    unfold ckA at k10
    rw [hcr] at k10
    have hcl2 := closed_iff hsu
    have hpos : 0 < es.length := List.length_pos_iff.2 hk.ne
    have d0 : decide (((nI4 (tuL es)).length : Int) > 0) = true := by rw [decide_eq_true_eq, nI4_len, t2]; omega
    obtain ⟨tl, htl⟩ : ∃ tl, tl = nI4 (tuL es) := ⟨_, rfl⟩
    rw [← htl] at k5 k10 d0
    obtain ⟨BV, hBV⟩ : ∃ BV, BV = (VV == 0) := ⟨_, rfl⟩
    have hac : ((a : Int) == (r : Int)) = BV := by
     rw [hBV, Bool.eq_iff_iff, beq_iff_eq, beq_iff_eq]
     constructor
     ·intro h; exact hv.2 (hcl2.1 (by omega))
     ·intro h; have := hcl2.2 (hv.1 h); omega
    have q0 : ((BV == BV) != false) = true := by cases BV <;> rfl
    cases B3 with
    | true =>
     have g0 : ge = 0 := by simpa using hB3.symm
     have l1 : decide (gm < VV) = false := by rw [decide_eq_false_iff_not]; have := w1 g0; omega
     cases B4 with
     | true =>
      have g1 : he = 0 := by simpa using hB4.symm
      have l2 : decide (hm > VV) = false := by rw [decide_eq_false_iff_not]; have := w2 g1; omega
      have l3 : decide (gm < hm) = false := by rw [decide_eq_false_iff_not]; have := w1 g0; have := w2 g1; omega
      simp (disch := first | assumption | omega) only [c8, go_sem, ↓reduceIte, cs_fine, hf, d2, d3, gp_bk k1 h13, gp_bk k2 h13, gp_bkI k3 h13, gp_bkI k4 h13, gp_bk k5 h21, b00, ← hB3, ← hB4, l1, l2, l3, gp_bkI k6 h13, gp_bkI k7 h13, gp_bkI k8 h3, gp_bkI k9 h3, gp_bkI k10 h3, hac, ← hBV, eV, d0, q0, cs_Works hn]
     | false =>
      simp (disch := first | assumption | omega) only [c8, go_sem, ↓reduceIte, cs_fine, hf, d2, d3, gp_bk k1 h13, gp_bk k2 h13, gp_bkI k3 h13, gp_bkI k4 h13, gp_bk k5 h21, b00, ← hB3, ← hB4, l1, gp_bkI k6 h13, gp_bkI k7 h13, gp_bkI k8 h3, gp_bkI k9 h3, gp_bkI k10 h3, hac, ← hBV, eV, d0, q0, cs_Works hn]
    | false =>
     cases B4 with
     | true =>
      have g1 : he = 0 := by simpa using hB4.symm
      have l2 : decide (hm > VV) = false := by rw [decide_eq_false_iff_not]; have := w2 g1; omega
      simp (disch := first | assumption | omega) only [c8, go_sem, ↓reduceIte, cs_fine, hf, d2, d3, gp_bk k1 h13, gp_bk k2 h13, gp_bkI k3 h13, gp_bkI k4 h13, gp_bk k5 h21, b00, ← hB3, ← hB4, l2, gp_bkI k6 h13, gp_bkI k7 h13, gp_bkI k8 h3, gp_bkI k9 h3, gp_bkI k10 h3, hac, ← hBV, eV, d0, q0, cs_Works hn]
     | false =>
      simp (disch := first | assumption | omega) only [c8, go_sem, ↓reduceIte, cs_fine, hf, d2, d3, gp_bk k1 h13, gp_bk k2 h13, gp_bkI k3 h13, gp_bkI k4 h13, gp_bk k5 h21, b00, ← hB3, ← hB4, gp_bkI k6 h13, gp_bkI k7 h13, gp_bkI k8 h3, gp_bkI k9 h3, gp_bkI k10 h3, hac, ← hBV, eV, d0, q0, cs_Works hn]
  | false =>
   rw [hcl, if_neg (by decide)] at k1 k2
   have n19 : ((19 : Int) != 19) = false := rfl
   have b19 : ((19 : Int) != 0) = true := rfl
   have e19 : ((19 : Int) == 19) = true := rfl
   have hge : (ge == 0) = false := by
    rw [beq_eq_false_iff_ne]
    intro h
    have := (hG h).1
    rw [hcl] at this; cases this
   simp (disch := first | assumption | omega) only [c8, go_sem, ↓reduceIte, cs_fine, hf, d2, d3, gp_bk k1 h13, gp_bk k2 h13, gp_bkI k3 h13, gp_bkI k4 h13, gp_bk k5 h21, n19, b19, e19, e00, hge, cs_Works hn, List.length_nil]
 ·have hf' : fineB b = false := by simpa using hf
  simp (disch := first | assumption | omega) only [c8, go_sem, ↓reduceIte, cs_fine, hf', cs_Works hn]
def tuneProved_n : Nat := 20000
theorem tuneProved_ev (b : Bk) (p q : List Int) (hw : BkWf b) (hwp : ∀ n ∈ p, (Lit.int .i64 n).wf = true) (hmp : p.length ≤ maxLen) (hwq : ∀ n ∈ q, (Lit.int .i64 n).wf = true) (hmq : q.length ≤ maxLen) : (evFn (evCall T tuneProved_n) c8 [bkA b, ints p, ints q] []).all fun p => p.1 = .bool true := tuneProved_at _ rfl b p q hw hmp hmq
end Go.Ev.YtjcabpldgdafeaaC
