/- The law TuneAgains answers true: how many plays close a book, and how many heights prove. No condition but those that stand in each. -/
import Derived.Test.YtjcabpldgdafeaaAL4Fn6
import Derived.Test.YtjcabpldgdafeaaAL4LawTunes
import Derived.Test.YtjcabpldgdafeaaAL4Few
set_option linter.unusedSimpArgs false
set_option linter.unusedVariables false
namespace Go.Ev.YtjcabpldgdafeaaC
open Go Go.Proofs
attribute [local irreducible] Res.all evC evLoop evOps evOper evOp evFn evCall freeze G GO GV GP GC R
set_option maxRecDepth 100000
theorem plF_srN {m j : Nat} (P : Nat → Int) (h : j < m) : plF (srN m P) j = P j := by
 unfold plF srN
 simp [List.getD, h]
theorem sP_congr {es : List Ed} {P Q : Nat → Int} {m : Nat} (h : ∀ j, j < m → P j = Q j) (x : Nat) : ∀ k, k ≤ m → sP es P x k = sP es Q x k
 | 0, _ => rfl
 | k + 1, hk => by rw [sP, sP, sP_congr h x k (by omega), h k (by omega)]
theorem sumP_congr {P Q : Nat → Int} {m : Nat} (h : ∀ j, j < m → P j = Q j) : ∀ k, k ≤ m → sumP P k = sumP Q k
 | 0, _ => rfl
 | k + 1, hk => by rw [sumP, sumP, sumP_congr h k (by omega), h k (by omega)]
theorem ckG_own {N : Nat} {es : List Ed} (hk : OkB N es) (hc : cloB es = true) : ckG N es (srN es.length (agP N es)) = (sumP (agP N es) es.length, 0) := by
 obtain ⟨g1, g2, g3⟩ := agP_ok hk (cloB_iff.1 hc)
 have hpl : ∀ j, j < es.length → plF (srN es.length (agP N es)) j = agP N es j := fun j hj => plF_srN _ hj
 have hw : withinB 0 60 (srN es.length (agP N es)) = true := within_all fun x hx => by
  obtain ⟨j, _, rfl⟩ := List.mem_map.1 hx
  have := g3 j
  omega
 have hz : zB (sF es (plF (srN es.length (agP N es)))) = true := by
  rw [zB, List.all_eq_true]
  intro x _
  rw [decide_eq_true_eq, sF, sP_congr hpl x _ (Nat.le_refl _)]
  exact g2 x
 rw [ckG, if_neg (by rw [srN_len]; omega), if_neg (by rw [hw]; decide), if_pos (by rw [hz, hc]; rfl), sumP_congr hpl _ (Nat.le_refl _)]
theorem ckH_own {N : Nat} {es : List Ed} (hk : OkB N es) (hc : cloB es = true) : ckH N es (srN N (htH N es)) = (sumP (agP N es) es.length, 0) := by
 obtain ⟨o1, o2, o3, _⟩ := htH_ok hk (cloB_iff.1 hc)
 have hpl : ∀ j, j < N → plF (srN N (htH N es)) j = htH N es j := fun j hj => plF_srN _ hj
 have hw : withinB 0 20 (srN N (htH N es)) = true := within_all fun x hx => by
  obtain ⟨j, hj, rfl⟩ := List.mem_map.1 hx
  have := o1 j (List.mem_range.1 hj)
  omega
 have hu : es.any (fun e => decide (plF (srN N (htH N es)) e.2 > plF (srN N (htH N es)) e.1 + 1)) = false := by
  rw [List.any_eq_false]
  intro e he
  have h1 := hk.lt e he
  have h2 := o2 e he
  rw [hpl _ h1.1, hpl _ h1.2, decide_eq_true_eq]; omega
 have hs : hS N es (plF (srN N (htH N es))) = hS N es (htH N es) := sumC_congr fun x hx => by rw [hpl x (List.mem_range.1 hx)]
 rw [ckH, if_neg (by rw [srN_len]; omega), if_neg (by rw [hw]; decide), if_neg (by rw [hu]; decide), hs, o3]
set_option maxHeartbeats 1000000 in
theorem tuneAgains_at (n40 : Nat) (hn : n40 = 20000) (b : Bk) (p q : List Int) (hw : BkWf b) (hmp : p.length ≤ maxLen) (hmq : q.length ≤ maxLen) : (evFn (evCall T n40) c6 [bkA b, ints p, ints q] []).all fun p => p.1 = .bool true := by
 rw [m_fn]
 have h13 : 13 ≤ n40 := by omega
 have h3 : 3 ≤ n40 := by omega
 have h2 : 2 ≤ n40 := by omega
 have h1 : 1 ≤ n40 := by omega
 have ne : ∀ c : Int, (c != c) = false := fun c => by simp
 have e00 : ((0 : Int) == 0) = true := rfl
 by_cases hl : 20 < b.slurs.length
 ·have d1 : decide (20 < b.slurs.length) = true := by simpa using hl
  simp (disch := first | assumption | omega) only [c6, go_sem, ↓reduceIte, cs_great, d1, cs_Works hn]
 have d1 : decide (20 < b.slurs.length) = false := by simpa using hl
 by_cases hlp : p.length > 30
 ·have d2 : decide ((p.length : Int) > 30) = true := by rw [decide_eq_true_eq]; omega
  simp (disch := first | assumption | omega) only [c6, go_sem, ↓reduceIte, cs_great, d1, d2, cs_Works hn]
 have d2 : decide ((p.length : Int) > 30) = false := by rw [decide_eq_false_iff_not]; omega
 by_cases hlq : q.length > 20
 ·have d3 : decide ((q.length : Int) > 20) = true := by rw [decide_eq_true_eq]; omega
  simp (disch := first | assumption | omega) only [c6, go_sem, ↓reduceIte, cs_great, d1, d2, d3, cs_Works hn]
 have d3 : decide ((q.length : Int) > 20) = false := by rw [decide_eq_false_iff_not]; omega
 have hlb : b.slurs.length ≤ 20 := by omega
 by_cases hc : chkB b = 0
 ·obtain ⟨N, es, rfl, hk⟩ := chk_ok hc
  have hle := hk.le
  have hn8 := hk.n8
  have k1 := con_CheckAgain hk p (by omega)
  have k2 := con_refAgain hk p (by omega)
  have k3 := con_CheckHeights hk q (by omega)
  have k4 := con_refHeights hk q (by omega)
  have k5 := con_Again hk
  have k6 := con_Heights hk
  have k7 := con_AgainError hk
  generalize ckG N es p = r1 at k1 k2
  generalize ckH N es q = r2 at k3 k4
  obtain ⟨r1a, r1b⟩ := r1
  obtain ⟨r2a, r2b⟩ := r2
  simp only [twoA] at k1 k2 k3 k4
  cases hcl : cloB es with
  | true =>
   rw [hcl, if_pos rfl] at k5 k6 k7
   have k8 := con_refAgain hk (srN es.length (agP N es)) (by rw [srN_len]; omega)
   have k9 := con_refHeights hk (srN N (htH N es)) (by rw [srN_len]; omega)
   have k10 := con_Fewest hk (cloB_iff.1 hcl)
   rw [ckG_own hk hcl] at k8
   rw [ckH_own hk hcl] at k9
   simp only [twoA] at k8 k9
   have es1 : (sumP (agP N es) es.length == sumP (agP N es) es.length) = true := beq_self_eq_true _
   have b00 : ((0 : Int) != 0) = false := rfl
   simp (disch := first | assumption | omega) only [c6, go_sem, ↓reduceIte, cs_great, d1, d2, d3, gp_bkI k1 h13, gp_bkI k2 h3, gp_bkI k3 h13, gp_bkI k4 h3, gp_bk k5 h13, gp_bk k6 h13, gp_bk k7 h3, ne, b00, gp_bkI k8 h3, gp_bkI k9 h3, gp_bk k10 h2, e00, es1, cs_Works hn]
  | false =>
   rw [hcl, if_neg (by decide)] at k5 k6 k7
   have b19 : ((19 : Int) != 0) = true := rfl
   simp (disch := first | assumption | omega) only [c6, go_sem, ↓reduceIte, cs_great, d1, d2, d3, gp_bkI k1 h13, gp_bkI k2 h3, gp_bkI k3 h13, gp_bkI k4 h3, gp_bk k5 h13, gp_bk k6 h13, gp_bk k7 h3, ne, b19, e00, cs_Works hn, List.length_nil]
 ·have k1 := con_CheckAgain_no b p hlb hc
  have k2 := con_refAgain_no b p hlb hc
  have k3 := con_CheckHeights_no b q hlb hc
  have k4 := con_refHeights_no b q hlb hc
  have k5 := con_Again_no b hlb hc
  have k6 := con_Heights_no b hlb hc
  have k7 := con_AgainError_no b hlb hc
  have b0 : (chkB b != 0) = true := by simpa using hc
  simp (disch := first | assumption | omega) only [c6, go_sem, ↓reduceIte, cs_great, d1, d2, d3, gp_bkI k1 h13, gp_bkI k2 h3, gp_bkI k3 h13, gp_bkI k4 h3, gp_bk k5 h13, gp_bk k6 h13, gp_bk k7 h3, ne, b0, e00, cs_Works hn, List.length_nil]
def tuneAgains_n : Nat := 20000
theorem tuneAgains_ev (b : Bk) (p q : List Int) (hw : BkWf b) (hwp : ∀ n ∈ p, (Lit.int .i64 n).wf = true) (hmp : p.length ≤ maxLen) (hwq : ∀ n ∈ q, (Lit.int .i64 n).wf = true) (hmq : q.length ≤ maxLen) : (evFn (evCall T tuneAgains_n) c6 [bkA b, ints p, ints q] []).all fun p => p.1 = .bool true := tuneAgains_at _ rfl b p q hw hmp hmq
end Go.Ev.YtjcabpldgdafeaaC
