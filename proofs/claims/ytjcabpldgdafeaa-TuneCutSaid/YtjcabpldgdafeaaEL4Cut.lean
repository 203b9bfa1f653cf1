/- A tune less its first slur, or its last one, is a tune of the book less that slur; the book less a slur. No condition but those that stand in each. -/
import Derived.Test.YtjcabpldgdafeaaEL4App
set_option linter.unusedSimpArgs false
set_option linter.unusedVariables false
namespace Go.Ev.YtjcabpldgdafeaaC
open Go Go.Proofs Go.Ev
def shN (o n : Nat) : Nat := if n > o then n - 1 else n
theorem ok_cut {N : Nat} {es : List Ed} (hk : OkB N es) (o : Nat) (h2 : 2 ≤ es.length) (ho : o < es.length) : OkB N (es.eraseIdx o) where
 n1 := hk.n1
 n8 := hk.n8
 ne := fun h => by have := List.length_eraseIdx_of_lt ho; rw [h] at this; simp at this; omega
 le := by have := List.length_eraseIdx_of_lt ho; have := hk.le; omega
 lt := fun q hq => hk.lt q (List.mem_of_mem_eraseIdx hq)
theorem gE_cut (es : List Ed) {o n : Nat} (h : n ≠ o) : gE (es.eraseIdx o) (shN o n) = gE es n := by
 unfold gE shN
 simp only [List.getD_eq_getElem?_getD, List.getElem?_eraseIdx]
 by_cases h1 : n > o
 ·rw [if_pos h1, if_neg (by omega), show n - 1 + 1 = n by omega]
 ·rw [if_neg h1, if_pos (by omega)]
theorem cut_ck {N : Nat} {es : List Ed} (hk : OkB N es) {o a : Nat} {t : List Nat} (h2 : 2 ≤ es.length) (hn : (o :: t).Nodup) (hl : t.length + 1 = es.length) (hm : ∀ x ∈ o :: t, x < es.length) (hc : chE a (t.map (gE es))) : (ckT (bkN N (es.eraseIdx o)) (nI4 (t.map (shN o)))).2.2 = 0 := by
 have ho := hm o List.mem_cons_self
 have hle := List.length_eraseIdx_of_lt ho
 rw [List.nodup_cons] at hn
 have hne : ∀ x ∈ t, x ≠ o := fun x hx h => hn.1 (h ▸ hx)
 have hc' : chE a ((t.map (shN o)).map (gE (es.eraseIdx o))) := by
  rw [List.map_map]
  have he : t.map (gE (es.eraseIdx o) ∘ shN o) = t.map (gE es) := List.map_congr_left fun x hx => gE_cut es (hne x hx)
  rw [he]; exact hc
 rw [trail_ck (ok_cut hk o h2 ho) (nodup_mapOn hn.2 fun x hx y hy h => by
   have h3 := hne x hx
   have h4 := hne y hy
   unfold shN at h
   split at h <;> split at h <;> omega) (by rw [List.length_map]; omega) (fun x hx => by
   obtain ⟨y, hy, rfl⟩ := List.mem_map.1 hx
   have h3 := hne y hy
   have h4 := hm y (List.mem_cons_of_mem _ hy)
   unfold shN
   split <;> omega) hc']
theorem cnt_ck {N : Nat} {es : List Ed} (hk : OkB N es) {t : List Int} (h : (ckT (bkN N es) t).2.2 = 0) : 0 < cntT es := by
 obtain ⟨a, r, _, _, _, hm, _⟩ := ck_need hk h
 exact (cnt_iff hk).1 fun h0 => by rw [h0] at hm; cases hm
attribute [local irreducible] Res.all evC evLoop evOps evOper evOp evFn evCall freeze G GO GV GP GC R
set_option maxRecDepth 100000
theorem con_shifted (n o : Nat) (hn : n < 1000) (ho : o < 1000) : Con T 1 46 [.int .i64 n, .int .i64 o] (.int .i64 (shN o n : Nat)) := by
 refine con_intro t46 fun m hm V hV => ?_
 by_cases h : n > o
 ·have d1 : decide (o < n) = true := by rw [decide_eq_true_eq]; omega
  have he : ((shN o n : Nat) : Int) = (n : Int) - 1 := by unfold shN; rw [if_pos h]; omega
  rw [he] at hV
  have hwr : IntKind.i64.wrap ((n : Int) - 1) = (n : Int) - 1 := wrap64 (by omega) (by omega)
  simp (disch := first | assumption | omega) only [c46, go_sem, ↓reduceIte, d1, hwr]
  exact hV _ _ (frz_int _ _ _ _)
 ·have d1 : decide (o < n) = false := by rw [decide_eq_false_iff_not]; omega
  have he : ((shN o n : Nat) : Int) = (n : Int) := by unfold shN; rw [if_neg h]
  rw [he] at hV
  simp (disch := first | assumption | omega) only [c46, go_sem, ↓reduceIte, d1]
  exact hV _ _ (frz_int _ _ _ _)
set_option maxHeartbeats 1000000 in
theorem con_less {N : Nat} {es : List Ed} {t : List Int} {i j : Nat} (hi : i < t.length) (hit : t[i] = (j : Int)) (hj : j < es.length) (h2 : 2 ≤ es.length) (h14 : es.length ≤ 14) : Con T 1 45 [bkA (bkN N es), ints t, .int .i64 i] (.agg [.int .i64 N, eds (es.eraseIdx j)]) := by
 refine con_intro t45 fun n hn V hV => ?_
 rw [bkN_A]
 have hE : List.map (fun _ => AV.agg []) (List.range 0) = [] := rfl
 have hgj : (t.map (AV.int .i64))[i]? = some (.int .i64 (j : Int)) := by rw [List.getElem?_map, List.getElem?_eq_getElem hi, hit]; rfl
 have hed : es.eraseIdx j = es.take j ++ es.drop (j + 1) := List.eraseIdx_eq_take_drop_succ ..
 simp (disch := first | assumption | omega) only [c45, go_sem, ↓reduceIte, hi, hgj, hE]
 refine ⟨⟨by omega, by omega⟩, by simp [lateB, frozenB], ?_⟩
 rw [Int.toNat_natCast, ← List.map_take, Bool.false_and]
 by_cases hj0 : j = 0
 ·subst hj0
  rw [List.take_zero, List.map_nil, app_no1]
  simp (disch := first | assumption | omega) only [go_sem, ↓reduceIte, hi, hgj, hE]
  have hdl : (es.drop 1).length = es.length - 1 := List.length_drop
  refine ⟨⟨by omega, by omega⟩, by simp [lateB, frozenB], ?_⟩
  rw [show Int.toNat 1 = 1 from rfl, ← List.map_drop, app_fst (l := es.drop 1) (fun h => by rw [h] at hdl; simp at hdl; omega) (by rw [hdl]; omega)]
  simp (disch := first | assumption | omega) only [go_sem, ↓reduceIte]
  rw [List.take_zero, List.nil_append] at hed
  rw [hed] at hV
  exact hV _ _ (frz_agg (mz_cons (frz_int _ _ _ _) (mz_cons (frz_eds (by simp only [go_sem, ↓reduceIte])) (mz_nil _ _))))
 ·have htl : (es.take j).length = j := by rw [List.length_take]; omega
  rw [app_fst (l := es.take j) (fun h => by rw [h] at htl; simp at htl; omega) (by rw [htl]; omega)]
  simp (disch := first | assumption | omega) only [go_sem, ↓reduceIte, hi, hgj, hE]
  refine ⟨⟨by omega, by omega⟩, by simp [lateB, frozenB], ?_⟩
  rw [show ((j : Int) + 1).toNat = j + 1 by omega, ← List.map_drop]
  have hdl : (es.drop (j + 1)).length = es.length - (j + 1) := List.length_drop
  by_cases hjl : j + 1 = es.length
  ·have hd0 : es.drop (j + 1) = [] := List.length_eq_zero_iff.1 (by omega)
   rw [hd0, List.append_nil] at hed
   rw [hd0, List.map_nil, app_no2]
   simp (disch := first | assumption | omega) only [go_sem, ↓reduceIte]
   rw [hed] at hV
   exact hV _ _ (frz_agg (mz_cons (frz_int _ _ _ _) (mz_cons (frz_eds (by simp only [go_sem, ↓reduceIte])) (mz_nil _ _))))
  ·rw [app_own (l := es.take j) (l2 := es.drop (j + 1)) (getH_setH_self _ _ _) (fun h => by rw [h] at hdl; simp at hdl; omega) (by rw [hdl, htl]; omega), ← hed]
   simp (disch := first | assumption | omega) only [go_sem, ↓reduceIte]
   exact hV _ _ (frz_agg (mz_cons (frz_int _ _ _ _) (mz_cons (frz_eds (by simp only [go_sem, ↓reduceIte])) (mz_nil _ _))))
end Go.Ev.YtjcabpldgdafeaaC
