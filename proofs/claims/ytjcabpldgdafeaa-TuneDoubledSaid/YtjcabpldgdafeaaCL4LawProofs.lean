/- The law TuneProofs answers true: which notes prove that there is no tune. No condition but those that stand in each. -/
import Derived.Test.YtjcabpldgdafeaaCL4Fn5
import Derived.Test.YtjcabpldgdafeaaCL4LawTunes
set_option linter.unusedSimpArgs false
set_option linter.unusedVariables false
namespace Go.Ev.YtjcabpldgdafeaaC
open Go Go.Proofs
attribute [local irreducible] Res.all evC evLoop evOps evOper evOp evFn evCall freeze G GO GV GP GC R
set_option maxRecDepth 100000
def upF (s : Nat → Int) (v : Nat) : List Nat := (List.range v).filter fun x => decide (0 < s x)
def upL (es : List Ed) : List Nat := upF (sur es) 8
theorem upF_succ (s : Nat → Int) (v : Nat) : upF s (v + 1) = upF s v ++ if 0 < s v then [v] else [] := by
 unfold upF
 rw [List.range_succ, List.filter_append]
 congr 1
 by_cases hf : 0 < s v
 ·rw [if_pos hf, List.filter_cons, if_pos (by simpa using hf)]; rfl
 ·rw [if_neg hf, List.filter_cons, if_neg (by simpa using hf)]; rfl
theorem upF_sum (s : Nat → Int) : ∀ v, sumI (fun n => s n.toNat) (nI4 (upF s v)) = upU s v
 | 0 => rfl
 | v + 1 => by
  rw [upF_succ]
  have : nI4 (upF s v ++ if 0 < s v then [v] else []) = nI4 (upF s v) ++ if 0 < s v then [(v : Int)] else [] := by
   simp only [nI4, List.map_append]
   split <;> rfl
  rw [this, sumI_app, upF_sum s v]
  simp only [upU]
  split <;> simp [sumI]
theorem ov_up (s : Nat → Int) (v : Nat) : ovB s (nI4 (upF s v)) = decide (1 < upU s v) := by
 unfold ovB
 rw [upF_sum]
 have : (nI4 (upF s v)).all (fun n => decide (0 < s n.toNat)) = true := by
  rw [List.all_eq_true]
  intro x hx
  obtain ⟨y, hy, rfl⟩ := List.mem_map.1 hx
  simpa using (List.mem_filter.1 hy).2
 rw [this, Bool.true_and]
theorem ris_asc {N : Nat} : ∀ {l : List Nat} {k : Nat}, l.Pairwise (· < ·) → (∀ x ∈ l, k ≤ x ∧ x < N) → risF N k (nI4 l) = true
 | [], _, _, _ => rfl
 | a :: l, k, h1, h2 => by
  rw [List.pairwise_cons] at h1
  have ha := h2 a List.mem_cons_self
  have ih := ris_asc (l := l) (k := a + 1) h1.2 fun x hx => ⟨h1.1 x hx, (h2 x (List.mem_cons_of_mem _ hx)).2⟩
  show (decide ((k : Int) ≤ (a : Int)) && decide ((a : Int) < (N : Int)) && risF N ((a : Int) + 1) (nI4 l)) = true
  have e : ((a + 1 : Nat) : Int) = (a : Int) + 1 := by omega
  rw [e] at ih
  rw [ih]
  simp; omega
noncomputable def prL (es : List Ed) : List Nat := if 1 < upU (sur es) 8 then upL es else ptL es (rootE es)
def prK (es : List Ed) : Int := if 1 < upU (sur es) 8 then 1 else 2
noncomputable def prA (N : Nat) (es : List Ed) : AV := if strL N es = [] then .tuple [.int .i64 (prK es), ints (nI4 (prL es)), .int .i64 0] else .tuple [.int .i64 0, ints [], .int .i64 5]
theorem prL_len (es : List Ed) : (prL es).length ≤ 8 := by
 unfold prL
 split
 ·have := List.length_filter_le (fun x => decide (0 < sur es x)) (List.range 8)
  simpa [upL, upF] using this
 ·have := List.length_filter_le (fun x => Classical.propDecidable (inPt es (rootE es) x) |> fun i => @decide _ i) (List.range 8)
  simpa [ptL] using this
theorem pr_ok {N : Nat} {es : List Ed} (hk : OkB N es) (h : strL N es = []) : ckPN N es (prK es) (nI4 (prL es)) = 0 := by
 have h8 := hk.n8
 by_cases hu : 1 < upU (sur es) 8
 ·have hr : risF N 0 (nI4 (prL es)) = true := by
   rw [prL, if_pos hu]
   refine ris_asc (k := 0) (List.Pairwise.sublist List.filter_sublist List.pairwise_lt_range) fun x hx => ⟨Nat.zero_le _, ?_⟩
   have hs := (List.mem_filter.1 hx).2
   simp only [decide_eq_true_eq] at hs
   unfold sur at hs
   have hod : od es x ≠ 0 := by omega
   apply Classical.byContradiction
   intro hN
   exact hod (od_zero.2 fun e he hex => by have := (hk.lt e he).1; omega)
  have ho := ov_up (sur es) 8
  rw [show decide (1 < upU (sur es) 8) = true by simpa using hu] at ho
  unfold ckPN
  rw [prK, if_pos hu, if_neg (by omega), if_neg (by rw [hr]; decide), if_pos rfl, prL, if_pos hu]
  rw [show upL es = upF (sur es) 8 from rfl, ho, if_pos rfl]
 ·have hr : risF N 0 (nI4 (prL es)) = true := by
   rw [prL, if_neg hu]
   refine ris_asc (k := 0) (List.Pairwise.sublist List.filter_sublist List.pairwise_lt_range) fun x hx => ⟨Nat.zero_le _, ?_⟩
   obtain ⟨_, hin⟩ := mem_ptL.1 hx
   have := hin (fun y => decide (y < N)) (fun e he => by
    have := hk.lt e he
    rw [show decide (e.1 < N) = true by simpa using this.1, show decide (e.2 < N) = true by simpa using this.2]) (by
    obtain ⟨q, hq, hr⟩ := root_mem hk.ne
    simpa [← hr] using (hk.lt q hq).1)
   simpa using this
  have hap : apB es (nI4 (ptL es (rootE es))) = true := by
   cases hq : apB es (nI4 (ptL es (rootE es))) with
   | true => rfl
   | false =>
    exfalso
    have h0 := upU_nonneg (sur es) 8
    have hh := (ap_hang hk.ne hk.lt8).1 hq
    by_cases hu0 : upU (sur es) 8 = 0
    ·have hb := up_zero hk.lt8 hu0
     obtain ⟨q, hq1, hq2⟩ := root_mem hk.ne
     have : rootE es ∈ strL N es := by
      unfold strL
      rw [if_neg (by rw [hq]; decide), if_pos hu0]
      exact List.mem_filter.2 ⟨List.mem_range.2 (by rw [← hq2]; exact (hk.lt q hq1).1), List.any_eq_true.2 ⟨q, hq1, by simpa using hq2⟩⟩
     rw [h] at this; cases this
    ·have hu1 : upU (sur es) 8 = 1 := by omega
     have : atU (sur es) 8 ∈ strL N es := by
      unfold strL
      rw [if_neg (by rw [hq]; decide), if_neg hu0, if_pos hu1]
      exact List.mem_singleton.2 rfl
     rw [h] at this; cases this
  unfold ckPN
  rw [prK, if_neg hu, if_neg (by omega), if_neg (by rw [hr]; decide), if_neg (by decide), prL, if_neg hu, hap, if_pos rfl]
set_option maxHeartbeats 1000000 in
theorem conF_Proof (N : Nat) (es : List Ed) (hk : OkB N es) : ConF T 20 29 [bkA (bkN N es)] (prA N es) := by
 refine conF_intro t29 fun n hn V hV => ?_
 have b0 : ((0 : Int) != 0) = false := rfl
 have h0 := hk.ne
 have h8 := hk.n8
 have hl20 := hk.le20
 have hn8 := hk.lt8
 have hs20 := sur_20 hl20
 rw [bkN_A]
 by_cases hs : strL N es = []
 ·have hb : decide (((nI4 (strL N es)).length : Int) > 0) = false := by rw [hs]; rfl
  have hst : prA N es = .tuple [.int .i64 (prK es), ints (nI4 (prL es)), .int .i64 0] := by rw [prA, if_pos hs]
  simp (disch := first | assumption | omega) only [c29, go_sem, ↓reduceIte, cs_open, b0, cs_starts, hb, List.length_map, stA, stC_len, stC_arr, Bool.false_eq_true]
  refine m_loop (fun M st => ∃ (v : Nat) (x : AV), M = 8 - v ∧ v ≤ 8 ∧ At st.env [(1, .optr 1 0 0), (5, stN N es), (7, x), (27, .agg (sr8 (sur es))), (28, .int .i64 v)] ∧ getH st.heap 1 = .cells 0 [.int .i64 N, eds es] ∧ Own 50 st.heap x .i64 (nI4 (upF (sur es) v)) ∧ 50 ≤ st.heap.length) 8 (by omega)
   ⟨0, .slice none [] true, by omega, by omega, by simp only [go_sem, ↓reduceIte], by simp only [go_sem, ↓reduceIte], own_nil .., by simp [length_setH]⟩ ?_
  rintro M e h hM ⟨v, x, rfl, hv, hE, g1, hO, hh⟩ P hP
  simp only [At_cons, At_nil] at hE g1 hO hh
  obtain ⟨f1, f5, f7, f27, f28, -⟩ := hE
  by_cases hlt : v < 8
  ·have hd : decide ((v : Int) < 8) = true := by simp; omega
   have hgv := sr8_get (sur es) hlt
   have hfl : (upF (sur es) v).length ≤ 8 := by
    have := List.length_filter_le (fun x => decide (0 < sur es x)) (List.range v)
    simp [upF] at this ⊢; omega
   have hrs := upF_succ (sur es) v
   by_cases hp : 0 < sur es v
   ·have hdp : decide (sur es v > 0) = true := by simpa using hp
    rw [if_pos hp] at hrs
    simp (disch := first | assumption | omega) only [go_sem, ↓reduceIte, f1, f5, f7, f27, f28, hlt, hd, hgv, hdp]
    refine gp_append1 (lo := 50) rfl hO hh (by rw [nI4_len]; omega) fun x' h' hO' hF hL _ _ => ?_
    simp (disch := first | assumption | omega) only [go_sem, ↓reduceIte, f1, f5, f7, f27, f28]
    exact hP (8 - (v + 1)) _ (by omega) ⟨v + 1, x', rfl, by omega, by simp only [go_sem, ↓reduceIte, f1, f5, f27], by rw [hF 1 (by omega), g1], by rw [hrs]; simpa [nI4] using hO', by simp only; omega⟩
   ·have hdp : decide (sur es v > 0) = false := by simpa using hp
    rw [if_neg hp, List.append_nil] at hrs
    simp (disch := first | assumption | omega) only [go_sem, ↓reduceIte, f1, f5, f7, f27, f28, hlt, hd, hgv, hdp, Bool.false_eq_true]
    exact hP (8 - (v + 1)) _ (by omega) ⟨v + 1, x, rfl, by omega, by simp only [go_sem, ↓reduceIte, f1, f5, f7, f27], g1, by rw [hrs]; exact hO, hh⟩
  ·obtain rfl : v = 8 := by omega
   have hd : decide ((8 : Int) < 8) = false := by decide
   have hov := ov_up (sur es) 8
   have hfl : (nI4 (upF (sur es) 8)).length ≤ 1000 := by
    rw [nI4_len]
    have := List.length_filter_le (fun x => decide (0 < sur es x)) (List.range 8)
    simp [upF] at this ⊢; omega
   have hl8 : ∀ n ∈ nI4 (upF (sur es) 8), 0 ≤ n ∧ n < 8 := fun n hn => by
    obtain ⟨y, hy, rfl⟩ := List.mem_map.1 hn
    have := List.mem_range.1 (List.mem_filter.1 hy).1
    omega
   simp (disch := first | assumption | omega) only [go_sem, ↓reduceIte, f1, f5, f7, f27, f28, hd, Bool.false_eq_true]
   refine gp_con (con_over N es (sur es) hs20 (zS es) _ hfl hl8) (by omega) (fz_cons (frz_stA _ _ _ _ _ _) (fz_cons (frz_Own hO) (fz_nil _))) (or_pb _ _) ?_
   by_cases hu : 1 < upU (sur es) 8
   ·rw [show decide (1 < upU (sur es) 8) = true by simpa using hu] at hov
    simp (disch := first | assumption | omega) only [go_sem, ↓reduceIte, f1, f5, f7, f27, f28, hov]
    refine hV _ _ ?_ (fresh_three (fresh_int _ _ _ _) (fresh_Own hO) (fresh_int _ _ _ _))
    rw [hst, prK, prL, if_pos hu, if_pos hu]
    exact frz_three (frz_int _ _ _ _) (frz_Own hO) (frz_int _ _ _ _)
   ·rw [show decide (1 < upU (sur es) 8) = false by simpa using hu] at hov
    have hpos : 0 < es.length := List.length_pos_iff.2 h0
    have hg := ed_get hpos
    have hroot : es[0].1 = rootE es := by cases es with | nil => exact absurd rfl h0 | cons q r => rfl
    have hr8 : rootE es < 8 := by rw [← hroot]; exact (hn8 _ (List.getElem_mem hpos)).1
    generalize hqd : es[0] = q at *
    obtain ⟨qa, qb⟩ := q
    simp only at hroot
    simp only [edA] at hg
    rw [hroot] at hg
    simp (disch := first | assumption | omega) only [go_sem, ↓reduceIte, f1, f5, f7, f27, f28, hov, g1, hg, hpos, Bool.false_eq_true]
    refine gp_of (raw_part N es (sur es) (zS es) (rootE es) hl20 hn8 hr8 n (by omega) _ fun v x h' hO2 hvx => ?_)
    simp (disch := first | assumption | omega) only [go_sem, ↓reduceIte]
    refine hV _ _ ?_ (fresh_three (fresh_int _ _ _ _) (fresh_OwnC hO2 hvx) (fresh_int _ _ _ _))
    rw [hst, prK, prL, if_neg hu, if_neg hu]
    exact frz_three (frz_int _ _ _ _) (frz_OwnC hO2 hvx) (frz_int _ _ _ _)
 ·have hb : decide (((nI4 (strL N es)).length : Int) > 0) = true := by
   have := List.length_pos_iff.2 hs
   rw [nI4_len]; simp; omega
  simp (disch := first | assumption | omega) only [c29, go_sem, ↓reduceIte, cs_open, b0, cs_starts, hb, List.length_map, Bool.false_eq_true]
  rw [prA, if_neg hs] at hV
  exact hV _ _ (frz_three (frz_int _ _ _ _) (frz_slice _ _ _ _ _) (frz_int _ _ _ _)) (fresh_three (fresh_int _ _ _ _) (fresh_nil _ _ _ _) (fresh_int _ _ _ _))
theorem con_refPr (N : Nat) (es : List Ed) (kind : Int) (l : List Int) (hk : OkB N es) (hl : l.length ≤ 1000) : Con T 3 32 [bkA (bkN N es), .int .i64 kind, ints l] (.int .i64 (ckPN N es kind l)) := by
 by_cases h1 : kind = 1
 ·subst h1; exact con_refProof1 N es l hk hl
 ·by_cases h2 : kind = 2
  ·subst h2; exact con_refProof2 N es l hk hl
  ·refine con_intro t32 fun n hn V hV => ?_
   have b0 : ((0 : Int) != 0) = false := rfl
   have d1 : (kind != 1) = true := by simpa using h1
   have d2 : (kind != 2) = true := by simpa using h2
   rw [bkN_A]
   simp (disch := first | assumption | omega) only [c32, go_sem, ↓reduceIte, cs_refOk, b0, d1, d2, Bool.false_eq_true]
   exact hV _ _ (by rw [frz_int, ckPN, if_pos ⟨h1, h2⟩])
end Go.Ev.YtjcabpldgdafeaaC
