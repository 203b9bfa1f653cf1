/- The law TuneBegun answers true: with which notes tunes begin. No condition but those that stand in each. -/
import Derived.Test.YtjcabpldgdafeaaBL4Fn9
import Derived.Test.YtjcabpldgdafeaaBL4Tnl
set_option linter.unusedSimpArgs false
set_option linter.unusedVariables false
namespace Go.Ev.YtjcabpldgdafeaaC
open Go Go.Proofs
def bgB (es : List Ed) (x : Nat) : Bool := es.any fun q => decide (q.1 = x)
def bgC (es : List Ed) (v : Nat) : List Nat := (List.range v).filter (bgB es)
theorem bgC_succ (es : List Ed) (v : Nat) : (bgC es (v + 1)).length = (bgC es v).length + if bgB es v = true then 1 else 0 := by
 unfold bgC
 rw [List.range_succ, List.filter_append, List.length_append]
 congr 1
 by_cases h : bgB es v = true
 ·rw [if_pos h, List.filter_cons, if_pos h]; rfl
 ·rw [if_neg h, List.filter_cons, if_neg h]; rfl
theorem any_take {es : List Ed} {p : Ed → Bool} {i : Nat} (h : i < es.length) : (es.take (i + 1)).any p = ((es.take i).any p || p es[i]) := by
 rw [List.take_succ_eq_append_getElem h, List.any_append]; simp
theorem str_bal {N : Nat} {es : List Ed} (h : strL N es ≠ []) (hu : upU (sur es) 8 = 0) : strL N es = bgC es N := by
 obtain ⟨h1, _⟩ := str_some h
 unfold strL
 rw [if_neg (by rw [h1]; decide), if_pos hu]
 rfl
attribute [local irreducible] Res.all evC evLoop evOps evOper evOp evFn evCall freeze G GO GV GP GC R
set_option maxRecDepth 100000
set_option maxHeartbeats 4000000 in
theorem tuneBegun_at (n40 : Nat) (hn : n40 = 20000) (b : Bk) (hw : BkWf b) : (evFn (evCall T n40) c9 [bkA b] []).all fun p => p.1 = .bool true := by
 rw [m_fn]
 have h21 : 21 ≤ n40 := by omega
 have h20 : 20 ≤ n40 := by omega
 have h4 : 4 ≤ n40 := by omega
 have h3 : 3 ≤ n40 := by omega
 have h1 : 1 ≤ n40 := by omega
 have e00 : ((0 : Int) == 0) = true := rfl
 have b00 : ((0 : Int) != 0) = false := rfl
 by_cases hf : fineB b = true
 ·obtain ⟨hc, h11'⟩ := fine_ok hf
  obtain ⟨N, es, rfl, hk⟩ := chk_ok hc
  have h11' : es.length ≤ 11 := by simpa [bkN] using h11'
  have hn8 := hk.n8
  have k1 := con_counted hk h11'
  have k2 := con_Starts N es hk
  have hA := bkN_A N es
  have hbk : (bkN N es).slurs.map pA = es.map edA := map_eI es
  have hbn : (bkN N es).notes = (N : Int) := rfl
  have hsl : (nI4 (strL N es)).length ≤ N := by
   rw [nI4_len]
   have := List.Nodup.length_le_of_subset (l₂ := List.range N) (strL_nodup N es) fun x hx => List.mem_range.2 (by
    rw [str_filter hk] at hx
    exact List.mem_range.1 (List.mem_filter.1 hx).1)
   simpa using this
  have d1 : decide (((nI4 (strL N es)).length : Int) > (bkN N es).notes) = false := by rw [decide_eq_false_iff_not, hbn]; omega
  by_cases hs : strL N es = []
  ·have ht := tuL_none hk hs
   have hcn := cnt_none hk hs
   have hz : nI4 [] = [] := rfl
   have q0 : ((false == false) != true) = false := rfl
   have d0 : decide ((0 : Int) > 0) = false := rfl
   have d2 : decide ((0 : Int) > (bkN N es).notes) = false := by rw [decide_eq_false_iff_not, hbn]; omega
   rw [ht, hcn, hz] at k1
   rw [hs, hz] at k2
   simp (disch := first | assumption | omega) only [c9, go_sem, ↓reduceIte, cs_fine, hf, gp_bk k1 h21, gp_bk k2 h20, b00, d2, d0, q0, e00, cs_Works hn, List.length_nil]
  ·obtain ⟨t1, t2, t3, b, t4⟩ := tuL_ok hk hs
   have hck := trail_ck hk t1 t2 t3 t4
   obtain ⟨a, r, _, _, hcr, hast, hh, hsu⟩ := ck_need hk (t := nI4 (tuL es)) (by rw [hck])
   have k10 := con_refTune (bkN N es) (nI4 (tuL es)) (by simp [bkN]; omega) (by rw [nI4_len]; omega)
   unfold ckA at k10
   rw [hcr] at k10
   have hcl2 := closed_iff hsu
   have hcn := cnt_some hk hs
   have d3 : decide (cntT es > 0) = true := by rw [decide_eq_true_eq]; exact hcn
   have d4 : (cntT es == 0) = false := by rw [beq_eq_false_iff_ne]; omega
   have hslp : 0 < (strL N es).length := List.length_pos_iff.2 hs
   have d5 : decide (((nI4 (strL N es)).length : Int) > 0) = true := by rw [decide_eq_true_eq, nI4_len]; omega
   have q1 : ((true == true) != true) = false := rfl
   obtain ⟨tl, htl⟩ : ∃ tl, tl = nI4 (tuL es) := ⟨_, rfl⟩
   rw [← htl] at k1 k10
   obtain ⟨_, hor⟩ := str_some hs
   by_cases hu : upU (sur es) 8 = 0
   ·have hb := up_zero hk.lt8 hu
    have h0 : ∀ x, sur es x = 0 := fun x => by have := hb x; rw [sur_def]; omega
    have har := hcl2.2 h0
    have dar : ((a : Int) != (r : Int)) = false := by rw [har]; simp
    have hst := str_bal hs hu
    have hcb := cnt_bal hk hs hu
    have hrem : binA .rem (.int .i64 (cntT es)) (.int .i64 es.length) = .ret (.int .i64 0) := by
     have hpos : 0 < es.length := List.length_pos_iff.2 hk.ne
     rw [b_remI (by omega) (by omega), hcb, Int.mul_emod_left]
    rw [hst] at k2 d1 d5 hsl
    obtain ⟨sl, hsl2⟩ : ∃ sl, sl = nI4 (bgC es N) := ⟨_, rfl⟩
    rw [← hsl2] at k2 d1 d5 hsl
    simp (disch := first | assumption | omega) only [c9, go_sem, ↓reduceIte, cs_fine, hf, gp_bk k1 h21, gp_bk k2 h20, b00, d1, d3, d4, d5, q1, gp_bkI k10 h3, dar]
    refine m_loop (fun M st => ∃ x : Nat, M = N - x ∧ x ≤ N ∧ At st.env [(1, .optr 1 0 0), (3, .int .i64 (cntT es)), (6, ints sl), (11, .int .i64 (bgC es x).length), (12, .int .i64 x)] ∧ getH st.heap 1 = .cells 0 [.int .i64 N, eds es]) N (by omega)
     ⟨0, by omega, by omega, by simp only [go_sem, ↓reduceIte]; rfl, by
      simp only [go_sem, ↓reduceIte]
      show AObj.cells 0 [.int .i64 N, .slice (some 2) ((es.map eI).map pA) false] = _
      rw [map_eI]⟩ ?_
    rintro M e h hM ⟨x, rfl, hx, hE, g1⟩ P hP
    simp only [At_cons, At_nil] at hE g1
    obtain ⟨f1, f3, f6, f11, f12, -⟩ := hE
    by_cases hlt : x < N
    ·simp (disch := first | assumption | omega) only [go_sem, ↓reduceIte, f1, f3, f6, f11, f12, g1, hlt]
     refine m_loop (fun M st => ∃ y : Nat, M = es.length - y ∧ y ≤ es.length ∧ At st.env [(1, .optr 1 0 0), (3, .int .i64 (cntT es)), (6, ints sl), (11, .int .i64 (bgC es x).length), (12, .int .i64 x), (13, .bool ((es.take y).any fun q => decide (q.1 = x))), (14, .int .i64 y)] ∧ getH st.heap 1 = .cells 0 [.int .i64 N, eds es]) es.length (by omega)
      ⟨0, by omega, by omega, by simp only [go_sem, ↓reduceIte, f1, f3, f6, f11, f12]; rfl, g1⟩ ?_
     clear g1 f1 f3 f6 f11 f12
     rintro M e2 h2 hM2 ⟨y, rfl, hy, hE, g1⟩ P2 hP2
     simp only [At_cons, At_nil] at hE g1
     obtain ⟨f1, f3, f6, f11, f12, f13, f14, -⟩ := hE
     by_cases hlt2 : y < es.length
     ·have hg := ed_get hlt2
      have hat := any_take (p := fun q => decide (q.1 = x)) hlt2
      generalize hqd : es[y] = q at *
      obtain ⟨qa, qb⟩ := q
      simp only [edA] at hg
      simp only at hat
      cases hB : (es.take y).any fun q => decide (q.1 = x) with
      | true =>
       rw [hB] at f13
       rw [hB, Bool.true_or] at hat
       simp (disch := first | assumption | omega) only [go_sem, ↓reduceIte, f1, f3, f6, f11, f12, f13, f14, g1, hlt2]
       exact hP2 (es.length - (y + 1)) _ (by omega) ⟨y + 1, rfl, by omega, by simp only [go_sem, ↓reduceIte, f1, f3, f6, f11, f12, hat], g1⟩
      | false =>
       rw [hB] at f13
       rw [hB, Bool.false_or] at hat
       have heq : ((qa : Int) == (x : Int)) = decide (qa = x) := by rw [Bool.eq_iff_iff]; simp; omega
       simp (disch := first | assumption | omega) only [go_sem, ↓reduceIte, f1, f3, f6, f11, f12, f13, f14, g1, hlt2, hg, ixAA_ptr, heq]
       exact hP2 (es.length - (y + 1)) _ (by omega) ⟨y + 1, rfl, by omega, by simp only [go_sem, ↓reduceIte, f1, f3, f6, f11, f12, hat], g1⟩
     ·obtain rfl : y = es.length := by omega
      rw [List.take_length] at f13
      have hsll : sl.length ≤ 1000 := by omega
      have hhas := con_Has sl (x : Int) hsll
      have hsc : sl.contains (x : Int) = bgB es x := by
       rw [hsl2, Bool.eq_iff_iff, List.contains_iff_mem, mem_nI4]
       simp [bgC, List.mem_filter, hlt]
      rw [hsc] at hhas
      have z1 : ∀ {base : Nat} {Q : EX × St → Prop} {d : Option Nat} {L : List IOper} {ks : List Kont} {e : Env} {h : Heap} {y : Bool}, GP (evCall T n40) base Q d L ks e (evCall T n40 false (.fn 43) [.slice none (sl.map (.int .i64)) y, .int .i64 (x : Int)] h) = GO (evCall T n40) base Q L ks ⟨setDst e d (.bool (bgB es x)), h⟩ := gp_eq hhas h1 (fz_slice _ _ _ _ (fz_int _ _ _ (fz_nil _))) (or_pb _ _)
      have hbx : (es.any fun q => decide (q.1 = x)) = bgB es x := rfl
      have hcs := bgC_succ es x
      rw [hbx] at f13
      have hcl3 : (bgC es x).length ≤ x := by
       have := List.length_filter_le (bgB es) (List.range x)
       simpa [bgC] using this
      cases hB : bgB es x with
      | true =>
       rw [hB] at f13 z1
       rw [hB, if_pos rfl] at hcs
       simp (disch := first | assumption | omega) only [go_sem, ↓reduceIte, f1, f3, f6, f11, f12, f13, f14, g1, hlt2, z1, q1]
       exact hP (N - (x + 1)) _ (by omega) ⟨x + 1, rfl, by omega, by simp only [go_sem, ↓reduceIte, f1, f3, f6, hcs], g1⟩
      | false =>
       rw [hB] at f13 z1
       rw [hB, if_neg (by decide)] at hcs
       have q2 : ((false == false) != true) = false := rfl
       simp (disch := first | assumption | omega) only [go_sem, ↓reduceIte, f1, f3, f6, f11, f12, f13, f14, g1, hlt2, z1, q2]
       exact hP (N - (x + 1)) _ (by omega) ⟨x + 1, rfl, by omega, by simp only [go_sem, ↓reduceIte, f1, f3, f6, f11, hcs], g1⟩
    ·obtain rfl : N = x := by omega
     have hll : (((bgC es N).length : Int) == (sl.length : Int)) = true := by rw [hsl2, nI4_len]; simp
     simp (disch := first | assumption | omega) only [go_sem, ↓reduceIte, f1, f3, f6, f11, f12, g1, hlt, hll, hrem, e00, cs_Works hn]
   ·have hu1 : upU (sur es) 8 = 1 := by rcases hor with h | h; exact absurd h hu; exact h
    have hst := str_one hs hu1
    have har : a ≠ r := fun h => hu (by
     have h0 := hcl2.1 h
     have : ∀ v, upU (sur es) v = 0 := fun v => by
      induction v with
      | zero => rfl
      | succ v ih => simp only [upU, ih, h0]; rfl
     exact this 8)
    have dar : ((a : Int) != (r : Int)) = true := by rw [bne_iff_ne]; omega
    rw [hst] at hast k2 d1
    have haa := List.mem_singleton.1 hast
    rw [← haa] at k2 d1
    have hz : nI4 [a] = [(a : Int)] := rfl
    rw [hz] at k2 d1
    have e11 : ((1 : Int) == 1) = true := rfl
    have d6 : decide ((1 : Int) > 0) = true := rfl
    have d7 : decide ((1 : Int) > (bkN N es).notes) = false := d1
    have eaa : ((a : Int) == (a : Int)) = true := beq_self_eq_true _
    simp (disch := first | assumption | omega) only [c9, go_sem, ↓reduceIte, cs_fine, hf, gp_bk k1 h21, gp_bk k2 h20, b00, d7, d3, d4, d6, q1, gp_bkI k10 h3, dar, e11, eaa, cs_Works hn]
 ·have hf' : fineB b = false := by simpa using hf
  simp (disch := first | assumption | omega) only [c9, go_sem, ↓reduceIte, cs_fine, hf', cs_Works hn]
def tuneBegun_n : Nat := 20000
theorem tuneBegun_ev (b : Bk) (hw : BkWf b) : (evFn (evCall T tuneBegun_n) c9 [bkA b] []).all fun p => p.1 = .bool true := tuneBegun_at _ rfl b hw
end Go.Ev.YtjcabpldgdafeaaC
