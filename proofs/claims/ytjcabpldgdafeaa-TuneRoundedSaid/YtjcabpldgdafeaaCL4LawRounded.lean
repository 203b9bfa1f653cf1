/- The law TuneRounded answers true: one more slur from where tunes end to where they begin. No condition but those that stand in each. -/
import Derived.Test.YtjcabpldgdafeaaCL4Fn12
import Derived.Test.YtjcabpldgdafeaaCL4App
set_option linter.unusedSimpArgs false
set_option linter.unusedVariables false
namespace Go.Ev.YtjcabpldgdafeaaC
open Go Go.Proofs Go.Ev
attribute [local irreducible] Res.all evC evLoop evOps evOper evOp evFn evCall freeze G GO GV GP GC R
set_option maxRecDepth 100000
set_option maxHeartbeats 2000000 in
theorem tuneRounded_at (n40 : Nat) (hn : n40 = 20000) (b : Bk) (hw : BkWf b) : (evFn (evCall T n40) c12 [bkA b] []).all fun p => p.1 = .bool true := by
 rw [m_fn]
 have h21 : 21 ≤ n40 := by omega
 have h4 : 4 ≤ n40 := by omega
 have h3 : 3 ≤ n40 := by omega
 have e00 : ((0 : Int) == 0) = true := rfl
 by_cases hf : fineB b = true
 ·obtain ⟨hc, h11'⟩ := fine_ok hf
  obtain ⟨N, es, rfl, hk⟩ := chk_ok hc
  have h11' : es.length ≤ 11 := by simpa [bkN] using h11'
  have hsl : (bkN N es).slurs.length = es.length := by simp [bkN]
  by_cases h10 : es.length > 10
  ·have d2 : decide (((bkN N es).slurs.length : Int) > 10) = true := by rw [decide_eq_true_eq, hsl]; omega
   simp (disch := first | assumption | omega) only [c12, go_sem, ↓reduceIte, cs_fine, hf, d2, cs_Works hn]
  have d2 : decide (((bkN N es).slurs.length : Int) > 10) = false := by rw [decide_eq_false_iff_not, hsl]; omega
  have k1 := con_counted hk h11'
  by_cases hs : strL N es = []
  ·have ht := tuL_none hk hs
   have hcn := cnt_none hk hs
   have hz : nI4 [] = [] := rfl
   rw [ht, hcn, hz] at k1
   simp (disch := first | assumption | omega) only [c12, go_sem, ↓reduceIte, cs_fine, hf, d2, gp_bk k1 h21, e00, cs_Works hn]
  ·obtain ⟨t1, t2, t3, b, t4⟩ := tuL_ok hk hs
   have hck := trail_ck hk t1 t2 t3 t4
   obtain ⟨a, r, ha, hr, hcr, hast, hh, hsu⟩ := ck_need hk (t := nI4 (tuL es)) (by rw [hck])
   have k10 := con_refTune (bkN N es) (nI4 (tuL es)) (by simp [bkN]; omega) (by rw [nI4_len]; omega)
   unfold ckA at k10
   rw [hcr] at k10
   have hcn := cnt_some hk hs
   have d4 : (cntT es == 0) = false := by rw [beq_eq_false_iff_ne]; omega
   obtain ⟨tl, htl⟩ : ∃ tl, tl = nI4 (tuL es) := ⟨_, rfl⟩
   rw [← htl] at k1 k10
   by_cases har : a = r
   ·have dar : ((a : Int) == (r : Int)) = true := by rw [har]; simp
    simp (disch := first | assumption | omega) only [c12, go_sem, ↓reduceIte, cs_fine, hf, d2, gp_bk k1 h21, d4, gp_bkI k10 h3, dar, cs_Works hn]
   ·have dar : ((a : Int) == (r : Int)) = false := by rw [beq_eq_false_iff_ne]; omega
    obtain ⟨_, hor⟩ := str_some hs
    have hu1 : upU (sur es) 8 = 1 := by
     rcases hor with h | h
     ·exact absurd ((closed_iff hsu).2 fun x => by have := up_zero hk.lt8 h x; rw [sur_def]; omega) har
     ·exact h
    have hst := str_one hs hu1
    rw [hst] at hast
    have haa := List.mem_singleton.1 hast
    obtain ⟨_, _, u3, u4⟩ := up_one hk.lt8 hu1
    have hre : endU es = r := by
     have q1 := hsu r
     have q2 := u4 r
     rw [if_neg har, if_pos rfl] at q1
     apply Classical.byContradiction
     intro hne
     rw [if_neg hne] at q2
     split at q2 <;> omega
    obtain ⟨xs, hxs⟩ : ∃ xs, xs = es ++ [(r, a)] := ⟨_, rfl⟩
    have hkx : OkB N xs := by rw [hxs]; exact ok_ext hk ⟨hr, ha⟩ (by omega)
    have hxl : xs.length = es.length + 1 := by rw [hxs, List.length_append, List.length_singleton]
    have hbx : Bal xs := by rw [hxs, haa, ← hre]; exact bal_perm (List.perm_append_comm (l₁ := [_])) (bal_ext hk.lt8 hu1)
    have hod : od es a ≠ 0 := fun ho => by
     have q := hsu a
     rw [sur_def, ho, if_pos rfl, if_neg fun e => har e.symm] at q
     omega
    have hhx : Hang xs := by rw [hxs]; exact hang_perm (List.perm_append_comm (l₁ := [_])) (hang_ext hh hod)
    have hsx : ∀ x, sur xs x = 0 := fun x => by have := hbx x; rw [sur_def]; omega
    have hstx := bal_str' hkx hhx hsx
    have hcx : cntT xs = cntT es * (xs.length : Nat) := by
     rw [cnt_bal hkx hstx (up0_of hsx), cnt_open hk hs hu1, hxs, haa, hre]
    have kx := conF_counted hkx (by omega)
    obtain ⟨s1, s2, s3, b', s4⟩ := tuL_ok hkx hstx
    have hckx := trail_ck hkx s1 s2 s3 s4
    obtain ⟨a', r', _, _, hcrx, _, _, hsux⟩ := ck_need hkx (t := nI4 (tuL xs)) (by rw [hckx])
    have har' := (closed_iff hsux).2 hsx
    have kx2 := con_refTune (bkN N xs) (nI4 (tuL xs)) (by simp [bkN]; omega) (by rw [nI4_len]; omega)
    unfold ckA at kx2
    rw [hcrx, ← har'] at kx2
    rw [bkN_A] at kx kx2
    have hbox : -9223372036854775808 ≤ cntT es * (xs.length : Nat) ∧ cntT es * (xs.length : Nat) ≤ 9223372036854775807 := by
     rw [← hcx]
     have := cnt_11 hkx (by omega)
     omega
    have nem : (cntT es * ((xs.length : Nat) : Int) != cntT es * ((xs.length : Nat) : Int)) = false := by simp
    rw [hcx] at kx
    have eaa : ((a' : Int) == (a' : Int)) = true := beq_self_eq_true _
    have hne := hk.ne
    have hmul : es.length * 16 ≤ 1099511627776 := by omega
    have hmul2 : (es.length + 1) * 16 ≤ 1099511627776 := by omega
    simp (disch := first | assumption | omega) only [c12, go_sem, ↓reduceIte, cs_fine, hf, d2, gp_bk k1 h21, d4, gp_bkI k10 h3, dar]
    have hE : List.map (fun _ => AV.agg []) (List.range 0) = [] := rfl
    have hp : prs (bkN N es).slurs = .slice (some 2) (es.map edA) false := by simp only [prs, bkN, map_eI]
    have hs1 : List.map (fun i => AV.agg (List.take 2 (List.drop (i * 2) [AV.int IntKind.i64 (r : Int), AV.int IntKind.i64 (a : Int)]))) (List.range 0 ++ [0]) = [(r, a)].map edA := rfl
    have hm2 : (es.length + [((r, a) : Ed)].length) * 16 ≤ 1099511627776 := hmul2
    refine ⟨rfl, rfl, ?_, ?_⟩
    ·rw [hp]; simp [lateB, frozenB, hE]
    rw [hE, hp, app_fst hne hmul]
    simp (disch := first | assumption | omega) only [go_sem, ↓reduceIte, hs1]
    refine ⟨by simp [lateB, frozenB], ?_⟩
    rw [show [edA (r, a)] = [(r, a)].map edA from rfl, app_own (l := es) (ver := 0) (l2 := [(r, a)]) (getH_setH_self _ _ _) (by simp) hm2, ← hxs]
    simp (disch := first | assumption | omega) only [go_sem, ↓reduceIte]
    have hnN : (bkN N es).notes = (N : Int) := rfl
    rw [hnN]
    refine gpF_con kx h21 (fz_ob (es := xs) (ver := 1) (key := 93) (by simp only [go_sem, ↓reduceIte]) rfl (fz_nil _)) ?_
    simp (disch := first | assumption | omega) only [go_sem, ↓reduceIte]
    rw [nem, if_neg Bool.false_ne_true, gp_eq kx2 h3 (fz_ob (es := xs) (ver := 1) (key := 93) (by simp only [go_sem, ↓reduceIte]) rfl (fz_slice _ _ _ _ (fz_nil _))) rfl]
    simp (config := { maxSteps := 5000000 }) (disch := first | assumption | omega) only [go_sem, ↓reduceIte, eaa, e00, cs_Works hn]
 ·have hf' : fineB b = false := by simpa using hf
  simp (disch := first | assumption | omega) only [c12, go_sem, ↓reduceIte, cs_fine, hf', cs_Works hn]
def tuneRounded_n : Nat := 20000
theorem tuneRounded_ev (b : Bk) (hw : BkWf b) : (evFn (evCall T tuneRounded_n) c12 [bkA b] []).all fun p => p.1 = .bool true := tuneRounded_at _ rfl b hw
end Go.Ev.YtjcabpldgdafeaaC
