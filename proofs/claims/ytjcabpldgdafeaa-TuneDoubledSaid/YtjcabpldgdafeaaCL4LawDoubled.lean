/- The law TuneDoubled answers true: a book and all its slurs backward. No condition but those that stand in each. -/
import Derived.Test.YtjcabpldgdafeaaCL4Fn13
import Derived.Test.YtjcabpldgdafeaaCL4App
import Derived.Test.YtjcabpldgdafeaaCL4LawProved
import Derived.Test.YtjcabpldgdafeaaCL4LawProofs
set_option linter.unusedSimpArgs false
set_option linter.unusedVariables false
namespace Go.Ev.YtjcabpldgdafeaaC
open Go Go.Proofs Go.Ev
theorem od_rv (es : List Ed) (x : Nat) : od (es.map rvE) x = idg es x := by unfold od idg; rw [List.countP_map]; rfl
theorem idg_rv (es : List Ed) (x : Nat) : idg (es.map rvE) x = od es x := by unfold od idg; rw [List.countP_map]; rfl
theorem ok_dbl {N : Nat} {es : List Ed} (hk : OkB N es) (hl : es.length ≤ 7) : OkB N (es ++ es.map rvE) where
 n1 := hk.n1
 n8 := hk.n8
 ne := by simp [hk.ne]
 le := by rw [List.length_append, List.length_map]; omega
 lt := fun p hp => by
  rcases List.mem_append.1 hp with hp | hp
  ·exact hk.lt p hp
  ·obtain ⟨q, hq, rfl⟩ := List.mem_map.1 hp
   exact ⟨(hk.lt q hq).2, (hk.lt q hq).1⟩
theorem sur_dbl (es : List Ed) (x : Nat) : sur (es ++ es.map rvE) x = 0 := by
 have h1 : od (es ++ es.map rvE) x = od es x + idg es x := by rw [← od_rv]; exact List.countP_append
 have h2 : idg (es ++ es.map rvE) x = idg es x + od es x := by rw [← idg_rv]; exact List.countP_append
 rw [sur_def, h1, h2]; omega
theorem clo_dbl {es : List Ed} (h : Hang (es ++ es.map rvE)) : Clo (es ++ es.map rvE) := by
 have key : ∀ p : Nat → Bool, (∀ g ∈ es ++ es.map rvE, p g.1 = true → p g.2 = true) → ∀ e ∈ es ++ es.map rvE, ∀ f ∈ es ++ es.map rvE, p e.1 = p f.1 ∧ p e.1 = p e.2 := fun p hp => by
  have hq : ∀ g ∈ es ++ es.map rvE, p g.1 = p g.2 := fun g hg => by
   have h1 := hp g hg
   have h2 : p g.2 = true → p g.1 = true := by
    rcases List.mem_append.1 hg with hg | hg
    ·exact hp (rvE g) (List.mem_append.2 (.inr (List.mem_map_of_mem hg)))
    ·obtain ⟨q, hq, rfl⟩ := List.mem_map.1 hg
     exact hp q (List.mem_append.2 (.inl hq))
   cases h3 : p g.1 <;> cases h4 : p g.2 <;> simp_all
  exact fun e he f hf => ⟨h p hq e he f hf, hq e he⟩
 intro e he f hf
 refine ⟨fun p hp hx => ?_, fun p hp hx => ?_, fun p hp hx => ?_, fun p hp hx => ?_⟩
 ·rw [← (key p hp e he f hf).1]; exact hx
 ·rw [← (key p hp f hf e he).2, ← (key p hp e he f hf).1]; exact hx
 ·rw [← (key p hp e he f hf).1, (key p hp e he f hf).2]; exact hx
 ·rw [← (key p hp f hf e he).2, ← (key p hp e he f hf).1, (key p hp e he f hf).2]; exact hx
attribute [local irreducible] Res.all evC evLoop evOps evOper evOp evFn evCall freeze G GO GV GP GC R
set_option maxRecDepth 100000
set_option maxHeartbeats 2000000 in
theorem tuneDoubled_at (n40 : Nat) (hn : n40 = 20000) (b : Bk) (hw : BkWf b) : (evFn (evCall T n40) c13 [bkA b] []).all fun p => p.1 = .bool true := by
 rw [m_fn]
 have h21 : 21 ≤ n40 := by omega
 have h20 : 20 ≤ n40 := by omega
 have h14 : 14 ≤ n40 := by omega
 have h10 : 10 ≤ n40 := by omega
 have h3 : 3 ≤ n40 := by omega
 have e00 : ((0 : Int) == 0) = true := rfl
 have e22 : ((2 : Int) == 2) = true := rfl
 have e55 : ((5 : Int) == 5) = true := rfl
 have em1 : ((-1 : Int) == -1) = true := rfl
 by_cases hf : fineB b = true
 ·obtain ⟨hc, h11'⟩ := fine_ok hf
  obtain ⟨N, es, rfl, hk⟩ := chk_ok hc
  have hsl : (bkN N es).slurs.length = es.length := by simp [bkN]
  by_cases h10' : es.length > 5
  ·have d2 : decide (((bkN N es).slurs.length : Int) > 5) = true := by rw [decide_eq_true_eq, hsl]; omega
   simp (disch := first | assumption | omega) only [c13, go_sem, ↓reduceIte, cs_fine, hf, d2, cs_Works hn]
  have d2 : decide (((bkN N es).slurs.length : Int) > 5) = false := by rw [decide_eq_false_iff_not, hsl]; omega
  have hne := hk.ne
  have hmul : es.length * 16 ≤ 1099511627776 := by omega
  have hE : List.map (fun _ => AV.agg []) (List.range 0) = [] := rfl
  have hp : prs (bkN N es).slurs = .slice (some 2) (es.map edA) false := by simp only [prs, bkN, map_eI]
  simp (disch := first | assumption | omega) only [c13, go_sem, ↓reduceIte, cs_fine, hf, d2]
  refine ⟨rfl, rfl, ?_, ?_⟩
  ·rw [hp]; simp [lateB, frozenB, hE]
  rw [hE, hp, app_fst hne hmul]
  simp (disch := first | assumption | omega) only [go_sem, ↓reduceIte]
  have hnN : (bkN N es).notes = (N : Int) := rfl
  rw [hnN]
  refine m_loop (fun M st => ∃ i : Nat, M = es.length - i ∧ i ≤ es.length ∧ At st.env [(1, .optr 1 0 0), (3, .optr 3 0 0), (4, .int .i64 i)] ∧ getH st.heap 1 = .cells 0 [.int .i64 N, eds es] ∧ getH st.heap 3 = .cells 0 [.int .i64 N, .oslice 128 i (some 2) 0 (es ++ (es.take i).map rvE).length none] ∧ getH st.heap 128 = .cells i (edCs (es ++ (es.take i).map rvE))) es.length (by omega)
   ⟨0, by omega, by omega, by simp only [go_sem, ↓reduceIte], by simp only [go_sem, ↓reduceIte], by simp only [go_sem, ↓reduceIte, List.take_zero, List.map_nil, List.append_nil], by simp only [go_sem, ↓reduceIte, List.take_zero, List.map_nil, List.append_nil]⟩ ?_
  rintro M e h hM ⟨i, rfl, hi, hE, g1, g3, g8⟩ P hP
  simp only [At_cons, At_nil] at hE g1 g3 g8
  obtain ⟨f1, f3, f4, -⟩ := hE
  by_cases hlt : i < es.length
  ·have hg := ed_get hlt
   have htk : es ++ (es.take (i + 1)).map rvE = (es ++ (es.take i).map rvE) ++ [rvE es[i]] := by
    rw [List.take_add_one, List.getElem?_eq_getElem hlt, List.map_append, List.append_assoc]
    rfl
   generalize hqd : es[i] = q at *
   obtain ⟨qa, qb⟩ := q
   simp only [edA] at hg
   have hs1 : List.map (fun i => AV.agg (List.take 2 (List.drop (i * 2) [AV.int IntKind.i64 (qb : Int), AV.int IntKind.i64 (qa : Int)]))) (List.range 0 ++ [0]) = [(qb, qa)].map edA := rfl
   have hm2 : ((es ++ (es.take i).map rvE).length + [((qb, qa) : Ed)].length) * 16 ≤ 1099511627776 := by
    simp only [List.length_append, List.length_map, List.length_take, List.length_singleton]; omega
   obtain ⟨X, hX⟩ : ∃ X, X = es ++ (es.take i).map rvE := ⟨_, rfl⟩
   rw [← hX] at g3 g8 htk hm2
   simp (disch := first | assumption | omega) only [go_sem, ↓reduceIte, f1, f3, f4, g1, g3, hlt, hg, ixAA_ptr]
   rw [hs1, app_own (l2 := [(qb, qa)]) g8 (by simp) hm2, show X ++ [(qb, qa)] = es ++ (es.take (i + 1)).map rvE from htk.symm]
   obtain ⟨Y, hY⟩ : ∃ Y, Y = es ++ (es.take (i + 1)).map rvE := ⟨_, rfl⟩
   rw [← hY]
   simp (disch := first | assumption | omega) only [go_sem, ↓reduceIte, f1, f3, f4, g1, g3, g8]
   exact hP (es.length - (i + 1)) _ (by omega) ⟨i + 1, rfl, by omega, by simp only [go_sem, ↓reduceIte, f1, f3, f4], by simp only [go_sem, ↓reduceIte, g1], by rw [← hY]; simp only [go_sem, ↓reduceIte], by rw [← hY]; simp only [go_sem, ↓reduceIte]⟩
  ·obtain rfl : i = es.length := by omega
   rw [List.take_length] at g3 g8
   obtain ⟨D, hD⟩ : ∃ D, D = es ++ es.map rvE := ⟨_, rfl⟩
   have hDl : D.length = es.length + es.length := by rw [hD, List.length_append, List.length_map]
   have hkD : OkB N D := by rw [hD]; exact ok_dbl hk (by omega)
   have hs0 : ∀ x, sur D x = 0 := fun x => by rw [hD]; exact sur_dbl es x
   have hcd : Hang D → Clo D := by rw [hD]; exact clo_dbl
   rw [← hD] at g3 g8
   have kx := conF_counted hkD (by omega)
   have ky := conF_Proof N D hkD
   have kz := con_lagain hkD
   rw [bkN_A] at kx ky kz
   simp (disch := first | assumption | omega) only [go_sem, ↓reduceIte, f1, f3, f4, g1, g3, hlt]
   refine gpF_con kx h21 (fz_ob g8 rfl (fz_nil _)) ?_
   simp (disch := first | assumption | omega) only [go_sem, ↓reduceIte, f1, f3, f4, g1, g3, hlt]
   refine gpF_con ky h20 (fz_ob g8 rfl (fz_nil _)) ?_
   by_cases hs : strL N D = []
   ·have hnh : ¬ Hang D := fun hh => bal_str' hkD hh hs0 hs
    have hcl : cloB D = false := by
     cases hq : cloB D with
     | false => rfl
     | true => exact absurd (clo_hang (cloB_iff.1 hq)) hnh
    have hag : agV N D = -1 := by unfold agV; rw [hcl]; rfl
    have hcn := cnt_none hkD hs
    have kw := con_refPr N D 2 (nI4 (prL D)) hkD (by rw [nI4_len]; have := prL_len D; omega)
    have hpk : prK D = 2 := by unfold prK; rw [up0_of hs0]; rfl
    have hpo := pr_ok hkD hs
    rw [hpk] at hpo
    rw [hpo, bkN_A] at kw
    rw [prA, if_pos hs, hpk]
    rw [hag] at kz
    rw [hcn]
    simp (disch := first | assumption | omega) only [go_sem, ↓reduceIte, f1, f3, f4, g1, g3]
    rw [gp_eq kz h14 (fz_ob g8 rfl (fz_nil _)) rfl]
    simp (config := { maxSteps := 5000000 }) (disch := first | assumption | omega) only [go_sem, ↓reduceIte, f1, f3, f4, g1, g3, e00, e22, em1]
    rw [gp_eq kw h3 (fz_ob g8 rfl (fz_int _ _ _ (fz_slice _ _ _ _ (fz_nil _)))) rfl]
    simp (config := { maxSteps := 5000000 }) (disch := first | assumption | omega) only [go_sem, ↓reduceIte, f1, f3, f4, g1, g3, e00, e22, em1, cs_Works hn]
   ·have hh : Hang D := (ap_hang hkD.ne hkD.lt8).1 (str_some hs).1
    have hco := hcd hh
    have hag : agV N D = 0 := by unfold agV; rw [if_pos (cloB_iff.2 hco)]; exact (val_zero hkD hco).2 hs0
    have hcn := cnt_some hkD hs
    have d4 : (cntT D == 0) = false := by rw [beq_eq_false_iff_ne]; omega
    obtain ⟨s1, s2, s3, b', s4⟩ := tuL_ok hkD hs
    have hckx := trail_ck hkD s1 s2 s3 s4
    obtain ⟨a', r', _, _, hcrx, _, _, hsux⟩ := ck_need hkD (t := nI4 (tuL D)) (by rw [hckx])
    have har' := (closed_iff hsux).2 hs0
    have kx2 := con_CheckTune (bkN N D) (nI4 (tuL D)) (by simp [bkN]; omega) (by rw [nI4_len]; omega)
    unfold ckA at kx2
    rw [hcrx, ← har', bkN_A] at kx2
    have eaa : ((a' : Int) == (a' : Int)) = true := beq_self_eq_true _
    rw [prA, if_neg hs]
    rw [hag] at kz
    simp (disch := first | assumption | omega) only [go_sem, ↓reduceIte, f1, f3, f4, g1, g3]
    rw [gp_eq kz h14 (fz_ob g8 rfl (fz_nil _)) rfl]
    simp (config := { maxSteps := 5000000 }) (disch := first | assumption | omega) only [go_sem, ↓reduceIte, f1, f3, f4, g1, g3, e00, d4]
    rw [gp_eq kx2 h10 (fz_ob g8 rfl (fz_slice _ _ _ _ (fz_nil _))) rfl]
    simp (config := { maxSteps := 5000000 }) (disch := first | assumption | omega) only [go_sem, ↓reduceIte, f1, f3, f4, g1, g3, e00, e55, eaa, cs_Works hn]
 ·have hf' : fineB b = false := by simpa using hf
  simp (disch := first | assumption | omega) only [c13, go_sem, ↓reduceIte, cs_fine, hf', cs_Works hn]
def tuneDoubled_n : Nat := 20000
theorem tuneDoubled_ev (b : Bk) (hw : BkWf b) : (evFn (evCall T tuneDoubled_n) c13 [bkA b] []).all fun p => p.1 = .bool true := tuneDoubled_at _ rfl b hw
end Go.Ev.YtjcabpldgdafeaaC
