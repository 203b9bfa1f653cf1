/- The law TuneTurned answers true: a book backward, and one with other numbers in another order. No condition but those that stand in each. -/
import Derived.Test.YtjcabpldgdafeaaDL4Fn10
import Derived.Test.YtjcabpldgdafeaaDL4App
import Derived.Test.YtjcabpldgdafeaaDL4Trn
import Derived.Test.YtjcabpldgdafeaaDL4LawEither
set_option linter.unusedSimpArgs false
set_option linter.unusedVariables false
namespace Go.Ev.YtjcabpldgdafeaaC
open Go Go.Proofs Go.Ev
theorem getH_far {h : Heap} {k : Nat} (hl : h.length ≤ k) : getH h k = .none := by
 induction h generalizing k with
 | nil => cases k <;> rfl
 | cons a r ih =>
  cases k with
  | zero => simp at hl
  | succ k => exact ih (by simpa using hl)
def Gr (h : Heap) (key i : Nat) (x : AV) (l : List Ed) : Prop := l.length = i ∧ ((i = 0 ∧ x = .slice (some 2) [] true) ∨ ∃ k, i = k + 1 ∧ x = .oslice key k (some 2) 0 i none ∧ getH h key = .cells k (edCs l))
theorem app_gr {h : Heap} {key i kk : Nat} {x : AV} {l : List Ed} {q : Ed} {ex : Bool} (hg : Gr h key i x l) (h0 : i = 0 → kk = key ∧ getH h kk = .none) (hi : i ≤ 1000) : evAppend kk (some 2) 16 x (.slice (some 2) ([q].map edA) ex) h = .ret (.oslice key i (some 2) 0 (i + 1) none, setH h key (.cells i (edCs (l ++ [q])))) := by
 obtain ⟨hl, ⟨rfl, rfl⟩ | ⟨k, rfl, rfl, hh⟩⟩ := hg
 ·obtain ⟨rfl, hn⟩ := h0 rfl
  rw [app_fst (l := [q]) (by simp) (by simp), hn, List.length_eq_zero_iff.1 hl]
  rfl
 ·have := app_own (kk := kk) (b := 16) (ex := ex) (l2 := [q]) hh (by simp) (by simp only [List.length_singleton]; omega)
  rw [hl] at this
  rw [this]
  simp only [List.length_append, List.length_singleton, hl]
theorem gr_next {h : Heap} {key i : Nat} {l : List Ed} (hl : l.length = i + 1) (hh : getH h key = .cells i (edCs l)) : Gr h key (i + 1) (.oslice key i (some 2) 0 (i + 1) none) l := ⟨hl, .inr ⟨i, rfl, rfl, hh⟩⟩
theorem gr_same {h h' : Heap} {key i : Nat} {x : AV} {l : List Ed} (hg : Gr h key i x l) (hh : getH h' key = getH h key) : Gr h' key i x l := by
 obtain ⟨hl, h1 | ⟨k, h1, h2, h3⟩⟩ := hg
 ·exact ⟨hl, .inl h1⟩
 ·exact ⟨hl, .inr ⟨k, h1, h2, by rw [hh]; exact h3⟩⟩
theorem gr_some {h : Heap} {key i : Nat} {x : AV} {l : List Ed} (hg : Gr h key i x l) (hi : 0 < i) : ∃ k, x = .oslice key k (some 2) 0 l.length none ∧ getH h key = .cells k (edCs l) := by
 obtain ⟨hl, h1 | ⟨k, h1, h2, h3⟩⟩ := hg
 ·omega
 ·exact ⟨k, by rw [hl]; exact h2, h3⟩
attribute [local irreducible] Res.all evC evLoop evOps evOper evOp evFn evCall freeze G GO GV GP GC R
set_option maxRecDepth 100000
set_option maxHeartbeats 2000000 in
theorem tuneTurned_at (n40 : Nat) (hn : n40 = 20000) (b : Bk) (mr fr : Int) (hw : BkWf b) (hm : (Lit.int .u8 mr).wf = true) (hf : (Lit.int .u8 fr).wf = true) : (evFn (evCall T n40) c10 [bkA b, .int .u8 mr, .int .u8 fr] []).all fun p => p.1 = .bool true := by
 rw [m_fn]
 have h21 : 21 ≤ n40 := by omega
 have h14 : 14 ≤ n40 := by omega
 have h10 : 10 ≤ n40 := by omega
 have h3 : 3 ≤ n40 := by omega
 have e00 : ((0 : Int) == 0) = true := rfl
 obtain ⟨mr, rfl, hmr⟩ := small8 hm
 obtain ⟨fr, rfl, hfr⟩ := small8 hf
 by_cases hf : fineB b = true
 ·obtain ⟨hc, h11'⟩ := fine_ok hf
  obtain ⟨N, es, rfl, hk⟩ := chk_ok hc
  have h11' : es.length ≤ 11 := by simpa [bkN] using h11'
  have hA := bkN_A N es
  have hpos : 0 < es.length := List.length_pos_iff.2 hk.ne
  have hn1 := hk.n1
  have hn8 := hk.n8
  have hp : prs (bkN N es).slurs = .slice (some 2) (es.map edA) false := by simp only [prs, bkN, map_eI]
  have hnN : (bkN N es).notes = (N : Int) := rfl
  simp (disch := first | assumption | omega) only [c10, go_sem, ↓reduceIte, cs_fine, hf]
  simp (disch := first | assumption | omega) only [hp, hnN]
  have hsl : (bkN N es).slurs.length = es.length := by simp [bkN]
  rw [hsl]
  refine ⟨by decide, by decide, ?_⟩
  refine m_loop (fun M st => ∃ (i : Nat) (x y : AV), M = es.length - i ∧ i ≤ es.length ∧ At st.env [(1, .int .u8 mr), (2, .int .u8 fr), (3, .optr 3 0 0), (7, .optr 7 0 0), (8, .optr 8 0 0), (9, .int .i64 es.length), (10, .int .i64 i)] ∧ getH st.heap 3 = .cells 0 [.int .i64 N, eds es] ∧ getH st.heap 7 = .cells 0 [.int .i64 N, x] ∧ getH st.heap 8 = .cells 0 [.int .i64 N, y] ∧ Gr st.heap 197 i x ((es.take i).map rvE) ∧ Gr st.heap 198 i y (rtE N es mr fr i) ∧ (i = 0 → st.heap.length = 197) ∧ 197 ≤ st.heap.length) es.length (by omega)
   ⟨0, _, _, by omega, by omega, by simp only [go_sem, ↓reduceIte], by simp only [go_sem, ↓reduceIte], by simp only [go_sem, ↓reduceIte], by simp only [go_sem, ↓reduceIte], ⟨rfl, .inl ⟨rfl, rfl⟩⟩, ⟨rfl, .inl ⟨rfl, rfl⟩⟩, fun _ => by simp [length_setH], by simp [length_setH]⟩ ?_
  rintro M e h hM ⟨i, x, y, rfl, hi, hE, g3, g7, g8, gx, gy, hz, hh⟩ P hP
  simp only [At_cons, At_nil] at hE g3 g7 g8 gx gy hz hh
  obtain ⟨f1, f2, f3, f7, f8, f9, f10, -⟩ := hE
  by_cases hlt : i < es.length
  ·have hg := ed_get hlt
   have htk : (es.take (i + 1)).map rvE = (es.take i).map rvE ++ [rvE es[i]] := by
    rw [List.take_add_one, List.getElem?_eq_getElem hlt, List.map_append]
    rfl
   have hzl : (i + fr) % es.length < es.length := Nat.mod_lt _ hpos
   have hg2 := ed_get hzl
   have hrt := rtE_succ N es mr fr i
   rw [gE_get hzl] at hrt
   have hk1 := hk.lt _ (List.getElem_mem hzl)
   generalize hqd : es[i] = q at *
   generalize hqz : es[(i + fr) % es.length] = q2 at *
   obtain ⟨qa, qb⟩ := q
   obtain ⟨ra, rb⟩ := q2
   simp only [edA] at hg hg2
   simp only at hk1
   have hcv1 : IntKind.i64.wrap (fr : Int) = (fr : Int) := wrap64 (by omega) (by omega)
   have hcv2 : IntKind.i64.wrap (mr : Int) = (mr : Int) := wrap64 (by omega) (by omega)
   have hr1 : binA .rem (.int .i64 ((i : Int) + (fr : Int))) (.int .i64 es.length) = .ret (.int .i64 (((i + fr) % es.length : Nat) : Int)) := by rw [b_remI (by omega) (by omega)]; rfl
   have hr2 : binA .rem (.int .i64 ((ra : Int) + (mr : Int))) (.int .i64 N) = .ret (.int .i64 (((ra + mr) % N : Nat) : Int)) := by rw [b_remI (by omega) (by omega)]; rfl
   have hr3 : binA .rem (.int .i64 ((rb : Int) + (mr : Int))) (.int .i64 N) = .ret (.int .i64 (((rb + mr) % N : Nat) : Int)) := by rw [b_remI (by omega) (by omega)]; rfl
   simp (disch := first | assumption | omega) only [go_sem, ↓reduceIte, f1, f2, f3, f7, f8, f9, f10, g3, g7, g8, hlt, hg, ixAA_ptr]
   have hs1 : ∀ c d : Int, List.map (fun i => AV.agg (List.take 2 (List.drop (i * 2) [AV.int IntKind.i64 c, AV.int IntKind.i64 d]))) (List.range 0 ++ [0]) = [.agg [.int .i64 c, .int .i64 d]] := fun _ _ => rfl
   rw [hs1, show [AV.agg [.int .i64 (qb : Int), .int .i64 (qa : Int)]] = [(qb, qa)].map edA from rfl, app_gr gx (fun h0 => ⟨hz h0, getH_far (Nat.le_refl _)⟩) (by omega), show (es.take i).map rvE ++ [(qb, qa)] = (es.take (i + 1)).map rvE from htk.symm]
   simp (disch := first | assumption | omega) only [go_sem, ↓reduceIte, f1, f2, f3, f7, f8, f9, f10, g3, g7, g8, hlt, hcv1, hcv2, hr1, hr2, hr3, hg2, hzl, ixAA_ptr]
   refine ⟨by decide, ?_⟩
   rw [hs1, show [AV.agg [.int .i64 (((ra + mr) % N : Nat) : Int), .int .i64 (((rb + mr) % N : Nat) : Int)]] = [mpE (fun v => (v + mr) % N) (ra, rb)].map edA from rfl, app_gr (gr_same gy (by simp only [go_sem, ↓reduceIte])) (fun h0 => ⟨by have := hz h0; omega, getH_far (by have := hz h0; simp only [length_setH]; omega)⟩) (by omega), ← hrt]
   have hl1 : ((es.take (i + 1)).map rvE).length = i + 1 := by rw [List.length_map, List.length_take]; omega
   have hl2 := rtE_len N es mr fr (i + 1)
   obtain ⟨X, hX⟩ : ∃ X, X = (es.take (i + 1)).map rvE := ⟨_, rfl⟩
   obtain ⟨Y, hY⟩ : ∃ Y, Y = rtE N es mr fr (i + 1) := ⟨_, rfl⟩
   rw [← hX] at hl1 ⊢
   rw [← hY] at hl2 ⊢
   simp (disch := first | assumption | omega) only [go_sem, ↓reduceIte, f1, f2, f3, f7, f8, f9, f10, g3, g7, g8]
   refine hP (es.length - (i + 1)) _ (by omega) ⟨i + 1, .oslice 197 i (some 2) 0 (i + 1) none, .oslice 198 i (some 2) 0 (i + 1) none, rfl, by omega, by simp only [go_sem, ↓reduceIte, f1, f2, f3, f7, f8, f9, f10], by simp only [go_sem, ↓reduceIte, g3], by simp only [go_sem, ↓reduceIte], by simp only [go_sem, ↓reduceIte], ?_, ?_, fun h0 => by omega, by simp only [length_setH]; omega⟩
   ·rw [← hX]; exact gr_next hl1 (by simp only [go_sem, ↓reduceIte])
   ·rw [← hY]; exact gr_next hl2 (by simp only [go_sem, ↓reduceIte])
  ·obtain rfl : i = es.length := by omega
   rw [List.take_length] at gx
   obtain ⟨vx, rfl, gx'⟩ := gr_some gx hpos
   obtain ⟨vy, rfl, gy'⟩ := gr_some gy hpos
   clear gx gy
   have hpm := rtE_perm N es mr fr
   have hbj := rot_bij N mr
   obtain ⟨X, hX⟩ : ∃ X, X = es.map rvE := ⟨_, rfl⟩
   obtain ⟨Y, hY⟩ : ∃ Y, Y = rtE N es mr fr es.length := ⟨_, rfl⟩
   rw [← hY] at hpm
   have hkX : OkB N X := by rw [hX]; exact ok_rev hk
   have hkY : OkB N Y := ok_map hk hbj hpm
   have hlX : X.length = es.length := by rw [hX, List.length_map]
   have hlY : Y.length = es.length := by rw [hY, rtE_len]
   have hcX : cntT X = cntT es := by rw [hX]; exact cnt_rev hk
   have hcY : cntT Y = cntT es := cnt_map hk hbj hpm
   have haX : agV N X = agV N es := by rw [hX]; exact agV_rev hk
   have haY : agV N Y = agV N es := agV_map hk hbj hpm
   have k1 := con_counted hk h11'
   have kx := conF_counted hkX (by omega)
   have ky := conF_counted hkY (by omega)
   have a1 := con_lagain hk
   have a2 := con_lagain hkX
   have a3 := con_lagain hkY
   have hbk : cntT es > 0 → (ckT (bkN N X) (nI4 (tuL es).reverse)).2.2 = 0 := fun h => by
    obtain ⟨t1, t2, t3, b, t4⟩ := tuL_ok hk ((cnt_iff hk).2 h)
    rw [hX]
    exact back_ck hk t1 t2 t3 t4
   have kc := con_CheckTune (bkN N X) (nI4 (tuL es).reverse) (by simp [bkN]; omega) (by
    rw [nI4_len, List.length_reverse]
    by_cases hs : strL N es = []
    ·rw [tuL_none hk hs]; simp
    ·obtain ⟨_, t2, _⟩ := tuL_ok hk hs
     omega)
   rw [hcX] at kx
   rw [hcY] at ky
   rw [haX] at a2
   rw [haY] at a3
   rw [bkN_A] at k1 kx ky a1 a2 a3 kc
   rw [← hX] at g7 gx'
   rw [← hY] at g8 gy'
   have hce : (cntT es != cntT es) = false := by simp
   have hae : (agV N es == agV N es) = true := by simp
   simp (disch := first | assumption | omega) only [go_sem, ↓reduceIte, f1, f2, f3, f7, f8, f9, f10, g3, g7, g8, hlt]
   have fz0 : ∀ h', fz h' [.agg [.int .i64 (N : Int), eds es]] = .ret [.agg [.int .i64 (N : Int), eds es]] := fun h' => fz_cons (frz_agg (mz_cons (frz_int _ _ _ _) (mz_cons (frz_slice _ _ _ _ _) (mz_nil _ _)))) (fz_nil _)
   refine gp_con k1 h21 (fz0 _) rfl ?_
   simp (disch := first | assumption | omega) only [go_sem, ↓reduceIte, f1, f2, f3, f7, f8, f9, f10, g3, g7, g8]
   refine gpF_con kx h21 (fz_ob gx' rfl (fz_nil _)) ?_
   simp (disch := first | assumption | omega) only [go_sem, ↓reduceIte, f1, f2, f3, f7, f8, f9, f10, g3, g7, g8]
   refine gpF_con ky h21 (fz_ob gy' rfl (fz_nil _)) ?_
   obtain ⟨C, hC⟩ : ∃ C, C = cntT es := ⟨_, rfl⟩
   obtain ⟨tl, htl⟩ : ∃ tl, tl = nI4 (tuL es) := ⟨_, rfl⟩
   have htr : nI4 (tuL es).reverse = tl.reverse := by rw [htl]; exact List.map_reverse
   rw [htr] at kc hbk
   rw [← hC] at hbk hce ⊢
   rw [← htl]
   have htll : tl.length ≤ 11 := by
    rw [htl, nI4_len]
    by_cases hs : strL N es = []
    ·rw [tuL_none hk hs]; simp
    ·obtain ⟨_, t2, _⟩ := tuL_ok hk hs
     omega
   have hwr : IntKind.i64.wrap ((tl.length : Int) - 1) = (tl.length : Int) - 1 := wrap64 (by omega) (by omega)
   have hh9 : 199 ≤ h.length := getH_lt gy' (by simp)
   simp (config := { maxSteps := 3000000 }) (disch := first | assumption | omega) only [go_sem, ↓reduceIte, f1, f2, f3, f7, f8, f9, f10, g3, g7, g8, hce, hwr]
   refine m_loop (fun M st => ∃ (i : Nat) (xb : AV), M = i ∧ i ≤ tl.length ∧ At st.env [(3, .optr 3 0 0), (7, .optr 7 0 0), (8, .optr 8 0 0), (12, .int .i64 C), (13, ints tl), (21, xb), (22, .int .i64 ((i : Int) - 1))] ∧ (∀ j, j < 199 → getH st.heap j = getH h j) ∧ 199 ≤ st.heap.length ∧ Own 199 st.heap xb .i64 (tl.drop i).reverse) tl.length (by omega)
    ⟨tl.length, .slice none [] true, rfl, Nat.le_refl _, by simp only [go_sem, ↓reduceIte, f3, f7, f8], fun j hj => rfl, hh9, by rw [List.drop_length]; exact own_nil ..⟩ ?_
   clear f1 f2 f3 f7 f8 f9 f10
   rintro i e2 h2 hM2 ⟨_, xb, rfl, hi2, hE2, q1, q2, hO⟩ P2 hP2
   simp only [At_cons, At_nil] at hE2 q1 q2 hO
   obtain ⟨f3, f7, f8, f12, f13, f21, f22, -⟩ := hE2
   by_cases hi0 : 0 < i
   ·have hd : decide ((i : Int) - 1 ≥ 0) = true := by rw [decide_eq_true_eq]; omega
    obtain ⟨j, rfl⟩ : ∃ j, i = j + 1 := ⟨i - 1, by omega⟩
    have hj : ((j + 1 : Nat) : Int) - 1 = (j : Int) := by omega
    rw [hj] at f22 hd
    have hgj : (tl.map (AV.int .i64))[j]? = some (.int .i64 tl[j]) := by rw [List.getElem?_map, List.getElem?_eq_getElem (by omega)]; rfl
    have hjl : j < tl.length := by omega
    simp (config := { maxSteps := 3000000 }) (disch := first | assumption | omega) only [go_sem, ↓reduceIte, f3, f7, f8, f12, f13, f21, f22, hd, hgj, hjl]
    refine gp_append1 rfl hO q2 (by rw [List.length_reverse, List.length_drop]; omega) fun x' h' hO' hF hL' _ _ => ?_
    rw [← List.reverse_cons, ← List.drop_eq_getElem_cons hjl] at hO'
    simp (disch := first | assumption | omega) only [go_sem, ↓reduceIte, f3, f7, f8, f12, f13, f21, f22]
    exact hP2 j _ (by omega) ⟨j, x', rfl, by omega, by simp only [go_sem, ↓reduceIte, f3, f7, f8, f12, f13], fun k hk => by rw [hF k hk, q1 k hk], by show 199 ≤ h'.length; omega, hO'⟩
   ·obtain rfl : i = 0 := by omega
    rw [List.drop_zero] at hO
    have hd : decide ((0 : Int) - 1 ≥ 0) = false := rfl
    rw [← q1 3 (by omega)] at g3
    rw [← q1 7 (by omega)] at g7
    rw [← q1 8 (by omega)] at g8
    rw [← q1 197 (by omega)] at gx'
    rw [← q1 198 (by omega)] at gy'
    simp (config := { maxSteps := 3000000 }) (disch := first | assumption | omega) only [go_sem, ↓reduceIte, f3, f7, f8, f12, f13, f21, f22, hd, g3, g7, g8]
    unfold ckA at kc
    generalize ckT (bkN N X) tl.reverse = ct at kc hbk
    obtain ⟨ca, cb, ce⟩ := ct
    simp only at kc hbk
    refine gp_con kc h10 (fz_ob gx' rfl (fz_cons (frz_Own hO) (fz_nil _))) rfl ?_
    have b00 : ((0 : Int) != 0) = false := rfl
    by_cases hC0 : C > 0
    ·have d1 : decide (C > 0) = true := by rw [decide_eq_true_eq]; exact hC0
     rw [hbk hC0]
     simp (config := { maxSteps := 3000000 }) (disch := first | assumption | omega) only [go_sem, ↓reduceIte, f3, f7, f8, f12, f13, f21, f22, d1, b00, g3, g7, g8]
     refine gp_con a1 h14 (fz0 _) rfl ?_
     simp (config := { maxSteps := 3000000 }) (disch := first | assumption | omega) only [go_sem, ↓reduceIte, f3, f7, f8, f12, f13, f21, f22, d1, b00, g3, g7, g8]
     refine gp_con a2 h14 (fz_ob gx' rfl (fz_nil _)) rfl ?_
     simp (config := { maxSteps := 3000000 }) (disch := first | assumption | omega) only [go_sem, ↓reduceIte, f3, f7, f8, f12, f13, f21, f22, d1, b00, g3, g7, g8]
     refine gp_con a3 h14 (fz_ob gy' rfl (fz_nil _)) rfl ?_
     simp (config := { maxSteps := 3000000 }) (disch := first | assumption | omega) only [go_sem, ↓reduceIte, f3, f7, f8, f12, f13, f21, f22, d1, b00, g3, g7, g8, hae, cs_Works hn]
    ·have d1 : decide (C > 0) = false := by rw [decide_eq_false_iff_not]; exact hC0
     simp (config := { maxSteps := 3000000 }) (disch := first | assumption | omega) only [go_sem, ↓reduceIte, f3, f7, f8, f12, f13, f21, f22, d1, b00, g3, g7, g8]
     refine gp_con a1 h14 (fz0 _) rfl ?_
     simp (config := { maxSteps := 3000000 }) (disch := first | assumption | omega) only [go_sem, ↓reduceIte, f3, f7, f8, f12, f13, f21, f22, d1, b00, g3, g7, g8]
     refine gp_con a2 h14 (fz_ob gx' rfl (fz_nil _)) rfl ?_
     simp (config := { maxSteps := 3000000 }) (disch := first | assumption | omega) only [go_sem, ↓reduceIte, f3, f7, f8, f12, f13, f21, f22, d1, b00, g3, g7, g8]
     refine gp_con a3 h14 (fz_ob gy' rfl (fz_nil _)) rfl ?_
     simp (config := { maxSteps := 3000000 }) (disch := first | assumption | omega) only [go_sem, ↓reduceIte, f3, f7, f8, f12, f13, f21, f22, d1, b00, g3, g7, g8, hae, cs_Works hn]
 ·have hf' : fineB b = false := by simpa using hf
  simp (disch := first | assumption | omega) only [c10, go_sem, ↓reduceIte, cs_fine, hf', cs_Works hn]
def tuneTurned_n : Nat := 20000
theorem tuneTurned_ev (b : Bk) (mr fr : Int) (hw : BkWf b) (hm : (Lit.int .u8 mr).wf = true) (hf : (Lit.int .u8 fr).wf = true) : (evFn (evCall T tuneTurned_n) c10 [bkA b, .int .u8 mr, .int .u8 fr] []).all fun p => p.1 = .bool true := tuneTurned_at _ rfl b mr fr hw hm hf
end Go.Ev.YtjcabpldgdafeaaC
