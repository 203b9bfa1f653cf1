/- How far notes are, and by which slur each is reached; a slur played once more: the program's. The closing of a book with the fewest plays: the program's, round by round. No condition but those that stand in each. -/
import Derived.Test.YtjcabpldgdafeaaDL4Rch
set_option linter.unusedSimpArgs false
set_option linter.unusedVariables false
namespace Go.Ev.YtjcabpldgdafeaaC
open Go Go.Proofs Go.Ev
theorem call_clone (n : Nat) (xs : List AV) (h : Heap) : evCall T (n + 1) true (.clone 91) xs h = evClone xs h := rfl
attribute [local irreducible] Res.all evC evLoop evOps evOper evOp evFn evCall freeze G GO GV GP GC R
set_option maxRecDepth 100000
theorem binv_box {N : Nat} {es : List Ed} (hn8 : N ≤ 8) (hn : ∀ q ∈ es, q.1 < N ∧ q.2 < N) {P : Nat → Int} {d0 : Nat → Int} (hd : ∀ v, d0 v = 0 ∨ d0 v = 1000) {X : Dst} (hs : BInv (arcs es P es.length) d0 X) {v : Nat} (hv : v < N) : -7 ≤ X.d v ∧ X.d v ≤ 1000 := by
 obtain ⟨l, hl⟩ := hs.chn v
 have h3 := chn_len (arcs_ids es P _) (fun a ha => (arcs_lt hn ha).1) hv hl
 have h4 := chn_dn (arcs_ids es P _) hs (fun a ha => (arcs_cost ha).1) hl
 have h6 := hs.root _ (chn_root hl)
 have h7 := hd (rootOf v l)
 have h8 := hs.le0 v
 have h9 := hd v
 omega
theorem part_inv {es : List Ed} {P : Nat → Int} (hi : CInv es P) (d0 : Nat → Int) (r : Nat) {i : Nat} (hm : i ≤ es.length) : BInv (arcs es P es.length) d0 (pss (arcs es P i) (itr (arcs es P es.length) ⟨d0, fun _ => 0⟩ r)) := by
 obtain ⟨h, B, hp, _⟩ := hi.pot
 exact pss_inv (arcs_ids es P _) hp (fun a ha => by
  obtain ⟨j, hj, h⟩ := mem_arcs.1 ha
  exact mem_arcs.2 ⟨j, by omega, h⟩) (itr_inv (arcs_ids es P _) hp (inv_start _ _) r)
theorem part_inv1 {es : List Ed} {P : Nat → Int} (hi : CInv es P) (d0 : Nat → Int) (r : Nat) {i : Nat} (hm : i < es.length) : BInv (arcs es P es.length) d0 (rlx (pss (arcs es P i) (itr (arcs es P es.length) ⟨d0, fun _ => 0⟩ r)) ⟨(gE es i).1, (gE es i).2, 1, (i : Int) + 1⟩) := by
 obtain ⟨h, B, hp, _⟩ := hi.pot
 exact rlx_inv (arcs_ids es P _) (part_inv hi d0 r (by omega)) hp (mem_arcs.2 ⟨i, hm, .inl rfl⟩)
theorem pss_step (es : List Ed) (P : Nat → Int) (i : Nat) (S : Dst) : pss (arcs es P (i + 1)) S = if 0 < P i then rlx (rlx (pss (arcs es P i) S) ⟨(gE es i).1, (gE es i).2, 1, (i : Int) + 1⟩) ⟨(gE es i).2, (gE es i).1, -1, -(i : Int) - 1⟩ else rlx (pss (arcs es P i) S) ⟨(gE es i).1, (gE es i).2, 1, (i : Int) + 1⟩ := by
 unfold pss
 rw [arcs, List.foldl_append, arcAt]
 split <;> rfl
theorem stC_10 (N : Int) (sv : AV) (s : Nat → Int) (p : AV) : (stC N sv s p)[10]? = some p := by
 unfold stC
 rw [List.getElem?_cons_succ, List.getElem?_cons_succ, List.getElem?_append_right (by rw [sr8_len]; exact Nat.le_refl _), sr8_len]; rfl
theorem itr_succ (A : List Arc) (s : Dst) (n : Nat) : itr A s (n + 1) = pss A (itr A s n) := rfl
set_option maxHeartbeats 4000000 in
theorem far_walk {N : Nat} {es : List Ed} {P s d0 : Nat → Int} (hk : OkB N es) (hi : CInv es P) (hd : ∀ v, d0 v = 0 ∨ d0 v = 1000) (frm : AV) (h0 h1 : Heap) (n : Nat)
  (hcl : cloneB (h0.length + 11) 11 frm = true) (hlen : lenA frm = some N)
  (hev : evClone [frm] (h0 ++ List.replicate 105 .none) = .ret (.oslice (h0.length + 113) 0 none 0 N none, h1))
  (h1a : getH h1 (h0.length + 113) = .cells 0 (rwI N d0)) (h1b : ∀ j, j < h0.length + 113 → getH h1 j = getH h0 j) {V : AV × Heap → Prop}
  (hV : ∀ h', getH h' (h0.length + 113) = .cells 0 (rwI N (fin0 es P N d0).d) → getH h' (h0.length + 14) = .cells 0 (rwI N (fin0 es P N d0).b) → (∀ j, j < h0.length → getH h' j = getH h0 j) → V (.tuple [.oslice (h0.length + 113) 0 none 0 N none, .oslice (h0.length + 14) 0 none 0 N (some N)], h')) :
  G (evCall T (n + 1)) h0.length (Fin c75.results V) c75.body [] ⟨[stA N es s (ints (srN es.length P)), frm], h0 ++ List.replicate 105 .none⟩ := by
 have hn1 := hk.n1
 have hn8 := hk.n8
 have hl14 := hk.le
 have e116 : (h0.length + 116 ≤ h0.length + 116) = True := eq_true (Nat.le_refl _)
 have e60 : (h0.length + 60 < h0.length + 156) = True := eq_true (by omega)
 have e98 : (h0.length + 98 < h0.length + 194) = True := eq_true (by omega)
 have e105 : (h0.length + 105 ≤ h0.length + 113) = True := eq_true (by omega)
 have hroom : room N 8 = true := room_ok (by omega)
 have hm1 : (N ≤ N) = True := eq_true (Nat.le_refl N)
 have h14 : getH h1 (h0.length + 14) = .none := by rw [h1b _ (by omega)]; exact getH_ge _ _ (by omega)
 have hflat : (List.replicate N [AV.int IntKind.i64 0]).flatten = rwI N (fun _ => 0) := by unfold rwI srN; rw [List.map_map, flat_rep]; rfl
 have hd0 : ((2 : Int) * (N : Int) : Int) = ((2 * N : Nat) : Int) := by omega
 obtain ⟨s0, hs0⟩ : ∃ s0 : Dst, s0 = ⟨d0, fun _ => 0⟩ := ⟨_, rfl⟩
 have hinv : ∀ (r i : Nat), i ≤ es.length → BInv (arcs es P es.length) d0 (pss (arcs es P i) (itr (arcs es P es.length) s0 r)) := fun r i hil => by rw [hs0]; exact part_inv hi d0 r hil
 have hinv1 : ∀ (r i : Nat), i < es.length → BInv (arcs es P es.length) d0 (rlx (pss (arcs es P i) (itr (arcs es P es.length) s0 r)) ⟨(gE es i).1, (gE es i).2, 1, (i : Int) + 1⟩) := fun r i hil => by rw [hs0]; exact part_inv1 hi d0 r hil
 have hbx : ∀ X : Dst, BInv (arcs es P es.length) d0 X → ∀ v, v < N → -7 ≤ X.d v ∧ X.d v ≤ 1000 := fun X hX v hv => binv_box hn8 hk.lt hd hX hv
 have hfin : fin0 es P N d0 = itr (arcs es P es.length) s0 (2 * N) := by rw [hs0]; rfl
 rw [hfin] at hV
 simp (disch := first | assumption | omega) only [c75, go_sem, ↓reduceIte, hcl, e116, call_clone, hev, hlen, hroom, hm1, h14, hflat, stC_0]
 refine m_loop (fun M st => ∃ r : Nat, M = 2 * N - r ∧ r ≤ 2 * N ∧ At st.env [(0, stA N es s (ints (srN es.length P))), (6, .oslice (h0.length + 113) 0 none 0 N none), (7, .oslice (h0.length + 14) 0 none 0 N (some N)), (20, .int .i64 (2 * (N : Int))), (21, .int .i64 r)] ∧
   getH st.heap (h0.length + 113) = .cells 0 (rwI N (itr (arcs es P es.length) s0 r).d) ∧ getH st.heap (h0.length + 14) = .cells 0 (rwI N (itr (arcs es P es.length) s0 r).b) ∧ ∀ j, j < h0.length → getH st.heap j = getH h0 j) (2 * N) (by omega)
  ⟨0, by omega, by omega, by simp only [go_sem, ↓reduceIte, stA], ?_, ?_, fun j hj => ?_⟩ ?_
 ·simp only [go_sem, ↓reduceIte]; rw [h1a, hs0]; rfl
 ·simp only [go_sem, ↓reduceIte]; rw [hs0]; rfl
 ·rw [getH_setH_ne _ _ _ _ (by omega)]; exact h1b j (by omega)
 rintro M e h hM ⟨r, rfl, hr, hE, g113, g14, hF⟩ Pq hP
 simp only [At_cons, At_nil] at hE g113 g14 hF
 obtain ⟨f0, f6, f7, f20, f21, -⟩ := hE
 by_cases hlt : r < 2 * N
 ·have hdl : decide ((r : Int) < 2 * (N : Int)) = true := by simp; omega
  simp (disch := first | assumption | omega) only [go_sem, ↓reduceIte, f0, f6, f7, f20, f21, hdl, stA, stC_1]
  refine m_loop (fun M st => ∃ i : Nat, M = es.length - i ∧ i ≤ es.length ∧ At st.env [(0, stA N es s (ints (srN es.length P))), (6, .oslice (h0.length + 113) 0 none 0 N none), (7, .oslice (h0.length + 14) 0 none 0 N (some N)), (20, .int .i64 (2 * (N : Int))), (21, .int .i64 r), (27, eds es), (28, .int .i64 es.length), (29, .int .i64 i)] ∧
    getH st.heap (h0.length + 113) = .cells 0 (rwI N (pss (arcs es P i) (itr (arcs es P es.length) s0 r)).d) ∧ getH st.heap (h0.length + 14) = .cells 0 (rwI N (pss (arcs es P i) (itr (arcs es P es.length) s0 r)).b) ∧ ∀ j, j < h0.length → getH st.heap j = getH h0 j) es.length (by omega)
   ⟨0, by omega, by omega, by simp only [go_sem, ↓reduceIte, f0, f6, f7, f20, f21, stA], g113, g14, hF⟩ ?_
  rintro M e2 h2 hM2 ⟨i, rfl, him, hE, g113, g14, hF⟩ P2 hP2
  simp only [At_cons, At_nil] at hE g113 g14 hF
  obtain ⟨f0, f6, f7, f20, f21, f27, f28, f29, -⟩ := hE
  by_cases hlt2 : i < es.length
  ·have hq := hk.lt _ (List.getElem_mem hlt2)
   have hg := ed_get hlt2
   have hst := pss_step es P i (itr (arcs es P es.length) s0 r)
   have hb0 := hbx _ (hinv r i (by omega))
   have hb1 := hbx _ (hinv1 r i hlt2)
   have hge := gE_get hlt2
   rw [hge] at hst hb1
   have hpg := srN_get P hlt2
   generalize hqd : es[i] = q at *
   obtain ⟨qa, qb⟩ := q
   simp only at hq hst hb1
   simp only [edA] at hg
   obtain ⟨hq1, hq2⟩ := hq
   have hq1' : qa + 1 ≤ N := hq1
   have hq2' : qb + 1 ≤ N := hq2
   generalize hX : pss (arcs es P i) (itr (arcs es P es.length) s0 r) = X at *
   have hxa := hb0 qa hq1
   have hxb := hb0 qb hq2
   have hya := hb1 qa hq1
   have hyb := hb1 qb hq2
   have hrl : ∀ f : Nat → Int, (rwI N f).length = N := fun f => rwI_len N f
   have nH : ∀ k, k < 100 → getH h2 (h0.length + k) = getH h2 (h0.length + k) := fun _ _ => rfl
   have close : ∀ (e' : Env) (h' : Heap) (Y : Dst), pss (arcs es P (i + 1)) (itr (arcs es P es.length) s0 r) = Y → At e' [(0, stA N es s (ints (srN es.length P))), (6, .oslice (h0.length + 113) 0 none 0 N none), (7, .oslice (h0.length + 14) 0 none 0 N (some N)), (20, .int .i64 (2 * (N : Int))), (21, .int .i64 r), (27, eds es), (28, .int .i64 es.length), (29, .int .i64 ((i : Int) + 1))] →
     getH h' (h0.length + 113) = .cells 0 (rwI N Y.d) → getH h' (h0.length + 14) = .cells 0 (rwI N Y.b) → (∀ j, j < h0.length → getH h' j = getH h0 j) → P2 ⟨e', h'⟩ := fun e' h' Y hY hE' g1 g2 g3 =>
    hP2 (es.length - (i + 1)) _ (by omega) ⟨i + 1, rfl, by omega, by rw [show ((i + 1 : Nat) : Int) = (i : Int) + 1 by omega]; exact hE', by rw [hY]; exact g1, by rw [hY]; exact g2, g3⟩
   by_cases c1 : X.d qa + 1 < X.d qb
   ·have d1 : decide (X.d qa + 1 < X.d qb) = true := by simpa using c1
    have hne : qa ≠ qb := fun h => by rw [h] at c1; omega
    have hr1 : rlx X ⟨qa, qb, 1, (i : Int) + 1⟩ = ⟨fun x => if x = qb then X.d qa + 1 else X.d x, fun x => if x = qb then (i : Int) + 1 else X.b x⟩ := by unfold rlx; rw [if_pos c1]
    rw [hr1] at hst
    by_cases hp : 0 < P i
    ·have dp : decide (P i > 0) = true := by simpa using hp
     have d2 : decide (X.d qa + 1 - 1 < X.d qa) = false := by simp
     have hr2 : rlx ⟨fun x => if x = qb then X.d qa + 1 else X.d x, fun x => if x = qb then (i : Int) + 1 else X.b x⟩ ⟨qb, qa, -1, -(i : Int) - 1⟩ = ⟨fun x => if x = qb then X.d qa + 1 else X.d x, fun x => if x = qb then (i : Int) + 1 else X.b x⟩ := by
      unfold rlx
      simp only [if_true]
      rw [if_neg (show ¬ (X.d qa + 1 + -1 < if qa = qb then X.d qa + 1 else X.d qa) by rw [if_neg hne]; omega)]
     rw [if_pos hp, hr2] at hst
     simp (disch := first | assumption | omega) only [go_sem, ↓reduceIte, f0, f6, f7, f20, f21, f27, f28, f29, hlt2, hg, ixAA_optr, g113, g14, hq1, hq2, hq1', hq2', hrl, srN_get, srN_set, d1, dp, d2, hne, e60, e105, e98, stA, stC_10, hpg, Int.reduceNeg]
     exact close _ _ _ hst (by simp only [go_sem, ↓reduceIte, f0, f6, f7, f20, f21, f27, f28, stA]) (by simp only [go_sem, ↓reduceIte, g113]) (by simp only [go_sem, ↓reduceIte, g14]) (fun j hj => by (repeat rw [getH_setH_ne _ _ _ _ (by omega)]); exact hF j hj)
    ·have dp : decide (P i > 0) = false := by simpa using hp
     rw [if_neg hp] at hst
     simp (disch := first | assumption | omega) only [go_sem, ↓reduceIte, f0, f6, f7, f20, f21, f27, f28, f29, hlt2, hg, ixAA_optr, g113, g14, hq1, hq2, hq1', hq2', hrl, srN_get, srN_set, d1, dp, e60, e105, e98, stA, stC_10, hpg, Int.reduceNeg]
     exact close _ _ _ hst (by simp only [go_sem, ↓reduceIte, f0, f6, f7, f20, f21, f27, f28, stA]) (by simp only [go_sem, ↓reduceIte, g113]) (by simp only [go_sem, ↓reduceIte, g14]) (fun j hj => by (repeat rw [getH_setH_ne _ _ _ _ (by omega)]); exact hF j hj)
   ·have d1 : decide (X.d qa + 1 < X.d qb) = false := by simpa using c1
    have hr1 : rlx X ⟨qa, qb, 1, (i : Int) + 1⟩ = X := by unfold rlx; rw [if_neg c1]
    rw [hr1] at hst
    by_cases hp : 0 < P i
    ·have dp : decide (P i > 0) = true := by simpa using hp
     rw [if_pos hp] at hst
     by_cases c2 : X.d qb - 1 < X.d qa
     ·have d2 : decide (X.d qb - 1 < X.d qa) = true := by simpa using c2
      have hr2 : rlx X ⟨qb, qa, -1, -(i : Int) - 1⟩ = ⟨fun x => if x = qa then X.d qb - 1 else X.d x, fun x => if x = qa then -(i : Int) - 1 else X.b x⟩ := by unfold rlx; rw [if_pos (show X.d qb + -1 < X.d qa by omega)]; rfl
      rw [hr2] at hst
      simp (disch := first | assumption | omega) only [go_sem, ↓reduceIte, f0, f6, f7, f20, f21, f27, f28, f29, hlt2, hg, ixAA_optr, g113, g14, hq1, hq2, hq1', hq2', hrl, srN_get, srN_set, d1, dp, d2, e60, e105, e98, stA, stC_10, hpg, Int.reduceNeg]
      exact close _ _ _ hst (by simp only [go_sem, ↓reduceIte, f0, f6, f7, f20, f21, f27, f28, stA]) (by simp only [go_sem, ↓reduceIte, g113]) (by simp only [go_sem, ↓reduceIte, g14, Int.zero_sub]) (fun j hj => by (repeat rw [getH_setH_ne _ _ _ _ (by omega)]); exact hF j hj)
     ·have d2 : decide (X.d qb - 1 < X.d qa) = false := by simpa using c2
      have hr2 : rlx X ⟨qb, qa, -1, -(i : Int) - 1⟩ = X := by unfold rlx; rw [if_neg (show ¬ X.d qb + -1 < X.d qa by omega)]
      rw [hr2] at hst
      simp (disch := first | assumption | omega) only [go_sem, ↓reduceIte, f0, f6, f7, f20, f21, f27, f28, f29, hlt2, hg, ixAA_optr, g113, g14, hq1, hq2, hq1', hq2', hrl, srN_get, srN_set, d1, dp, d2, e60, e105, e98, stA, stC_10, hpg, Int.reduceNeg]
      exact close _ _ _ hst (by simp only [go_sem, ↓reduceIte, f0, f6, f7, f20, f21, f27, f28, stA]) (by simp only [go_sem, ↓reduceIte, g113]) (by simp only [go_sem, ↓reduceIte, g14]) (fun j hj => by (repeat rw [getH_setH_ne _ _ _ _ (by omega)]); exact hF j hj)
    ·have dp : decide (P i > 0) = false := by simpa using hp
     rw [if_neg hp] at hst
     simp (disch := first | assumption | omega) only [go_sem, ↓reduceIte, f0, f6, f7, f20, f21, f27, f28, f29, hlt2, hg, ixAA_optr, g113, g14, hq1, hq2, hq1', hq2', hrl, srN_get, srN_set, d1, dp, e60, e105, e98, stA, stC_10, hpg, Int.reduceNeg]
     exact close _ _ _ hst (by simp only [go_sem, ↓reduceIte, f0, f6, f7, f20, f21, f27, f28, stA]) (by simp only [go_sem, ↓reduceIte, g113]) (by simp only [go_sem, ↓reduceIte, g14]) (fun j hj => by (repeat rw [getH_setH_ne _ _ _ _ (by omega)]); exact hF j hj)
  ·obtain rfl : i = es.length := by omega
   simp (disch := first | assumption | omega) only [go_sem, ↓reduceIte, f0, f6, f7, f20, f21, f27, f28, f29, hlt2]
   exact hP (2 * N - (r + 1)) _ (by omega) ⟨r + 1, rfl, by omega, by simp only [go_sem, ↓reduceIte, f0, f6, f7, f20, stA], g113, g14, hF⟩
 ·obtain rfl : r = 2 * N := by omega
  have hdl : decide (((2 * N : Nat) : Int) < 2 * (N : Int)) = false := by simp
  simp (disch := first | assumption | omega) only [go_sem, ↓reduceIte, f0, f6, f7, f20, f21, hdl]
  exact hV _ g113 g14 hF
theorem conF_far {N : Nat} {es : List Ed} {P s d0 : Nat → Int} (hk : OkB N es) (hi : CInv es P) (hd : ∀ v, d0 v = 0 ∨ d0 v = 1000) : ConF T 2 75 [stA N es s (ints (srN es.length P)), ints (srN N d0)] (.tuple [ints (srN N (fin0 es P N d0).d), ints (srN N (fin0 es P N d0).b)]) := by
 refine conF_intro t75 fun n hn V hV => ?_
 obtain ⟨n, rfl⟩ : ∃ n', n = n' + 1 := ⟨n - 1, by omega⟩
 have hn1 := hk.n1
 have hn8 := hk.n8
 obtain ⟨a, r, har⟩ : ∃ a r, rwI N d0 = a :: r := by
  cases h : rwI N d0 with
  | nil => have := rwI_len N d0; rw [h] at this; simp at this; omega
  | cons a r => exact ⟨a, r, rfl⟩
 have hrl : r.length + 1 = N := by have := rwI_len N d0; rw [har] at this; simpa using this
 have hroom : room N 8 = true := room_ok (by omega)
 refine far_walk hk hi hd (ints (srN N d0)) [] (setH ([] ++ List.replicate 105 .none ++ List.replicate 8 .none) 113 (.cells 0 (rwI N d0))) n rfl ?_ ?_ ?_ ?_ fun h' g1 g2 _ => ?_
 ·show some (rwI N d0).length = some N
  rw [rwI_len]
 ·show evClone [.slice none (rwI N d0) false] _ = _
  rw [har]
  simp only [evClone, hrl, hroom, if_true]
  rfl
 ·exact getH_setH_self _ _ _
 ·intro j hj
  rw [getH_setH_ne _ _ _ _ (by simp at hj; omega), getH_append_none, getH_append_none]
 ·exact hV _ _ (frz_two (frz_own g1 (by rw [srN_len])) (frz_own g2 (by rw [srN_len]))) (fresh_two (fresh_own g1) (fresh_own g2))
set_option maxHeartbeats 1000000 in
theorem raw_play {N : Nat} {es : List Ed} {s P : Nat → Int} {ks kp : Nat} {c : Option Nat} {h0 : Heap} (hk : OkB N es) (h1 : getH h0 ks = .cells 0 (stC N (eds es) s (.oslice kp 0 none 0 es.length c))) (h2 : getH h0 kp = .cells 0 (rwI es.length P)) (hne : ks ≠ kp)
  {i : Nat} (hi : i < es.length) {t : Int} (ht : -60 ≤ t ∧ t ≤ 60) (hP : -100000 ≤ P i ∧ P i ≤ 100000) (hs : ∀ x, -100000 ≤ s x ∧ s x ≤ 100000) (n : Nat) (hn : 1 ≤ n) {V : AV × Heap → Prop}
  (hV : ∀ h', getH h' ks = .cells 0 (stC N (eds es) (fun x => s x + t * (dl (gE es i).1 x - dl (gE es i).2 x)) (.oslice kp 0 none 0 es.length c)) → getH h' kp = .cells 0 (rwI es.length fun j => P j + if j = i then t else 0) → (∀ j, j < h0.length → j ≠ ks → j ≠ kp → getH h' j = getH h0 j) → h0.length ≤ h'.length → V (.tuple [], h')) :
  (evCall T n true (.fn 70) [.optr ks 0 0, .int .i64 i, .int .i64 t] h0).all V := by
 obtain ⟨n, rfl⟩ : ∃ n', n = n' + 1 := ⟨n - 1, by omega⟩
 rw [raw_enter t70]
 have hlt1 := getH_lt h1 (by simp)
 have hlt2 := getH_lt h2 (by simp)
 have g1 : getH (h0 ++ List.replicate 54 .none) ks = .cells 0 (stC N (eds es) s (.oslice kp 0 none 0 es.length c)) := by rw [getH_append_none, h1]
 have g2 : getH (h0 ++ List.replicate 54 .none) kp = .cells 0 (rwI es.length P) := by rw [getH_append_none, h2]
 have hq := hk.lt8 _ (List.getElem_mem hi)
 have hg := ed_get hi
 have hge := gE_get hi
 rw [hge] at hV
 generalize hqd : es[i] = q at *
 obtain ⟨qa, qb⟩ := q
 simp only at hq hV
 simp only [edA] at hg
 obtain ⟨hq1, hq2⟩ := hq
 have hq1' : qa ≤ 7 := by omega
 have hq2' : qb ≤ 7 := by omega
 have hi' : i + 1 ≤ es.length := hi
 have hsa := hs qa
 have hsb := hs qb
 have hne' : ¬ kp = ks := fun h => hne h.symm
 have hrl : ∀ f : Nat → Int, (rwI es.length f).length = es.length := fun f => rwI_len es.length f
 simp (disch := first | assumption | omega) only [c70, go_sem, ↓reduceIte, g1, g2, hne, hne', stC_10, stC_1, stC_len, hg, hi, hi', hq1, hq2, hq1', hq2', hrl, srN_get, srN_set, stC_get, stC_set, stC_rd, ixAA_optr]
 refine ⟨by omega, by omega, hV _ ?_ ?_ (fun j hj j1 j2 => ?_) ?_⟩
 ·rw [getH_setH_self]
  congr 2
  funext y
  by_cases ya : y = qa
  ·subst ya
   rw [dl_self]
   by_cases yb : y = qb
   ·subst yb
    rw [dl_self]
    simp only [if_true, Int.sub_self, Int.mul_zero]; omega
   ·rw [dl_ne (Ne.symm yb), if_neg yb, if_pos rfl, Int.sub_zero, Int.mul_one]
  ·rw [dl_ne (Ne.symm ya)]
   by_cases yb : y = qb
   ·subst yb
    rw [dl_self, if_pos rfl, if_neg ya, show t * (0 - 1) = -t by omega]; omega
   ·rw [dl_ne (Ne.symm yb), if_neg yb, if_neg ya, Int.sub_self, Int.mul_zero, Int.add_zero]
 ·rw [getH_setH_ne _ _ _ _ hne, getH_setH_ne _ _ _ _ hne, getH_setH_self]
  congr 2
  congr 1
  funext y
  by_cases yi : y = i
  ·subst yi; rw [if_pos rfl, if_pos rfl]
  ·rw [if_neg yi, if_neg yi, Int.add_zero]
 ·rw [getH_setH_ne _ _ _ _ (Ne.symm j1), getH_setH_ne _ _ _ _ (Ne.symm j1), getH_setH_ne _ _ _ _ (Ne.symm j2), getH_append_none]
 ·simp only [length_setH, List.length_append, List.length_replicate]; omega
end Go.Ev.YtjcabpldgdafeaaC
set_option linter.unusedSimpArgs false
set_option linter.unusedVariables false
namespace Go.Ev.YtjcabpldgdafeaaC
open Go Go.Proofs Go.Ev
attribute [local irreducible] Res.all evC evLoop evOps evOper evOp evFn evCall freeze G GO GV GP GC R
set_option maxRecDepth 100000
def bst (s d : Nat → Int) : Nat → Nat × Int
 | 0 => (0, 1000)
 | i + 1 => if 0 < s i ∧ d i < (bst s d i).2 then (i, d i) else bst s d i
theorem bst_or (s d : Nat → Int) : ∀ i, ((bst s d i).2 = 1000 ∧ ∀ t, t < i → 0 < s t → 1000 ≤ d t) ∨ (0 < s (bst s d i).1 ∧ (bst s d i).1 < i ∧ (bst s d i).2 < 1000)
 | 0 => .inl ⟨rfl, fun t h => by omega⟩
 | i + 1 => by
  rw [bst]
  split
  ·next h =>
   refine .inr ⟨h.1, Nat.lt_succ_self i, ?_⟩
   rcases bst_or s d i with ⟨h1, _⟩ | ⟨_, _, h1⟩ <;> simp only <;> omega
  ·next h =>
   rcases bst_or s d i with ⟨h1, h2⟩ | ⟨h1, h2, h3⟩
   ·refine .inl ⟨h1, fun t ht hs => ?_⟩
    by_cases hti : t = i
    ·subst hti; rw [h1] at h; apply Classical.byContradiction; intro hc; exact h ⟨hs, by omega⟩
    ·exact h2 t (by omega) hs
   ·exact .inr ⟨h1, by omega, h3⟩
open Classical in
noncomputable def chL (A : List Arc) (b : Nat → Int) (v : Nat) : List Arc := if h : ∃ l, Chn A b v l then Classical.choose h else []
theorem chL_ok {A : List Arc} {d0 : Nat → Int} {s : Dst} (hs : BInv A d0 s) (v : Nat) : Chn A s.b v (chL A s.b v) := by
 have h := hs.chn v
 unfold chL
 rw [dif_pos h]
 exact Classical.choose_spec h
noncomputable def frD (N : Nat) (es : List Ed) (P : Nat → Int) : Dst := fin0 es P N (dst0 N (sF es P))
noncomputable def toT (N : Nat) (es : List Ed) (P : Nat → Int) : Nat := (bst (sF es P) (frD N es P).d N).1
noncomputable def wyL (N : Nat) (es : List Ed) (P : Nat → Int) : List Arc := chL (arcs es P es.length) (frD N es P).b (toT N es P)
noncomputable def nxt (N : Nat) (es : List Ed) (P : Nat → Int) : Nat → Int := run (wyL N es P) P
noncomputable def clP (N : Nat) (es : List Ed) : Nat → (Nat → Int) → Nat → Int
 | 0, P => P
 | k + 1, P => clP N es k (nxt N es P)
noncomputable def agP (N : Nat) (es : List Ed) : Nat → Int := clP N es (upU (sur es) 8).toNat fun _ => 0
theorem nxt_ok {N : Nat} {es : List Ed} (hk : OkB N es) (hc : Clo es) {P : Nat → Int} (hi : CInv es P) {x : Nat} (hx : sF es P x ≠ 0) :
  (0 < sF es P (toT N es P) ∧ toT N es P < N ∧ Chn (arcs es P es.length) (frD N es P).b (toT N es P) (wyL N es P) ∧ (wyL N es P).length ≤ 7) ∧
  CInv es (nxt N es P) ∧ (∀ j, nxt N es P j ≤ P j + 1) ∧ upU (sF es (nxt N es P)) 8 + 1 = upU (sF es P) 8 := by
 obtain ⟨⟨t, ht, hst⟩, _⟩ := both hk.n8 hk.lt hx
 have h1 := (close_some hk.n1 hk.n8 hk.lt hc hi hst).1
 have hto : 0 < sF es P (toT N es P) ∧ toT N es P < N := by
  rcases bst_or (sF es P) (frD N es P).d N with ⟨_, h2⟩ | ⟨h2, h3, _⟩
  ·have := h2 t ht hst
   unfold frD at this
   omega
  ·exact ⟨h2, h3⟩
 obtain ⟨_, l, hl, hlen, hroot⟩ := close_some hk.n1 hk.n8 hk.lt hc hi hto.1
 obtain ⟨hinv, _, _⟩ := fin_fix hk.n1 hk.lt hi (D := 1000) (d0 := dst0 N (sF es P)) fun v => by rcases dst0_or N (sF es P) v with h | h <;> omega
 have hch : Chn (arcs es P es.length) (frD N es P).b (toT N es P) (wyL N es P) := chL_ok hinv _
 have heq : wyL N es P = l := chn_uniq (arcs_ids es P _) hch hl
 obtain ⟨g1, g2, g3, _⟩ := close_round hk.n1 hk.n8 hk.lt hi hto.1 hl hroot
 refine ⟨⟨hto.1, hto.2, hch, by rw [heq]; exact hlen⟩, ?_, ?_, ?_⟩
 ·rw [nxt, heq]; exact g1
 ·rw [nxt, heq]; exact g2
 ·rw [nxt, heq]; exact g3
theorem up_pos {N : Nat} {es : List Ed} (hk : OkB N es) {P : Nat → Int} : (∀ x, sF es P x = 0) ↔ upU (sF es P) 8 = 0 := by
 constructor
 ·intro h
  have : ∀ v, upU (sF es P) v = 0 := fun v => by
   induction v with
   | zero => rfl
   | succ v ih => simp only [upU, ih, h]; rfl
  exact this 8
 ·intro h x
  have := sF_box hk.n8 hk.lt P x
  omega
theorem clP_ok {N : Nat} {es : List Ed} (hk : OkB N es) (hc : Clo es) : ∀ (k : Nat) (P : Nat → Int), CInv es P → k = (upU (sF es P) 8).toNat → CInv es (clP N es k P) ∧ (∀ x, sF es (clP N es k P) x = 0) ∧ ∀ j, clP N es k P j ≤ P j + k
 | 0, P, hi, h => by
  have := upU_nonneg (sF es P) 8
  exact ⟨hi, (up_pos hk (P := P)).2 (by omega), fun j => by simp [clP]⟩
 | k + 1, P, hi, h => by
  obtain ⟨x, hx⟩ : ∃ x, sF es P x ≠ 0 := Classical.byContradiction fun hn => by
   have := (up_pos hk (P := P)).1 fun x => Classical.byContradiction fun hx => hn ⟨x, hx⟩
   omega
  obtain ⟨_, h1, h2, h3⟩ := nxt_ok hk hc hi hx
  obtain ⟨g1, g2, g3⟩ := clP_ok hk hc k (nxt N es P) h1 (by omega)
  exact ⟨g1, g2, fun j => by have := g3 j; have := h2 j; rw [clP]; omega⟩
theorem agP_ok {N : Nat} {es : List Ed} (hk : OkB N es) (hc : Clo es) : CInv es (agP N es) ∧ (∀ x, sF es (agP N es) x = 0) ∧ ∀ j, 0 ≤ agP N es j ∧ agP N es j ≤ 14 := by
 obtain ⟨h1, h2, h3⟩ := clP_ok hk hc (upU (sur es) 8).toNat (fun _ => 0) (cinv_zero es) (by rw [sF_zero])
 have h4 := upU_len hk.lt8
 have h5 := upU_nonneg (sur es) 8
 have h6 := hk.le
 exact ⟨h1, h2, fun j => ⟨h1.nn j, by have := h3 j; unfold agP; omega⟩⟩
theorem ap_step (a : Arc) (P : Nat → Int) (j : Nat) : -1 ≤ apA a P j - P j ∧ apA a P j - P j ≤ 1 := by
 unfold apA
 split <;> split <;> omega
theorem dl_box (a x : Nat) : 0 ≤ dl a x ∧ dl a x ≤ 1 := by unfold dl; split <;> omega
theorem apA_fwd {u v i : Nat} (P : Nat → Int) : apA ⟨u, v, 1, (i : Int) + 1⟩ P = fun j => P j + if j = i then 1 else 0 := funext fun j => by
 simp only [apA]
 by_cases h : j = i
 ·subst h; rw [if_pos rfl, if_neg (by omega), if_pos rfl]; omega
 ·rw [if_neg (by omega), if_neg (by omega), if_neg h]; omega
theorem apA_bwd {u v i : Nat} (P : Nat → Int) : apA ⟨u, v, -1, -(i : Int) - 1⟩ P = fun j => P j + if j = i then -1 else 0 := funext fun j => by
 simp only [apA]
 by_cases h : j = i
 ·subst h; rw [if_neg (by omega), if_pos rfl, if_pos rfl]; omega
 ·rw [if_neg (by omega), if_neg (by omega), if_neg h]; omega
set_option maxHeartbeats 4000000 in
theorem raw_close {N : Nat} {es : List Ed} {ks kp : Nat} {c : Option Nat} {h0 : Heap} (hk : OkB N es) (hc : Clo es) (h1 : getH h0 ks = .cells 0 (stC N (eds es) (sur es) (.oslice kp 0 none 0 es.length c))) (h2 : getH h0 kp = .cells 0 (rwI es.length fun _ => 0)) (hne : ks ≠ kp) (n : Nat) (hn : 3 ≤ n) {V : AV × Heap → Prop}
  (hV : ∀ h', getH h' ks = .cells 0 (stC N (eds es) (sF es (agP N es)) (.oslice kp 0 none 0 es.length c)) → getH h' kp = .cells 0 (rwI es.length (agP N es)) → V (.tuple [], h')) :
  (evCall T n true (.fn 90) [.optr ks 0 0] h0).all V := by
 obtain ⟨n, rfl⟩ : ∃ n', n = n' + 1 := ⟨n - 1, by omega⟩
 rw [raw_enter t90]
 have hlt1 := getH_lt h1 (by simp)
 have hlt2 := getH_lt h2 (by simp)
 have hn1 := hk.n1
 have hn8 := hk.n8
 have hne' : ¬ kp = ks := fun h => hne h.symm
 have hroom : room N 8 = true := room_ok (by omega)
 have hm1 : (N ≤ N) = True := eq_true (Nat.le_refl N)
 have hflat : (List.replicate N [AV.int IntKind.i64 0]).flatten = rwI N (fun _ => 0) := by unfold rwI srN; rw [List.map_map, flat_rep]; rfl
 have hul := upU_len hk.lt8
 have hunn := upU_nonneg (sur es) 8
 have hle := hk.le
 simp (disch := first | assumption | omega) only [c90, go_sem, ↓reduceIte]
 refine m_loop (fun M st => ∃ P, M = (upU (sF es P) 8).toNat ∧ CInv es P ∧ (∀ j, P j + upU (sF es P) 8 ≤ 14) ∧ clP N es (upU (sF es P) 8).toNat P = agP N es ∧ At st.env [(0, .optr ks 0 0)] ∧ h0.length ≤ st.heap.length ∧
   getH st.heap ks = .cells 0 (stC N (eds es) (sF es P) (.oslice kp 0 none 0 es.length c)) ∧ getH st.heap kp = .cells 0 (rwI es.length P)) (upU (sur es) 8).toNat (by omega)
  ⟨fun _ => 0, by rw [sF_zero], cinv_zero es, fun j => by rw [sF_zero]; show (0 : Int) + upU (sur es) 8 ≤ 14; omega, by rw [sF_zero]; rfl, by simp only [go_sem, ↓reduceIte], by simp, by rw [sF_zero, getH_append_none]; exact h1, by rw [getH_append_none]; exact h2⟩ ?_
 rintro M e h hM ⟨P, rfl, hi, hb, hcl, hE, hhl, g1, g2⟩ Pq hP
 simp only [At_cons, At_nil] at hE g1 g2 hhl
 obtain ⟨f0, -⟩ := hE
 have hbx := sF_box hk.n8 hk.lt P
 have hup := upU_nonneg (sF es P) 8
 by_cases hz : upU (sF es P) 8 = 0
 ·have hzb : zB (sF es P) = true := by
   rw [zB, List.all_eq_true]
   exact fun x _ => by simpa using (up_pos hk).2 hz x
  have bt : (true != true) = false := rfl
  simp (disch := first | assumption | omega) only [go_sem, ↓reduceIte, f0, g1, stC_len, stC_arr, eaA, sr8_len, sr8_zero, hzb, bt]
  rw [hz] at hcl
  change P = agP N es at hcl
  subst hcl
  exact hV _ g1 g2
 ·obtain ⟨x, hx⟩ : ∃ x, sF es P x ≠ 0 := Classical.byContradiction fun hn => hz ((up_pos hk).1 fun x => Classical.byContradiction fun hx => hn ⟨x, hx⟩)
  obtain ⟨⟨ht1, ht2, hch, hlen7⟩, hi', hP1, hup'⟩ := nxt_ok hk hc hi hx
  have hzb : zB (sF es P) = false := by
   cases hq : zB (sF es P) with
   | false => rfl
   | true =>
    exfalso
    rw [zB, List.all_eq_true] at hq
    by_cases hx8 : x < 8
    ·have := hq x (List.mem_range.2 hx8); simp at this; exact hx this
    ·exact hx (sF_big hk.lt P (by omega))
  have bf : (false != true) = true := rfl
  have gn : getH h h.length = .none := getH_ge _ _ (Nat.le_refl _)
  simp (disch := first | assumption | omega) only [go_sem, ↓reduceIte, f0, g1, stC_len, stC_arr, eaA, sr8_len, sr8_zero, hzb, bf, stC_0, hroom, hm1, gn, hflat]
  have hks := getH_lt g1 (by simp)
  have hkp := getH_lt g2 (by simp)
  obtain ⟨K, hK⟩ : ∃ K, K = h.length := ⟨_, rfl⟩
  rw [← hK] at hks hkp hhl gn ⊢
  have k1 : ¬ K = ks := by omega
  have k2 : ¬ K = kp := by omega
  have hrl : ∀ f : Nat → Int, (rwI N f).length = N := fun f => rwI_len N f
  have sHl : ∀ (h : Heap) (k : Nat) (o : AObj), h.length ≤ (setH h k o).length := fun h k o => by rw [length_setH]; omega
  refine m_loop (fun M st => ∃ i : Nat, M = N - i ∧ i ≤ N ∧ At st.env [(0, .optr ks 0 0), (2, .oslice K 0 none 0 N (some N)), (24, .int .i64 N), (25, .int .i64 i)] ∧ K ≤ st.heap.length ∧
    getH st.heap ks = .cells 0 (stC N (eds es) (sF es P) (.oslice kp 0 none 0 es.length c)) ∧ getH st.heap kp = .cells 0 (rwI es.length P) ∧ getH st.heap K = .cells 0 (rwI N fun y => if y < i ∧ 0 ≤ sF es P y then 1000 else 0)) N (by omega)
   ⟨0, by omega, by omega, by simp only [go_sem, ↓reduceIte, f0], by simp only [length_setH, ← hK]; omega, by simp only [go_sem, ↓reduceIte, k1, g1], by simp only [go_sem, ↓reduceIte, k2, g2], by
    simp only [go_sem, ↓reduceIte]
    congr 3⟩ ?_
  rintro M e2 h2 hM2 ⟨i, rfl, hil, hE, hl2, g1, g2, gK⟩ P2 hP2
  simp only [At_cons, At_nil] at hE g1 g2 gK hl2
  obtain ⟨f0, f2, f24, f25, -⟩ := hE
  by_cases hlt : i < N
  ·have hi8 : i < 8 := by omega
   have hi1 : i + 1 ≤ N := hlt
   by_cases hs : 0 ≤ sF es P i
   ·have dd : decide (sF es P i ≥ 0) = true := by simpa using hs
    simp (disch := first | assumption | omega) only [go_sem, ↓reduceIte, f0, f2, f24, f25, g1, g2, gK, hlt, hi8, hi1, stC_len, stC_get, ixAA_optr, dd, hrl, srN_set]
    refine hP2 (N - (i + 1)) _ (by omega) ⟨i + 1, rfl, by omega, by simp only [go_sem, ↓reduceIte, f0, f2, f24], by simp only [length_setH]; omega, by simp only [go_sem, ↓reduceIte, k1, g1], by simp only [go_sem, ↓reduceIte, k2, g2], ?_⟩
    simp only [go_sem, ↓reduceIte]
    congr 2
    congr 1
    funext y
    by_cases hy : y = i
    ·subst hy; rw [if_pos rfl, if_pos ⟨by omega, hs⟩]
    ·rw [if_neg hy]
     by_cases h3 : y < i ∧ 0 ≤ sF es P y
     ·rw [if_pos h3, if_pos ⟨by omega, h3.2⟩]
     ·rw [if_neg h3, if_neg fun h4 => h3 ⟨by omega, h4.2⟩]
   ·have dd : decide (sF es P i ≥ 0) = false := by simpa using hs
    simp (disch := first | assumption | omega) only [go_sem, ↓reduceIte, f0, f2, f24, f25, g1, g2, gK, hlt, hi8, hi1, stC_len, stC_get, ixAA_optr, dd, hrl, srN_set]
    refine hP2 (N - (i + 1)) _ (by omega) ⟨i + 1, rfl, by omega, by simp only [go_sem, ↓reduceIte, f0, f2, f24], hl2, g1, g2, ?_⟩
    simp only [gK]
    congr 2
    congr 1
    funext y
    by_cases h3 : y < i ∧ 0 ≤ sF es P y
    ·rw [if_pos h3, if_pos ⟨by omega, h3.2⟩]
    ·rw [if_neg h3, if_neg fun h4 => h3 ⟨by
      have : y ≠ i := fun h => by rw [h] at h4; exact hs h4.2
      omega, h4.2⟩]
  ·obtain rfl : N = i := by omega
   simp (disch := first | assumption | omega) only [go_sem, ↓reduceIte, f0, f2, f24, f25, hlt]
   clear hP2
   have hd0 : (rwI N fun y => if y < N ∧ 0 ≤ sF es P y then 1000 else 0) = (srN N (dst0 N (sF es P))).map (.int .i64) := by
    unfold rwI srN
    rw [List.map_map, List.map_map]
    apply List.map_congr_left
    intro y hy
    have hyN := List.mem_range.1 hy
    simp only [Function.comp, dst0]
    by_cases h3 : 0 ≤ sF es P y
    ·rw [if_pos ⟨hyN, h3⟩, if_neg (by omega)]
    ·rw [if_neg (by omega), if_pos (by omega)]
   rw [hd0] at gK
   refine gpF_con (conF_far hk hi (dst0_or N (sF es P)) (s := sF es P)) (by omega) (fz_cons (frz_optr g1 (frz_stC _ (frz_slice _ _ _ _ _) (frz_own (l := srN es.length P) g2 (by rw [srN_len])))) (fz_cons (frz_own gK (by rw [srN_len])) (fz_nil _))) ?_
   have hfr : fin0 es P N (dst0 N (sF es P)) = frD N es P := rfl
   simp only [hfr]
   clear gK
   simp (disch := first | assumption | omega) only [go_sem, ↓reduceIte, srN_len]
   refine m_loop (fun M st => ∃ i : Nat, M = N - i ∧ i ≤ N ∧ At st.env [(0, .optr ks 0 0), (5, ints (srN N (frD N es P).b)), (6, .int .i64 (bst (sF es P) (frD N es P).d i).1), (7, .int .i64 (bst (sF es P) (frD N es P).d i).2), (45, ints (srN N (frD N es P).d)), (46, .int .i64 N), (47, .int .i64 i)] ∧ st.heap = h2) N (by omega)
    ⟨0, by omega, by omega, by simp only [go_sem, ↓reduceIte, f0]; exact ⟨rfl, rfl⟩, rfl⟩ ?_
   rintro M e3 h3 hM3 ⟨i, rfl, hil, hE, rfl⟩ P3 hP3
   simp only [At_cons, At_nil] at hE g1 g2 hl2
   obtain ⟨f0, f5, f6, f7, f45, f46, f47, -⟩ := hE
   by_cases hlt : i < N
   ·have hi8 : i < 8 := by omega
    have hbs : bst (sF es P) (frD N es P).d (i + 1) = if 0 < sF es P i ∧ (frD N es P).d i < (bst (sF es P) (frD N es P).d i).2 then (i, (frD N es P).d i) else bst (sF es P) (frD N es P).d i := rfl
    have hdg := srN_get (frD N es P).d hlt
    by_cases a1 : 0 < sF es P i
    ·have d1 : decide (sF es P i > 0) = true := by simpa using a1
     by_cases a2 : (frD N es P).d i < (bst (sF es P) (frD N es P).d i).2
     ·have d2 : decide ((frD N es P).d i < (bst (sF es P) (frD N es P).d i).2) = true := by simpa using a2
      rw [if_pos ⟨a1, a2⟩] at hbs
      simp (disch := first | assumption | omega) only [go_sem, ↓reduceIte, f0, f5, f6, f7, f45, f46, f47, g1, hlt, hi8, hdg, stC_len, stC_get, ixAA_optr, d1, d2]
      exact hP3 (N - (i + 1)) _ (by omega) ⟨i + 1, rfl, by omega, by simp only [go_sem, ↓reduceIte, f0, f5, f45, f46, hbs], rfl⟩
     ·have d2 : decide ((frD N es P).d i < (bst (sF es P) (frD N es P).d i).2) = false := by simpa using a2
      rw [if_neg fun h => a2 h.2] at hbs
      simp (disch := first | assumption | omega) only [go_sem, ↓reduceIte, f0, f5, f6, f7, f45, f46, f47, g1, hlt, hi8, hdg, stC_len, stC_get, ixAA_optr, d1, d2]
      exact hP3 (N - (i + 1)) _ (by omega) ⟨i + 1, rfl, by omega, by simp only [go_sem, ↓reduceIte, f0, f5, f6, f7, f45, f46, hbs], rfl⟩
    ·have d1 : decide (sF es P i > 0) = false := by simpa using a1
     rw [if_neg fun h => a1 h.1] at hbs
     simp (disch := first | assumption | omega) only [go_sem, ↓reduceIte, f0, f5, f6, f7, f45, f46, f47, g1, hlt, hi8, hdg, stC_len, stC_get, ixAA_optr, d1]
     exact hP3 (N - (i + 1)) _ (by omega) ⟨i + 1, rfl, by omega, by simp only [go_sem, ↓reduceIte, f0, f5, f6, f7, f45, f46, hbs], rfl⟩
   ·obtain rfl : N = i := by omega
    simp (disch := first | assumption | omega) only [go_sem, ↓reduceIte, f0, f5, f6, f7, f45, f46, f47, hlt]
    clear hP3
    obtain ⟨A, hA⟩ : ∃ A, A = arcs es P es.length := ⟨_, rfl⟩
    have hids : Ids A := by rw [hA]; exact arcs_ids es P _
    obtain ⟨b, hbd⟩ : ∃ b, b = (frD N es P).b := ⟨_, rfl⟩
    rw [← hA, ← hbd] at hch
    rw [← hbd] at f5
    refine m_loop (fun M st => ∃ (v : Nat) (l : List Arc) (P1 : Nat → Int), M = l.length ∧ l.length ≤ 7 ∧ v < N ∧ Chn A b v l ∧ run l P1 = nxt N es P ∧ (∀ j, -(7 - (l.length : Int)) ≤ P1 j - P j ∧ P1 j - P j ≤ 7 - (l.length : Int)) ∧ (∀ x, -(7 - (l.length : Int)) ≤ sF es P1 x - sF es P x ∧ sF es P1 x - sF es P x ≤ 7 - (l.length : Int)) ∧
      At st.env [(0, .optr ks 0 0), (5, ints (srN N b)), (6, .int .i64 v), (10, .clo 70 [.optr ks 0 0] [])] ∧ h0.length ≤ st.heap.length ∧ getH st.heap ks = .cells 0 (stC N (eds es) (sF es P1) (.oslice kp 0 none 0 es.length c)) ∧ getH st.heap kp = .cells 0 (rwI es.length P1)) (wyL N es P).length (by omega)
     ⟨toT N es P, wyL N es P, P, rfl, hlen7, ht2, hch, rfl, fun j => by omega, fun x => by omega, by simp only [go_sem, ↓reduceIte, f0, f5]; exact f6, by simp only; omega, g1, g2⟩ ?_
    rintro M e4 h4 hM4 ⟨v, l, P1, rfl, hl7, hvN, hch1, hrun, hPb, hsb, hE, hl4, q1, q2⟩ P4 hP4
    simp only [At_cons, At_nil] at hE q1 q2 hl4
    obtain ⟨f0, f5, f6, f10, -⟩ := hE
    have hbg := srN_get b hvN
    cases l with
    | nil =>
     have hbv : b v = 0 := by cases hch1 with | nil h => exact h
     have d0 : ((0 : Int) != 0) = false := rfl
     rw [hbv] at hbg
     simp (disch := first | assumption | omega) only [go_sem, ↓reduceIte, f0, f5, f6, f10, hbg, hvN, d0]
     change P1 = nxt N es P at hrun
     subst hrun
     refine hP (upU (sF es (nxt N es P)) 8).toNat _ (by omega) ⟨nxt N es P, rfl, hi', fun j => by have := hb j; have := hP1 j; omega, ?_, by simp only [go_sem, ↓reduceIte, f0], by simp only; omega, q1, q2⟩
     rw [show (upU (sF es P) 8).toNat = (upU (sF es (nxt N es P)) 8).toNat + 1 by have := upU_nonneg (sF es (nxt N es P)) 8; omega] at hcl
     exact hcl
    | cons a l =>
     obtain ⟨ha, hba, hav, hch2⟩ : a ∈ A ∧ b v = a.id ∧ a.v = v ∧ Chn A b a.u l := by
      generalize hv : v = v' at hch1
      cases hch1 with
      | cons h1 h2 h3 => exact ⟨h1, h2, rfl, h3⟩
     rw [hA] at ha
     have haN := arcs_lt hk.lt ha
     have hst := ap_step a P1
     have hsf : ∀ x, sF es (apA a P1) x = sF es P1 x + dl a.u x - dl a.v x := fun x => sF_ap ha x
     have hPb' : ∀ j, -(7 - (l.length : Int)) ≤ apA a P1 j - P j ∧ apA a P1 j - P j ≤ 7 - (l.length : Int) := fun j => by
      have h1 := hPb j; have h2 := hst j
      simp only [List.length_cons] at h1
      omega
     have hsb' : ∀ x, -(7 - (l.length : Int)) ≤ sF es (apA a P1) x - sF es P x ∧ sF es (apA a P1) x - sF es P x ≤ 7 - (l.length : Int) := fun x => by
      have h1 := hsb x; have h2 := hsf x; have h3 := dl_box a.u x; have h4 := dl_box a.v x
      simp only [List.length_cons] at h1
      omega
     have hll : (a :: l).length = l.length + 1 := rfl
     have hPi : ∀ j, -100000 ≤ P1 j ∧ P1 j ≤ 100000 := fun j => by have := hPb j; have := hi.nn j; have := hb j; omega
     have hsi : ∀ x, -100000 ≤ sF es P1 x ∧ sF es P1 x ≤ 100000 := fun x => by have := hsb x; have := hbx x; omega
     have close : ∀ h5 : Heap, getH h5 ks = .cells 0 (stC N (eds es) (sF es (apA a P1)) (.oslice kp 0 none 0 es.length c)) → getH h5 kp = .cells 0 (rwI es.length (apA a P1)) → h4.length ≤ h5.length → ∀ e5, At e5 [(0, .optr ks 0 0), (5, ints (srN N b)), (6, .int .i64 a.u), (10, .clo 70 [.optr ks 0 0] [])] → P4 ⟨e5, h5⟩ := fun h5 g1 g2 g3 e5 hE5 =>
      hP4 l.length _ (by rw [hll]; omega) ⟨a.u, l, apA a P1, rfl, by rw [hll] at hl7; omega, haN.1, hch2, hrun, hPb', hsb', hE5, by simp only; omega, g1, g2⟩
     obtain ⟨i, him, rfl | ⟨hp0, rfl⟩⟩ := mem_arcs.1 ha
     ·simp only at hba hav haN hsf close
      have hgE := gE_get him
      have hg := ed_get him
      have d0 : ((i : Int) + 1 != 0) = true := by simp; omega
      have d1 : decide ((i : Int) + 1 > 0) = true := by rw [decide_eq_true_eq]; omega
      have d2 : (i : Int) + 1 - 1 = (i : Int) := by omega
      rw [hba] at hbg
      simp (disch := first | assumption | omega) only [go_sem, ↓reduceIte, f0, f5, f6, f10, hbg, hvN, d0, d1, d2]
      refine gp_of (raw_play hk q1 q2 hne him (t := 1) (by omega) (hPi i) hsi n (by omega) fun h5 g3 g4 g5 g6 => ?_)
      have g3' : getH h5 ks = .cells 0 (stC N (eds es) (sF es (apA ⟨(gE es i).1, (gE es i).2, 1, (i : Int) + 1⟩ P1)) (.oslice kp 0 none 0 es.length c)) := by
       rw [g3]; congr 2; funext x; rw [hsf x, Int.one_mul]; omega
      have g4' : getH h5 kp = .cells 0 (rwI es.length (apA ⟨(gE es i).1, (gE es i).2, 1, (i : Int) + 1⟩ P1)) := by rw [g4, apA_fwd]
      have cl := close h5 g3' g4' g6
      rw [hgE] at cl
      generalize hqd : es[i] = q at *
      obtain ⟨qa, qb⟩ := q
      simp only [edA] at hg
      simp (disch := first | assumption | omega) only [go_sem, ↓reduceIte, f0, f5, f6, f10, hbg, hvN, d0, d1, d2, g3, stC_1, hg, him, ixAA_ptr]
      exact cl _ (by simp only [go_sem, ↓reduceIte, f0, f5, f10])
     ·simp only at hba hav haN hsf close
      have hgE := gE_get him
      have hg := ed_get him
      have d0 : (-(i : Int) - 1 != 0) = true := by rw [bne_iff_ne]; omega
      have d1 : decide (-(i : Int) - 1 > 0) = false := by rw [decide_eq_false_iff_not]; omega
      have d2 : (0 : Int) - (-(i : Int) - 1) - 1 = (i : Int) := by omega
      rw [hba] at hbg
      simp (disch := first | assumption | omega) only [go_sem, ↓reduceIte, f0, f5, f6, f10, hbg, hvN, d0, d1, d2]
      refine gp_of (raw_play hk q1 q2 hne him (t := -1) (by omega) (hPi i) hsi n (by omega) fun h5 g3 g4 g5 g6 => ?_)
      have g3' : getH h5 ks = .cells 0 (stC N (eds es) (sF es (apA ⟨(gE es i).2, (gE es i).1, -1, -(i : Int) - 1⟩ P1)) (.oslice kp 0 none 0 es.length c)) := by
       rw [g3]; congr 2; funext x; rw [hsf x]; omega
      have g4' : getH h5 kp = .cells 0 (rwI es.length (apA ⟨(gE es i).2, (gE es i).1, -1, -(i : Int) - 1⟩ P1)) := by rw [g4, apA_bwd]
      have cl := close h5 g3' g4' g6
      rw [hgE] at cl
      generalize hqd : es[i] = q at *
      obtain ⟨qa, qb⟩ := q
      simp only [edA] at hg
      simp (disch := first | assumption | omega) only [go_sem, ↓reduceIte, f0, f5, f6, f10, hbg, hvN, d0, d1, d2, g3, stC_1, hg, him, ixAA_ptr]
      exact cl _ (by simp only [go_sem, ↓reduceIte, f0, f5, f10])
end Go.Ev.YtjcabpldgdafeaaC
