/- The fewest plays that close a book, and heights that prove it: the program's. How many plays close a book, and how many heights prove: the program's. No condition but those that stand in each. -/
import Derived.Test.YtjcabpldgdafeaaBL4Cls
set_option linter.unusedSimpArgs false
set_option linter.unusedVariables false
namespace Go.Ev.YtjcabpldgdafeaaC
open Go Go.Proofs Go.Ev
attribute [local irreducible] Res.all evC evLoop evOps evOper evOp evFn evCall freeze G GO GV GP GC R
set_option maxRecDepth 100000
def mnL : Int → List Int → Int
 | m, [] => m
 | m, x :: r => mnL (if x < m then x else m) r
theorem mnL_le : ∀ (l : List Int) (m : Int), mnL m l ≤ m ∧ ∀ x ∈ l, mnL m l ≤ x
 | [], m => ⟨Int.le_refl _, fun x h => by cases h⟩
 | y :: r, m => by
  obtain ⟨h1, h2⟩ := mnL_le r (if y < m then y else m)
  have h3 : (if y < m then y else m) ≤ m ∧ (if y < m then y else m) ≤ y := by split <;> omega
  rw [mnL]
  refine ⟨by omega, fun x hx => ?_⟩
  rcases List.mem_cons.1 hx with rfl | hx
  ·omega
  ·exact h2 x hx
theorem mnL_mem : ∀ (l : List Int) (m : Int), mnL m l = m ∨ mnL m l ∈ l
 | [], m => .inl rfl
 | y :: r, m => by
  rw [mnL]
  rcases mnL_mem r (if y < m then y else m) with h | h
  ·rw [h]
   split
   ·exact .inr List.mem_cons_self
   ·exact .inl rfl
  ·exact .inr (List.mem_cons_of_mem _ h)
theorem con_Min (m : Int) (l : List Int) (hl : l.length ≤ 1000) : Con T 1 76 [ints (m :: l)] (.int .i64 (mnL m l)) := by
 refine con_intro t76 fun n hn V hV => ?_
 have hlen : (m :: l).length = l.length + 1 := rfl
 have d0 : decide ((l.length : Int) + 1 < 1) = false := by rw [decide_eq_false_iff_not]; omega
 simp (disch := first | assumption | omega) only [c76, go_sem, ↓reduceIte, d0]
 refine m_loop (fun M st => ∃ (i : Nat) (x : Int), M = l.length - i ∧ i ≤ l.length ∧ At st.env [(0, ints (m :: l)), (3, .int .i64 x), (4, .int .i64 ((i : Int) + 1))] ∧ mnL m l = mnL x (l.drop i)) l.length (by omega)
  ⟨0, m, by omega, by omega, by simp only [go_sem, ↓reduceIte], rfl⟩ ?_
 rintro M e h hM ⟨i, x, rfl, hi, hE, hA⟩ P hP
 simp only [At_cons, At_nil] at hE
 obtain ⟨f0, f3, f4, -⟩ := hE
 by_cases hlt : i < l.length
 ·obtain ⟨y, hy⟩ := get_ex hlt
  have d1 : decide ((i : Int) + 1 < (l.length : Int) + 1) = true := by rw [decide_eq_true_eq]; omega
  rw [drop_cons hy, mnL] at hA
  simp (disch := first | assumption | omega) only [go_sem, ↓reduceIte, f0, f3, f4, d1, hy]
  exact hP (l.length - (i + 1)) _ (by omega) ⟨i + 1, _, rfl, by omega, by simp only [go_sem, ↓reduceIte, f0], hA⟩
 ·have d1 : decide ((i : Int) + 1 < (l.length : Int) + 1) = false := by rw [decide_eq_false_iff_not]; omega
  simp (disch := first | assumption | omega) only [go_sem, ↓reduceIte, f0, f3, f4, d1]
  exact hV _ _ (by rw [frz_int, hA, List.drop_eq_nil_of_le (by omega)]; rfl)
theorem zer_rwI (m : Nat) : zer m = rwI m fun _ => 0 := by
 unfold rwI srN zer
 rw [List.map_map]
 apply List.ext_getElem <;> simp
theorem raw_open {N : Nat} {es : List Ed} (hk : OkB N es) {h0 : Heap} (n : Nat) (hn : 10 ≤ n) {V : AV × Heap → Prop}
  (hV : ∀ h' ks kp c, getH h' ks = .cells 0 (stC N (eds es) (sur es) (.oslice kp 0 none 0 es.length c)) → getH h' kp = .cells 0 (rwI es.length fun _ => 0) → ks ≠ kp → h0.length ≤ ks → h0.length ≤ kp → (∀ j, j < h0.length → getH h' j = getH h0 j) → V (.tuple [.optr ks 0 0, .int .i64 0], h')) :
  (evCall T n true (.fn 57) [.agg [.int .i64 N, eds es]] h0).all V := by
 obtain ⟨n, rfl⟩ : ∃ n', n = n' + 1 := ⟨n - 1, by omega⟩
 rw [raw_enter t57]
 have b0 : ((0 : Int) != 0) = false := rfl
 have hck : ∀ {base : Nat} {Q : EX × St → Prop} {d : Option Nat} {L : List IOper} {ks : List Kont} {e : Env} {h : Heap}, GP (evCall T n) base Q d L ks e (evCall T n false (.fn 19) [.agg [.int .i64 N, .slice (some 2) (es.map edA) false]] h) = GO (evCall T n) base Q L ks ⟨setDst e d (.int .i64 0), h⟩ := fun {base Q d L ks e h} => by
  have := con_CheckBook (bkN N es) (by have := hk.le; simp [bkN]; omega)
  rw [bkN_A, ok_chk hk] at this
  exact gp_eq this (by omega) (fz_cons (frz_agg (mz_cons (frz_int _ _ _ _) (mz_cons (frz_slice _ _ _ _ _) (mz_nil _ _)))) (fz_nil _)) (or_pi _ _ _)
 simp (disch := first | assumption | omega) only [c57, go_sem, ↓reduceIte, hck, b0]
 refine gp_of (raw_new N es (by have := hk.le; omega) hk.lt8 (eds es) _ (.inl ⟨_, rfl⟩) (fun j hj => by simp [keyOf] at hj) n (by omega) fun v h' hp => ?_)
 obtain ⟨rfl, p1, p2, p3, p4⟩ := hp
 simp (disch := first | assumption | omega) only [go_sem, ↓reduceIte]
 have hll : ∀ o : AObj, (setH (h0 ++ List.replicate 12 AObj.none) (h0.length + 1) o).length = h0.length + 12 := fun o => by rw [length_setH, List.length_append, List.length_replicate]; omega
 rw [hll] at p1 p2 p3
 exact hV _ _ _ _ p1 (by rw [p2, zer_rwI]) (by omega) (by omega) (by omega) fun j hj => by
  rw [p3 j (by omega), getH_setH_ne _ _ _ _ (by omega), getH_append_none]
noncomputable def agA (N : Nat) (es : List Ed) : AV := .tuple [stA N es (sF es (agP N es)) (ints (srN es.length (agP N es))), .int .i64 0]
theorem frz_st {h : Heap} {n ks kp : Nat} {c : Option Nat} {N : Int} {es : List Ed} {s P : Nat → Int} (g1 : getH h ks = .cells 0 (stC N (eds es) s (.oslice kp 0 none 0 es.length c))) (g2 : getH h kp = .cells 0 (rwI es.length P)) : freeze h (n + 3) (.optr ks 0 0) = .ret (stA N es s (ints (srN es.length P))) :=
 frz_optr g1 (frz_stC _ (frz_slice _ _ _ _ _) (frz_own (l := srN es.length P) g2 (by rw [srN_len])))
theorem con_again {N : Nat} {es : List Ed} (hk : OkB N es) : Con T 12 74 [bkA (bkN N es)] (if cloB es = true then agA N es else .tuple [.nilptr, .int .i64 19]) := by
 refine con_intro t74 fun n hn V hV => ?_
 have b0 : ((0 : Int) != 0) = false := rfl
 rw [bkN_A]
 simp (disch := first | assumption | omega) only [c74, go_sem, ↓reduceIte]
 refine gp_of (raw_open hk n (by omega) fun h' ks kp c g1 g2 hne _ _ _ => ?_)
 simp (disch := first | assumption | omega) only [go_sem, ↓reduceIte, b0]
 refine gp_con (con_closes N es (sur es) (ints (srN es.length fun _ => 0)) hk.le20 hk.lt8) (by omega) (fz_cons (frz_st g1 g2) (fz_nil _)) (or_pb _ _) ?_
 cases hcl : cloB es with
 | true =>
  rw [hcl, if_pos rfl] at hV
  simp (disch := first | assumption | omega) only [go_sem, ↓reduceIte]
  refine gp_of (raw_close hk (cloB_iff.1 hcl) g1 g2 hne n (by omega) fun h2 q1 q2 => ?_)
  simp (disch := first | assumption | omega) only [go_sem, ↓reduceIte]
  exact hV _ _ (frz_two (frz_st q1 q2) (frz_int _ _ _ _))
 | false =>
  rw [hcl, if_neg (by decide)] at hV
  simp (disch := first | assumption | omega) only [go_sem, ↓reduceIte]
  exact hV _ _ (frz_two (frz_nilptr _ _) (frz_int _ _ _ _))
theorem con_Again {N : Nat} {es : List Ed} (hk : OkB N es) : Con T 13 37 [bkA (bkN N es)] (if cloB es = true then .tuple [ints (srN es.length (agP N es)), .int .i64 0] else .tuple [ints [], .int .i64 19]) := by
 refine con_intro t37 fun n hn V hV => ?_
 have b0 : ((0 : Int) != 0) = false := rfl
 have b19 : ((19 : Int) != 0) = true := rfl
 have hca := con_again hk
 rw [bkN_A] at hca ⊢
 simp (disch := first | assumption | omega) only [c37, go_sem, ↓reduceIte]
 refine gp_con hca hn (fz_cons (frz_agg (mz_cons (frz_int _ _ _ _) (mz_cons (frz_slice _ _ _ _ _) (mz_nil _ _)))) (fz_nil _)) rfl ?_
 cases hcl : cloB es with
 | true =>
  rw [hcl, if_pos rfl] at hV
  rw [if_pos rfl]
  simp (disch := first | assumption | omega) only [go_sem, ↓reduceIte, agA, b0, stC_10]
  exact hV _ _ (frz_two (frz_slice _ _ _ _ _) (frz_int _ _ _ _))
 | false =>
  rw [hcl, if_neg (by decide)] at hV
  rw [if_neg (by decide)]
  simp (disch := first | assumption | omega) only [go_sem, ↓reduceIte, b19]
  exact hV _ _ (frz_two (frz_slice _ _ _ _ _) (frz_int _ _ _ _))
noncomputable def htD (N : Nat) (es : List Ed) : Nat → Int := (fin0 es (agP N es) N fun _ => 0).d
def lsN (l : List Int) : Int := match l with
 | [] => 0
 | m :: r => mnL m r
noncomputable def htH (N : Nat) (es : List Ed) (v : Nat) : Int := htD N es v - lsN (srN N (htD N es))
theorem lsN_le {l : List Int} {x : Int} (h : x ∈ l) : lsN l ≤ x := by
 cases l with
 | nil => cases h
 | cons m r =>
  obtain ⟨h1, h2⟩ := mnL_le r m
  rcases List.mem_cons.1 h with rfl | h
  ·exact h1
  ·exact h2 x h
theorem lsN_mem {l : List Int} (h : l ≠ []) : lsN l ∈ l := by
 cases l with
 | nil => exact absurd rfl h
 | cons m r =>
  show mnL m r ∈ m :: r
  rcases mnL_mem r m with h1 | h1
  ·rw [h1]; exact List.mem_cons_self
  ·exact List.mem_cons_of_mem _ h1
theorem htH_ok {N : Nat} {es : List Ed} (hk : OkB N es) (hc : Clo es) : (∀ v, v < N → 0 ≤ htH N es v ∧ htH N es v ≤ 7) ∧ (∀ e ∈ es, htH N es e.2 ≤ htH N es e.1 + 1) ∧ hS N es (htH N es) = sumP (agP N es) es.length ∧ -7 ≤ lsN (srN N (htD N es)) ∧ lsN (srN N (htD N es)) ≤ 0 ∧ ∀ v, v < N → -7 ≤ htD N es v ∧ htD N es v ≤ 0 := by
 obtain ⟨g1, g2, _⟩ := agP_ok hk hc
 obtain ⟨h1, h2⟩ := heights hk.n1 hk.n8 hk.lt g1
 have hn1 := hk.n1
 have hm : ∀ v, v < N → lsN (srN N (htD N es)) ≤ htD N es v := fun v hv => lsN_le (List.mem_map.2 ⟨v, List.mem_range.2 hv, rfl⟩)
 obtain ⟨w, hw, hwe⟩ := List.mem_map.1 (lsN_mem (l := srN N (htD N es)) fun h => by
  have := srN_len N (htD N es)
  rw [h] at this
  simp at this
  omega)
 have hw2 := h2 w (List.mem_range.1 hw)
 have hp := pot_arcs.1 h1
 have hbd : ∀ v, v < N → -7 ≤ htD N es v ∧ htD N es v ≤ 0 := h2
 have hw3 := hbd w (List.mem_range.1 hw)
 refine ⟨fun v hv => ?_, fun e he => ?_, ?_, by omega, by omega, hbd⟩
 ·have a1 := hm v hv; have a2 := hbd v hv
  unfold htH
  omega
 ·obtain ⟨i, hi, rfl⟩ := gE_of he
  have := (hp i hi).1
  unfold htH htD
  omega
 ·rw [← tight hk.lt (fun x _ => g2 x) g1.nn h1]
  exact hS_shift hk.n8 hk.lt _ _
set_option maxHeartbeats 1000000 in
theorem con_Heights {N : Nat} {es : List Ed} (hk : OkB N es) : Con T 13 38 [bkA (bkN N es)] (if cloB es = true then .tuple [ints (srN N (htH N es)), .int .i64 0] else .tuple [ints [], .int .i64 19]) := by
 refine con_intro t38 fun n hn V hV => ?_
 have b0 : ((0 : Int) != 0) = false := rfl
 have b19 : ((19 : Int) != 0) = true := rfl
 have hca := con_again hk
 have hn1 := hk.n1
 have hn8 := hk.n8
 rw [bkN_A] at hca ⊢
 simp (disch := first | assumption | omega) only [c38, go_sem, ↓reduceIte]
 refine gp_con hca hn (fz_cons (frz_agg (mz_cons (frz_int _ _ _ _) (mz_cons (frz_slice _ _ _ _ _) (mz_nil _ _)))) (fz_nil _)) rfl ?_
 cases hcl : cloB es with
 | true =>
  rw [hcl, if_pos rfl] at hV
  rw [if_pos rfl]
  have hc := cloB_iff.1 hcl
  obtain ⟨o1, o2, o3, o4, o5, o6⟩ := htH_ok hk hc
  have hroom : room N 8 = true := room_ok (by omega)
  have hm1 : (N ≤ N) = True := eq_true (Nat.le_refl N)
  have hflat : (List.replicate N [AV.int IntKind.i64 0]).flatten = rwI N (fun _ => 0) := by unfold rwI srN; rw [List.map_map, flat_rep]; rfl
  simp (disch := first | assumption | omega) only [go_sem, ↓reduceIte, agA, b0, hroom, hm1, hflat]
  refine gp_of (raw_far hk (agP_ok hk hc).1 (ver := 0) (getH_setH_self _ _ _) n (by omega) fun h' g1 g2 => ?_)
  have hlen : (setH (setH (List.replicate 42 AObj.none) 1 (AObj.cells 0 [AV.int IntKind.i64 (N : Int), eds es])) 42 (AObj.cells 0 (rwI N fun _ => 0))).length = 43 := rfl
  simp only [hlen] at g1 ⊢
  change getH h' 156 = .cells 0 (rwI N (htD N es)) at g1
  simp (disch := first | assumption | omega) only [go_sem, ↓reduceIte]
  obtain ⟨m, l, hml⟩ : ∃ m l, srN N (htD N es) = m :: l := by
   cases h : srN N (htD N es) with
   | nil => have := srN_len N (htD N es); rw [h] at this; simp at this; omega
   | cons a r => exact ⟨a, r, rfl⟩
  have hll : l.length ≤ 1000 := by have := srN_len N (htD N es); rw [hml] at this; simp at this; omega
  have hls : lsN (srN N (htD N es)) = mnL m l := by rw [hml]; rfl
  refine gp_con (con_Min m l hll) (by omega) (fz_cons (by rw [← hml]; exact frz_own g1 (by rw [srN_len])) (fz_nil _)) (or_pi _ _ _) ?_
  rw [← hls]
  simp (disch := first | assumption | omega) only [go_sem, ↓reduceIte]
  refine m_loop (fun M st => ∃ i : Nat, M = N - i ∧ i ≤ N ∧ At st.env [(6, .oslice 156 0 none 0 N none), (8, .int .i64 (lsN (srN N (htD N es)))), (29, .int .i64 N), (30, .int .i64 i)] ∧ getH st.heap 156 = .cells 0 (rwI N fun v => if v < i then htH N es v else htD N es v)) N (by omega)
   ⟨0, by omega, by omega, by simp only [go_sem, ↓reduceIte], by rw [g1]; congr 3⟩ ?_
  rintro M e h hM ⟨i, rfl, hi, hE, g1⟩ P hP
  simp only [At_cons, At_nil] at hE g1
  obtain ⟨f6, f8, f29, f30, -⟩ := hE
  by_cases hlt : i < N
  ·have hi1 : i + 1 ≤ N := hlt
   have hb := o6 i hlt
   have hrl : ∀ f : Nat → Int, (rwI N f).length = N := fun f => rwI_len N f
   have hg := srN_get (fun v => if v < i then htH N es v else htD N es v) hlt
   simp only [Nat.lt_irrefl, if_false] at hg
   simp (disch := first | assumption | omega) only [go_sem, ↓reduceIte, f6, f8, f29, f30, g1, hlt, hi1, hg, hrl, srN_set]
   refine hP (N - (i + 1)) _ (by omega) ⟨i + 1, rfl, by omega, by simp only [go_sem, ↓reduceIte, f6, f8, f29], ?_⟩
   rw [getH_setH_self]
   congr 2
   congr 1
   funext y
   by_cases hy : y = i
   ·subst hy; rw [if_pos rfl, if_pos (Nat.lt_succ_self y)]; rfl
   ·rw [if_neg hy]
    by_cases h3 : y < i
    ·rw [if_pos h3, if_pos (by omega)]
    ·rw [if_neg h3, if_neg (by omega)]
  ·obtain rfl : N = i := by omega
   simp (disch := first | assumption | omega) only [go_sem, ↓reduceIte, f6, f8, f29, f30, hlt]
   have hlast : (rwI N fun v => if v < N then htH N es v else htD N es v) = (srN N (htH N es)).map (.int .i64) := by
    unfold rwI srN
    rw [List.map_map, List.map_map]
    apply List.map_congr_left
    intro y hy
    simp only [Function.comp]
    rw [if_pos (List.mem_range.1 hy)]
   rw [hlast] at g1
   exact hV _ _ (frz_two (frz_own g1 (by rw [srN_len])) (frz_int _ _ _ _))
 | false =>
  rw [hcl, if_neg (by decide)] at hV
  rw [if_neg (by decide)]
  simp (disch := first | assumption | omega) only [go_sem, ↓reduceIte, b19]
  exact hV _ _ (frz_two (frz_slice _ _ _ _ _) (frz_int _ _ _ _))
end Go.Ev.YtjcabpldgdafeaaC
set_option linter.unusedSimpArgs false
set_option linter.unusedVariables false
namespace Go.Ev.YtjcabpldgdafeaaC
open Go Go.Proofs Go.Ev
attribute [local irreducible] Res.all evC evLoop evOps evOper evOp evFn evCall freeze G GO GV GP GC R
set_option maxRecDepth 100000
def plF (l : List Int) (j : Nat) : Int := l.getD j 0
theorem plF_get {l : List Int} {i : Nat} {y : Int} (h : l[i]? = some y) : plF l i = y := by simp [plF, List.getD, h]
def uptF (l : List Int) (i j : Nat) : Int := if j < i then plF l j else 0
noncomputable def ckG (N : Nat) (es : List Ed) (l : List Int) : Int × Int :=
 if l.length ≠ es.length then (0, 15) else if withinB 0 60 l = false then (0, 3) else if (zB (sF es (plF l)) && cloB es) = true then (sumP (plF l) es.length, 0) else (0, 19)
def ckH (N : Nat) (es : List Ed) (l : List Int) : Int × Int :=
 if l.length ≠ N then (0, 15) else if withinB 0 20 l = false then (0, 3) else if es.any (fun e => decide (plF l e.2 > plF l e.1 + 1)) = true then (0, 14) else (hS N es (plF l), 0)
abbrev twoA (p : Int × Int) : AV := .tuple [.int .i64 p.1, .int .i64 p.2]
theorem within_mem {lo hi : Int} {l : List Int} (h : withinB lo hi l = true) {x : Int} (hx : x ∈ l) : lo ≤ x ∧ x ≤ hi := by
 simp only [withinB, Bool.not_eq_true', List.any_eq_false] at h
 have := h x hx
 simp only [Bool.or_eq_true, decide_eq_true_eq, not_or] at this
 omega
theorem plF_box {B : Int} (hB : 0 ≤ B) {l : List Int} (h : withinB 0 B l = true) (j : Nat) : 0 ≤ plF l j ∧ plF l j ≤ B := by
 unfold plF
 by_cases hj : j < l.length
 ·have := within_mem h (List.getElem_mem hj)
  simp [List.getD, hj]; exact this
 ·simp [List.getD, hj]; exact hB
theorem sP_box {es : List Ed} {P : Nat → Int} (hP : ∀ j, 0 ≤ P j ∧ P j ≤ 60) (x : Nat) : ∀ k : Nat, -(60 * (k : Int)) ≤ sP es P x k ∧ sP es P x k ≤ 60 * (k : Int)
 | 0 => by simp [sP]
 | k + 1 => by
  have h1 := sP_box hP x k (es := es)
  have h2 := hP k
  have h3 := dl_box (gE es k).1 x
  have h4 := dl_box (gE es k).2 x
  have h5 : dl (gE es k).1 x - dl (gE es k).2 x = -1 ∨ dl (gE es k).1 x - dl (gE es k).2 x = 0 ∨ dl (gE es k).1 x - dl (gE es k).2 x = 1 := by omega
  rw [sP]
  rcases h5 with h | h | h <;> rw [h] <;> omega
theorem sumP_box {P : Nat → Int} (hP : ∀ j, 0 ≤ P j ∧ P j ≤ 60) : ∀ k : Nat, 0 ≤ sumP P k ∧ sumP P k ≤ 60 * (k : Int)
 | 0 => by simp [sumP]
 | k + 1 => by
  have h1 := sumP_box hP k
  have h2 := hP k
  rw [sumP]; omega
theorem uptF_all {es : List Ed} (l : List Int) : sF es (uptF l es.length) = sF es (plF l) := by
 have : ∀ x k, k ≤ es.length → sP es (uptF l es.length) x k = sP es (plF l) x k := fun x k => by
  induction k with
  | zero => intro _; rfl
  | succ k ih => intro h; rw [sP, sP, ih (by omega)]; unfold uptF; rw [if_pos (by omega)]
 funext x
 rw [sF, sF, this x _ (Nat.le_refl _)]
set_option maxHeartbeats 2000000 in
theorem con_CheckAgain {N : Nat} {es : List Ed} (hk : OkB N es) (l : List Int) (hl : l.length ≤ 1000) : Con T 13 33 [bkA (bkN N es), ints l] (twoA (ckG N es l)) := by
 refine con_intro t33 fun n hn V hV => ?_
 have b0 : ((0 : Int) != 0) = false := rfl
 have hle := hk.le
 rw [bkN_A]
 simp (disch := first | assumption | omega) only [c33, go_sem, ↓reduceIte]
 refine gp_of (raw_open hk n (by omega) fun h' ks kp c g1 g2 hne hks0 hkp0 hF => ?_)
 have g0 : getH h' 2 = .cells 0 [.int .i64 N, eds es] := by rw [hF 2 (by simp [length_setH])]; rfl
 clear hF
 simp (disch := first | assumption | omega) only [go_sem, ↓reduceIte, b0, g0]
 by_cases hlen : l.length = es.length
 ·have d1 : ((l.length : Int) != (es.length : Int)) = false := by simp [hlen]
  by_cases hw : withinB 0 60 l = true
  ·have hbx := plF_box (by omega) hw
   have hub : ∀ i j, 0 ≤ uptF l i j ∧ uptF l i j ≤ 60 := fun i j => by have := hbx j; unfold uptF; split <;> omega
   have hck : ckG N es l = if (zB (sF es (plF l)) && cloB es) = true then (sumP (plF l) es.length, 0) else (0, 19) := by
    rw [ckG, if_neg (by omega), if_neg (by rw [hw]; decide)]
   rw [hck] at hV
   simp (disch := first | assumption | omega) only [go_sem, ↓reduceIte, d1, cs_within, hw]
   refine m_loop (fun M st => ∃ i : Nat, M = l.length - i ∧ i ≤ l.length ∧ At st.env [(6, .optr ks 0 0), (8, .int .i64 (sumP (plF l) i)), (31, ints l), (32, .int .i64 l.length), (33, .int .i64 i)] ∧
     getH st.heap ks = .cells 0 (stC N (eds es) (sF es (uptF l i)) (.oslice kp 0 none 0 es.length c)) ∧ getH st.heap kp = .cells 0 (rwI es.length (uptF l i))) l.length (by omega)
    ⟨0, by omega, by omega, by simp only [go_sem, ↓reduceIte]; rfl, ?_, ?_⟩ ?_
   ·have : uptF l 0 = fun _ => 0 := funext fun j => if_neg (Nat.not_lt_zero j)
    rw [this, sF_zero]; exact g1
   ·have : uptF l 0 = fun _ => 0 := funext fun j => if_neg (Nat.not_lt_zero j)
    rw [this]; exact g2
   clear g1 g2
   rintro M e h hM ⟨i, rfl, hi, hE, g1, g2⟩ P hP
   simp only [At_cons, At_nil] at hE g1 g2
   obtain ⟨f6, f8, f31, f32, f33, -⟩ := hE
   have hsm := sumP_box hbx i
   by_cases hlt : i < l.length
   ·obtain ⟨y, hy⟩ := get_ex hlt
    have hyb := within_mem hw (List.mem_of_getElem? hy)
    have hpy := plF_get hy
    simp (disch := first | assumption | omega) only [go_sem, ↓reduceIte, f6, f8, f31, f32, f33, hlt, hy]
    refine gp_of (raw_play hk g1 g2 hne (i := i) (t := y) (by omega) (by omega) (by have := hub i i; omega) (fun x => by
     have h1 := sP_box (es := es) (hub i) x es.length
     have h2 := sur_20 hk.le20 x
     rw [sF]; omega) n (by omega) fun h5 g3 g4 g5 g6 => ?_)
    simp (disch := first | assumption | omega) only [go_sem, ↓reduceIte, f6, f8, f31, f32, f33]
    have hup : ∀ j, uptF l (i + 1) j = uptF l i j + if j = i then y else 0 := fun j => by
     unfold uptF
     by_cases hj : j = i
     ·subst hj; rw [if_pos (Nat.lt_succ_self j), if_neg (Nat.lt_irrefl j), if_pos rfl, hpy]; omega
     ·rw [if_neg hj]
      by_cases h3 : j < i
      ·rw [if_pos h3, if_pos (by omega)]; omega
      ·rw [if_neg h3, if_neg (by omega)]; omega
    refine hP (l.length - (i + 1)) _ (by omega) ⟨i + 1, rfl, by omega, by simp only [go_sem, ↓reduceIte, f6, f31, f32, sumP, hpy], ?_, ?_⟩
    ·rw [g3]
     congr 2
     funext x
     rw [sF_up (by omega) hup]
    ·rw [g4]
     congr 2
     congr 1
     funext j
     rw [hup]
   ·obtain rfl : i = l.length := by omega
    rw [hlen] at g1 g2 f8
    rw [uptF_all] at g1
    simp (disch := first | assumption | omega) only [go_sem, ↓reduceIte, f6, f8, f31, f32, f33, hlt, g1, stC_len, stC_arr, eaA, sr8_len, sr8_zero]
    cases hz : zB (sF es (plF l)) with
    | true =>
     have bt : (true != true) = false := rfl
     simp (disch := first | assumption | omega) only [go_sem, ↓reduceIte, bt, f6, f8]
     refine gp_con (con_closes N es (sF es (plF l)) (ints (srN es.length (uptF l es.length))) hk.le20 hk.lt8) (by omega) (fz_cons (frz_st g1 g2) (fz_nil _)) (or_pb _ _) ?_
     cases hcl : cloB es with
     | true =>
      rw [hz, hcl, if_pos (show (true && true) = true from rfl)] at hV
      simp (disch := first | assumption | omega) only [go_sem, ↓reduceIte, f6, f8]
      exact hV _ _ (frz_two (frz_int _ _ _ _) (frz_int _ _ _ _))
     | false =>
      rw [hz, hcl, if_neg (show ¬ (true && false) = true by decide)] at hV
      simp (disch := first | assumption | omega) only [go_sem, ↓reduceIte, f6, f8]
      exact hV _ _ (frz_two (frz_int _ _ _ _) (frz_int _ _ _ _))
    | false =>
     have bt : (false != true) = true := rfl
     rw [hz, Bool.false_and, if_neg (by decide)] at hV
     simp (disch := first | assumption | omega) only [go_sem, ↓reduceIte, bt, f6, f8]
     exact hV _ _ (frz_two (frz_int _ _ _ _) (frz_int _ _ _ _))
  ·have hw' : withinB 0 60 l = false := by simpa using hw
   rw [show ckG N es l = (0, 3) by rw [ckG, if_neg (by omega), if_pos hw']] at hV
   simp (disch := first | assumption | omega) only [go_sem, ↓reduceIte, d1, cs_within, hw']
   exact hV _ _ (frz_two (frz_int _ _ _ _) (frz_int _ _ _ _))
 ·have d1 : ((l.length : Int) != (es.length : Int)) = true := by rw [bne_iff_ne]; omega
  rw [show ckG N es l = (0, 15) by rw [ckG, if_pos hlen]] at hV
  simp (disch := first | assumption | omega) only [go_sem, ↓reduceIte, d1]
  exact hV _ _ (frz_two (frz_int _ _ _ _) (frz_int _ _ _ _))
theorem con_up1 {N : Nat} (l : List Int) (hl : l.length = N) (hw : withinB 0 20 l = true) (q : Ed) (hq : q.1 < N ∧ q.2 < N) : Con T 1 73 ([] ++ [pA (eI q)] ++ [.ptr [ints l] 0]) (.bool (decide (plF l q.2 > plF l q.1 + 1))) := by
 refine con_intro t73 fun n hn V hV => ?_
 obtain ⟨qa, qb⟩ := q
 obtain ⟨hq1, hq2⟩ := hq
 simp only at hq1 hq2
 obtain ⟨y, hy⟩ := get_ex (show qa < l.length by omega)
 obtain ⟨z, hz⟩ := get_ex (show qb < l.length by omega)
 have hyb := within_mem hw (List.mem_of_getElem? hy)
 have h1 := plF_get hy
 have h2 := plF_get hz
 simp (disch := first | assumption | omega) only [c73, go_sem, ↓reduceIte, pA, eI, List.cons_append, List.nil_append, hy, hz, ixAA_optr]
 refine hV _ _ ?_
 rw [h1, h2]
 exact frz_bool _ _ _
theorem mul20 {a b : Int} (h1 : 0 ≤ a) (h2 : a ≤ 20) (h3 : -20 ≤ b) (h4 : b ≤ 20) : -400 ≤ a * b ∧ a * b ≤ 400 := by
 have e1 : a * b ≤ a * 20 := Int.mul_le_mul_of_nonneg_left h4 h1
 have e2 : a * (-20) ≤ a * b := Int.mul_le_mul_of_nonneg_left h3 h1
 omega
def hSi (es : List Ed) (h : Nat → Int) (i : Nat) : Int := sumC (List.range i) fun x => h x * sur es x
theorem hSi_succ (es : List Ed) (h : Nat → Int) (i : Nat) : hSi es h (i + 1) = hSi es h i + h i * sur es i := by
 unfold hSi
 rw [List.range_succ, sumC_app]; simp only [sumC]; omega
theorem hSi_box {es : List Ed} (hl : es.length ≤ 20) {h : Nat → Int} (hb : ∀ j, 0 ≤ h j ∧ h j ≤ 20) : ∀ i : Nat, -(400 * (i : Int)) ≤ hSi es h i ∧ hSi es h i ≤ 400 * (i : Int)
 | 0 => by simp [hSi, sumC]
 | i + 1 => by
  have h1 := hSi_box hl hb i
  have h2 := mul20 (hb i).1 (hb i).2 (sur_20 hl i).1 (sur_20 hl i).2
  rw [hSi_succ]; omega
set_option maxHeartbeats 2000000 in
theorem con_CheckHeights {N : Nat} {es : List Ed} (hk : OkB N es) (l : List Int) (hl : l.length ≤ 1000) : Con T 13 35 [bkA (bkN N es), ints l] (twoA (ckH N es l)) := by
 refine con_intro t35 fun n hn V hV => ?_
 have b0 : ((0 : Int) != 0) = false := rfl
 have hle := hk.le
 have hn8 := hk.n8
 rw [bkN_A]
 simp (disch := first | assumption | omega) only [c35, go_sem, ↓reduceIte, cs_open, b0]
 by_cases hlen : l.length = N
 ·have d1 : ((l.length : Int) != (N : Int)) = false := by simp [hlen]
  by_cases hw : withinB 0 20 l = true
  ·have hbx := plF_box (by omega) hw
   simp (disch := first | assumption | omega) only [go_sem, ↓reduceIte, d1, cs_within, hw]
   have hany : (es.map eI).any (fun q => es.any fun e => decide (eI e = q ∧ plF l e.2 > plF l e.1 + 1)) = es.any fun e => decide (plF l e.2 > plF l e.1 + 1) := by
    rw [Bool.eq_iff_iff]
    simp only [List.any_eq_true, List.mem_map, decide_eq_true_eq]
    constructor
    ·rintro ⟨_, _, e, he, _, h⟩; exact ⟨e, he, h⟩
    ·rintro ⟨e, he, h⟩; exact ⟨_, ⟨e, he, rfl⟩, e, he, rfl, h⟩
   have hcP := con_conP (k := 1) (f := 73) (first := []) (cap := [.ptr [ints l] 0]) (p := fun q => decide (plF l q.2.toNat > plF l q.1.toNat + 1)) (es.map eI) (by simp; omega) (fun q hq => by
    obtain ⟨e, he, rfl⟩ := List.mem_map.1 hq
    exact con_up1 l hlen hw e (hk.lt e he)) (fun h x => fz_cons (frz_pA _ _ _) (fz_cons (frz_ptr _ _ _ _) (fz_nil _))) (fun h => frz_clo (mz_nil _ _) (mz_cons (frz_ptr _ _ _ _) (mz_nil _ _)))
   have hany2 : (es.map eI).any (fun q => decide (plF l q.2.toNat > plF l q.1.toNat + 1)) = es.any fun e => decide (plF l e.2 > plF l e.1 + 1) := by
    rw [List.any_map]; rfl
   rw [hany2] at hcP
   unfold prs at hcP
   rw [map_eI] at hcP
   refine gp_con hcP (by omega) (fz_slice _ _ _ _ (fz_cons (frz_clo (mz_nil _ _) (mz_cons (frz_optr (cs := [ints l]) (by simp only [go_sem, ↓reduceIte]) (mz_cons (frz_slice _ _ _ _ _) (mz_nil _ _))) (mz_nil _ _))) (fz_nil _))) (or_pb _ _) ?_
   cases hup : es.any fun e => decide (plF l e.2 > plF l e.1 + 1) with
   | true =>
    rw [show ckH N es l = (0, 14) by rw [ckH, if_neg (by omega), if_neg (by rw [hw]; decide), if_pos hup]] at hV
    simp (disch := first | assumption | omega) only [go_sem, ↓reduceIte]
    exact hV _ _ (frz_two (frz_int _ _ _ _) (frz_int _ _ _ _))
   | false =>
    rw [show ckH N es l = (hS N es (plF l), 0) by rw [ckH, if_neg (by omega), if_neg (by rw [hw]; decide), if_neg (by rw [hup]; decide)]] at hV
    simp (disch := first | assumption | omega) only [go_sem, ↓reduceIte]
    refine m_loop (fun M st => ∃ i : Nat, M = l.length - i ∧ i ≤ l.length ∧ At st.env [(6, stN N es), (8, .int .i64 (hSi es (plF l) i)), (35, ints l), (36, .int .i64 l.length), (37, .int .i64 i)]) l.length (by omega)
     ⟨0, by omega, by omega, by simp only [go_sem, ↓reduceIte]; rfl⟩ ?_
    rintro M e h hM ⟨i, rfl, hi, hE⟩ P hP
    simp only [At_cons, At_nil] at hE
    obtain ⟨f6, f8, f35, f36, f37, -⟩ := hE
    have hsb := hSi_box hk.le20 hbx i
    by_cases hlt : i < l.length
    ·obtain ⟨y, hy⟩ := get_ex hlt
     have hyb := within_mem hw (List.mem_of_getElem? hy)
     have hpy := plF_get hy
     have hi8 : i < 8 := by omega
     have hs20 := sur_20 hk.le20 i
     have hm := mul20 hyb.1 hyb.2 hs20.1 hs20.2
     have hsu := hSi_succ es (plF l) i
     rw [hpy] at hsu
     simp (disch := first | assumption | omega) only [go_sem, ↓reduceIte, f6, f8, f35, f36, f37, hlt, hy, stN, stA, stC_len, stC_get, hi8, ixAA_ptr]
     exact hP (l.length - (i + 1)) _ (by omega) ⟨i + 1, rfl, by omega, by simp only [go_sem, ↓reduceIte, f6, f35, f36, hsu, stN, stA]⟩
    ·obtain rfl : i = l.length := by omega
     simp (disch := first | assumption | omega) only [go_sem, ↓reduceIte, f6, f8, f35, f36, f37, hlt]
     rw [hlen] at f8 ⊢
     exact hV _ _ (frz_two (frz_int _ _ _ _) (frz_int _ _ _ _))
  ·have hw' : withinB 0 20 l = false := by simpa using hw
   rw [show ckH N es l = (0, 3) by rw [ckH, if_neg (by omega), if_pos hw']] at hV
   simp (disch := first | assumption | omega) only [go_sem, ↓reduceIte, d1, cs_within, hw']
   exact hV _ _ (frz_two (frz_int _ _ _ _) (frz_int _ _ _ _))
 ·have d1 : ((l.length : Int) != (N : Int)) = true := by rw [bne_iff_ne]; omega
  rw [show ckH N es l = (0, 15) by rw [ckH, if_pos hlen]] at hV
  simp (disch := first | assumption | omega) only [go_sem, ↓reduceIte, d1]
  exact hV _ _ (frz_two (frz_int _ _ _ _) (frz_int _ _ _ _))
end Go.Ev.YtjcabpldgdafeaaC
