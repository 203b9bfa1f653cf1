/- The fewest plays that close a book, and heights that prove it: the program's. How many plays close a book, and how many heights prove: the program's. No condition but those that stand in each. -/
import Derived.Test.YtjcabpldgdafeaaDL4Cls
set_option linter.unusedSimpArgs false
set_option linter.unusedVariables false
namespace Go.Ev.YtjcabpldgdafeaaC
open Go Go.Proofs Go.Ev
attribute [local irreducible] Res.all evC evLoop evOps evOper evOp evFn evCall freeze G GO GV GP GC R
set_option maxRecDepth 100000
def mnL : Int → List Int → Int
 | m, [] => m
 | m, x :: r => mnL (if x < m then x else m) r
theorem mnL_le : ∀ (l : List Int) (m : Int), mnL m l ≤ m ∧ ∀ x ∈ l, mnL m l ≤ x
 | [], m => ⟨Int.le_refl _, fun x h => by cases h⟩
 | y :: r, m => by
  obtain ⟨h1, h2⟩ := mnL_le r (if y < m then y else m)
  have h3 : (if y < m then y else m) ≤ m ∧ (if y < m then y else m) ≤ y := by split <;> omega
  rw [mnL]
  refine ⟨by omega, fun x hx => ?_⟩
  rcases List.mem_cons.1 hx with rfl | hx
  ·omega
  ·exact h2 x hx
theorem mnL_mem : ∀ (l : List Int) (m : Int), mnL m l = m ∨ mnL m l ∈ l
 | [], m => .inl rfl
 | y :: r, m => by
  rw [mnL]
  rcases mnL_mem r (if y < m then y else m) with h | h
  ·rw [h]
   split
   ·exact .inr List.mem_cons_self
   ·exact .inl rfl
  ·exact .inr (List.mem_cons_of_mem _ h)
theorem zer_rwI (m : Nat) : zer m = rwI m fun _ => 0 := by
 unfold rwI srN zer
 rw [List.map_map]
 apply List.ext_getElem <;> simp
theorem raw_open {N : Nat} {es : List Ed} (hk : OkB N es) {h0 : Heap} (n : Nat) (hn : 10 ≤ n) {V : AV × Heap → Prop}
  (hV : ∀ h' ks kp c, getH h' ks = .cells 0 (stC N (eds es) (sur es) (.oslice kp 0 none 0 es.length c)) → getH h' kp = .cells 0 (rwI es.length fun _ => 0) → ks ≠ kp → h0.length ≤ ks → h0.length ≤ kp → (∀ j, j < h0.length → getH h' j = getH h0 j) → V (.tuple [.optr ks 0 0, .int .i64 0], h')) :
  (evCall T n true (.fn 57) [.agg [.int .i64 N, eds es]] h0).all V := by
 obtain ⟨n, rfl⟩ : ∃ n', n = n' + 1 := ⟨n - 1, by omega⟩
 rw [raw_enter t57]
 have b0 : ((0 : Int) != 0) = false := rfl
 have hck : ∀ {base : Nat} {Q : EX × St → Prop} {d : Option Nat} {L : List IOper} {ks : List Kont} {e : Env} {h : Heap}, GP (evCall T n) base Q d L ks e (evCall T n false (.fn 19) [.agg [.int .i64 N, .slice (some 2) (es.map edA) false]] h) = GO (evCall T n) base Q L ks ⟨setDst e d (.int .i64 0), h⟩ := fun {base Q d L ks e h} => by
  have := con_CheckBook (bkN N es) (by have := hk.le; simp [bkN]; omega)
  rw [bkN_A, ok_chk hk] at this
  exact gp_eq this (by omega) (fz_cons (frz_agg (mz_cons (frz_int _ _ _ _) (mz_cons (frz_slice _ _ _ _ _) (mz_nil _ _)))) (fz_nil _)) (or_pi _ _ _)
 simp (disch := first | assumption | omega) only [c57, go_sem, ↓reduceIte, hck, b0]
 refine gp_of (raw_new N es (by have := hk.le; omega) hk.lt8 (eds es) _ (.inl ⟨_, rfl⟩) (fun j hj => by simp [keyOf] at hj) n (by omega) fun v h' hp => ?_)
 obtain ⟨rfl, p1, p2, p3, p4⟩ := hp
 simp (disch := first | assumption | omega) only [go_sem, ↓reduceIte]
 have hll : ∀ o : AObj, (setH (h0 ++ List.replicate 12 AObj.none) (h0.length + 1) o).length = h0.length + 12 := fun o => by rw [length_setH, List.length_append, List.length_replicate]; omega
 rw [hll] at p1 p2 p3
 exact hV _ _ _ _ p1 (by rw [p2, zer_rwI]) (by omega) (by omega) (by omega) fun j hj => by
  rw [p3 j (by omega), getH_setH_ne _ _ _ _ (by omega), getH_append_none]
noncomputable def agA (N : Nat) (es : List Ed) : AV := .tuple [stA N es (sF es (agP N es)) (ints (srN es.length (agP N es))), .int .i64 0]
theorem frz_st {h : Heap} {n ks kp : Nat} {c : Option Nat} {N : Int} {es : List Ed} {s P : Nat → Int} (g1 : getH h ks = .cells 0 (stC N (eds es) s (.oslice kp 0 none 0 es.length c))) (g2 : getH h kp = .cells 0 (rwI es.length P)) : freeze h (n + 3) (.optr ks 0 0) = .ret (stA N es s (ints (srN es.length P))) :=
 frz_optr g1 (frz_stC _ (frz_slice _ _ _ _ _) (frz_own (l := srN es.length P) g2 (by rw [srN_len])))
theorem con_again {N : Nat} {es : List Ed} (hk : OkB N es) : Con T 12 74 [bkA (bkN N es)] (if cloB es = true then agA N es else .tuple [.nilptr, .int .i64 19]) := by
 refine con_intro t74 fun n hn V hV => ?_
 have b0 : ((0 : Int) != 0) = false := rfl
 rw [bkN_A]
 simp (disch := first | assumption | omega) only [c74, go_sem, ↓reduceIte]
 refine gp_of (raw_open hk n (by omega) fun h' ks kp c g1 g2 hne _ _ _ => ?_)
 simp (disch := first | assumption | omega) only [go_sem, ↓reduceIte, b0]
 refine gp_con (con_closes N es (sur es) (ints (srN es.length fun _ => 0)) hk.le20 hk.lt8) (by omega) (fz_cons (frz_st g1 g2) (fz_nil _)) (or_pb _ _) ?_
 cases hcl : cloB es with
 | true =>
  rw [hcl, if_pos rfl] at hV
  simp (disch := first | assumption | omega) only [go_sem, ↓reduceIte]
  refine gp_of (raw_close hk (cloB_iff.1 hcl) g1 g2 hne n (by omega) fun h2 q1 q2 => ?_)
  simp (disch := first | assumption | omega) only [go_sem, ↓reduceIte]
  exact hV _ _ (frz_two (frz_st q1 q2) (frz_int _ _ _ _))
 | false =>
  rw [hcl, if_neg (by decide)] at hV
  simp (disch := first | assumption | omega) only [go_sem, ↓reduceIte]
  exact hV _ _ (frz_two (frz_nilptr _ _) (frz_int _ _ _ _))
theorem con_Again {N : Nat} {es : List Ed} (hk : OkB N es) : Con T 13 37 [bkA (bkN N es)] (if cloB es = true then .tuple [ints (srN es.length (agP N es)), .int .i64 0] else .tuple [ints [], .int .i64 19]) := by
 refine con_intro t37 fun n hn V hV => ?_
 have b0 : ((0 : Int) != 0) = false := rfl
 have b19 : ((19 : Int) != 0) = true := rfl
 have hca := con_again hk
 rw [bkN_A] at hca ⊢
 simp (disch := first | assumption | omega) only [c37, go_sem, ↓reduceIte]
 refine gp_con hca hn (fz_cons (frz_agg (mz_cons (frz_int _ _ _ _) (mz_cons (frz_slice _ _ _ _ _) (mz_nil _ _)))) (fz_nil _)) rfl ?_
 cases hcl : cloB es with
 | true =>
  rw [hcl, if_pos rfl] at hV
  rw [if_pos rfl]
  simp (disch := first | assumption | omega) only [go_sem, ↓reduceIte, agA, b0, stC_10]
  exact hV _ _ (frz_two (frz_slice _ _ _ _ _) (frz_int _ _ _ _))
 | false =>
  rw [hcl, if_neg (by decide)] at hV
  rw [if_neg (by decide)]
  simp (disch := first | assumption | omega) only [go_sem, ↓reduceIte, b19]
  exact hV _ _ (frz_two (frz_slice _ _ _ _ _) (frz_int _ _ _ _))
noncomputable def htD (N : Nat) (es : List Ed) : Nat → Int := (fin0 es (agP N es) N fun _ => 0).d
def lsN (l : List Int) : Int := match l with
 | [] => 0
 | m :: r => mnL m r
noncomputable def htH (N : Nat) (es : List Ed) (v : Nat) : Int := htD N es v - lsN (srN N (htD N es))
theorem lsN_le {l : List Int} {x : Int} (h : x ∈ l) : lsN l ≤ x := by
 cases l with
 | nil => cases h
 | cons m r =>
  obtain ⟨h1, h2⟩ := mnL_le r m
  rcases List.mem_cons.1 h with rfl | h
  ·exact h1
  ·exact h2 x h
theorem lsN_mem {l : List Int} (h : l ≠ []) : lsN l ∈ l := by
 cases l with
 | nil => exact absurd rfl h
 | cons m r =>
  show mnL m r ∈ m :: r
  rcases mnL_mem r m with h1 | h1
  ·rw [h1]; exact List.mem_cons_self
  ·exact List.mem_cons_of_mem _ h1
theorem htH_ok {N : Nat} {es : List Ed} (hk : OkB N es) (hc : Clo es) : (∀ v, v < N → 0 ≤ htH N es v ∧ htH N es v ≤ 7) ∧ (∀ e ∈ es, htH N es e.2 ≤ htH N es e.1 + 1) ∧ hS N es (htH N es) = sumP (agP N es) es.length ∧ -7 ≤ lsN (srN N (htD N es)) ∧ lsN (srN N (htD N es)) ≤ 0 ∧ ∀ v, v < N → -7 ≤ htD N es v ∧ htD N es v ≤ 0 := by
 obtain ⟨g1, g2, _⟩ := agP_ok hk hc
 obtain ⟨h1, h2⟩ := heights hk.n1 hk.n8 hk.lt g1
 have hn1 := hk.n1
 have hm : ∀ v, v < N → lsN (srN N (htD N es)) ≤ htD N es v := fun v hv => lsN_le (List.mem_map.2 ⟨v, List.mem_range.2 hv, rfl⟩)
 obtain ⟨w, hw, hwe⟩ := List.mem_map.1 (lsN_mem (l := srN N (htD N es)) fun h => by
  have := srN_len N (htD N es)
  rw [h] at this
  simp at this
  omega)
 have hw2 := h2 w (List.mem_range.1 hw)
 have hp := pot_arcs.1 h1
 have hbd : ∀ v, v < N → -7 ≤ htD N es v ∧ htD N es v ≤ 0 := h2
 have hw3 := hbd w (List.mem_range.1 hw)
 refine ⟨fun v hv => ?_, fun e he => ?_, ?_, by omega, by omega, hbd⟩
 ·have a1 := hm v hv; have a2 := hbd v hv
  unfold htH
  omega
 ·obtain ⟨i, hi, rfl⟩ := gE_of he
  have := (hp i hi).1
  unfold htH htD
  omega
 ·rw [← tight hk.lt (fun x _ => g2 x) g1.nn h1]
  exact hS_shift hk.n8 hk.lt _ _
end Go.Ev.YtjcabpldgdafeaaC
set_option linter.unusedSimpArgs false
set_option linter.unusedVariables false
namespace Go.Ev.YtjcabpldgdafeaaC
open Go Go.Proofs Go.Ev
attribute [local irreducible] Res.all evC evLoop evOps evOper evOp evFn evCall freeze G GO GV GP GC R
set_option maxRecDepth 100000
def plF (l : List Int) (j : Nat) : Int := l.getD j 0
theorem plF_get {l : List Int} {i : Nat} {y : Int} (h : l[i]? = some y) : plF l i = y := by simp [plF, List.getD, h]
def uptF (l : List Int) (i j : Nat) : Int := if j < i then plF l j else 0
noncomputable def ckG (N : Nat) (es : List Ed) (l : List Int) : Int × Int :=
 if l.length ≠ es.length then (0, 15) else if withinB 0 60 l = false then (0, 3) else if (zB (sF es (plF l)) && cloB es) = true then (sumP (plF l) es.length, 0) else (0, 19)
abbrev twoA (p : Int × Int) : AV := .tuple [.int .i64 p.1, .int .i64 p.2]
theorem within_mem {lo hi : Int} {l : List Int} (h : withinB lo hi l = true) {x : Int} (hx : x ∈ l) : lo ≤ x ∧ x ≤ hi := by
 simp only [withinB, Bool.not_eq_true', List.any_eq_false] at h
 have := h x hx
 simp only [Bool.or_eq_true, decide_eq_true_eq, not_or] at this
 omega
theorem plF_box {B : Int} (hB : 0 ≤ B) {l : List Int} (h : withinB 0 B l = true) (j : Nat) : 0 ≤ plF l j ∧ plF l j ≤ B := by
 unfold plF
 by_cases hj : j < l.length
 ·have := within_mem h (List.getElem_mem hj)
  simp [List.getD, hj]; exact this
 ·simp [List.getD, hj]; exact hB
theorem sP_box {es : List Ed} {P : Nat → Int} (hP : ∀ j, 0 ≤ P j ∧ P j ≤ 60) (x : Nat) : ∀ k : Nat, -(60 * (k : Int)) ≤ sP es P x k ∧ sP es P x k ≤ 60 * (k : Int)
 | 0 => by simp [sP]
 | k + 1 => by
  have h1 := sP_box hP x k (es := es)
  have h2 := hP k
  have h3 := dl_box (gE es k).1 x
  have h4 := dl_box (gE es k).2 x
  have h5 : dl (gE es k).1 x - dl (gE es k).2 x = -1 ∨ dl (gE es k).1 x - dl (gE es k).2 x = 0 ∨ dl (gE es k).1 x - dl (gE es k).2 x = 1 := by omega
  rw [sP]
  rcases h5 with h | h | h <;> rw [h] <;> omega
theorem uptF_all {es : List Ed} (l : List Int) : sF es (uptF l es.length) = sF es (plF l) := by
 have : ∀ x k, k ≤ es.length → sP es (uptF l es.length) x k = sP es (plF l) x k := fun x k => by
  induction k with
  | zero => intro _; rfl
  | succ k ih => intro h; rw [sP, sP, ih (by omega)]; unfold uptF; rw [if_pos (by omega)]
 funext x
 rw [sF, sF, this x _ (Nat.le_refl _)]
end Go.Ev.YtjcabpldgdafeaaC
