/- The first tune, with which notes tunes begin, and how many there are: the program's. No condition but those that stand in each. -/
import Derived.Test.YtjcabpldgdafeaaEL4Same
set_option linter.unusedSimpArgs false
set_option linter.unusedVariables false
namespace Go.Ev.YtjcabpldgdafeaaC
open Go Go.Proofs Go.Ev
attribute [local irreducible] Res.all evC evLoop evOps evOper evOp evFn evCall freeze G GO GV GP GC R
set_option maxRecDepth 100000
theorem tune_walk {N : Nat} {es : List Ed} (hk : OkB N es) (n : Nat) (hn : 19 ≤ n) (h0 : Heap) {V : AV × Heap → Prop} (hV : ∀ v c h' l, tuA (tuR es es.length 0 (-1) []) = .tuple [ints (nI4 l), .int .i64 c] → Own h0.length h' v .i64 (nI4 l) → (∀ j, j < h0.length → getH h' j = getH h0 j) → V (.tuple [v, .int .i64 c], h')) :
  G (evCall T n) h0.length (Fin c22.results V) c22.body [] ⟨[.agg [.int .i64 N, eds es]], h0 ++ List.replicate 22 .none⟩ := by
 have b0 : ((0 : Int) != 0) = false := rfl
 have h0' := hk.ne
 have h8 := hk.n8
 have hl20 := hk.le20
 have hn8 := hk.lt8
 have hb1 : getH (h0 ++ List.replicate 22 AObj.none) (h0.length + 1) = .none := by rw [getH_append_none]; exact getH_ge _ _ (by omega)
 by_cases hs : strL N es = []
 ·have hb : (((nI4 (strL N es)).length : Int) == 0) = true := by rw [hs]; rfl
  simp (disch := first | assumption | omega) only [c22, go_sem, ↓reduceIte, cs_open, b0, cs_starts, hb, List.length_map, Bool.false_eq_true, hb1]
  rw [tu_none hk hs] at hV
  exact hV _ _ _ [] rfl (own_nil ..) fun j hj => by rw [getH_setH_ne _ _ _ _ (by omega), getH_append_none]
 ·have hb : (((nI4 (strL N es)).length : Int) == 0) = false := by simpa [nI4] using hs
  simp (disch := first | assumption | omega) only [c22, go_sem, ↓reduceIte, cs_open, b0, cs_starts, hb, List.length_map, Bool.false_eq_true, hb1]
  rw [tu_some hk hs] at hV
  refine gp_of (raw_first N es (sur es) (zS es) hl20 h8 hn8 n (by omega) _ fun v h' hO hF => ?_)
  simp (disch := first | assumption | omega) only [go_sem, ↓reduceIte]
  exact hV _ _ _ _ rfl (Own.low hO (by simp only [length_setH, List.length_append, List.length_replicate]; omega)) fun j hj => by
   rw [hF j (by simp only [length_setH, List.length_append, List.length_replicate]; omega), getH_setH_ne _ _ _ _ (by omega), getH_append_none]
theorem raw_Tune {N : Nat} {es : List Ed} (hk : OkB N es) (n : Nat) (hn : 20 ≤ n) (h0 : Heap) {V : AV × Heap → Prop} (hV : ∀ v c h' l, tuA (tuR es es.length 0 (-1) []) = .tuple [ints (nI4 l), .int .i64 c] → Own h0.length h' v .i64 (nI4 l) → (∀ j, j < h0.length → getH h' j = getH h0 j) → V (.tuple [v, .int .i64 c], h')) : (evCall T n true (.fn 22) [.agg [.int .i64 N, eds es]] h0).all V := by
 obtain ⟨n, rfl⟩ : ∃ n', n = n' + 1 := ⟨n - 1, by omega⟩
 rw [raw_enter t22]
 exact tune_walk hk n (by omega) h0 hV
theorem circ_le {es : List Ed} (hb : Bal es) (hn8 : ∀ e ∈ es, e.1 < 8 ∧ e.2 < 8) (h0 : es ≠ []) (hp : 0 ≤ circ es) (hl : es.length ≤ 15) : circ es ≤ 1307674368000 := by
 obtain ⟨q, hq, hr⟩ := root_mem h0
 have hod : od es (rootE es) ≠ 0 := fun h => od_zero.1 h q hq hr
 have hx8 : rootE es < 8 := hr ▸ (hn8 q hq).1
 have h1 := trl_closed hb hn8 h0 (rootE es)
 have h2 := (sumC_nonneg (f := fun r => trl r es.length es (rootE es)) (V := List.range 8) fun r _ => trl_nonneg r _ _ rfl).2 (rootE es) (List.mem_range.2 hx8)
 rw [← tw_sum hn8 hx8] at h2
 have h3 := (tw_box es.length (R := es) (rootE es) rfl).2
 have h4 := fctI_mono hl
 have e : fctI 15 = 1307674368000 := by decide
 have h5 : 1 * circ es ≤ (od es (rootE es) : Int) * circ es := Int.mul_le_mul_of_nonneg_right (by omega) hp
 omega
theorem con_circles (N : Int) (es : List Ed) (s : Nat → Int) (p : AV) (hb : Bal es) (hh : Hang es) (hn8 : ∀ e ∈ es, e.1 < 8 ∧ e.2 < 8) (h0 : es ≠ []) (hl : es.length ≤ 15) : Con T 3 62 [stA N es s p] (.int .i64 (circ es)) := by
 obtain ⟨q, hq, hr⟩ := root_mem h0
 have hod : od es (rootE es) ≠ 0 := fun h => od_zero.1 h q hq hr
 have hcl : (cl es).Nodup := List.Nodup.sublist List.filter_sublist List.nodup_range
 have hpos := circ_pos hb hh hn8 h0
 have hle := circ_le hb hn8 h0 (Int.le_of_lt hpos) hl
 have hX := bar_of hb hh hl hcl (fun x hx => by
  have := (List.mem_filter.1 hx).2
  simp only [Bool.and_eq_true, decide_eq_true_eq] at this
  have h1 : 0 < od es x := this.1
  omega) (r := rootE es) (fun hm => by
  have := (List.mem_filter.1 hm).2
  simp at this) hod
 exact circ_run N es (sr8 s ++ [p]) h0 hl hn8 hX (fun a b ha hb => chi_zero es (cl es) a b ha hb) (by change 0 < circ es at hpos; show _ ≤ circ es; omega) (by show circ es ≤ _; omega)
section
variable {n base : Nat} {Q : EX × St → Prop} {d : Option Nat} {L : List IOper} {ks : List Kont} {e : Env} {h : Heap}
theorem cs_circles {N : Int} {es : List Ed} {s : Nat → Int} {p : AV} (hn : 3 ≤ n) (hb : Bal es) (hh : Hang es) (hn8 : ∀ e ∈ es, e.1 < 8 ∧ e.2 < 8) (h0 : es ≠ []) (hl : es.length ≤ 15) : GP (evCall T n) base Q d L ks e (evCall T n false (.fn 62) [stA N es s p] h) = GO (evCall T n) base Q L ks ⟨setDst e d (.int .i64 (circ es)), h⟩ :=
 gp_eq (con_circles N es s p hb hh hn8 h0 hl) hn (fz_cons (frz_stA _ _ _ _ _ _) (fz_nil _)) (or_pi _ _ _)
end
theorem eqInts_map (s t : Nat → Int) : ∀ L : List Nat, eqInts (L.map fun v => .int .i64 (s v)) (L.map fun v => .int .i64 (t v)) = some (L.all fun v => decide (s v = t v))
 | [] => rfl
 | v :: L => by
  simp only [List.map_cons, eqInts, if_true, eqInts_map s t L, List.all_cons]
  by_cases h : s v = t v
  ·rw [if_pos h, show decide (s v = t v) = true by simpa using h, Bool.true_and]
  ·rw [if_neg h, show decide (s v = t v) = false by simpa using h, Bool.false_and]
def zB (s : Nat → Int) : Bool := (List.range 8).all fun x => decide (s x = 0)
theorem sr8_zero {s : Nat → Int} : eqInts (sr8 s) [.int .i64 0, .int .i64 0, .int .i64 0, .int .i64 0, .int .i64 0, .int .i64 0, .int .i64 0, .int .i64 0] = some (zB s) := eqInts_map s (fun _ => 0) (List.range 8)
theorem slA_fullP {l : List Ed} {ex : Bool} {e : Env} {hi mx : IX} {k1 k2 : IntKind} (h1 : hi.ev e = .int k1 l.length) (h2 : mx.ev e = .int k2 l.length) : slA (some 2) e none (some hi) (some mx) (.slice (some 2) (l.map edA) ex) = .ret (.slice (some 2) (l.map edA) true) := by
 have : (l.map edA).take l.length = l.map edA := List.take_of_length_le (by simp)
 simp [slA, sliceB, h1, h2, boundOf, Res.bind, this]
theorem flat_ed (l : List Ed) : flat (some 2) (l.map edA) = edCs l := by
 induction l with
 | nil => rfl
 | cons q r ih => simp only [flat, edCs, List.map_cons, List.flatMap_cons] at ih ⊢; rw [ih]; rfl
theorem gp_appendP {call : Caller} {base : Nat} {Q : EX × St → Prop} {d : Option Nat} {L : List IOper} {ks : List Kont} {e : Env} {h : Heap} {b kk : Nat} {l : List Ed} {q1 q2 : Nat} {ex : Bool} (hr : (l.length + 1) * b ≤ 1099511627776) : GP call base Q d L ks e (evAppend kk (some 2) b (.slice (some 2) (l.map edA) true) (.slice (some 2) [.agg [.int .i64 q1, .int .i64 q2]] ex) h) = GO call base Q L ks ⟨setDst e d (.oslice kk (getH h kk).next (some 2) 0 (l ++ [(q1, q2)]).length none), setH h kk (.cells (getH h kk).next (edCs (l ++ [(q1, q2)])))⟩ := by
 have hroom := room_ok hr
 have hf := flat_ed l
 have : evAppend kk (some 2) b (.slice (some 2) (l.map edA) true) (.slice (some 2) [.agg [.int .i64 q1, .int .i64 q2]] ex) h = .ret (.oslice kk (getH h kk).next (some 2) 0 (l ++ [(q1, q2)]).length none, setH h kk (.cells (getH h kk).next (edCs (l ++ [(q1, q2)])))) := by
  rw [edCs_app]
  simp only [evAppend, cellsOfSlice, List.length_map, List.length_cons, List.length_nil, Nat.zero_add, hroom, hf, ne_eq, not_true_eq_false, if_false, Bool.true_eq_false, or_self, List.length_append, Nat.one_ne_zero, reduceCtorEq]
  rfl
 rw [this, gp_ret]
theorem place_end {es : List Ed} (hn8 : ∀ q ∈ es, q.1 < 8 ∧ q.2 < 8) (hu : upU (sur es) 8 = 1) : place ((List.range 8).map (sur es)) (-1) = (endU es : Nat) := by
 obtain ⟨h1, h2, h3, h4⟩ := up_one hn8 hu
 have key : ∀ (k i : Nat), i + k = 8 → i ≤ endU es → placeFrom (-1) ((List.range' i k).map (sur es)) i = (endU es : Nat) := fun k => by
  induction k with
  | zero => intro i hi hle; omega
  | succ k ih =>
   intro i hi hle
   rw [List.range'_succ, List.map_cons, placeFrom]
   by_cases he : i = endU es
   ·have : sur es i = -1 := by rw [h4, he, if_neg h3, if_pos rfl]; rfl
    rw [if_pos this, he]
   ·have : sur es i ≠ -1 := by
     rw [h4 i, if_neg (show ¬ endU es = i from fun e => he e.symm)]
     split <;> omega
    rw [if_neg this]
    exact ih (i + 1) (by omega) (by omega)
 have := key 8 0 rfl (by omega)
 rw [← List.range_eq_range'] at this
 exact this
set_option maxHeartbeats 1000000 in
theorem con_Count (N : Nat) (es : List Ed) (hk : OkB N es) : Con T 20 26 [bkA (bkN N es)] (.tuple [.int .i64 (cntT es), .int .i64 0]) := by
 refine con_intro t26 fun n hn V hV => ?_
 have b0 : ((0 : Int) != 0) = false := rfl
 have h0 := hk.ne
 have h8 := hk.n8
 have hl20 := hk.le20
 have hn8 := hk.lt8
 have hl15 : es.length ≤ 15 := by have := hk.le; omega
 rw [bkN_A]
 by_cases hs : strL N es = []
 ·have hb : (((nI4 (strL N es)).length : Int) == 0) = true := by rw [hs]; rfl
  simp (disch := first | assumption | omega) only [c26, go_sem, ↓reduceIte, cs_open, b0, cs_starts, hb, List.length_map, Bool.false_eq_true]
  rw [cnt_none hk hs] at hV
  exact hV _ _ (frz_two (frz_int _ _ _ _) (frz_int _ _ _ _))
 ·have hb : (((nI4 (strL N es)).length : Int) == 0) = false := by simpa [nI4] using hs
  obtain ⟨hap, hor⟩ := str_some hs
  have hh := (ap_hang h0 hn8).1 hap
  by_cases hu : upU (sur es) 8 = 0
  ·have hbal := up_zero hn8 hu
   have hz : zB (sur es) = true := by
    rw [zB, List.all_eq_true]
    exact fun x _ => by have := hbal x; simp only [decide_eq_true_eq]; unfold sur; omega
   have bt : (true != false) = true := rfl
   have hcb := cnt_bal hk hs hu
   have hc1 := cnt_nonneg es
   have hc2 := cnt_box h0 hn8
   have hc3 := fctI_mono hl15
   have e15 : fctI 15 = 1307674368000 := by decide
   simp (disch := first | assumption | omega) only [c26, go_sem, ↓reduceIte, cs_open, b0, cs_starts, hb, List.length_map, stA, stC_len, stC_arr, eaA, sr8_len, sr8_zero, hz, bt, cs_circles, Bool.false_eq_true]
   rw [← hcb]
   exact hV _ _ (frz_two (frz_int _ _ _ _) (frz_int _ _ _ _))
  ·have hu1 : upU (sur es) 8 = 1 := by rcases hor with h | h; exact absurd h hu; exact h
   have hz : zB (sur es) = false := by
    cases hq : zB (sur es) with
    | false => rfl
    | true =>
     exfalso
     apply hu
     rw [zB, List.all_eq_true] at hq
     have : ∀ v, v ≤ 8 → upU (sur es) v = 0 := fun v => by
      induction v with
      | zero => intro _; rfl
      | succ v ih =>
       intro hv
       have := hq v (List.mem_range.2 (by omega))
       simp only [decide_eq_true_eq] at this
       simp only [upU]
       rw [ih (by omega), this]; rfl
     exact this 8 (Nat.le_refl _)
   have bf : (false != false) = false := rfl
   have hst := str_one hs hu1
   obtain ⟨hat, hen, hne, _⟩ := up_one hn8 hu1
   have hpl := place_end hn8 hu1
   have hopen := cnt_open hk hs hu1
   generalize hAT : atU (sur es) 8 = aT at *
   generalize hEN : endU es = eN at *
   have hnst : nI4 (strL N es) = [(aT : Int)] := by rw [hst]; rfl
   simp (disch := first | assumption | omega) only [c26, go_sem, ↓reduceIte, cs_open, b0, cs_starts, hb, List.length_map, stA, stC_len, stC_arr, eaA, sr8_len, sr8_zero, hz, bf, slAll, gsize, grouped, Bool.false_eq_true]
   have hci := con_idx ((List.range 8).map (sur es)) (-1) (by simp)
   have e8 : ((List.range 8).map (sur es)).map (AV.int .i64) = sr8 (sur es) := by rw [List.map_map]; rfl
   unfold ints at hci
   rw [hpl, e8] at hci
   refine gp_con hci (by omega) (fz_slice _ _ _ _ (fz_int _ _ _ (fz_nil _))) (or_pi _ _ _) ?_
   simp (disch := first | assumption | omega) only [go_sem, ↓reduceIte]
   rw [slA_fullP (k1 := .i64) (k2 := .i64) (by simp only [go_sem, ↓reduceIte]) (by simp only [go_sem, ↓reduceIte])]
   have tk2 : List.take 2 [AV.int IntKind.i64 (eN : Int), AV.int IntKind.i64 (aT : Int)] = [AV.int IntKind.i64 (eN : Int), AV.int IntKind.i64 (aT : Int)] := rfl
   simp (disch := first | assumption | omega) only [go_sem, ↓reduceIte, hnst, List.map_cons, List.map_nil, List.length_cons, List.length_nil, List.range_zero, List.nil_append, Nat.zero_mul, List.drop_zero, tk2, gp_appendP]
   obtain ⟨ls, hls⟩ : ∃ ls, ls = es ++ [(eN, aT)] := ⟨_, rfl⟩
   have hb2 : Bal ls := by
    rw [hls, ← hEN, ← hAT]
    exact bal_perm (List.perm_append_comm (l₁ := [_])) (bal_ext hn8 hu1)
   have hod : od es aT ≠ 0 := fun ho => by
    have h4 := (up_one hn8 hu1).2.2.2 aT
    rw [hAT, hEN, if_pos rfl, if_neg fun e => hne e.symm, sur_def] at h4
    omega
   have hh2 : Hang ls := by
    rw [hls]
    exact hang_perm (List.perm_append_comm (l₁ := [_])) (hang_ext hh hod)
   have hn82 : ∀ q ∈ ls, q.1 < 8 ∧ q.2 < 8 := fun q hq => by
    rw [hls] at hq
    rcases List.mem_append.1 hq with hq | hq
    ·exact hn8 q hq
    ·obtain rfl := List.mem_singleton.1 hq
     exact ⟨hen, hat⟩
   have h02 : ls ≠ [] := by rw [hls]; simp
   have hl2 : ls.length ≤ 15 := by rw [hls, List.length_append, List.length_singleton]; have := hk.le; omega
   have hll : es.length + 1 = ls.length := by rw [hls]; simp
   rw [← hls] at hopen
   simp only [← hls, hll]
   have hOG : OwnG 0 (setH (setH (List.replicate 61 AObj.none) 1 (AObj.cells 0 [AV.int IntKind.i64 ↑N, eds es])) 61 (AObj.cells 0 (edCs ls))) (.oslice 61 0 (some 2) 0 ls.length none) (some 2) ls.length (edCs ls) := .inr ⟨61, 0, by omega, rfl, getH_setH_self _ _ _, edCs_len ls⟩
   refine gp_of (raw_new N ls (by omega) hn82 _ _ (ownG_slP hOG) (ownG_keyLt hOG) n (by omega) fun v h' hp => ?_)
   have hO2 := hOG.other (h' := h') fun j hj => hp.2.2.2.1 j (ownG_keyLt hOG j hj)
   simp (disch := first | assumption | omega) only [go_sem, ↓reduceIte]
   refine gp_con (con_circles N ls (sur ls) (zS ls) hb2 hh2 hn82 h02 hl2) (by omega) (fz_cons (frz_newG hp (ownG_frz hO2)) (fz_nil _)) (or_pi _ _ _) ?_
   simp (disch := first | assumption | omega) only [go_sem, ↓reduceIte]
   rw [← hopen]
   exact hV _ _ (frz_two (frz_int _ _ _ _) (frz_int _ _ _ _))
end Go.Ev.YtjcabpldgdafeaaC
