/- The program's reckoning of closed tunes: the numbers of all its steps, and that it answers as many as there are. No condition but those that stand in each. -/
import Derived.Test.YtjcabpldgdafeaaEL4Circ
import Derived.Test.YtjcabpldgdafeaaEL4Mth
set_option linter.unusedSimpArgs false
set_option linter.unusedVariables false
namespace Go.Ev.YtjcabpldgdafeaaC
open Go Go.Ev
def chi (l : List Nat) (A : Nat → Rw) (k i j : Nat) : Int := if k ≤ i ∧ i < l.length ∧ k ≤ j ∧ j < l.length then yR A (l.take k) (A (l.getD i 0)) (l.getD j 0) else 0
def lead (l : List Nat) (A : Nat → Rw) (k : Nat) : Int := dV (l.take k) A
theorem getD_get {l : List Nat} {i : Nat} (h : i < l.length) : l.getD i 0 = l[i] := by simp [List.getD, h]
theorem notin_take {l : List Nat} (hn : l.Nodup) {k j : Nat} (hj : j < l.length) (h : k ≤ j) : l.getD j 0 ∉ l.take k := by
 rw [getD_get hj]
 intro hm
 obtain ⟨i, hi, he⟩ := List.mem_iff_getElem.1 hm
 rw [List.getElem_take] at he
 have hik : i < k := by rw [List.length_take] at hi; omega
 exact List.pairwise_iff_getElem.1 hn i j (by omega) hj (by omega) he
theorem getD_mem {l : List Nat} {i : Nat} (h : i < l.length) : l.getD i 0 ∈ l := by rw [getD_get h]; exact List.getElem_mem h
theorem bar_of {es : List Ed} (hb : Bal es) (hh : Hang es) (hlen : es.length ≤ 15) {l : List Nat} (hn : l.Nodup) (hl : ∀ x ∈ l, od es x ≠ 0) {r : Nat} (hr : r ∉ l) (hor : od es r ≠ 0) : Bar l.length (chi l (lap es)) (lead l (lap es)) := by
 have hz := zm_lap hb hh hn hl hr hor
 have hpos : ∀ k, lead l (lap es) k ≠ 0 := fun k => by
  have := (hz.sub hn (List.take_sublist k l)).pos (List.Nodup.sublist (List.take_sublist k l) hn)
  unfold lead; omega
 have htk : ∀ k, k < l.length → l.take (k + 1) = l.take k ++ [l.getD k 0] := fun k hk => by rw [getD_get hk]; exact List.take_succ_eq_append_getElem hk
 have box : ∀ k i j, (chi l (lap es) k i j).natAbs ≤ 2 ^ es.length := fun k i j => by
  unfold chi
  split
  ·next h =>
   obtain ⟨h1, h2, h3, h4⟩ := h
   have hnt := List.Nodup.sublist (List.take_sublist k l) hn
   exact det_box (cs := l.getD j 0 :: l.take k) (ns := l.getD i 0 :: l.take k) (List.nodup_cons.2 ⟨notin_take hn h4 h3, hnt⟩) (List.nodup_cons.2 ⟨notin_take hn h2 h1, hnt⟩) (by simp) fun x hx => by
    rcases List.mem_cons.1 hx with rfl | hx
    ·exact hl _ (getD_mem h2)
    ·exact hl _ (List.mem_of_mem_take hx)
  ·simp
 have hpow : 2 ^ es.length ≤ 2 ^ 15 := Nat.pow_le_pow_right (by omega) hlen
 refine ⟨rfl, fun k hk => ?_, fun k _ => hpos k, fun k i j h1 h2 h3 h4 => ?_, fun k i j => ?_, fun k i j => ?_⟩
 ·have h0 : chi l (lap es) k k k = yR (lap es) (l.take k) (lap es (l.getD k 0)) (l.getD k 0) := if_pos ⟨by omega, hk, by omega, hk⟩
  rw [h0]
  unfold lead yR dV
  rw [htk k hk, List.map_append, det_colfront, List.map_cons, List.map_nil, det_rowfront _ _ _ _ (by simp), ← Int.mul_assoc, List.length_map, sgn_sq, Int.one_mul, List.append_nil, List.append_nil]
 ·have e0 : chi l (lap es) (k + 1) i j = yR (lap es) (l.take (k + 1)) (lap es (l.getD i 0)) (l.getD j 0) := if_pos ⟨by omega, h2, by omega, h4⟩
  have e1 : chi l (lap es) k i j = yR (lap es) (l.take k) (lap es (l.getD i 0)) (l.getD j 0) := if_pos ⟨by omega, h2, by omega, h4⟩
  have e2 : chi l (lap es) k k k = yR (lap es) (l.take k) (lap es (l.getD k 0)) (l.getD k 0) := if_pos ⟨by omega, by omega, by omega, by omega⟩
  have e3 : chi l (lap es) k i k = yR (lap es) (l.take k) (lap es (l.getD i 0)) (l.getD k 0) := if_pos ⟨by omega, by omega, by omega, by omega⟩
  have e4 : chi l (lap es) k k j = yR (lap es) (l.take k) (lap es (l.getD k 0)) (l.getD j 0) := if_pos ⟨by omega, by omega, by omega, by omega⟩
  have h5 := bar_step (A := lap es) (P := l.take k) (hpos k) (lap es (l.getD i 0)) (l.getD k 0) (l.getD j 0)
  rw [e0, e1, e2, e3, e4, ← h5, ← htk k (by omega)]
  exact (Int.mul_tdiv_cancel_left _ (hpos k)).symm
 ·have := box k i j; omega
 ·have := box k i j; omega
theorem lap_tb (x y : Nat) : ∀ es : List Ed, lap es x y = tbE es x y
 | [] => by simp [lap, tbE, noLoop]
 | (a, b) :: es => by
  have ih := lap_tb x y es
  simp only [lap, ih]
  unfold tbE noLoop dl
  simp only [List.filter_cons]
  by_cases hab : a = b
  ·subst hab
   simp only [beq_self_eq_true, Bool.not_true, Bool.false_eq_true, if_false]
   by_cases hax : a = x
   ·subst hax; simp only [if_true]; omega
   ·simp only [if_neg hax]; omega
  ·have hb : (!(a == b)) = true := by simpa using hab
   simp only [hb, if_true, List.countP_cons, List.count_cons, beq_iff_eq, Prod.mk.injEq]
   by_cases hax : a = x
   ·subst hax
    by_cases hby : b = y
    ·subst hby
     simp only [if_neg hab, and_self, if_true]; omega
    ·have : ¬ (True ∧ b = y) := fun h => hby h.2
     simp only [if_neg hby, if_neg this, if_true]
     split <;> omega
   ·have : ¬ (a = x ∧ b = y) := fun h => hax h.1
    simp only [if_neg hax, if_neg this]
    split <;> omega
theorem chi_zero (es : List Ed) (l : List Nat) (a b : Nat) (ha : a < l.length) (hb : b < l.length) : chi l (lap es) 0 a b = tbE es (l.getD a 0) (l.getD b 0) := by
 have h0 : chi l (lap es) 0 a b = yR (lap es) (l.take 0) (lap es (l.getD a 0)) (l.getD b 0) := if_pos ⟨by omega, ha, by omega, hb⟩
 rw [h0, ← lap_tb]
 simp [yR, det, exD]
theorem lap_zero {R : List Ed} {v : Nat} (h : od R v = 0) (c : Nat) : lap R v c = 0 := by
 induction R with
 | nil => rfl
 | cons e R ih =>
  rw [od_cons] at h
  have : e.1 ≠ v := fun he => by rw [if_pos he] at h; omega
  simp only [lap, if_neg this, ih (by omega)]
  rfl
theorem lap_in {R : List Ed} {v : Nat} (h : idg R v = 0) {x : Nat} (hx : x ≠ v) : lap R x v = 0 := lap_col hx R fun e he _ hv => idg_zero.1 h e he hv
theorem lap_rows {W : List Nat} (hn : W.Nodup) : ∀ {R : List Ed}, (∀ e ∈ R, e.1 ∈ W ∧ e.2 ∈ W) → ∀ x, sumC W (lap R x) = 0
 | [], _, x => by
  have : sumC W (lap [] x) = sumC W fun _ => 0 := sumC_congr fun _ _ => rfl
  rw [this, sumC_zero]
 | e :: R, h, x => by
  have ih := lap_rows hn (fun f hf => h f (List.mem_cons_of_mem _ hf)) x
  obtain ⟨h1, h2⟩ := h e List.mem_cons_self
  by_cases he : e.1 = x
  ·have h3 : sumC W (lap (e :: R) x) + sumC W (dl e.2) = sumC W (dl x) + sumC W (lap R x) := by
    rw [← sumC_add, ← sumC_add]
    exact sumC_congr fun c _ => by simp only [lap, if_pos he]; omega
   rw [sumC_dl hn (a := e.2) h2, sumC_dl hn (a := x) (by rw [← he]; exact h1)] at h3
   omega
  ·have h3 : sumC W (lap (e :: R) x) = sumC W (lap R x) := sumC_congr fun c _ => by simp only [lap, if_neg he]; omega
   rw [h3, ih]
theorem sumC_ite {W : List Nat} (hn : W.Nodup) {a : Nat} (ha : a ∈ W) (t : Int) : sumC W (fun v => if a = v then t else 0) = t := by
 have h1 : sumC W (fun v => if a = v then t else 0) = sumC W fun v => t * dl a v := sumC_congr fun v _ => by unfold dl; split <;> omega
 rw [h1, sumC_smul, sumC_dl hn ha]; omega
theorem lap_cols {W : List Nat} (hn : W.Nodup) (c : Nat) : ∀ {R : List Ed}, (∀ e ∈ R, e.1 ∈ W) → sumC W (fun v => lap R v c) = (od R c : Nat) - (idg R c : Nat)
 | [], _ => by
  have : sumC W (fun v => lap [] v c) = sumC W fun _ => 0 := sumC_congr fun _ _ => rfl
  rw [this, sumC_zero]; rfl
 | e :: R, h => by
  have ih := lap_cols hn c (R := R) fun f hf => h f (List.mem_cons_of_mem _ hf)
  have h1 := h e List.mem_cons_self
  have h2 : sumC W (fun v => lap (e :: R) v c) = sumC W (fun v => if e.1 = v then dl e.1 c - dl e.2 c else 0) + sumC W fun v => lap R v c := by
   rw [← sumC_add]
   exact sumC_congr fun v _ => by
    simp only [lap]
    by_cases he : e.1 = v
    ·rw [if_pos he, if_pos he, he]
    ·rw [if_neg he, if_neg he]
  rw [h2, sumC_ite hn h1, ih, od_cons, idg_cons]
  unfold dl
  split <;> split <;> omega
theorem prodV_app (R : List Ed) : ∀ (p q : List Nat), prodV R (p ++ q) = prodV R p * prodV R q
 | [], q => by simp [prodV]
 | x :: p, q => by simp only [List.cons_append, prodV]; rw [prodV_app R p q, Int.mul_assoc]
theorem fctI_eq : ∀ n, fctI n = (fct n : Nat)
 | 0 => rfl
 | n + 1 => by simp only [fctI, fct]; rw [fctI_eq n]; omega
theorem nfU_eq (es : List Ed) : ∀ v, (nfU es v : Nat) = prodV es (List.range v)
 | 0 => rfl
 | v + 1 => by
  rw [List.range_succ, prodV_app, ← nfU_eq es v]
  simp only [nfU, prodV, fctI_eq]
  show _ = _ * (((fct (odeg es v - 1) : Nat) : Int) * 1)
  rw [Int.mul_one, Int.natCast_mul]
theorem prodV_erase (R : List Ed) {a : Nat} {V : List Nat} (h : a ∈ V) : fctI (od R a - 1) * prodV R (V.erase a) = prodV R V := by
 induction V with
 | nil => cases h
 | cons x V ih =>
  by_cases hx : x = a
  ·subst hx; simp [prodV]
  ·have : (x :: V).erase a = x :: V.erase a := by rw [List.erase_cons_tail]; simpa using hx
   rw [this]
   simp only [prodV]
   rw [Int.mul_left_comm, ih ((List.mem_cons.1 h).resolve_left fun e => hx e.symm)]
def touched (es : List Ed) : List Nat := (List.range 8).filter fun v => decide (0 < od es v)
theorem touched_nodup (es : List Ed) : (touched es).Nodup := List.Nodup.sublist List.filter_sublist List.nodup_range
theorem mem_touched {es : List Ed} {x : Nat} : x ∈ touched es ↔ x < 8 ∧ 0 < od es x := by simp [touched]
theorem touched_ends {es : List Ed} (hb : Bal es) (hn8 : ∀ e ∈ es, e.1 < 8 ∧ e.2 < 8) : ∀ e ∈ es, e.1 ∈ touched es ∧ e.2 ∈ touched es := fun e he => by
 refine ⟨mem_touched.2 ⟨(hn8 e he).1, ?_⟩, mem_touched.2 ⟨(hn8 e he).2, ?_⟩⟩
 ·exact Nat.pos_of_ne_zero fun h => od_zero.1 h e he rfl
 ·rw [hb]; exact Nat.pos_of_ne_zero fun h => idg_zero.1 h e he rfl
theorem cl_erase (es : List Ed) : cl es = (touched es).erase (rootE es) := by
 rw [List.Nodup.erase_eq_filter (touched_nodup es)]
 unfold cl touched
 rw [List.filter_filter]
 apply List.filter_congr
 intro x _
 rw [Bool.and_comm]
 rfl
theorem fF_root {es : List Ed} (hb : Bal es) (hn8 : ∀ e ∈ es, e.1 < 8 ∧ e.2 < 8) {a : Nat} (ha : a ∈ touched es) {r : Nat} (hr : r ∈ touched es) : fF a ((List.range 8).erase a) es = (nf es : Nat) * dV ((touched es).erase r) (lap es) := by
 have ha8 := (mem_touched.1 ha).1
 have h1 : fctI (od es a - 1) * prodV es ((List.range 8).erase a) = (nf es : Nat) := by
  rw [prodV_erase es (List.mem_range.2 ha8)]
  exact (nfU_eq es 8).symm
 have hV : ((List.range 8).erase a).Nodup := List.Nodup.erase a List.nodup_range
 have h2 : dV ((List.range 8).erase a) (aR es) = dV (((List.range 8).erase a).filter fun v => decide (0 < od es v)) (aR es) := by
  have := dV_filter (fun v => decide (0 < od es v)) (aR es) ((List.range 8).erase a) [] (fun v hv hp => by
   have h0 : od es v = 0 := by simpa using hp
   have h0' : idg es v = 0 := by rw [← hb]; exact h0
   refine ⟨?_, fun x _ hx => ?_⟩
   ·simp only [aR, lap_zero h0, if_pos h0, dl_self]; rfl
   ·simp only [aR, lap_in h0' hx]
    split
    ·rw [dl_ne hx]; rfl
    ·rfl) (by simpa using hV)
  simpa using this
 have h3 : ((List.range 8).erase a).filter (fun v => decide (0 < od es v)) = (touched es).erase a := by
  rw [List.Nodup.erase_eq_filter (touched_nodup es), List.Nodup.erase_eq_filter List.nodup_range]
  unfold touched
  rw [List.filter_filter, List.filter_filter]
  apply List.filter_congr
  intro x _
  rw [Bool.and_comm]
 have h4 : dV ((touched es).erase a) (aR es) = dV ((touched es).erase a) (lap es) := dV_congr fun x hx c _ => by
  have := (mem_touched.1 (List.mem_of_mem_erase hx)).2
  simp only [aR]
  rw [if_neg (by omega)]; omega
 have hte := touched_ends hb hn8
 have h5 := dV_root (touched_nodup es) (A := lap es) (fun x _ => lap_rows (touched_nodup es) hte x) (fun c _ => by
  rw [lap_cols (touched_nodup es) c fun e he => (hte e he).1, hb c]; omega) ha hr
 unfold fF
 rw [h1, h2, h3, h4, h5]
theorem bal_perm {R R' : List Ed} (h : R.Perm R') (hb : Bal R) : Bal R' := fun x => by rw [← od_perm h, ← idg_perm h]; exact hb x
theorem circ_trl {es : List Ed} (hb : Bal es) (hn8 : ∀ e ∈ es, e.1 < 8 ∧ e.2 < 8) (h0 : es ≠ []) {a b : Nat} {R' : List Ed} (hp : es.Perm ((a, b) :: R')) : trl a R'.length R' b = (nf es : Nat) * lead (cl es) (lap es) (cl es).length := by
 have hb' := bal_perm hp hb
 have hn8' : ∀ e ∈ (a, b) :: R', e.1 < 8 ∧ e.2 < 8 := fun e he => hn8 e (hp.mem_iff.2 he)
 have hmem : (a, b) ∈ es := hp.mem_iff.2 List.mem_cons_self
 have ha := (touched_ends hb hn8 _ hmem).1
 have h1 := best (a := a) (V := (List.range 8).erase a) (List.Nodup.erase a List.nodup_range) (fun h => (List.Nodup.mem_erase_iff List.nodup_range).1 h |>.1 rfl) R'.length R' b rfl hb' fun e he => by
  have h8 := hn8' e he
  have : ∀ x, x < 8 → x ∈ a :: (List.range 8).erase a := fun x hx => by
   by_cases hxa : x = a
   ·exact hxa ▸ List.mem_cons_self
   ·exact List.mem_cons_of_mem _ ((List.Nodup.mem_erase_iff List.nodup_range).2 ⟨hxa, List.mem_range.2 hx⟩)
  exact ⟨this _ h8.1, this _ h8.2⟩
 have hroot : rootE es ∈ touched es := by
  cases es with
  | nil => exact absurd rfl h0
  | cons q es => exact (touched_ends hb hn8 q List.mem_cons_self).1
 rw [h1, ← fF_perm hp, fF_root hb hn8 ha hroot]
 unfold lead
 rw [List.take_length, cl_erase]
theorem circ_pos {es : List Ed} (hb : Bal es) (hh : Hang es) (hn8 : ∀ e ∈ es, e.1 < 8 ∧ e.2 < 8) (h0 : es ≠ []) : 0 < (nf es : Nat) * lead (cl es) (lap es) (cl es).length := by
 have hroot : rootE es ∈ touched es := by
  cases es with
  | nil => exact absurd rfl h0
  | cons q es => exact (touched_ends hb hn8 q List.mem_cons_self).1
 have hz := zm_lap hb hh (l := cl es) (List.Nodup.sublist List.filter_sublist List.nodup_range) (fun x hx => by
  rw [cl_erase] at hx
  have := (mem_touched.1 (List.mem_of_mem_erase hx)).2
  omega) (r := rootE es) (fun h => by
  rw [cl_erase] at h
  exact (List.Nodup.mem_erase_iff (touched_nodup es)).1 h |>.1 rfl) (by have := (mem_touched.1 hroot).2; omega)
 have h1 := hz.pos (List.Nodup.sublist List.filter_sublist List.nodup_range)
 have h2 : 0 < (nf es : Int) := by
  have : ∀ v, 0 < nfU es v := fun v => by
   induction v with
   | zero => exact Nat.zero_lt_one
   | succ v ih => exact Nat.mul_pos ih (fct_pos _)
  have := this 8
  unfold nf; omega
 unfold lead
 rw [List.take_length]
 exact Int.mul_pos h2 h1
end Go.Ev.YtjcabpldgdafeaaC
