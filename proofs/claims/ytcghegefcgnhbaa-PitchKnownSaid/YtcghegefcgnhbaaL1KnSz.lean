/- Chains in one text, for the claim PitchKnown: L1Size2, L1Size3, L1Size4, L1Back and the calls of L1LawChains. -/
import Derived.Test.YtcghegefcgnhbaaL1Size
import Derived.Test.YtcghegefcgnhbaaL1Works
set_option linter.unusedSimpArgs false
set_option linter.unusedVariables false
namespace Go.Ev.YtcghegefcgnhbaaC
open Go Go.Proofs

/-! ### places -/
def plA (N s n : Int) : List Int × Int := if chErr N s n ≠ 0 then ([], chErr N s n) else (natI (plc N.toNat s.toNat n.toNat), 0)
theorem plA_err {N s n : Int} (h : chErr N s n ≠ 0) : plA N s n = ([], chErr N s n) := by rw [plA, if_pos h]
theorem plA_ok {N s n : Nat} (h : chErr N s n = 0) : plA N s n = (natI (plc N s n), 0) := by rw [plA, if_neg (by omega)]; rfl
theorem ch_nat {N s n : Int} (h : chErr N s n = 0) : ∃ N' s' n' : Nat, N = N' ∧ s = s' ∧ n = n' ∧ 1 ≤ N' ∧ N' ≤ 2400 ∧ s' ≤ N' ∧ 1 ≤ n' ∧ n' ≤ 60 := by
  obtain ⟨h1, h2, h3, h4, h5, h6⟩ := (chErr_zero N s n).1 h
  exact ⟨N.toNat, s.toNat, n.toNat, by omega, by omega, by omega, by omega, by omega, by omega, by omega, by omega⟩
theorem plc_cons {N s n : Nat} (hN : 1 ≤ N) (hn : 1 ≤ n) : ∃ r, plc N s n = 0 :: r := by
  have h0 : 0 ∈ plc N s n := (mem_plc (by omega)).2 ⟨0, by omega, at_zero N s⟩
  have hs := plc_sorted N s n
  cases h : plc N s n with
  | nil => rw [h] at h0; cases h0
  | cons a r =>
    rw [h] at h0 hs
    rcases List.mem_cons.1 h0 with h1 | h1
    · exact ⟨r, by rw [← h1]⟩
    · have := (List.pairwise_cons.1 hs).1 0 h1
      omega
theorem plc_len60 (N s n : Nat) (hN : 0 < N) : (plc N s n).length ≤ n := by
  have h1 : (plc N s n).Nodup := (plc_sorted N s n).imp (by omega)
  have h2 := List.Nodup.length_le_of_subset (l₂ := (List.range n).map (atC N s)) h1 fun p hp => by
    obtain ⟨i, h3, h4⟩ := (mem_plc hN).1 hp
    exact List.mem_map.2 ⟨i, List.mem_range.2 h3, h4⟩
  simpa using h2

/-! ### distances -/
def dstL (N : Int) (l : List Int) : List Int := (List.range l.length).map fun j => (l ++ [N + l.getD 0 0]).getD (j + 1) 0 - l.getD j 0
theorem dstL_length (N : Int) (l : List Int) : (dstL N l).length = l.length := by simp [dstL]
abbrev dstT (N : Int) (l : List Int) (i : Nat) : List Int := (List.range i).map fun j => (l ++ [N + l.getD 0 0]).getD (j + 1) 0 - l.getD j 0
theorem dstT_in {N : Int} {l : List Int} {i : Nat} {a b : Int} (ha : l[i]? = some a) (hb : l[i + 1]? = some b) : dstT N l (i + 1) = dstT N l i ++ [b - a] := by
  have hlt := (List.getElem?_eq_some_iff.1 hb).1
  rw [dstT, List.range_succ, List.map_append]
  have hb' : (l ++ [N + l.getD 0 0])[i + 1]? = some b := by rw [List.getElem?_append_left hlt]; exact hb
  rw [List.map_cons, List.map_nil, getD_of ha, getD_of hb']
theorem dstT_last {N : Int} {l : List Int} {i : Nat} {a z : Int} (ha : l[i]? = some a) (hi : i + 1 = l.length) (hz : l[0]? = some z) : dstT N l (i + 1) = dstT N l i ++ [N - a + z] := by
  rw [dstT, List.range_succ, List.map_append]
  have h1 : (l ++ [N + l.getD 0 0])[i + 1]? = some (N + z) := by
    rw [List.getElem?_append_right (by omega), getD_of hz, hi, Nat.sub_self]
    rfl
  rw [List.map_cons, List.map_nil, getD_of ha, getD_of h1]
  congr 2
  omega
theorem dstL_bd {N : Nat} {l : List Nat} (hs : l.Pairwise (· < ·)) (hl : ∀ p ∈ l, p < N) (h0 : l.getD 0 0 = 0) : ∀ x ∈ dstL N (natI l), 1 ≤ x ∧ x ≤ N := by
  intro x hx
  obtain ⟨j, hj, rfl⟩ := List.mem_map.1 hx
  rw [List.mem_range] at hj
  simp only [List.length_map] at hj
  have ha : l[j]? = some l[j] := List.getElem?_eq_getElem hj
  have ha' : (natI l)[j]? = some (l[j] : Int) := by simp [natI, ha]
  have hpj := hl _ (List.getElem_mem hj)
  rw [getD_of ha']
  by_cases h : j + 1 < l.length
  · have hb' : (natI l ++ [(N : Int) + (natI l).getD 0 0])[j + 1]? = some ((l[j + 1] : Nat) : Int) := by
      rw [List.getElem?_append_left (by simpa using h)]
      simp [natI, h]
    have h2 := List.pairwise_iff_getElem.1 hs j (j + 1) hj h (by omega)
    have h3 := hl _ (List.getElem_mem h)
    rw [getD_of hb']
    omega
  · have hz : (natI l).getD 0 0 = 0 := by
      cases l with
      | nil => rfl
      | cons a r => simp at h0; simp [natI, h0]
    have hb' : (natI l ++ [(N : Int) + (natI l).getD 0 0])[j + 1]? = some (N : Int) := by
      rw [List.getElem?_append_right (by simp; omega), hz]
      simp [show j + 1 - l.length = 0 by omega]
    rw [getD_of hb']
    omega

/-! ### sizes -/
def szs (N : Nat) (d : List Int) : List Int := natI ((List.range (N + 1)).filter fun p => decide (0 < p) && decide ((p : Int) ∈ d))
abbrev szT (d : List Int) (k : Nat) : List Int := natI ((List.range k).filter fun p => decide (0 < p) && decide ((p : Int) ∈ d))
theorem szT_in {d : List Int} {k : Nat} (h0 : 0 < k) (h : (k : Int) ∈ d) : szT d (k + 1) = szT d k ++ [(k : Int)] := by
  simp [szT, natI, List.range_succ, List.filter_append, List.filter_cons, h0, h]
theorem szT_out {d : List Int} {k : Nat} (h : (k : Int) ∉ d) : szT d (k + 1) = szT d k := by
  simp [szT, natI, List.range_succ, List.filter_append, List.filter_cons, h]
theorem cptN_props {l : List Int} (hs : l.Pairwise (· ≤ ·)) : ∀ k, k ≤ l.length → (cptN l k).Pairwise (· < ·) ∧ ∀ x, x ∈ cptN l k ↔ x ∈ l.take k
  | 0, _ => ⟨by simp [cptN], by simp [cptN]⟩
  | k + 1, hk => by
    obtain ⟨h1, h2⟩ := cptN_props hs k (by omega)
    have ha : l[k]? = some l[k] := List.getElem?_eq_getElem (by omega)
    have ht : l.take (k + 1) = l.take k ++ [l[k]] := by rw [List.take_add_one, ha]; rfl
    rw [ht]
    by_cases h0 : k = 0
    · subst h0
      rw [cptN_new (.inl rfl), getD_of ha]
      exact ⟨by simp [cptN], by simp [cptN]⟩
    have hb : l[k - 1]? = some l[k - 1] := List.getElem?_eq_getElem (by omega)
    have hbm : l[k - 1] ∈ l.take k := by
      rw [List.mem_take_iff_getElem]
      exact ⟨k - 1, by omega, rfl⟩
    by_cases hq : l[k] = l[k - 1]
    · rw [cptN_old h0 (by rw [getD_of ha, getD_of hb]; exact hq)]
      refine ⟨h1, fun x => ?_⟩
      rw [h2, List.mem_append, List.mem_singleton]
      constructor
      · exact .inl
      · rintro (h | rfl)
        · exact h
        · rw [hq]; exact hbm
    · rw [cptN_new (.inr (by rw [getD_of ha, getD_of hb]; exact hq)), getD_of ha]
      refine ⟨?_, fun x => by rw [List.mem_append, h2, List.mem_append]⟩
      rw [List.pairwise_append]
      refine ⟨h1, by simp, fun x hx y hy => ?_⟩
      obtain rfl : y = l[k] := by simpa using hy
      obtain ⟨j, hj, rfl⟩ := List.mem_take_iff_getElem.1 ((h2 x).1 hx)
      have h3 : l[k - 1] ≤ l[k] := List.pairwise_iff_getElem.1 hs (k - 1) k (by omega) (by omega) (by omega)
      have h4 : l[j] ≤ l[k - 1] := by
        by_cases hj' : j = k - 1
        · subst hj'; exact Int.le_refl _
        · exact List.pairwise_iff_getElem.1 hs j (k - 1) (by omega) (by omega) (by omega)
      omega
theorem strict_uniq {l m : List Int} (h1 : l.Pairwise (· < ·)) (h2 : m.Pairwise (· < ·)) (h : ∀ x, x ∈ l ↔ x ∈ m) : l = m :=
  sorted_uniq (h1.imp (by omega)) (h2.imp (by omega)) ((List.perm_ext_iff_of_nodup (h1.imp (by omega)) (h2.imp (by omega))).2 h)
theorem szs_sorted (N : Nat) (d : List Int) : (szs N d).Pairwise (· < ·) := by
  rw [szs, natI, List.pairwise_map]
  exact (List.Pairwise.filter _ List.pairwise_lt_range).imp (by omega)
theorem mem_szs {N : Nat} {d : List Int} (hd : ∀ x ∈ d, 1 ≤ x ∧ x ≤ N) (x : Int) : x ∈ szs N d ↔ x ∈ d := by
  rw [szs, mem_natI]
  constructor
  · rintro ⟨q, hq, rfl⟩
    simp at hq
    exact hq.2.2
  · intro h
    have := hd x h
    exact ⟨x.toNat, by simp; exact ⟨by omega, by omega, by rw [show max x 0 = x by omega]; exact h⟩, by omega⟩
theorem cpt_szs {N : Nat} {d : List Int} (hd : ∀ x ∈ d, 1 ≤ x ∧ x ≤ N) : cptN (isort d) (isort d).length = szs N d := by
  obtain ⟨h1, h2⟩ := cptN_props (isort_sorted d) _ (Nat.le_refl _)
  refine strict_uniq h1 (szs_sorted N d) fun x => ?_
  rw [h2, List.take_length, (isort_perm d).mem_iff, mem_szs hd]
def szA (N s n : Int) : List Int × Int := if chErr N s n ≠ 0 then ([], chErr N s n) else (szs N.toNat (dstL N (natI (plc N.toNat s.toNat n.toNat))), 0)
theorem szA_err {N s n : Int} (h : chErr N s n ≠ 0) : szA N s n = ([], chErr N s n) := by rw [szA, if_pos h]
theorem szA_ok {N s n : Nat} (h : chErr N s n = 0) : szA N s n = (szs N (dstL N (natI (plc N s n))), 0) := by rw [szA, if_neg (by omega)]; rfl

/-! ### which note comes back nearest -/
/-- the first of the notes from 1 on below k that is least -/
def bstN (f : Nat → Int) : Nat → Nat
  | 0 => 1
  | k + 1 => if 2 ≤ k ∧ f k < f (bstN f k) then k else bstN f k
theorem bstN_step {f : Nat → Int} {k : Nat} (h : 2 ≤ k) : bstN f (k + 1) = if f k < f (bstN f k) then k else bstN f k := by
  simp [bstN, h]
theorem bstN_two (f : Nat → Int) : bstN f 2 = 1 := by simp [bstN]
theorem bstN_spec (f : Nat → Int) : ∀ k, 2 ≤ k → (1 ≤ bstN f k ∧ bstN f k < k) ∧ (∀ i, 1 ≤ i → i < k → f (bstN f k) ≤ f i) ∧ ∀ i, 1 ≤ i → i < bstN f k → f (bstN f k) < f i
  | 0, h => by omega
  | 1, h => by omega
  | k + 2, h => by
    by_cases h0 : k = 0
    · subst h0
      rw [bstN_two]
      refine ⟨by omega, fun i h1 h2 => ?_, fun i h1 h2 => by omega⟩
      obtain rfl : i = 1 := by omega
      exact Int.le_refl _
    obtain ⟨h1, h2, h3⟩ := bstN_spec f (k + 1) (by omega)
    rw [show k + 2 = k + 1 + 1 from rfl, bstN_step (by omega)]
    by_cases hlt : f (k + 1) < f (bstN f (k + 1))
    · rw [if_pos hlt]
      refine ⟨by omega, fun i h4 h5 => ?_, fun i h4 h5 => ?_⟩
      · by_cases hi : i = k + 1
        · subst hi; exact Int.le_refl _
        · have := h2 i h4 (by omega); omega
      · have := h2 i h4 (by omega); omega
    · rw [if_neg hlt]
      refine ⟨by omega, fun i h4 h5 => ?_, h3⟩
      by_cases hi : i = k + 1
      · subst hi; omega
      · exact h2 i h4 (by omega)
theorem bstN_uniq {f : Nat → Int} {k b : Nat} (hk : 2 ≤ k) (h1 : 1 ≤ b) (h2 : b < k) (h3 : ∀ i, 1 ≤ i → i < k → f b ≤ f i) (h4 : ∀ i, 1 ≤ i → i < b → f b < f i) : bstN f k = b := by
  obtain ⟨⟨a1, a2⟩, a3, a4⟩ := bstN_spec f k hk
  rcases Nat.lt_trichotomy (bstN f k) b with h | h | h
  · have := h4 _ a1 h
    have := a3 b h1 h2
    omega
  · exact h
  · have := a4 b h1 h
    have := h3 _ a1 a2
    omega
def farN (N s i : Nat) : Int := min ((i * s % N : Nat) : Int) ((N : Int) - ((i * s % N : Nat) : Int))
def bkA (N s n : Int) : Int × Int := if chErr N s n ≠ 0 then (0, chErr N s n) else if n = 1 then (0, 0) else (bstN (farN N.toNat s.toNat) n.toNat, 0)

end Go.Ev.YtcghegefcgnhbaaC
namespace Go.Ev.YtcghegefcgnhbaaC
open Go Go.Proofs

attribute [local irreducible] Res.all evC evLoop evOps evOper evOp evFn evCall freeze G GO GV GP GC R
set_option maxRecDepth 100000

section
variable {n base : Nat} {Q : EX × St → Prop} {d : Option Nat} {L : List IOper} {ks : List Kont} {e : Env} {h : Heap}
theorem cs_chain {N s m : Int} (hn : 5 ≤ n) : GP (evCall T n) base Q d L ks e (evCall T n false (.fn 76) [.int .i64 N, .int .i64 s, .int .i64 m] h) = GO (evCall T n) base Q L ks ⟨setDst e d (.int .i64 (chErr N s m)), h⟩ :=
  gp_eq (con_chain N s m) hn (by repeat (first | exact fz_nil _ | refine fz_slice _ _ _ _ ?_ | refine fz_int _ _ _ ?_)) rfl
theorem cs_refChain {N s m : Int} (hn : 1 ≤ n) : GP (evCall T n) base Q d L ks e (evCall T n false (.fn 78) [.int .i64 N, .int .i64 s, .int .i64 m] h) = GO (evCall T n) base Q L ks ⟨setDst e d (.int .i64 (chErr N s m)), h⟩ :=
  gp_eq (con_refChain N s m) hn (by repeat (first | exact fz_nil _ | refine fz_slice _ _ _ _ ?_ | refine fz_int _ _ _ ?_)) rfl
theorem cs_places {N s m : Nat} (hn : 2 ≤ n) (h1 : 1 ≤ N) (h2 : N ≤ 2400) (h3 : s ≤ N) (h4 : 1 ≤ m) (h5 : m ≤ 60) : GP (evCall T n) base Q d L ks e (evCall T n false (.fn 77) [.int .i64 N, .int .i64 s, .int .i64 m] h) = GO (evCall T n) base Q L ks ⟨setDst e d (longsV (natI (plc N s m))), h⟩ :=
  gp_eq (con_places N s m h1 h2 h3 h4 h5) hn (by repeat (first | exact fz_nil _ | refine fz_slice _ _ _ _ ?_ | refine fz_int _ _ _ ?_)) rfl
theorem cs_PlacesOf {N s m : Nat} (hn : 1 ≤ n) (h1 : 1 ≤ N) (h2 : N ≤ 2400) (h3 : s ≤ N) (h5 : m ≤ 60) : GP (evCall T n) base Q d L ks e (evCall T n false (.fn 79) [.int .i64 N, .int .i64 s, .int .i64 m] h) = GO (evCall T n) base Q L ks ⟨setDst e d (longsV (natI (plc N s m))), h⟩ :=
  gp_eq (con_PlacesOf N s m h1 h2 h3 h5) hn (by repeat (first | exact fz_nil _ | refine fz_slice _ _ _ _ ?_ | refine fz_int _ _ _ ?_)) rfl
end

theorem con_Places (N s n : Int) : Con T 6 42 [.int .i64 N, .int .i64 s, .int .i64 n] (.tuple [longsV (plA N s n).1, .int .i64 (plA N s n).2]) := by
  refine con_intro t42 fun m hm V hV => ?_
  by_cases h0 : chErr N s n = 0
  · obtain ⟨N, s, n, rfl, rfl, rfl, h1, h2, h3, h4, h5⟩ := ch_nat h0
    simp (disch := first | assumption | omega) only [c42, go_sem, ↓reduceIte, reduceIte, Nat.reduceEqDiff, Nat.reduceAdd, Nat.reduceMul, reduceCtorEq, Nat.reduceDiv, Nat.reduceLeDiff, Nat.reduceLT, Nat.reduceSub, cs_chain, cs_places, h0]
    exact hV _ _ (by rw [plA_ok h0]; exact (by repeat (first | exact mz_nil _ _ | exact frz_int _ _ _ _ | exact frz_bool _ _ _ | exact frz_slice _ _ _ _ _ | exact frz_ptr _ _ _ _ | exact frz_nilptr _ _ | refine mz_cons ?_ ?_ | refine frz_agg ?_ | refine frz_two ?_ ?_ | refine frz_three ?_ ?_ ?_)))
  · simp (disch := first | assumption | omega) only [c42, go_sem, ↓reduceIte, reduceIte, Nat.reduceEqDiff, Nat.reduceAdd, Nat.reduceMul, reduceCtorEq, Nat.reduceDiv, Nat.reduceLeDiff, Nat.reduceLT, Nat.reduceSub, cs_chain, (show (chErr N s n != 0) = true by simpa using h0)]
    exact hV _ _ (by rw [plA_err h0]; exact (by repeat (first | exact mz_nil _ _ | exact frz_int _ _ _ _ | exact frz_bool _ _ _ | exact frz_slice _ _ _ _ _ | exact frz_ptr _ _ _ _ | exact frz_nilptr _ _ | refine mz_cons ?_ ?_ | refine frz_agg ?_ | refine frz_two ?_ ?_ | refine frz_three ?_ ?_ ?_)))
theorem con_refPlaces (N s n : Int) : Con T 2 43 [.int .i64 N, .int .i64 s, .int .i64 n] (.tuple [longsV (plA N s n).1, .int .i64 (plA N s n).2]) := by
  refine con_intro t43 fun m hm V hV => ?_
  by_cases h0 : chErr N s n = 0
  · obtain ⟨N, s, n, rfl, rfl, rfl, h1, h2, h3, h4, h5⟩ := ch_nat h0
    simp (disch := first | assumption | omega) only [c43, go_sem, ↓reduceIte, reduceIte, Nat.reduceEqDiff, Nat.reduceAdd, Nat.reduceMul, reduceCtorEq, Nat.reduceDiv, Nat.reduceLeDiff, Nat.reduceLT, Nat.reduceSub, cs_refChain, cs_PlacesOf, h0]
    exact hV _ _ (by rw [plA_ok h0]; exact (by repeat (first | exact mz_nil _ _ | exact frz_int _ _ _ _ | exact frz_bool _ _ _ | exact frz_slice _ _ _ _ _ | exact frz_ptr _ _ _ _ | exact frz_nilptr _ _ | refine mz_cons ?_ ?_ | refine frz_agg ?_ | refine frz_two ?_ ?_ | refine frz_three ?_ ?_ ?_)))
  · simp (disch := first | assumption | omega) only [c43, go_sem, ↓reduceIte, reduceIte, Nat.reduceEqDiff, Nat.reduceAdd, Nat.reduceMul, reduceCtorEq, Nat.reduceDiv, Nat.reduceLeDiff, Nat.reduceLT, Nat.reduceSub, cs_refChain, (show (chErr N s n != 0) = true by simpa using h0)]
    exact hV _ _ (by rw [plA_err h0]; exact (by repeat (first | exact mz_nil _ _ | exact frz_int _ _ _ _ | exact frz_bool _ _ _ | exact frz_slice _ _ _ _ _ | exact frz_ptr _ _ _ _ | exact frz_nilptr _ _ | refine mz_cons ?_ ?_ | refine frz_agg ?_ | refine frz_two ?_ ?_ | refine frz_three ?_ ?_ ?_)))

theorem con_Distances (N : Nat) (l : List Int) (hN : N ≤ 2400) (hl : l.length ≤ 2400) (hb : ∀ x ∈ l, 0 ≤ x ∧ x ≤ 2400) : Con T 1 54 [.int .i64 N, longsV l] (longsV (dstL N l)) := by
  refine con_intro t54 fun m hm V hV => ?_
  simp (disch := first | assumption | omega) only [c54, go_sem, ↓reduceIte, reduceIte, Nat.reduceEqDiff, Nat.reduceAdd, Nat.reduceMul, reduceCtorEq, Nat.reduceDiv, Nat.reduceLeDiff, Nat.reduceLT, Nat.reduceSub]
  refine m_loop (fun M st => ∃ (i : Nat) (v : AV), M = l.length - i ∧ i ≤ l.length ∧ At st.env [(0, .int .i64 N), (1, longsV l), (5, v), (6, .int .i64 i)] ∧ Own 45 st.heap v .i64 (dstT N l i) ∧ 45 ≤ st.heap.length) l.length (by omega)
    ⟨0, _, by omega, by omega, by simp only [go_sem, ↓reduceIte, reduceIte, Nat.reduceEqDiff, Nat.reduceAdd, Nat.reduceMul, reduceCtorEq, Nat.reduceDiv, Nat.reduceLeDiff, Nat.reduceLT, Nat.reduceSub], own_nil _ _ _, by simp⟩ ?_
  rintro M e h hM ⟨i, v, rfl, hi, hE, hO, hlen⟩ P hP
  simp only [At_cons, At_nil] at hE hO hlen
  obtain ⟨f0, f1, f5, f6, -⟩ := hE
  have hTl : (dstT (N : Int) l i).length = i := by simp
  by_cases hlt : i < l.length
  · obtain ⟨a, ha⟩ := get_ex hlt
    have ba := hb a (List.mem_of_getElem? ha)
    by_cases hin : i + 1 < l.length
    · obtain ⟨b, hb'⟩ := get_ex hin
      have bb := hb b (List.mem_of_getElem? hb')
      have hd : decide ((i : Int) + 1 < (l.length : Int)) = true := decide_eq_true (by omega)
      simp (disch := first | assumption | omega) only [go_sem, ↓reduceIte, reduceIte, Nat.reduceEqDiff, Nat.reduceAdd, Nat.reduceMul, reduceCtorEq, Nat.reduceDiv, Nat.reduceLeDiff, Nat.reduceLT, Nat.reduceSub, f0, f1, f5, f6, hlt, hd, ha, hb']
      refine gp_append1 (a := b - a) (by first | with_reducible rfl | (simp only [length_setH, List.length_append, List.length_replicate]; done) | (simp only [length_setH, List.length_append, List.length_replicate]; omega)) hO hlen (by rw [hTl]; omega) fun x' h' hO' hF hL _ _ => ?_
      simp (disch := first | assumption | omega) only [go_sem, ↓reduceIte, reduceIte, Nat.reduceEqDiff, Nat.reduceAdd, Nat.reduceMul, reduceCtorEq, Nat.reduceDiv, Nat.reduceLeDiff, Nat.reduceLT, Nat.reduceSub, f0, f1, f6]
      exact hP (l.length - (i + 1)) _ (by omega) ⟨i + 1, x', rfl, by omega, by simp only [go_sem, ↓reduceIte, reduceIte, Nat.reduceEqDiff, Nat.reduceAdd, Nat.reduceMul, reduceCtorEq, Nat.reduceDiv, Nat.reduceLeDiff, Nat.reduceLT, Nat.reduceSub, f0, f1], by rw [dstT_in ha hb']; exact hO', Nat.le_trans hlen hL⟩
    · have hd : decide ((i : Int) + 1 < (l.length : Int)) = false := decide_eq_false (by omega)
      obtain ⟨z, hz⟩ := get_ex (l := l) (i := 0) (by omega)
      have bz := hb z (List.mem_of_getElem? hz)
      have h0l : 0 < l.length := by omega
      simp (disch := first | assumption | omega) only [go_sem, ↓reduceIte, reduceIte, Nat.reduceEqDiff, Nat.reduceAdd, Nat.reduceMul, reduceCtorEq, Nat.reduceDiv, Nat.reduceLeDiff, Nat.reduceLT, Nat.reduceSub, f0, f1, f5, f6, hlt, hd, ha, hz, h0l]
      refine gp_append1 (a := N - a + z) (by first | with_reducible rfl | (simp only [length_setH, List.length_append, List.length_replicate]; done) | (simp only [length_setH, List.length_append, List.length_replicate]; omega)) hO hlen (by rw [hTl]; omega) fun x' h' hO' hF hL _ _ => ?_
      simp (disch := first | assumption | omega) only [go_sem, ↓reduceIte, reduceIte, Nat.reduceEqDiff, Nat.reduceAdd, Nat.reduceMul, reduceCtorEq, Nat.reduceDiv, Nat.reduceLeDiff, Nat.reduceLT, Nat.reduceSub, f0, f1, f6]
      exact hP (l.length - (i + 1)) _ (by omega) ⟨i + 1, x', rfl, by omega, by simp only [go_sem, ↓reduceIte, reduceIte, Nat.reduceEqDiff, Nat.reduceAdd, Nat.reduceMul, reduceCtorEq, Nat.reduceDiv, Nat.reduceLeDiff, Nat.reduceLT, Nat.reduceSub, f0, f1], by rw [dstT_last ha (by omega) hz]; exact hO', Nat.le_trans hlen hL⟩
  · obtain rfl : i = l.length := by omega
    simp (disch := first | assumption | omega) only [go_sem, ↓reduceIte, reduceIte, Nat.reduceEqDiff, Nat.reduceAdd, Nat.reduceMul, reduceCtorEq, Nat.reduceDiv, Nat.reduceLeDiff, Nat.reduceLT, Nat.reduceSub, f0, f1, f5, f6, hlt]
    exact hV _ _ (frz_Own hO)

end Go.Ev.YtcghegefcgnhbaaC
namespace Go.Ev.YtcghegefcgnhbaaC
open Go Go.Proofs

attribute [local irreducible] Res.all evC evLoop evOps evOper evOp evFn evCall freeze G GO GV GP GC R
set_option maxRecDepth 100000

section
variable {n base : Nat} {Q : EX × St → Prop} {d : Option Nat} {L : List IOper} {ks : List Kont} {e : Env} {h : Heap}
theorem cs_Distances {N : Nat} {l : List Int} {ex : Bool} (hn : 1 ≤ n) (hN : N ≤ 2400) (hl : l.length ≤ 2400) (hb : ∀ x ∈ l, 0 ≤ x ∧ x ≤ 2400) : GP (evCall T n) base Q d L ks e (evCall T n false (.fn 54) [.int .i64 N, .slice none (l.map (.int .i64)) ex] h) = GO (evCall T n) base Q L ks ⟨setDst e d (longsV (dstL N l)), h⟩ :=
  gp_eq (con_Distances N l hN hl hb) hn (by repeat (first | exact fz_nil _ | refine fz_slice _ _ _ _ ?_ | refine fz_int _ _ _ ?_)) rfl
end
theorem plc_bd {N s n : Nat} (h1 : 1 ≤ N) (h2 : N ≤ 2400) : ∀ x ∈ natI (plc N s n), 0 ≤ x ∧ x ≤ 2400 := fun x hx => by
  obtain ⟨q, hq, rfl⟩ := mem_natI.1 hx
  obtain ⟨i, _, h4⟩ := (mem_plc (by omega)).1 hq
  have := at_lt (show 0 < N by omega) s i
  omega
theorem plc_lt {N s n : Nat} (h1 : 1 ≤ N) : ∀ x ∈ plc N s n, x < N := fun x hx => by
  obtain ⟨i, _, h4⟩ := (mem_plc (by omega)).1 hx
  have := at_lt (show 0 < N by omega) s i
  omega
theorem plc_d0 {N s n : Nat} (h1 : 1 ≤ N) (h4 : 1 ≤ n) : (plc N s n).getD 0 0 = 0 := by
  obtain ⟨r, hr⟩ := plc_cons (s := s) h1 h4
  rw [hr]; rfl
theorem dst_bd {N s n : Nat} (h1 : 1 ≤ N) (h4 : 1 ≤ n) : ∀ x ∈ dstL N (natI (plc N s n)), 1 ≤ x ∧ x ≤ N :=
  dstL_bd (plc_sorted N s n) (plc_lt h1) (plc_d0 h1 h4)

set_option maxHeartbeats 1000000 in
theorem con_refSizes (N s n : Int) : Con T 2 45 [.int .i64 N, .int .i64 s, .int .i64 n] (.tuple [longsV (szA N s n).1, .int .i64 (szA N s n).2]) := by
  refine con_intro t45 fun m hm V hV => ?_
  by_cases h0 : chErr N s n = 0
  case neg =>
    simp (disch := first | assumption | omega) only [c45, go_sem, ↓reduceIte, reduceIte, Nat.reduceEqDiff, Nat.reduceAdd, Nat.reduceMul, reduceCtorEq, Nat.reduceDiv, Nat.reduceLeDiff, Nat.reduceLT, Nat.reduceSub, cs_refChain, (show (chErr N s n != 0) = true by simpa using h0)]
    exact hV _ _ (by rw [szA_err h0]; exact (by repeat (first | exact mz_nil _ _ | exact frz_int _ _ _ _ | exact frz_bool _ _ _ | exact frz_slice _ _ _ _ _ | exact frz_ptr _ _ _ _ | exact frz_nilptr _ _ | refine mz_cons ?_ ?_ | refine frz_agg ?_ | refine frz_two ?_ ?_ | refine frz_three ?_ ?_ ?_)))
  obtain ⟨N, s, n, rfl, rfl, rfl, h1, h2, h3, h4, h5⟩ := ch_nat h0
  have hpl := plc_len60 N s n (by omega)
  have hpb := plc_bd (s := s) (n := n) h1 h2
  have hdb := dst_bd (s := s) h1 h4
  have hdl := dstL_length N (natI (plc N s n))
  have hpl2 : (natI (plc N s n)).length ≤ 2400 := by simp; omega
  simp (disch := first | assumption | omega) only [c45, go_sem, ↓reduceIte, reduceIte, Nat.reduceEqDiff, Nat.reduceAdd, Nat.reduceMul, reduceCtorEq, Nat.reduceDiv, Nat.reduceLeDiff, Nat.reduceLT, Nat.reduceSub, cs_refChain, cs_PlacesOf, cs_Distances, h0]
  rw [szA_ok h0] at hV
  have hdl60 : (dstL N (natI (plc N s n))).length ≤ 60 := by rw [hdl]; simp; omega
  clear hpl hpb hpl2 hdl
  generalize dstL (N : Int) (natI (plc N s n)) = D at *
  refine m_loop (fun M st => ∃ (k : Nat) (v : AV), M = N + 1 - k ∧ 1 ≤ k ∧ k ≤ N + 1 ∧ At st.env [(0, .int .i64 N), (8, longsV D), (9, v), (10, .int .i64 k)] ∧ Own 49 st.heap v .i64 (szT D k) ∧ 49 ≤ st.heap.length) N (by omega)
    ⟨1, _, by omega, by omega, by omega, by simp only [go_sem, ↓reduceIte, reduceIte, Nat.reduceEqDiff, Nat.reduceAdd, Nat.reduceMul, reduceCtorEq, Nat.reduceDiv, Nat.reduceLeDiff, Nat.reduceLT, Nat.reduceSub], own_nil _ _ _, by simp⟩ ?_
  rintro M e h hM ⟨k, v, rfl, hk1, hk, hE, hO, hlen⟩ P hP
  simp only [At_cons, At_nil] at hE hO hlen
  obtain ⟨f0, f8, f9, f10, -⟩ := hE
  have hTl : (szT D k).length ≤ k := by
    have := List.length_filter_le (fun p : Nat => decide (0 < p) && decide ((p : Int) ∈ D)) (List.range k)
    simpa using this
  by_cases hlt : (k : Int) ≤ (N : Int)
  · simp (disch := first | assumption | omega) only [go_sem, ↓reduceIte, reduceIte, Nat.reduceEqDiff, Nat.reduceAdd, Nat.reduceMul, reduceCtorEq, Nat.reduceDiv, Nat.reduceLeDiff, Nat.reduceLT, Nat.reduceSub, f0, f8, f9, f10, hlt]
    refine m_loop (fun M st => ∃ (i : Nat), M = D.length - i ∧ i ≤ D.length ∧ (∀ j < i, D[j]? ≠ some (k : Int)) ∧ At st.env [(0, .int .i64 N), (8, longsV D), (9, v), (10, .int .i64 k), (11, .int .i64 i)] ∧ st.heap = h) D.length (by omega)
      ⟨0, by omega, by omega, by omega, by simp only [go_sem, ↓reduceIte, reduceIte, Nat.reduceEqDiff, Nat.reduceAdd, Nat.reduceMul, reduceCtorEq, Nat.reduceDiv, Nat.reduceLeDiff, Nat.reduceLT, Nat.reduceSub, f0, f8, f9, f10], rfl⟩ ?_
    rintro M e h' hM2 ⟨i, rfl, hi, hnot, hE, hh⟩ P' hP'
    simp only [At_cons, At_nil] at hE hh
    obtain ⟨f0, f8, f9, f10, f11, -⟩ := hE
    subst hh
    by_cases hlt2 : i < D.length
    · obtain ⟨a, ha⟩ := get_ex hlt2
      by_cases hq : a = (k : Int)
      · subst hq
        simp (disch := first | assumption | omega) only [go_sem, ↓reduceIte, reduceIte, Nat.reduceEqDiff, Nat.reduceAdd, Nat.reduceMul, reduceCtorEq, Nat.reduceDiv, Nat.reduceLeDiff, Nat.reduceLT, Nat.reduceSub, f0, f8, f9, f10, f11, hlt2, ha, beq_self_eq_true]
        refine gp_append1 (a := (k : Int)) (by first | with_reducible rfl | (simp only [length_setH, List.length_append, List.length_replicate]; done) | (simp only [length_setH, List.length_append, List.length_replicate]; omega)) hO hlen (by omega) fun x' h' hO' hF hL _ _ => ?_
        simp (disch := first | assumption | omega) only [go_sem, ↓reduceIte, reduceIte, Nat.reduceEqDiff, Nat.reduceAdd, Nat.reduceMul, reduceCtorEq, Nat.reduceDiv, Nat.reduceLeDiff, Nat.reduceLT, Nat.reduceSub, f0, f8, f10]
        exact hP (N + 1 - (k + 1)) _ (by omega) ⟨k + 1, x', rfl, by omega, by omega, by simp only [go_sem, ↓reduceIte, reduceIte, Nat.reduceEqDiff, Nat.reduceAdd, Nat.reduceMul, reduceCtorEq, Nat.reduceDiv, Nat.reduceLeDiff, Nat.reduceLT, Nat.reduceSub, f0, f8], by rw [szT_in (by omega) (List.mem_of_getElem? ha)]; exact hO', Nat.le_trans hlen hL⟩
      · have hab : (a == (k : Int)) = false := by simpa using hq
        simp (disch := first | assumption | omega) only [go_sem, ↓reduceIte, reduceIte, Nat.reduceEqDiff, Nat.reduceAdd, Nat.reduceMul, reduceCtorEq, Nat.reduceDiv, Nat.reduceLeDiff, Nat.reduceLT, Nat.reduceSub, f0, f8, f9, f10, f11, hlt2, ha, hab]
        refine hP' (D.length - (i + 1)) _ (by omega) ⟨i + 1, rfl, by omega, fun j hj => ?_, by simp only [go_sem, ↓reduceIte, reduceIte, Nat.reduceEqDiff, Nat.reduceAdd, Nat.reduceMul, reduceCtorEq, Nat.reduceDiv, Nat.reduceLeDiff, Nat.reduceLT, Nat.reduceSub, f0, f8, f9, f10], rfl⟩
        by_cases hji : j < i
        · exact hnot j hji
        · obtain rfl : j = i := by omega
          rw [ha]
          exact fun h => hq (Option.some.inj h)
    · have hkn : (k : Int) ∉ D := fun h => by
        obtain ⟨j, hj, he⟩ := List.mem_iff_getElem.1 h
        exact hnot j (by omega) (by rw [List.getElem?_eq_getElem hj, he])
      simp (disch := first | assumption | omega) only [go_sem, ↓reduceIte, reduceIte, Nat.reduceEqDiff, Nat.reduceAdd, Nat.reduceMul, reduceCtorEq, Nat.reduceDiv, Nat.reduceLeDiff, Nat.reduceLT, Nat.reduceSub, f0, f8, f9, f10, f11, hlt2]
      exact hP (N + 1 - (k + 1)) _ (by omega) ⟨k + 1, v, rfl, by omega, by omega, by simp only [go_sem, ↓reduceIte, reduceIte, Nat.reduceEqDiff, Nat.reduceAdd, Nat.reduceMul, reduceCtorEq, Nat.reduceDiv, Nat.reduceLeDiff, Nat.reduceLT, Nat.reduceSub, f0, f8, f9], by rw [szT_out hkn]; exact hO, hlen⟩
  · simp (disch := first | assumption | omega) only [go_sem, ↓reduceIte, reduceIte, Nat.reduceEqDiff, Nat.reduceAdd, Nat.reduceMul, reduceCtorEq, Nat.reduceDiv, Nat.reduceLeDiff, Nat.reduceLT, Nat.reduceSub, f0, f8, f9, f10, hlt]
    rw [show k = N + 1 by omega] at hO
    exact hV _ _ (frz_two (frz_Own hO) (frz_int _ _ _ _))

theorem Own.lo_lt {lo : Nat} {h : Heap} {v : AV} {k : IntKind} {l : List Int} (hx : Own lo h v k l) (hl : l ≠ []) : ∃ key ver, lo ≤ key ∧ key < h.length ∧ v = .oslice key ver none 0 l.length none ∧ getH h key = .cells ver (l.map (.int k)) := by
  rcases hx with ⟨h1, _⟩ | ⟨key, ver, h1, h2, h3⟩
  · exact absurd h1 hl
  · exact ⟨key, ver, h1, getH_lt h3 (by simp), h2, h3⟩
theorem dstT_any {N : Int} {l : List Int} {i : Nat} {a b : Int} (ha : l[i]? = some a) (hb : (l ++ [N + l.getD 0 0])[i + 1]? = some b) : dstT N l (i + 1) = dstT N l i ++ [b - a] := by
  rw [dstT, List.range_succ, List.map_append, List.map_cons, List.map_nil, getD_of ha, getD_of hb]

set_option maxHeartbeats 1000000 in
theorem con_Sizes (N s n : Int) : Con T 6 44 [.int .i64 N, .int .i64 s, .int .i64 n] (.tuple [longsV (szA N s n).1, .int .i64 (szA N s n).2]) := by
  refine con_intro t44 fun m hm V hV => ?_
  by_cases h0 : chErr N s n = 0
  case neg =>
    simp (disch := first | assumption | omega) only [c44, go_sem, ↓reduceIte, reduceIte, Nat.reduceEqDiff, Nat.reduceAdd, Nat.reduceMul, reduceCtorEq, Nat.reduceDiv, Nat.reduceLeDiff, Nat.reduceLT, Nat.reduceSub, cs_chain, (show (chErr N s n != 0) = true by simpa using h0)]
    exact hV _ _ (by rw [szA_err h0]; exact (by repeat (first | exact mz_nil _ _ | exact frz_int _ _ _ _ | exact frz_bool _ _ _ | exact frz_slice _ _ _ _ _ | exact frz_ptr _ _ _ _ | exact frz_nilptr _ _ | refine mz_cons ?_ ?_ | refine frz_agg ?_ | refine frz_two ?_ ?_ | refine frz_three ?_ ?_ ?_)))
  obtain ⟨m, rfl⟩ : ∃ m', m = m' + 1 := ⟨m - 1, by omega⟩
  obtain ⟨N, s, n, rfl, rfl, rfl, h1, h2, h3, h4, h5⟩ := ch_nat h0
  have hpl := plc_len60 N s n (by omega)
  have hpb := plc_bd (s := s) (n := n) h1 h2
  have hdb := dst_bd (s := s) h1 h4
  have hdl := dstL_length N (natI (plc N s n))
  have hz : (natI (plc N s n)).getD 0 0 = 0 := by
    obtain ⟨r, hr⟩ := plc_cons (s := s) h1 h4
    rw [hr]; rfl
  have hpos : 0 < (natI (plc N s n)).length := by
    obtain ⟨r, hr⟩ := plc_cons (s := s) h1 h4
    rw [hr]; simp
  simp (disch := first | assumption | omega) only [c44, go_sem, ↓reduceIte, reduceIte, Nat.reduceEqDiff, Nat.reduceAdd, Nat.reduceMul, reduceCtorEq, Nat.reduceDiv, Nat.reduceLeDiff, Nat.reduceLT, Nat.reduceSub, cs_chain, h0]
  refine gp_raw (raw_places N s n h1 h2 h3 h4 h5) (by omega) fun v h' ⟨x, hx, hv⟩ => ?_
  obtain ⟨_, _, hle, hlt', _, _⟩ := Own.lo_lt hx (List.length_pos_iff.1 hpos)
  simp (disch := first | assumption | omega) only [go_sem, ↓reduceIte, reduceIte, Nat.reduceEqDiff, Nat.reduceAdd, Nat.reduceMul, reduceCtorEq, Nat.reduceDiv, Nat.reduceLeDiff, Nat.reduceLT, Nat.reduceSub]
  rw [szA_ok h0] at hV
  have hpl' : (natI (plc N s n)).length ≤ 60 := by simp; omega
  refine gp_appendC (m := 1) (l2 := [(N : Int)]) hv (by first | with_reducible rfl | (simp only [length_setH, List.length_append, List.length_replicate]; done) | (simp only [length_setH, List.length_append, List.length_replicate]; omega)) hx (by omega) rfl rfl (by omega) (by omega) fun x' h2' hO' _ _ _ _ => ?_
  obtain ⟨key, ver, _, hkl, rfl, hH⟩ := Own.lo_lt hO' (by simp)
  clear hO' hx hv hlt' hle hpl
  generalize natI (plc N s n) = D at *
  have hLl : (D ++ [(N : Int)]).length = D.length + 1 := by simp
  have hL' : D ++ [(N : Int) + D.getD 0 0] = D ++ [(N : Int)] := by rw [hz]; simp
  have hLD : ∀ i a, D[i]? = some a → (D ++ [(N : Int)])[i]? = some a := fun i a h => by
    rw [List.getElem?_append_left (List.getElem?_eq_some_iff.1 h).1]; exact h
  have hLb : ∀ x ∈ D ++ [(N : Int)], 0 ≤ x ∧ x ≤ 2400 := fun x hx => by
    rcases List.mem_append.1 hx with hx | hx
    · exact hpb x hx
    · obtain rfl : x = N := by simpa using hx
      omega
  generalize D ++ [(N : Int)] = L at *
  rw [hLl]
  simp (disch := first | assumption | omega) only [go_sem, ↓reduceIte, reduceIte, Nat.reduceEqDiff, Nat.reduceAdd, Nat.reduceMul, reduceCtorEq, Nat.reduceDiv, Nat.reduceLeDiff, Nat.reduceLT, Nat.reduceSub]
  rw [slA_from_own (n := 1) (k := .i64) (by simp only [go_sem, ↓reduceIte, reduceIte, Nat.reduceEqDiff, Nat.reduceAdd, Nat.reduceMul, reduceCtorEq, Nat.reduceDiv, Nat.reduceLeDiff, Nat.reduceLT, Nat.reduceSub]) (by omega)]
  have hD1 : 1 + D.length = D.length + 1 := by omega
  simp (disch := first | assumption | omega) only [go_sem, ↓reduceIte, reduceIte, Nat.reduceEqDiff, Nat.reduceAdd, Nat.reduceMul, reduceCtorEq, Nat.reduceDiv, Nat.reduceLeDiff, Nat.reduceLT, Nat.reduceSub, Nat.add_sub_cancel]
  refine m_loop (fun M st => ∃ (i : Nat) (v : AV), M = D.length - i ∧ i ≤ D.length ∧ At st.env [(9, v), (10, .oslice key ver none 0 (D.length + 1) none), (28, .oslice key ver none 1 D.length none), (29, .int .i64 D.length), (30, .int .i64 i)] ∧ getH st.heap key = .cells ver (L.map (.int .i64)) ∧ Own 0 st.heap v .i64 (dstT N D i) ∧ key < st.heap.length) D.length (by omega)
    ⟨0, _, by omega, by omega, by simp only [go_sem, ↓reduceIte, reduceIte, Nat.reduceEqDiff, Nat.reduceAdd, Nat.reduceMul, reduceCtorEq, Nat.reduceDiv, Nat.reduceLeDiff, Nat.reduceLT, Nat.reduceSub], hH, own_nil _ _ _, hkl⟩ ?_
  rintro M e h hM ⟨i, v, rfl, hi, hE, hH, hO, hkl⟩ P hP
  simp only [At_cons, At_nil] at hE hH hO hkl
  obtain ⟨f9, f10, f28, f29, f30, -⟩ := hE
  have hTl : (dstT (N : Int) D i).length = i := by simp
  by_cases hlt : i < D.length
  · obtain ⟨a, ha⟩ := get_ex hlt
    obtain ⟨b, hb⟩ := get_ex (l := L) (i := 1 + i) (by omega)
    have hb' : L[i + 1]? = some b := by rw [Nat.add_comm]; exact hb
    have ha' := hLD i a ha
    have bb := hLb b (List.mem_of_getElem? hb)
    have ba := hLb a (List.mem_of_getElem? ha')
    have hlt1 : i < D.length + 1 := by omega
    simp (disch := first | assumption | omega) only [go_sem, ↓reduceIte, reduceIte, Nat.reduceEqDiff, Nat.reduceAdd, Nat.reduceMul, reduceCtorEq, Nat.reduceDiv, Nat.reduceLeDiff, Nat.reduceLT, Nat.reduceSub, f9, f10, f28, f29, f30, hlt, hH, hb, hO.lenA]
    rw [slA_full hO (k1 := .i64) (k2 := .i64) (by simp only [go_sem, ↓reduceIte, reduceIte, Nat.reduceEqDiff, Nat.reduceAdd, Nat.reduceMul, reduceCtorEq, Nat.reduceDiv, Nat.reduceLeDiff, Nat.reduceLT, Nat.reduceSub]) (by simp only [go_sem, ↓reduceIte, reduceIte, Nat.reduceEqDiff, Nat.reduceAdd, Nat.reduceMul, reduceCtorEq, Nat.reduceDiv, Nat.reduceLeDiff, Nat.reduceLT, Nat.reduceSub])]
    simp (disch := first | assumption | omega) only [go_sem, ↓reduceIte, reduceIte, Nat.reduceEqDiff, Nat.reduceAdd, Nat.reduceMul, reduceCtorEq, Nat.reduceDiv, Nat.reduceLeDiff, Nat.reduceLT, Nat.reduceSub, f9, f10, f28, f29, f30, hlt1, hH, ha']
    refine gp_append_capped (m := 1) (l2 := [b - a]) (by first | with_reducible rfl | (simp only [length_setH, List.length_append, List.length_replicate]; done) | (simp only [length_setH, List.length_append, List.length_replicate]; omega)) hO (by omega) rfl rfl Nat.one_pos (by omega) fun x' h2 hO' hF hL _ => ?_
    simp (disch := first | assumption | omega) only [go_sem, ↓reduceIte, reduceIte, Nat.reduceEqDiff, Nat.reduceAdd, Nat.reduceMul, reduceCtorEq, Nat.reduceDiv, Nat.reduceLeDiff, Nat.reduceLT, Nat.reduceSub, f10, f28, f29, f30]
    refine hP (D.length - (i + 1)) _ (by omega) ⟨i + 1, x', rfl, by omega, by simp only [go_sem, ↓reduceIte, reduceIte, Nat.reduceEqDiff, Nat.reduceAdd, Nat.reduceMul, reduceCtorEq, Nat.reduceDiv, Nat.reduceLeDiff, Nat.reduceLT, Nat.reduceSub, f10, f28, f29], by rw [hF key hkl]; exact hH, ?_, Nat.lt_of_lt_of_le hkl hL⟩
    rw [dstT_any ha (by rw [hL']; exact hb')]
    exact hO'
  · obtain rfl : i = D.length := by omega
    simp (disch := first | assumption | omega) only [go_sem, ↓reduceIte, reduceIte, Nat.reduceEqDiff, Nat.reduceAdd, Nat.reduceMul, reduceCtorEq, Nat.reduceDiv, Nat.reduceLeDiff, Nat.reduceLT, Nat.reduceSub, f9, f10, f28, f29, f30, hlt]
    have hO2 : Own 0 h v .i64 (dstL N D) := hO
    refine gp_sort (call := evCall T m) t80 hO2 (by omega) (by omega) fun h2 hO3 _ _ => ?_
    simp (disch := first | assumption | omega) only [go_sem, ↓reduceIte, reduceIte, Nat.reduceEqDiff, Nat.reduceAdd, Nat.reduceMul, reduceCtorEq, Nat.reduceDiv, Nat.reduceLeDiff, Nat.reduceLT, Nat.reduceSub, f9, f10, f28, f29, f30]
    have hsl : (isort (dstL (N : Int) D)).length = D.length := by rw [length_isort, hdl]
    refine gp_of (raw_Compact hO3 (by omega) (by omega) _ _ fun w h3 hz3 => ?_)
    simp (disch := first | assumption | omega) only [go_sem, ↓reduceIte, reduceIte, Nat.reduceEqDiff, Nat.reduceAdd, Nat.reduceMul, reduceCtorEq, Nat.reduceDiv, Nat.reduceLeDiff, Nat.reduceLT, Nat.reduceSub, f9, f10, f28, f29, f30]
    rw [cpt_szs hdb] at hz3
    exact hV _ _ (frz_two (hz3 _) (frz_int _ _ _ _))

end Go.Ev.YtcghegefcgnhbaaC
namespace Go.Ev.YtcghegefcgnhbaaC
open Go Go.Proofs

attribute [local irreducible] Res.all evC evLoop evOps evOper evOp evFn evCall freeze G GO GV GP GC R
set_option maxRecDepth 100000

theorem con_Far (N s i : Nat) (h1 : 1 ≤ N) (h2 : N ≤ 2400) (h3 : s ≤ N) (h4 : i ≤ 60) : Con T 1 55 [.int .i64 N, .int .i64 s, .int .i64 i] (.int .i64 (farN N s i)) := by
  refine con_intro t55 fun m hm V hV => ?_
  have hm1 : i * s ≤ 60 * 2400 := Nat.mul_le_mul (by omega) (by omega)
  have hms : ((i : Int) * (s : Int)) = ((i * s : Nat) : Int) := by simp
  have hlt := Nat.mod_lt (i * s) (show 0 < N by omega)
  simp (disch := first | assumption | omega) only [c55, go_sem, ↓reduceIte, reduceIte, Nat.reduceEqDiff, Nat.reduceAdd, Nat.reduceMul, reduceCtorEq, Nat.reduceDiv, Nat.reduceLeDiff, Nat.reduceLT, Nat.reduceSub, hms, b_rem]
  refine hV _ _ ?_
  have : (if (N : Int) - ((i * s % N : Nat) : Int) < ((i * s % N : Nat) : Int) then (N : Int) - ((i * s % N : Nat) : Int) else ((i * s % N : Nat) : Int)) = farN N s i := by
    unfold farN
    split <;> omega
  rw [this]
  exact (by repeat (first | exact mz_nil _ _ | exact frz_int _ _ _ _ | exact frz_bool _ _ _ | exact frz_slice _ _ _ _ _ | exact frz_ptr _ _ _ _ | exact frz_nilptr _ _ | refine mz_cons ?_ ?_ | refine frz_agg ?_ | refine frz_two ?_ ?_ | refine frz_three ?_ ?_ ?_))
theorem farN_bd {N s : Nat} (h1 : 1 ≤ N) (i : Nat) : 0 ≤ farN N s i ∧ farN N s i ≤ N := by
  have := Nat.mod_lt (i * s) (show 0 < N by omega)
  unfold farN
  omega
theorem cs_Far {n base : Nat} {Q : EX × St → Prop} {d : Option Nat} {L : List IOper} {ks : List Kont} {e : Env} {h : Heap} {N s i : Nat} (hn : 1 ≤ n) (h1 : 1 ≤ N) (h2 : N ≤ 2400) (h3 : s ≤ N) (h4 : i ≤ 60) : GP (evCall T n) base Q d L ks e (evCall T n false (.fn 55) [.int .i64 N, .int .i64 s, .int .i64 i] h) = GO (evCall T n) base Q L ks ⟨setDst e d (.int .i64 (farN N s i)), h⟩ :=
  gp_eq (con_Far N s i h1 h2 h3 h4) hn (by repeat (first | exact fz_nil _ | refine fz_slice _ _ _ _ ?_ | refine fz_int _ _ _ ?_)) rfl

theorem bkA_err {N s n : Int} (h : chErr N s n ≠ 0) : bkA N s n = (0, chErr N s n) := by rw [bkA, if_pos h]
theorem bkA_one {N s : Int} (h : chErr N s 1 = 0) : bkA N s 1 = (0, 0) := by rw [bkA, if_neg (by omega), if_pos rfl]
theorem bkA_ok {N s n : Nat} (h : chErr N s n = 0) (h1 : n ≠ 1) : bkA N s n = (((bstN (farN N s) n : Nat) : Int), (0 : Int)) := by rw [bkA, if_neg (by omega), if_neg (by omega)]; rfl

theorem con_refBack (N s n : Int) : Con T 2 47 [.int .i64 N, .int .i64 s, .int .i64 n] (.tuple [.int .i64 (bkA N s n).1, .int .i64 (bkA N s n).2]) := by
  refine con_intro t47 fun m hm V hV => ?_
  by_cases h0 : chErr N s n = 0
  case neg =>
    simp (disch := first | assumption | omega) only [c47, go_sem, ↓reduceIte, reduceIte, Nat.reduceEqDiff, Nat.reduceAdd, Nat.reduceMul, reduceCtorEq, Nat.reduceDiv, Nat.reduceLeDiff, Nat.reduceLT, Nat.reduceSub, cs_refChain, (show (chErr N s n != 0) = true by simpa using h0)]
    exact hV _ _ (by rw [bkA_err h0]; exact (by repeat (first | exact mz_nil _ _ | exact frz_int _ _ _ _ | exact frz_bool _ _ _ | exact frz_slice _ _ _ _ _ | exact frz_ptr _ _ _ _ | exact frz_nilptr _ _ | refine mz_cons ?_ ?_ | refine frz_agg ?_ | refine frz_two ?_ ?_ | refine frz_three ?_ ?_ ?_)))
  by_cases hn1 : n = 1
  · subst hn1
    simp (disch := first | assumption | omega) only [c47, go_sem, ↓reduceIte, reduceIte, Nat.reduceEqDiff, Nat.reduceAdd, Nat.reduceMul, reduceCtorEq, Nat.reduceDiv, Nat.reduceLeDiff, Nat.reduceLT, Nat.reduceSub, cs_refChain, h0]
    exact hV _ _ (by rw [bkA_one h0]; exact (by repeat (first | exact mz_nil _ _ | exact frz_int _ _ _ _ | exact frz_bool _ _ _ | exact frz_slice _ _ _ _ _ | exact frz_ptr _ _ _ _ | exact frz_nilptr _ _ | refine mz_cons ?_ ?_ | refine frz_agg ?_ | refine frz_two ?_ ?_ | refine frz_three ?_ ?_ ?_)))
  obtain ⟨N, s, n, rfl, rfl, rfl, h1, h2, h3, h4, h5⟩ := ch_nat h0
  have hne : ((n : Int) == 1) = false := by simpa using hn1
  rw [bkA_ok h0 (by omega)] at hV
  simp (disch := first | assumption | omega) only [c47, go_sem, ↓reduceIte, reduceIte, Nat.reduceEqDiff, Nat.reduceAdd, Nat.reduceMul, reduceCtorEq, Nat.reduceDiv, Nat.reduceLeDiff, Nat.reduceLT, Nat.reduceSub, cs_refChain, h0, hne]
  refine m_loop (fun M st => ∃ (k : Nat), M = n - k ∧ 2 ≤ k ∧ k ≤ n ∧ At st.env [(0, .int .i64 N), (1, .int .i64 s), (2, .int .i64 n), (8, .int .i64 (bstN (farN N s) k : Nat)), (9, .int .i64 k)]) (n - 2) (by omega)
    ⟨2, by omega, by omega, by omega, by simp only [go_sem, ↓reduceIte, reduceIte, Nat.reduceEqDiff, Nat.reduceAdd, Nat.reduceMul, reduceCtorEq, Nat.reduceDiv, Nat.reduceLeDiff, Nat.reduceLT, Nat.reduceSub, bstN_two]; first | done | exact ⟨rfl, rfl⟩⟩ ?_
  rintro M e h hM ⟨k, rfl, hk2, hk, hE⟩ P hP
  simp only [At_cons, At_nil] at hE
  obtain ⟨f0, f1, f2, f8, f9, -⟩ := hE
  have hb := (bstN_spec (farN N s) k hk2).1
  by_cases hlt : k < n
  · by_cases hf : farN N s k < farN N s (bstN (farN N s) k)
    · simp (disch := first | assumption | omega) only [go_sem, ↓reduceIte, reduceIte, Nat.reduceEqDiff, Nat.reduceAdd, Nat.reduceMul, reduceCtorEq, Nat.reduceDiv, Nat.reduceLeDiff, Nat.reduceLT, Nat.reduceSub, f0, f1, f2, f8, f9, hlt, cs_Far, hf]
      exact hP (n - (k + 1)) _ (by omega) ⟨k + 1, rfl, by omega, by omega, by simp only [go_sem, ↓reduceIte, reduceIte, Nat.reduceEqDiff, Nat.reduceAdd, Nat.reduceMul, reduceCtorEq, Nat.reduceDiv, Nat.reduceLeDiff, Nat.reduceLT, Nat.reduceSub, f0, f1, f2, bstN_step hk2, if_pos hf]⟩
    · simp (disch := first | assumption | omega) only [go_sem, ↓reduceIte, reduceIte, Nat.reduceEqDiff, Nat.reduceAdd, Nat.reduceMul, reduceCtorEq, Nat.reduceDiv, Nat.reduceLeDiff, Nat.reduceLT, Nat.reduceSub, f0, f1, f2, f8, f9, hlt, cs_Far, hf]
      exact hP (n - (k + 1)) _ (by omega) ⟨k + 1, rfl, by omega, by omega, by simp only [go_sem, ↓reduceIte, reduceIte, Nat.reduceEqDiff, Nat.reduceAdd, Nat.reduceMul, reduceCtorEq, Nat.reduceDiv, Nat.reduceLeDiff, Nat.reduceLT, Nat.reduceSub, f0, f1, f2, f8, bstN_step hk2, if_neg hf]⟩
  · obtain rfl : k = n := by omega
    simp (disch := first | assumption | omega) only [go_sem, ↓reduceIte, reduceIte, Nat.reduceEqDiff, Nat.reduceAdd, Nat.reduceMul, reduceCtorEq, Nat.reduceDiv, Nat.reduceLeDiff, Nat.reduceLT, Nat.reduceSub, f0, f1, f2, f8, f9, hlt]
    exact hV _ _ (by repeat (first | exact mz_nil _ _ | exact frz_int _ _ _ _ | exact frz_bool _ _ _ | exact frz_slice _ _ _ _ _ | exact frz_ptr _ _ _ _ | exact frz_nilptr _ _ | refine mz_cons ?_ ?_ | refine frz_agg ?_ | refine frz_two ?_ ?_ | refine frz_three ?_ ?_ ?_))

/-! ### Min -/
def minL : Int → List Int → Int
  | a, [] => a
  | a, b :: r => minL (if b < a then b else a) r
theorem con_Min (x : Int) (xs : List Int) (hl : xs.length ≤ 1000) : Con T 1 83 [longsV (x :: xs)] (.int .i64 (minL x xs)) := by
  refine con_intro t83 fun n hn V hV => ?_
  have hx0 : (x :: xs)[0]? = some x := rfl
  have hlen : (x :: xs).length = xs.length + 1 := rfl
  have hlt1 : (((x :: xs).length : Int) < 1) = False := eq_false (by rw [hlen]; omega)
  have hdrop : ∀ k : Nat, (x :: xs).drop (k + 1) = xs.drop k := fun k => rfl
  obtain ⟨ys, hys⟩ : ∃ ys, ys = x :: xs := ⟨_, rfl⟩
  rw [← hys] at hx0 hlen hlt1 hdrop ⊢
  simp (disch := first | assumption | omega) only [c83, go_sem, ↓reduceIte, reduceIte, Nat.reduceEqDiff, Nat.reduceAdd, Nat.reduceMul, reduceCtorEq, Nat.reduceDiv, Nat.reduceLeDiff, Nat.reduceLT, Nat.reduceSub, hlt1, hx0]
  refine m_loop (fun M st => ∃ (k : Nat) (a : Int), M = xs.length - k ∧ k ≤ xs.length ∧ At st.env [(0, longsV ys), (3, .int .i64 a), (4, .int .i64 ((k : Int) + 1))] ∧ minL a (xs.drop k) = minL x xs) xs.length (by omega) ⟨0, x, by omega, by omega, by simp only [go_sem, ↓reduceIte, reduceIte, Nat.reduceEqDiff, Nat.reduceAdd, Nat.reduceMul, reduceCtorEq, Nat.reduceDiv, Nat.reduceLeDiff, Nat.reduceLT, Nat.reduceSub], rfl⟩ ?_
  rintro M e h hM ⟨k, a, rfl, hk, hE, hA⟩ P hP
  simp only [At_cons, At_nil] at hE
  obtain ⟨f0, f3, f4, -⟩ := hE
  by_cases hlt : k < xs.length
  · obtain ⟨y, hy⟩ := get_ex hlt
    rw [drop_cons hy, minL] at hA
    have hy' : ys[k + 1]? = some y := by rw [hys]; exact hy
    have hlt' : decide ((k : Int) + 1 < (ys.length : Int)) = true := decide_eq_true (by rw [hlen]; omega)
    simp (disch := first | assumption | omega) only [go_sem, ↓reduceIte, reduceIte, Nat.reduceEqDiff, Nat.reduceAdd, Nat.reduceMul, reduceCtorEq, Nat.reduceDiv, Nat.reduceLeDiff, Nat.reduceLT, Nat.reduceSub, f0, f3, f4, hlt', hy']
    exact hP (xs.length - (k + 1)) _ (by omega) ⟨k + 1, _, rfl, by omega, by simp only [go_sem, ↓reduceIte, reduceIte, Nat.reduceEqDiff, Nat.reduceAdd, Nat.reduceMul, reduceCtorEq, Nat.reduceDiv, Nat.reduceLeDiff, Nat.reduceLT, Nat.reduceSub, f0], hA⟩
  · have hlt' : decide ((k : Int) + 1 < (ys.length : Int)) = false := decide_eq_false (by rw [hlen]; omega)
    rw [List.drop_eq_nil_of_le (by omega), minL] at hA
    simp (disch := first | assumption | omega) only [go_sem, ↓reduceIte, reduceIte, Nat.reduceEqDiff, Nat.reduceAdd, Nat.reduceMul, reduceCtorEq, Nat.reduceDiv, Nat.reduceLeDiff, Nat.reduceLT, Nat.reduceSub, f0, f3, f4, hlt']
    exact hV _ _ (by rw [hA]; exact (by repeat (first | exact mz_nil _ _ | exact frz_int _ _ _ _ | exact frz_bool _ _ _ | exact frz_slice _ _ _ _ _ | exact frz_ptr _ _ _ _ | exact frz_nilptr _ _ | refine mz_cons ?_ ?_ | refine frz_agg ?_ | refine frz_two ?_ ?_ | refine frz_three ?_ ?_ ?_)))
theorem minL_spec : ∀ (xs : List Int) (a : Int), minL a xs ≤ a ∧ (∀ x ∈ xs, minL a xs ≤ x) ∧ (minL a xs = a ∨ minL a xs ∈ xs)
  | [], a => ⟨Int.le_refl _, by simp, .inl rfl⟩
  | b :: r, a => by
    rw [minL]
    by_cases h : b < a
    · rw [if_pos h]
      obtain ⟨h1, h2, h3⟩ := minL_spec r b
      refine ⟨by omega, fun x hx => ?_, ?_⟩
      · rcases List.mem_cons.1 hx with hx | hx
        · omega
        · exact h2 x hx
      · rcases h3 with h3 | h3
        · exact .inr (by rw [h3]; simp)
        · exact .inr (List.mem_cons_of_mem _ h3)
    · rw [if_neg h]
      obtain ⟨h1, h2, h3⟩ := minL_spec r a
      refine ⟨h1, fun x hx => ?_, ?_⟩
      · rcases List.mem_cons.1 hx with hx | hx
        · omega
        · exact h2 x hx
      · rcases h3 with h3 | h3
        · exact .inl h3
        · exact .inr (List.mem_cons_of_mem _ h3)
theorem idxB_find (a : Int) : ∀ (xs : List Int) (i : Int), a ∈ xs → ∃ k : Nat, idxB (fun x => a == x) xs i = i + k ∧ xs[k]? = some a ∧ ∀ j < k, xs[j]? ≠ some a
  | [], i, h => by cases h
  | x :: r, i, h => by
    unfold idxB
    by_cases hx : a = x
    · subst hx
      rw [if_pos (by simp)]
      exact ⟨0, by omega, rfl, by omega⟩
    · rw [if_neg (by simpa using hx)]
      obtain ⟨k, h1, h2, h3⟩ := idxB_find a r (i + 1) (by
        rcases List.mem_cons.1 h with h | h
        · exact absurd h hx
        · exact h)
      refine ⟨k + 1, by rw [h1]; omega, h2, fun j hj => ?_⟩
      cases j with
      | zero => exact fun h => hx (Option.some.inj h).symm
      | succ j => exact h3 j (by omega)
theorem back_bst {f : Nat → Int} {n : Nat} (h2 : 2 ≤ n) (y : Int) (ys : List Int) (hys : y :: ys = (List.range' 1 (n - 1)).map f) : 1 + idxB (fun x => minL y ys == x) (y :: ys) 0 = (bstN f n : Nat) := by
  obtain ⟨m1, m2, m3⟩ := minL_spec ys y
  have hmem : minL y ys ∈ y :: ys := by
    rcases m3 with h | h
    · rw [h]; simp
    · exact List.mem_cons_of_mem _ h
  have hle : ∀ x ∈ y :: ys, minL y ys ≤ x := fun x hx => by
    rcases List.mem_cons.1 hx with rfl | hx
    · exact m1
    · exact m2 x hx
  obtain ⟨k, e1, e2, e3⟩ := idxB_find _ _ 0 hmem
  have hget : ∀ j, j < n - 1 → (y :: ys)[j]? = some (f (j + 1)) := fun j hj => by
    rw [hys, List.getElem?_map, List.getElem?_range' hj]
    simp [Nat.add_comm]
  have hlen : (y :: ys).length = n - 1 := by rw [hys]; simp
  have hk : k < n - 1 := by
    have := (List.getElem?_eq_some_iff.1 e2).1
    omega
  have hfk : f (k + 1) = minL y ys := by
    rw [hget k hk] at e2
    exact Option.some.inj e2
  have : bstN f n = k + 1 := by
    refine bstN_uniq h2 (by omega) (by omega) (fun i h3 h4 => ?_) fun i h3 h4 => ?_
    · rw [hfk]
      refine hle _ (List.mem_of_getElem? (i := i - 1) ?_)
      rw [hget _ (by omega), show i - 1 + 1 = i by omega]
    · have h5 := hget (i - 1) (by omega)
      rw [show i - 1 + 1 = i by omega] at h5
      have h6 := hle _ (List.mem_of_getElem? h5)
      have h7 : f i ≠ minL y ys := fun h => e3 (i - 1) (by omega) (by rw [h5, h])
      omega
  rw [e1, this]
  omega

theorem frz_off {h : Heap} {key ver off n m : Nat} {cap : Option Nat} {k : IntKind} {l : List Int} (hH : getH h key = .cells ver (l.map (.int k))) (hn : off + n = l.length) : freeze h (m + 2) (.oslice key ver none off n cap) = .ret (.slice none ((l.drop off).map (.int k)) false) := by
  have e : ((l.map (AV.int k)).drop off).take (n * gsize none) = (l.drop off).map (.int k) := by
    rw [← List.map_drop, List.take_of_length_le (by simp [gsize]; omega)]
  rw [freeze]
  simp only [hH]
  rw [if_pos ⟨trivial, by simp [gsize]; omega⟩, e, freeze_ints]
  rfl

theorem slA_from_cap {e : Env} {lo : IX} {key ver len n c : Nat} {k : IntKind} (h1 : lo.ev e = .int k n) (hn : n ≤ len) (hc : len ≤ c) : slA none e (some lo) none none (.oslice key ver none 0 len (some c)) = .ret (.oslice key ver none n (len - n) (some (c - n))) := by
  simp [slA, sliceB, h1, boundOf, Res.bind, gsize, hn]
set_option maxHeartbeats 1000000 in
theorem con_Back (N s n : Int) : Con T 6 46 [.int .i64 N, .int .i64 s, .int .i64 n] (.tuple [.int .i64 (bkA N s n).1, .int .i64 (bkA N s n).2]) := by
  refine con_intro t46 fun m hm V hV => ?_
  by_cases h0 : chErr N s n = 0
  case neg =>
    simp (disch := first | assumption | omega) only [c46, go_sem, ↓reduceIte, reduceIte, Nat.reduceEqDiff, Nat.reduceAdd, Nat.reduceMul, reduceCtorEq, Nat.reduceDiv, Nat.reduceLeDiff, Nat.reduceLT, Nat.reduceSub, cs_chain, (show (chErr N s n != 0) = true by simpa using h0)]
    exact hV _ _ (by rw [bkA_err h0]; exact (by repeat (first | exact mz_nil _ _ | exact frz_int _ _ _ _ | exact frz_bool _ _ _ | exact frz_slice _ _ _ _ _ | exact frz_ptr _ _ _ _ | exact frz_nilptr _ _ | refine mz_cons ?_ ?_ | refine frz_agg ?_ | refine frz_two ?_ ?_ | refine frz_three ?_ ?_ ?_)))
  by_cases hn1 : n = 1
  · subst hn1
    simp (disch := first | assumption | omega) only [c46, go_sem, ↓reduceIte, reduceIte, Nat.reduceEqDiff, Nat.reduceAdd, Nat.reduceMul, reduceCtorEq, Nat.reduceDiv, Nat.reduceLeDiff, Nat.reduceLT, Nat.reduceSub, cs_chain, h0]
    exact hV _ _ (by rw [bkA_one h0]; exact (by repeat (first | exact mz_nil _ _ | exact frz_int _ _ _ _ | exact frz_bool _ _ _ | exact frz_slice _ _ _ _ _ | exact frz_ptr _ _ _ _ | exact frz_nilptr _ _ | refine mz_cons ?_ ?_ | refine frz_agg ?_ | refine frz_two ?_ ?_ | refine frz_three ?_ ?_ ?_)))
  obtain ⟨N, s, n, rfl, rfl, rfl, h1, h2, h3, h4, h5⟩ := ch_nat h0
  have hne : ((n : Int) == 1) = false := by simpa using hn1
  rw [bkA_ok h0 (by omega)] at hV
  have hnew : getH (List.replicate 52 AObj.none) 52 = .none := getH_ge _ _ (by simp)
  have hroom : room n 8 = true := room_ok (by omega)
  have hflat : (List.replicate n [AV.int .i64 0]).flatten = (List.replicate n (0 : Int)).map (.int .i64) := by
    rw [List.map_replicate]
    clear h0 hV h4 h5 hn1 hne hroom
    induction n with
    | zero => rfl
    | succ n ih => rw [List.replicate_succ, List.flatten_cons, ih, List.replicate_succ]; rfl
  have hz0 : ((0 : Int) != 0) = false := rfl
  have hcl : ∀ h : Heap, getH h 52 = .cells 0 ((List.replicate n (0 : Int)).map (.int .i64)) → clA (.int .i64 0) h (.oslice 52 0 none 0 n (some n)) = .ret (.undef, setH h 52 (.cells 0 ((List.replicate n (0 : Int)).map (.int .i64)))) := fun h hh => by
    simp only [clA, hh]
    rw [if_pos ⟨trivial, by simp, rfl⟩, if_neg (by omega)]
    have := splice_zero (List.replicate n (0 : Int)) 0 (by omega)
    rw [List.length_replicate, Nat.sub_zero] at this
    rw [this]
    rfl
  simp (disch := first | assumption | omega) only [c46, go_sem, ↓reduceIte, reduceIte, Nat.reduceEqDiff, Nat.reduceAdd, Nat.reduceMul, reduceCtorEq, Nat.reduceDiv, Nat.reduceLeDiff, Nat.reduceLT, Nat.reduceSub, cs_chain, h0, hne, hnew, next_none, hroom, hflat, hz0]
  refine ⟨Nat.le_refl _, ?_⟩
  rw [hcl _ (getH_setH_self _ _ _)]
  simp (disch := first | assumption | omega) only [go_sem, ↓reduceIte, reduceIte, Nat.reduceEqDiff, Nat.reduceAdd, Nat.reduceMul, reduceCtorEq, Nat.reduceDiv, Nat.reduceLeDiff, Nat.reduceLT, Nat.reduceSub]
  refine m_loop (fun M st => ∃ (i : Nat), M = n - i ∧ i ≤ n ∧ At st.env [(0, .int .i64 N), (1, .int .i64 s), (9, .oslice 52 0 none 0 n (some n)), (27, .int .i64 n), (28, .int .i64 i)] ∧ getH st.heap 52 = .cells 0 (((List.range i).map (farN N s) ++ List.replicate (n - i) 0).map (.int .i64))) n (by omega)
    ⟨0, by omega, by omega, by simp only [go_sem, ↓reduceIte, reduceIte, Nat.reduceEqDiff, Nat.reduceAdd, Nat.reduceMul, reduceCtorEq, Nat.reduceDiv, Nat.reduceLeDiff, Nat.reduceLT, Nat.reduceSub], by simp only [go_sem, ↓reduceIte, reduceIte, Nat.reduceEqDiff, Nat.reduceAdd, Nat.reduceMul, reduceCtorEq, Nat.reduceDiv, Nat.reduceLeDiff, Nat.reduceLT, Nat.reduceSub]; rfl⟩ ?_
  rintro M e h hM ⟨i, rfl, hi, hE, hH⟩ P hP
  simp only [At_cons, At_nil] at hE hH
  obtain ⟨f0, f1, f9, f27, f28, -⟩ := hE
  by_cases hlt : i < n
  · have hm1 : i * s ≤ 60 * 2400 := Nat.mul_le_mul (by omega) (by omega)
    have hms : ((i : Int) * (s : Int)) = ((i * s : Nat) : Int) := by simp
    have hmd := Nat.mod_lt (i * s) (show 0 < N by omega)
    have hff : (if (N : Int) - ((i * s % N : Nat) : Int) < ((i * s % N : Nat) : Int) then (N : Int) - ((i * s % N : Nat) : Int) else ((i * s % N : Nat) : Int)) = farN N s i := by
      unfold farN
      split <;> omega
    have hset : ((List.range i).map (farN N s) ++ List.replicate (n - i) 0).set i (farN N s i) = (List.range (i + 1)).map (farN N s) ++ List.replicate (n - (i + 1)) 0 := by
      rw [List.set_append_right _ _ (by simp)]
      simp only [List.length_map, List.length_range, Nat.sub_self]
      obtain ⟨r, hr⟩ : ∃ r, n - i = r + 1 := ⟨n - i - 1, by omega⟩
      rw [hr, List.replicate_succ, List.set_cons_zero, List.range_succ, List.map_append, show n - (i + 1) = r by omega]
      simp
    have hlen : i < ((List.range i).map (farN N s) ++ List.replicate (n - i) (0 : Int)).length := by simp; omega
    simp (disch := first | assumption | omega) only [go_sem, ↓reduceIte, reduceIte, Nat.reduceEqDiff, Nat.reduceAdd, Nat.reduceMul, reduceCtorEq, Nat.reduceDiv, Nat.reduceLeDiff, Nat.reduceLT, Nat.reduceSub, f0, f1, f9, f27, f28, hlt, hms, b_rem, hff, hH]
    refine ⟨by simp; omega, hP (n - (i + 1)) _ (by omega) ⟨i + 1, rfl, by omega, by simp only [go_sem, ↓reduceIte, reduceIte, Nat.reduceEqDiff, Nat.reduceAdd, Nat.reduceMul, reduceCtorEq, Nat.reduceDiv, Nat.reduceLeDiff, Nat.reduceLT, Nat.reduceSub, f0, f1, f9, f27], ?_⟩⟩
    simp only [go_sem, ↓reduceIte, reduceIte, Nat.reduceEqDiff, Nat.reduceAdd, Nat.reduceMul, reduceCtorEq, Nat.reduceDiv, Nat.reduceLeDiff, Nat.reduceLT, Nat.reduceSub]
    rw [hset, List.range_succ]
  · obtain rfl : i = n := by omega
    rw [Nat.sub_self, List.replicate_zero, List.append_nil] at hH
    have hdr : ((List.range i).map (farN N s)).drop 1 = (List.range' 1 (i - 1)).map (farN N s) := by
      obtain ⟨j, rfl⟩ : ∃ j, i = j + 1 := ⟨i - 1, by omega⟩
      rw [List.range_eq_range', List.range'_succ]
      rfl
    obtain ⟨y, ys, hys⟩ : ∃ y ys, (List.range' 1 (i - 1)).map (farN N s) = y :: ys := by
      cases hq : (List.range' 1 (i - 1)).map (farN N s) with
      | nil => have := congrArg List.length hq; simp at this; omega
      | cons y ys => exact ⟨y, ys, rfl⟩
    have hyl : (y :: ys).length = i - 1 := by rw [← hys]; simp
    have hyl2 : ys.length ≤ 1000 := by simp at hyl; omega
    have hz : ∀ m c, freeze h (m + 2) (.oslice 52 0 none 1 (i - 1) c) = .ret (.slice none ((y :: ys).map (.int .i64)) false) := fun m c => by
      rw [frz_off hH (by simp; omega), hdr, hys]
    simp (disch := first | assumption | omega) only [go_sem, ↓reduceIte, reduceIte, Nat.reduceEqDiff, Nat.reduceAdd, Nat.reduceMul, reduceCtorEq, Nat.reduceDiv, Nat.reduceLeDiff, Nat.reduceLT, Nat.reduceSub, f0, f1, f9, f27, f28, hlt]
    rw [slA_from_cap (n := 1) (k := .i64) (by simp only [go_sem, ↓reduceIte, reduceIte, Nat.reduceEqDiff, Nat.reduceAdd, Nat.reduceMul, reduceCtorEq, Nat.reduceDiv, Nat.reduceLeDiff, Nat.reduceLT, Nat.reduceSub]) (by omega) (by omega)]
    simp (disch := first | assumption | omega) only [go_sem, ↓reduceIte, reduceIte, Nat.reduceEqDiff, Nat.reduceAdd, Nat.reduceMul, reduceCtorEq, Nat.reduceDiv, Nat.reduceLeDiff, Nat.reduceLT, Nat.reduceSub, f0, f1, f9, f27, f28]
    rw [slA_from_cap (n := 1) (k := .i64) (by simp only [go_sem, ↓reduceIte, reduceIte, Nat.reduceEqDiff, Nat.reduceAdd, Nat.reduceMul, reduceCtorEq, Nat.reduceDiv, Nat.reduceLeDiff, Nat.reduceLT, Nat.reduceSub]) (by omega) (by omega)]
    simp (disch := first | assumption | omega) only [go_sem, ↓reduceIte, reduceIte, Nat.reduceEqDiff, Nat.reduceAdd, Nat.reduceMul, reduceCtorEq, Nat.reduceDiv, Nat.reduceLeDiff, Nat.reduceLT, Nat.reduceSub, f0, f1, f9, f27, f28]
    refine gp_con (con_Min y ys hyl2) (by omega) (fz_cons (hz _ _) (fz_nil _)) (by first | exact or_plain rfl | rfl) ?_
    simp (disch := first | assumption | omega) only [go_sem, ↓reduceIte, reduceIte, Nat.reduceEqDiff, Nat.reduceAdd, Nat.reduceMul, reduceCtorEq, Nat.reduceDiv, Nat.reduceLeDiff, Nat.reduceLT, Nat.reduceSub, f0, f1, f9, f27, f28]
    refine gp_con (con_Index (y :: ys) (minL y ys) (by rw [hyl]; omega)) (by omega) (fz_cons (hz _ _) (fz_cons (frz_int _ _ _ _) (fz_nil _))) (by first | exact or_plain rfl | rfl) ?_
    have hb := back_bst (f := farN N s) (n := i) (by omega) y ys hys.symm
    have hbb := (bstN_spec (farN N s) i (by omega)).1
    simp (disch := first | assumption | omega) only [go_sem, ↓reduceIte, reduceIte, Nat.reduceEqDiff, Nat.reduceAdd, Nat.reduceMul, reduceCtorEq, Nat.reduceDiv, Nat.reduceLeDiff, Nat.reduceLT, Nat.reduceSub, hb]
    exact hV _ _ (by repeat (first | exact mz_nil _ _ | exact frz_int _ _ _ _ | exact frz_bool _ _ _ | exact frz_slice _ _ _ _ _ | exact frz_ptr _ _ _ _ | exact frz_nilptr _ _ | refine mz_cons ?_ ?_ | refine frz_agg ?_ | refine frz_two ?_ ?_ | refine frz_three ?_ ?_ ?_))

end Go.Ev.YtcghegefcgnhbaaC
namespace Go.Ev.YtcghegefcgnhbaaC
open Go Go.Proofs

attribute [local irreducible] Res.all evC evLoop evOps evOper evOp evFn evCall freeze G GO GV GP GC R
set_option maxRecDepth 100000

theorem plA_len (N s n : Int) : (plA N s n).1.length ≤ 2400 := by
  by_cases h0 : chErr N s n = 0
  · obtain ⟨N, s, n, rfl, rfl, rfl, h1, h2, h3, h4, h5⟩ := ch_nat h0
    rw [plA_ok h0]
    have := plc_len N s n
    simp only [List.length_map]
    omega
  · rw [plA_err h0]; simp
theorem szs_len (N : Nat) (d : List Int) : (szs N d).length ≤ N + 1 := by
  have := List.length_filter_le (fun p : Nat => decide (0 < p) && decide ((p : Int) ∈ d)) (List.range (N + 1))
  simpa [szs] using this
theorem szA_len (N s n : Int) : (szA N s n).1.length ≤ 2401 := by
  by_cases h0 : chErr N s n = 0
  · obtain ⟨N, s, n, rfl, rfl, rfl, h1, h2, h3, h4, h5⟩ := ch_nat h0
    rw [szA_ok h0]
    have := szs_len N (dstL N (natI (plc N s n)))
    show (szs N (dstL N (natI (plc N s n)))).length ≤ 2401
    omega
  · rw [szA_err h0]; simp
section
variable {n base : Nat} {Q : EX × St → Prop} {d : Option Nat} {L : List IOper} {ks : List Kont} {e : Env} {h : Heap} {N s m : Int}
theorem cs_Places (hn : 6 ≤ n) : GP (evCall T n) base Q d L ks e (evCall T n false (.fn 42) [.int .i64 N, .int .i64 s, .int .i64 m] h) = GO (evCall T n) base Q L ks ⟨setDst e d (.tuple [longsV (plA N s m).1, .int .i64 (plA N s m).2]), h⟩ :=
  gp_eq (con_Places N s m) hn (by repeat (first | exact fz_nil _ | refine fz_slice _ _ _ _ ?_ | refine fz_int _ _ _ ?_)) rfl
theorem cs_refPlaces (hn : 2 ≤ n) : GP (evCall T n) base Q d L ks e (evCall T n false (.fn 43) [.int .i64 N, .int .i64 s, .int .i64 m] h) = GO (evCall T n) base Q L ks ⟨setDst e d (.tuple [longsV (plA N s m).1, .int .i64 (plA N s m).2]), h⟩ :=
  gp_eq (con_refPlaces N s m) hn (by repeat (first | exact fz_nil _ | refine fz_slice _ _ _ _ ?_ | refine fz_int _ _ _ ?_)) rfl
theorem cs_Sizes (hn : 6 ≤ n) : GP (evCall T n) base Q d L ks e (evCall T n false (.fn 44) [.int .i64 N, .int .i64 s, .int .i64 m] h) = GO (evCall T n) base Q L ks ⟨setDst e d (.tuple [longsV (szA N s m).1, .int .i64 (szA N s m).2]), h⟩ :=
  gp_eq (con_Sizes N s m) hn (by repeat (first | exact fz_nil _ | refine fz_slice _ _ _ _ ?_ | refine fz_int _ _ _ ?_)) rfl
theorem cs_refSizes (hn : 2 ≤ n) : GP (evCall T n) base Q d L ks e (evCall T n false (.fn 45) [.int .i64 N, .int .i64 s, .int .i64 m] h) = GO (evCall T n) base Q L ks ⟨setDst e d (.tuple [longsV (szA N s m).1, .int .i64 (szA N s m).2]), h⟩ :=
  gp_eq (con_refSizes N s m) hn (by repeat (first | exact fz_nil _ | refine fz_slice _ _ _ _ ?_ | refine fz_int _ _ _ ?_)) rfl
theorem cs_Back (hn : 6 ≤ n) : GP (evCall T n) base Q d L ks e (evCall T n false (.fn 46) [.int .i64 N, .int .i64 s, .int .i64 m] h) = GO (evCall T n) base Q L ks ⟨setDst e d (.tuple [.int .i64 (bkA N s m).1, .int .i64 (bkA N s m).2]), h⟩ :=
  gp_eq (con_Back N s m) hn (by repeat (first | exact fz_nil _ | refine fz_slice _ _ _ _ ?_ | refine fz_int _ _ _ ?_)) rfl
theorem cs_refBack (hn : 2 ≤ n) : GP (evCall T n) base Q d L ks e (evCall T n false (.fn 47) [.int .i64 N, .int .i64 s, .int .i64 m] h) = GO (evCall T n) base Q L ks ⟨setDst e d (.tuple [.int .i64 (bkA N s m).1, .int .i64 (bkA N s m).2]), h⟩ :=
  gp_eq (con_refBack N s m) hn (by repeat (first | exact fz_nil _ | refine fz_slice _ _ _ _ ?_ | refine fz_int _ _ _ ?_)) rfl
end

end Go.Ev.YtcghegefcgnhbaaC
