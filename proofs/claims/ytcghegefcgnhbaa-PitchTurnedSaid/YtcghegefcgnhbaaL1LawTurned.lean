/- PitchTurned returns true. -/
import Derived.Test.YtcghegefcgnhbaaL1LawBack
set_option linter.unusedSimpArgs false
set_option linter.unusedVariables false
namespace Go.Ev.YtcghegefcgnhbaaC
open Go Go.Proofs

theorem at_turn {N s : Nat} (hN : 0 < N) (hs : s ≤ N) (i : Nat) : atC N (N - s) i = if atC N s i = 0 then 0 else N - atC N s i := by
  have h1 : i * (N - s) + i * s = N * i := by rw [← Nat.mul_add, Nat.sub_add_cancel hs, Nat.mul_comm]
  have h2 : (i * (N - s) % N + i * s % N) % N = 0 := by rw [← Nat.add_mod, h1, Nat.mul_mod_right]
  have la := at_lt hN s i
  have lb := at_lt hN (N - s) i
  unfold atC at *
  rw [mod_two lb la] at h2
  split at h2 <;> split <;> omega
theorem far_turn {N s : Nat} (hN : 0 < N) (hs : s ≤ N) : farN N (N - s) = farN N s := by
  funext i
  have h := at_turn hN hs i
  have la := at_lt hN s i
  unfold farN
  unfold atC at h la
  split at h <;> omega
theorem plc_turn {N s n : Nat} (hN : 1 ≤ N) (hs : s ≤ N) (hn : 1 ≤ n) {t : List Int} (ht : natI (plc N s n) = 0 :: t) : natI (plc N (N - s) n) = 0 :: (t.map fun x => (N : Int) - x).reverse := by
  have hsort : (natI (plc N s n)).Pairwise (· < ·) := by
    rw [natI, List.pairwise_map]; exact (plc_sorted N s n).imp (by omega)
  have hlt : ∀ x ∈ t, x < N := fun x hx => by
    obtain ⟨q, hq, rfl⟩ := mem_natI.1 (by rw [ht]; exact List.mem_cons_of_mem _ hx : x ∈ natI (plc N s n))
    have := plc_lt hN q hq
    omega
  rw [ht] at hsort
  obtain ⟨h0, h1⟩ := List.pairwise_cons.1 hsort
  refine strict_uniq (by rw [natI, List.pairwise_map]; exact (plc_sorted N (N - s) n).imp (by omega)) ?_ fun x => ?_
  · rw [List.pairwise_cons]
    refine ⟨fun x hx => ?_, ?_⟩
    · obtain ⟨y, hy, rfl⟩ := List.mem_map.1 (List.mem_reverse.1 hx)
      have := hlt y hy
      omega
    · rw [List.pairwise_reverse, List.pairwise_map]
      exact h1.imp (by omega)
  · have hmem : ∀ y : Int, y ∈ natI (plc N s n) ↔ ∃ i, i < n ∧ ((atC N s i : Nat) : Int) = y := fun y => by
      rw [mem_natI]
      constructor
      · rintro ⟨q, hq, e⟩
        obtain ⟨i, h2, h3⟩ := (mem_plc (by omega)).1 hq
        exact ⟨i, h2, by rw [h3, e]⟩
      · rintro ⟨i, h2, h3⟩
        exact ⟨_, (mem_plc (by omega)).2 ⟨i, h2, rfl⟩, h3⟩
    rw [mem_natI, List.mem_cons, List.mem_reverse, List.mem_map]
    constructor
    · rintro ⟨q, hq, rfl⟩
      obtain ⟨i, h2, h3⟩ := (mem_plc (by omega)).1 hq
      have h4 := at_turn (show 0 < N by omega) hs i
      rw [← h3]
      by_cases hz : atC N s i = 0
      · rw [if_pos hz] at h4; exact .inl (by omega)
      · rw [if_neg hz] at h4
        have h5 := (hmem _).2 ⟨i, h2, rfl⟩
        rw [ht] at h5
        have := at_lt (show 0 < N by omega) s i
        rcases List.mem_cons.1 h5 with h5 | h5
        · omega
        · exact .inr ⟨_, h5, by omega⟩
    · intro h
      rcases h with rfl | ⟨y, hy, rfl⟩
      · exact ⟨0, (mem_plc (by omega)).2 ⟨0, by omega, at_zero _ _⟩, rfl⟩
      · obtain ⟨i, h2, h3⟩ := (hmem y).1 (by rw [ht]; exact List.mem_cons_of_mem _ hy)
        have h4 := at_turn (show 0 < N by omega) hs i
        have h5 := h0 y hy
        have := at_lt (show 0 < N by omega) s i
        rw [if_neg (by omega)] at h4
        exact ⟨_, (mem_plc (by omega)).2 ⟨i, h2, rfl⟩, by omega⟩
theorem dst_mem {N : Int} {l : List Int} (hz : l.getD 0 0 = 0) {x : Int} : x ∈ dstL N l ↔ ∃ j a b, j < l.length ∧ (l ++ [N])[j]? = some a ∧ (l ++ [N])[j + 1]? = some b ∧ x = b - a := by
  have hL : l ++ [N + l.getD 0 0] = l ++ [N] := by rw [hz]; simp
  rw [dstL, List.mem_map, hL]
  constructor
  · rintro ⟨j, hj, rfl⟩
    rw [List.mem_range] at hj
    refine ⟨j, (l ++ [N]).getD j 0, (l ++ [N]).getD (j + 1) 0, hj, ?_, ?_, ?_⟩
    · rw [List.getElem?_eq_getElem (by simp; omega)]; simp [List.getD, List.getElem?_eq_getElem (show j < (l ++ [N]).length by simp; omega)]
    · rw [List.getElem?_eq_getElem (by simp; omega)]; simp [List.getD, List.getElem?_eq_getElem (show j + 1 < (l ++ [N]).length by simp; omega)]
    · congr 1
      simp [List.getD, List.getElem?_append_left hj]
  · rintro ⟨j, a, b, hj, ha, hb, rfl⟩
    rw [List.getElem?_append_left hj] at ha
    exact ⟨j, List.mem_range.2 hj, by rw [getD_of ha, getD_of hb]⟩
theorem szs_congr {N : Nat} {d d' : List Int} (h : ∀ x, x ∈ d ↔ x ∈ d') : szs N d = szs N d' := by
  unfold szs
  congr 1
  apply List.filter_congr
  intro x _
  simp [h]
theorem dst_turn {N : Int} {t : List Int} (x : Int) : x ∈ dstL N (0 :: (t.map fun x => N - x).reverse) ↔ x ∈ dstL N (0 :: t) := by
  rw [dst_mem rfl, dst_mem rfl]
  have hlen : (0 :: (t.map fun x => N - x).reverse).length = t.length + 1 := by simp
  have he : (0 :: (t.map fun x => N - x).reverse) ++ [N] = (((0 :: t) ++ [N]).map fun x => N - x).reverse := by simp
  have hL : ((0 :: t) ++ [N]).length = t.length + 2 := by simp
  rw [hlen, he, List.length_cons]
  generalize (0 :: t) ++ [N] = E at hL
  have hget : ∀ j, j < t.length + 2 → ∀ a, ((E.map fun x => N - x).reverse)[j]? = some a ↔ E[t.length + 1 - j]? = some (N - a) := fun j hj a => by
    rw [List.getElem?_reverse (by simp; omega), List.length_map, hL, List.getElem?_map, show t.length + 2 - 1 - j = t.length + 1 - j by omega]
    cases E[t.length + 1 - j]? with
    | none => simp
    | some y => simp; omega
  constructor
  · rintro ⟨j, a, b, hj, ha, hb, rfl⟩
    rw [hget _ (by omega)] at ha hb
    refine ⟨t.length - j, N - b, N - a, by omega, ?_, ?_, by omega⟩
    · rw [show t.length - j = t.length + 1 - (j + 1) by omega]; exact hb
    · rw [show t.length - j + 1 = t.length + 1 - j by omega]; exact ha
  · rintro ⟨j, a, b, hj, ha, hb, rfl⟩
    refine ⟨t.length - j, N - b, N - a, by omega, ?_, ?_, by omega⟩
    · rw [hget _ (by omega), show t.length + 1 - (t.length - j) = j + 1 by omega, hb]; simp; omega
    · rw [hget _ (by omega), show t.length + 1 - (t.length - j + 1) = j by omega, ha]; simp; omega

attribute [local irreducible] Res.all evC evLoop evOps evOper evOp evFn evCall freeze G GO GV GP GC R
set_option maxRecDepth 100000

set_option maxHeartbeats 1000000 in
theorem pitchTurned_at (n0 : Nat) (hn : n0 = 20000) (parts by' many : Int) (hp : (Lit.int .u16 parts).wf = true) (hb : (Lit.int .u16 by').wf = true) (hm : (Lit.int .u8 many).wf = true) :
    (evFn (evCall T n0) c17 [.int .u16 parts, .int .u16 by', .int .u8 many] []).all fun p => p.1 = .bool true := by
  rw [m_fn]
  obtain ⟨p1, p2⟩ := u16_bounds hp
  obtain ⟨b1, b2⟩ := u16_bounds hb
  obtain ⟨m1, m2⟩ := u8_bounds hm
  have r1 := Int.emod_nonneg parts (show (2400 : Int) ≠ 0 by omega)
  have r2 := Int.emod_lt_of_pos parts (show (0 : Int) < 2400 by omega)
  have r3 := Int.emod_nonneg many (show (60 : Int) ≠ 0 by omega)
  have r4 := Int.emod_lt_of_pos many (show (0 : Int) < 60 by omega)
  obtain ⟨N, hN⟩ := Int.eq_ofNat_of_zero_le (show 0 ≤ 1 + parts % 2400 by omega)
  obtain ⟨n, hn'⟩ := Int.eq_ofNat_of_zero_le (show 0 ≤ 1 + many % 60 by omega)
  have q1 := Int.emod_nonneg by' (show (N : Int) + 1 ≠ 0 by omega)
  have q2 := Int.emod_lt_of_pos by' (show (0 : Int) < N + 1 by omega)
  obtain ⟨s, hs⟩ := Int.eq_ofNat_of_zero_le q1
  have N1 : 1 ≤ N := by omega
  have N2 : N ≤ 2400 := by omega
  have s1 : s ≤ N := by omega
  have n1 : 1 ≤ n := by omega
  have n2 : n ≤ 60 := by omega
  have hsub : (N : Int) - (s : Int) = ((N - s : Nat) : Int) := by omega
  have hc : chErr N s n = 0 := (chErr_zero _ _ _).2 (by omega)
  have hc' : chErr N ((N - s : Nat) : Int) n = 0 := (chErr_zero _ _ _).2 (by omega)
  obtain ⟨t0, ht0⟩ := plc_cons (s := s) N1 n1
  obtain ⟨t, ht⟩ : ∃ t, natI (plc N s n) = 0 :: t := ⟨natI t0, by rw [ht0]; rfl⟩
  have ht' := plc_turn N1 s1 n1 ht
  have hpl := plA_ok hc
  have hpl' := plA_ok hc'
  have hsz := szA_ok hc
  have hsz' := szA_ok hc'
  have hbk : bkA N ((N - s : Nat) : Int) n = bkA N s n := by
    by_cases h1 : n = 1
    · subst h1
      rw [show ((1 : Nat) : Int) = 1 from rfl] at hc hc' ⊢
      rw [bkA_one hc, bkA_one hc']
    · rw [bkA_ok hc h1, bkA_ok hc' h1, far_turn (by omega) s1]
  have hbk0 : (bkA N s n).2 = 0 := by
    by_cases h1 : n = 1
    · subst h1
      rw [show ((1 : Nat) : Int) = 1 from rfl] at hc ⊢
      rw [bkA_one hc]
    · rw [bkA_ok hc h1]
  obtain ⟨K, hK⟩ : ∃ K, bkA N s n = (K, 0) := ⟨_, Prod.ext rfl hbk0⟩
  rw [hK] at hbk
  have hbd := plc_bd (s := N - s) (n := n) N1 N2
  rw [ht] at hpl hsz
  rw [ht'] at hpl' hsz' hbd
  rw [szs_congr (fun x => dst_turn (N := (N : Int)) (t := t) x)] at hsz'
  obtain ⟨S, hS⟩ : ∃ S, szs N (dstL N (0 :: t)) = S := ⟨_, rfl⟩
  rw [hS] at hsz hsz'
  have hSl : S.length ≤ 2401 := by
    have := szs_len N (dstL N (0 :: t))
    rw [hS] at this
    omega
  have hAB : ∀ i, 1 ≤ i → i < (0 :: t).length → ∃ a b, (0 :: t)[i]? = some a ∧ (0 :: (t.map fun x => (N : Int) - x).reverse)[(0 :: t).length - i]? = some b ∧ a = N - b := fun i h1 h2 => by
    rw [List.length_cons] at h2
    obtain ⟨j, rfl⟩ : ∃ j, i = j + 1 := ⟨i - 1, by omega⟩
    obtain ⟨a, ha⟩ := get_ex (l := t) (i := j) (by omega)
    refine ⟨a, N - a, ha, ?_, by omega⟩
    rw [List.length_cons, show t.length + 1 - (j + 1) = (t.length - 1 - j) + 1 by omega, List.getElem?_cons_succ, List.getElem?_reverse (by simp; omega), List.length_map, show t.length - 1 - (t.length - 1 - j) = j by omega, List.getElem?_map, ha]
    rfl
  have hAl : (0 :: t).length = (0 :: (t.map fun x => (N : Int) - x).reverse).length := by simp
  have hA0 : (0 :: t)[0]? = some 0 := rfl
  have hB0 : (0 :: (t.map fun x => (N : Int) - x).reverse)[0]? = some 0 := rfl
  have hAp : 0 < (0 :: t).length := by simp
  have hAle : (0 :: t).length ≤ 60 := by
    rw [← ht]
    have := plc_len60 N s n (by omega)
    simp only [List.length_map]
    omega
  clear hS ht' ht
  generalize (0 :: (t.map fun x => (N : Int) - x).reverse) = B at *
  generalize (0 :: t) = A at *
  have hBp : 0 < B.length := by omega
  have g1 : ¬ ((A.length : Nat) : Int) < 1 := by omega
  simp (disch := first | assumption | omega) only [c17, go_sem, ↓reduceIte, reduceIte, Nat.reduceEqDiff, Nat.reduceAdd, Nat.reduceMul, reduceCtorEq, Nat.reduceDiv, Nat.reduceLeDiff, Nat.reduceLT, Nat.reduceSub, b_remI, hN, hs, hn', hsub, cs_Places, cs_Sizes, cs_Back, hpl, hpl', hsz, hsz', hbk, hK, cs_Longs, bne_self_eq_false, ← hAl, hA0, hB0, hAp, g1]
  refine m_loop (fun M st => ∃ (i : Nat), M = A.length - i ∧ 1 ≤ i ∧ i ≤ A.length ∧ At st.env [(7, .int .i64 N), (10, longsV A), (12, longsV B), (22, .int .i64 i)]) (A.length - 1) (by omega)
    ⟨1, by omega, by omega, by omega, by simp only [go_sem, ↓reduceIte, reduceIte, Nat.reduceEqDiff, Nat.reduceAdd, Nat.reduceMul, reduceCtorEq, Nat.reduceDiv, Nat.reduceLeDiff, Nat.reduceLT, Nat.reduceSub]⟩ ?_
  rintro M e h hM ⟨i, rfl, hi1, hi, hE⟩ P hP
  simp only [At_cons, At_nil] at hE
  obtain ⟨f7, f10, f12, f22, -⟩ := hE
  by_cases hlt : i < A.length
  · obtain ⟨a, b, ha, hb, hab⟩ := hAB i hi1 hlt
    have bb := hbd b (List.mem_of_getElem? hb)
    have hidx : (A.length : Int) - (i : Int) = ((A.length - i : Nat) : Int) := by omega
    have hlt2 : A.length - i < A.length := by omega
    have hne : (a != (N : Int) - b) = false := by simp [hab]
    simp (disch := first | assumption | omega) only [go_sem, ↓reduceIte, reduceIte, Nat.reduceEqDiff, Nat.reduceAdd, Nat.reduceMul, reduceCtorEq, Nat.reduceDiv, Nat.reduceLeDiff, Nat.reduceLT, Nat.reduceSub, f7, f10, f12, f22, hlt, ← hAl, ha, hidx, hb, hlt2, hne]
    exact hP (A.length - (i + 1)) _ (by omega) ⟨i + 1, rfl, by omega, by omega, by simp only [go_sem, ↓reduceIte, reduceIte, Nat.reduceEqDiff, Nat.reduceAdd, Nat.reduceMul, reduceCtorEq, Nat.reduceDiv, Nat.reduceLeDiff, Nat.reduceLT, Nat.reduceSub, f7, f10, f12]⟩
  · simp (disch := first | assumption | omega) only [go_sem, ↓reduceIte, reduceIte, Nat.reduceEqDiff, Nat.reduceAdd, Nat.reduceMul, reduceCtorEq, Nat.reduceDiv, Nat.reduceLeDiff, Nat.reduceLT, Nat.reduceSub, f7, f10, f12, f22, hlt, cs_Works]
def pitchTurned_n : Nat := 20000
theorem pitchTurned_ev (parts by' many : Int) (hp : (Lit.int .u16 parts).wf = true) (hb : (Lit.int .u16 by').wf = true) (hm : (Lit.int .u8 many).wf = true) :
    (evFn (evCall T pitchTurned_n) c17 [.int .u16 parts, .int .u16 by', .int .u8 many] []).all fun p => p.1 = .bool true := pitchTurned_at _ rfl parts by' many hp hb hm

end Go.Ev.YtcghegefcgnhbaaC
