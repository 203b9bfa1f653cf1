/- PitchBack returns true. -/
import Derived.Test.YtcghegefcgnhbaaL1LawChains
import Derived.Test.YtcghegefcgnhbaaL1Fine
set_option linter.unusedSimpArgs false
set_option linter.unusedVariables false
namespace Go.Ev.YtcghegefcgnhbaaC
open Go Go.Proofs

theorem dst_cases {N : Int} {l : List Nat} (h0 : l.getD 0 0 = 0) {x : Int} (hx : x ∈ dstL N (natI l)) : (∃ j, ∃ (h : j + 1 < l.length), x = (l[j + 1] : Int) - (l[j] : Int)) ∨ (∃ p ∈ l, x = N - p) := by
  obtain ⟨j, hj, rfl⟩ := List.mem_map.1 hx
  rw [List.mem_range] at hj
  simp only [List.length_map] at hj
  have ha : (natI l)[j]? = some (l[j] : Int) := by simp [natI, hj]
  rw [getD_of ha]
  by_cases h : j + 1 < l.length
  · have hb' : (natI l ++ [N + (natI l).getD 0 0])[j + 1]? = some ((l[j + 1] : Nat) : Int) := by
      rw [List.getElem?_append_left (by simpa using h)]
      simp [natI, h]
    rw [getD_of hb']
    exact .inl ⟨j, h, rfl⟩
  · have hz : (natI l).getD 0 0 = 0 := by
      cases l with
      | nil => rfl
      | cons a r => simp at h0; simp [natI, h0]
    have hb' : (natI l ++ [N + (natI l).getD 0 0])[j + 1]? = some N := by
      rw [List.getElem?_append_right (by simp; omega), hz]
      simp [show j + 1 - l.length = 0 by omega]
    rw [getD_of hb']
    exact .inr ⟨_, List.getElem_mem hj, rfl⟩
theorem far_at {N s t : Nat} : farN N s t ≤ atC N s t ∧ farN N s t ≤ (N : Int) - atC N s t := by
  unfold farN atC
  omega
/-- no distance of k notes is less than by how far one of the notes below k comes back, nor the note k itself -/
theorem dst_far {N s k : Nat} (hN : 1 ≤ N) (hk : 1 ≤ k) {d : Int} (hd : d ≤ N) (hf : ∀ t, 1 ≤ t → t < k → d ≤ farN N s t) : ∀ x ∈ dstL N (natI (plc N s k)), d ≤ x := by
  intro x hx
  rcases dst_cases (plc_d0 hN hk) hx with ⟨j, hj, rfl⟩ | ⟨p, hp, rfl⟩
  · obtain ⟨a, ha, ea⟩ := (mem_plc (by omega)).1 (List.getElem_mem (show j < (plc N s k).length by omega))
    obtain ⟨b, hb, eb⟩ := (mem_plc (by omega)).1 (List.getElem_mem hj)
    have hlt := List.pairwise_iff_getElem.1 (plc_sorted N s k) j (j + 1) (by omega) hj (by omega)
    rw [← ea, ← eb] at hlt ⊢
    have la := at_lt (show 0 < N by omega) s a
    have lb := at_lt (show 0 < N by omega) s b
    rcases Nat.lt_trichotomy a b with h | h | h
    · have h1 := at_add (show 0 < N by omega) s a (b - a)
      rw [show a + (b - a) = b by omega] at h1
      have h2 := hf (b - a) (by omega) (by omega)
      have h3 := (far_at (N := N) (s := s) (t := b - a)).1
      have lt := at_lt (show 0 < N by omega) s (b - a)
      split at h1 <;> omega
    · subst h; omega
    · have h1 := at_add (show 0 < N by omega) s b (a - b)
      rw [show b + (a - b) = a by omega] at h1
      have h2 := hf (a - b) (by omega) (by omega)
      have h3 := (far_at (N := N) (s := s) (t := a - b)).2
      have lt := at_lt (show 0 < N by omega) s (a - b)
      split at h1 <;> omega
  · obtain ⟨a, ha, ea⟩ := (mem_plc (by omega)).1 hp
    rw [← ea]
    by_cases h0 : a = 0
    · subst h0
      rw [at_zero]
      simpa using hd
    · have h2 := hf a (by omega) ha
      have h3 := (far_at (N := N) (s := s) (t := a)).2
      omega
theorem szs_first {N s k : Nat} (hN : 1 ≤ N) (hk : 1 ≤ k) {d : Int} (hd : ∀ x ∈ dstL N (natI (plc N s k)), d ≤ x) : ∃ a r, szs N (dstL N (natI (plc N s k))) = a :: r ∧ d ≤ a := by
  have hm := fun x => mem_szs (N := N) (d := dstL N (natI (plc N s k))) (dst_bd (s := s) hN hk) x
  cases hq : szs N (dstL N (natI (plc N s k))) with
  | nil =>
    exfalso
    obtain ⟨r, hr⟩ := plc_cons (s := s) hN hk
    have hl : (dstL N (natI (plc N s k))).length = (natI (plc N s k)).length := dstL_length _ _
    rw [hr] at hl hm hq
    cases hd2 : dstL (N : Int) (natI (0 :: r)) with
    | nil => rw [hd2] at hl; simp at hl
    | cons x t =>
      have := (hm x).2 (by rw [hd2]; simp)
      rw [hq] at this
      cases this
  | cons a r =>
    refine ⟨a, r, rfl, hd a ((hm a).1 (by rw [hq]; simp))⟩

attribute [local irreducible] Res.all evC evLoop evOps evOper evOp evFn evCall freeze G GO GV GP GC R
set_option maxRecDepth 100000

set_option maxHeartbeats 1000000 in
theorem pitchBack_at (n0 : Nat) (hn : n0 = 20000) (parts by' many : Int) (hp : (Lit.int .u16 parts).wf = true) (hb : (Lit.int .u16 by').wf = true) (hm : (Lit.int .u8 many).wf = true) :
    (evFn (evCall T n0) c18 [.int .u16 parts, .int .u16 by', .int .u8 many] []).all fun p => p.1 = .bool true := by
  rw [m_fn]
  obtain ⟨p1, p2⟩ := u16_bounds hp
  obtain ⟨b1, b2⟩ := u16_bounds hb
  obtain ⟨m1, m2⟩ := u8_bounds hm
  have r1 := Int.emod_nonneg parts (show (2400 : Int) ≠ 0 by omega)
  have r2 := Int.emod_lt_of_pos parts (show (0 : Int) < 2400 by omega)
  have r3 := Int.emod_nonneg many (show (59 : Int) ≠ 0 by omega)
  have r4 := Int.emod_lt_of_pos many (show (0 : Int) < 59 by omega)
  obtain ⟨N, hN⟩ := Int.eq_ofNat_of_zero_le (show 0 ≤ 1 + parts % 2400 by omega)
  obtain ⟨n, hn'⟩ := Int.eq_ofNat_of_zero_le (show 0 ≤ 2 + many % 59 by omega)
  have q1 := Int.emod_nonneg by' (show (N : Int) + 1 ≠ 0 by omega)
  have q2 := Int.emod_lt_of_pos by' (show (0 : Int) < N + 1 by omega)
  obtain ⟨s, hs⟩ := Int.eq_ofNat_of_zero_le q1
  have N1 : 1 ≤ N := by omega
  have N2 : N ≤ 2400 := by omega
  have s1 : s ≤ N := by omega
  have n1 : 2 ≤ n := by omega
  have n2 : n ≤ 60 := by omega
  have hc : chErr N s n = 0 := (chErr_zero _ _ _).2 (by omega)
  have hbk := bkA_ok hc (by omega)
  obtain ⟨⟨k1, k2⟩, k3, k4⟩ := bstN_spec (farN N s) n n1
  generalize bstN (farN N s) n = k at hbk k1 k2 k3 k4
  have hck : chErr N s k = 0 := (chErr_zero _ _ _).2 (by omega)
  have hsz := szA_ok hck
  obtain ⟨a, r, har, hda⟩ := szs_first (s := s) (k := k) (d := farN N s k) N1 k1 (dst_far N1 k1 (farN_bd N1 k).2 fun t h1 h2 => k3 t h1 (by omega))
  obtain ⟨L, hL⟩ : ∃ L, szs N (dstL N (natI (plc N s k))) = L := ⟨_, rfl⟩
  rw [hL] at har hsz
  have g5 : L[0]? = some a := by rw [har]; rfl
  have g6 : 0 < L.length := by rw [har]; simp
  have g4 : ((L.length : Nat) : Int) > 0 := by omega
  have fb := fun i => farN_bd (N := N) (s := s) N1 i
  have g1 : ¬ (k : Int) < 1 := by omega
  have g2 : ¬ (k : Int) ≥ (n : Int) := by omega
  simp (disch := first | assumption | omega) only [c18, go_sem, ↓reduceIte, reduceIte, Nat.reduceEqDiff, Nat.reduceAdd, Nat.reduceMul, reduceCtorEq, Nat.reduceDiv, Nat.reduceLeDiff, Nat.reduceLT, Nat.reduceSub, b_remI, hN, hs, hn', cs_Back, hbk, bne_self_eq_false, g1, g2, cs_Far]
  refine m_loop (fun M st => ∃ (i : Nat), M = n - i ∧ 1 ≤ i ∧ i ≤ n ∧ At st.env [(7, .int .i64 N), (8, .int .i64 s), (9, .int .i64 n), (10, .int .i64 k), (12, .int .i64 (farN N s k)), (13, .int .i64 i)]) (n - 1) (by omega)
    ⟨1, by omega, by omega, by omega, by simp only [go_sem, ↓reduceIte, reduceIte, Nat.reduceEqDiff, Nat.reduceAdd, Nat.reduceMul, reduceCtorEq, Nat.reduceDiv, Nat.reduceLeDiff, Nat.reduceLT, Nat.reduceSub]⟩ ?_
  rintro M e h hM ⟨i, rfl, hi1, hi, hE⟩ P hP
  simp only [At_cons, At_nil] at hE
  obtain ⟨f7, f8, f9, f10, f12, f13, -⟩ := hE
  by_cases hlt : i < n
  · have h3 : ¬ farN N s i < farN N s k := by have := k3 i hi1 hlt; omega
    by_cases hq : farN N s i = farN N s k
    · have hq' : (farN N s i == farN N s k) = true := by simpa using hq
      have hik : ¬ (i : Int) < (k : Int) := fun hlt' => by
        have := k4 i hi1 (by omega)
        omega
      simp (disch := first | assumption | omega) only [go_sem, ↓reduceIte, reduceIte, Nat.reduceEqDiff, Nat.reduceAdd, Nat.reduceMul, reduceCtorEq, Nat.reduceDiv, Nat.reduceLeDiff, Nat.reduceLT, Nat.reduceSub, f7, f8, f9, f10, f12, f13, hlt, cs_Far, h3, hq', hik]
      exact hP (n - (i + 1)) _ (by omega) ⟨i + 1, rfl, by omega, by omega, by simp only [go_sem, ↓reduceIte, reduceIte, Nat.reduceEqDiff, Nat.reduceAdd, Nat.reduceMul, reduceCtorEq, Nat.reduceDiv, Nat.reduceLeDiff, Nat.reduceLT, Nat.reduceSub, f7, f8, f9, f10, f12]⟩
    · have hq' : (farN N s i == farN N s k) = false := by simpa using hq
      simp (disch := first | assumption | omega) only [go_sem, ↓reduceIte, reduceIte, Nat.reduceEqDiff, Nat.reduceAdd, Nat.reduceMul, reduceCtorEq, Nat.reduceDiv, Nat.reduceLeDiff, Nat.reduceLT, Nat.reduceSub, f7, f8, f9, f10, f12, f13, hlt, cs_Far, h3, hq']
      exact hP (n - (i + 1)) _ (by omega) ⟨i + 1, rfl, by omega, by omega, by simp only [go_sem, ↓reduceIte, reduceIte, Nat.reduceEqDiff, Nat.reduceAdd, Nat.reduceMul, reduceCtorEq, Nat.reduceDiv, Nat.reduceLeDiff, Nat.reduceLT, Nat.reduceSub, f7, f8, f9, f10, f12]⟩
  · have g3 : a ≥ farN N s k := hda
    simp (disch := first | assumption | omega) only [go_sem, ↓reduceIte, reduceIte, Nat.reduceEqDiff, Nat.reduceAdd, Nat.reduceMul, reduceCtorEq, Nat.reduceDiv, Nat.reduceLeDiff, Nat.reduceLT, Nat.reduceSub, f7, f8, f9, f10, f12, f13, hlt, cs_Sizes, hsz, beq_self_eq_true, g3, g4, g5, g6, cs_Works]
def pitchBack_n : Nat := 20000
theorem pitchBack_ev (parts by' many : Int) (hp : (Lit.int .u16 parts).wf = true) (hb : (Lit.int .u16 by').wf = true) (hm : (Lit.int .u8 many).wf = true) :
    (evFn (evCall T pitchBack_n) c18 [.int .u16 parts, .int .u16 by', .int .u8 many] []).all fun p => p.1 = .bool true := pitchBack_at _ rfl parts by' many hp hb hm

end Go.Ev.YtcghegefcgnhbaaC
