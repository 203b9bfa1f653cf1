/- PitchThree returns true. -/
import Derived.Test.YtcghegefcgnhbaaL1Three
set_option linter.unusedSimpArgs false
set_option linter.unusedVariables false
namespace Go.Ev.YtcghegefcgnhbaaC
open Go Go.Proofs

theorem dst_step {N : Int} {l : List Int} (hz : l.getD 0 0 = 0) {i : Nat} {d u : Int} (hd : (dstL N l)[i]? = some d) (hu : (l ++ [N])[i]? = some u) : (l ++ [N])[i + 1]? = some (u + d) := by
  have hL : l ++ [N + l.getD 0 0] = l ++ [N] := by rw [hz]; simp
  have hi : i < l.length := by have := (List.getElem?_eq_some_iff.1 hd).1; rwa [dstL_length] at this
  rw [dstL, List.getElem?_map, List.getElem?_range hi, hL] at hd
  obtain ⟨v, hv⟩ := get_ex (l := l ++ [N]) (i := i + 1) (by simp; omega)
  rw [List.getElem?_append_left hi] at hu
  simp only [Option.map_some, Option.some.injEq] at hd
  rw [getD_of hu, getD_of hv] at hd
  rw [hv]
  congr 1
  omega
theorem sub_step {A M : List Int} {nx i : Nat} {v : Int} (hs : (A.drop nx).Sublist (M.drop i)) (hv : M[i]? = some v) : (∀ w, A[nx]? = some w → w = v → (A.drop (nx + 1)).Sublist (M.drop (i + 1))) ∧ ((∀ w, A[nx]? = some w → w ≠ v) → (A.drop nx).Sublist (M.drop (i + 1))) := by
  rw [drop_cons hv] at hs
  constructor
  · rintro w hw rfl
    rw [drop_cons hw] at hs
    exact List.cons_sublist_cons.1 hs
  · intro hne
    cases hA : A[nx]? with
    | none => rw [List.drop_eq_nil_of_le (List.getElem?_eq_none_iff.1 hA)]; exact List.nil_sublist _
    | some w =>
      rw [drop_cons hA] at hs ⊢
      rcases List.sublist_cons_iff.1 hs with h | ⟨r, h1, h2⟩
      · exact h
      · exact absurd (List.cons.inj h1).1 (hne w hA)

attribute [local irreducible] Res.all evC evLoop evOps evOper evOp evFn evCall freeze G GO GV GP GC R
set_option maxRecDepth 100000

set_option maxHeartbeats 2000000 in
theorem pitchThree_at (n0 : Nat) (hn : n0 = 20000) (parts by' many : Int) (hp : (Lit.int .u16 parts).wf = true) (hb : (Lit.int .u16 by').wf = true) (hm : (Lit.int .u8 many).wf = true) :
    (evFn (evCall T n0) c16 [.int .u16 parts, .int .u16 by', .int .u8 many] []).all fun p => p.1 = .bool true := by
  rw [m_fn]
  obtain ⟨p1, p2⟩ := u16_bounds hp
  obtain ⟨b1, b2⟩ := u16_bounds hb
  obtain ⟨m1, m2⟩ := u8_bounds hm
  have r1 := Int.emod_nonneg parts (show (2400 : Int) ≠ 0 by omega)
  have r2 := Int.emod_lt_of_pos parts (show (0 : Int) < 2400 by omega)
  have r3 := Int.emod_nonneg many (show (59 : Int) ≠ 0 by omega)
  have r4 := Int.emod_lt_of_pos many (show (0 : Int) < 59 by omega)
  obtain ⟨N, hN⟩ := Int.eq_ofNat_of_zero_le (show 0 ≤ 1 + parts % 2400 by omega)
  obtain ⟨n, hn'⟩ := Int.eq_ofNat_of_zero_le (show 0 ≤ 1 + many % 59 by omega)
  have q1 := Int.emod_nonneg by' (show (N : Int) + 1 ≠ 0 by omega)
  have q2 := Int.emod_lt_of_pos by' (show (0 : Int) < N + 1 by omega)
  obtain ⟨s, hs⟩ := Int.eq_ofNat_of_zero_le q1
  have N1 : 1 ≤ N := by omega
  have N2 : N ≤ 2400 := by omega
  have s1 : s ≤ N := by omega
  have n1 : 1 ≤ n := by omega
  have n2 : n ≤ 59 := by omega
  obtain ⟨n', hn''⟩ : ∃ n', n' = n + 1 := ⟨_, rfl⟩
  have hadd : (n : Int) + 1 = (n' : Int) := by omega
  have hc : chErr N s n = 0 := (chErr_zero _ _ _).2 (by omega)
  have hc' : chErr N s (n' : Int) = 0 := (chErr_zero _ _ _).2 (by omega)
  have hpl := plA_ok hc
  have hpl' := plA_ok hc'
  have hsz := szA_ok hc
  obtain ⟨a, b, ha, hb', hab⟩ := sizes_three (s := s) N1 n1
  have hdb := dst_bd (s := s) N1 n1
  have hms := fun x => mem_szs (N := N) hdb x
  have hss := szs_sorted N (dstL N (natI (plc N s n)))
  obtain ⟨h3a, h3b⟩ := three_list ha hb' _ hss fun x hx => hab x ((hms x).1 hx)
  obtain ⟨z0, zr, hz0, _⟩ := szs_first (s := s) (k := n) N1 n1 (d := 0) fun x hx => by have := hdb x hx; omega
  have hsl : 0 < (szs N (dstL N (natI (plc N s n)))).length := by rw [hz0]; simp
  have hsb : ∀ x ∈ szs N (dstL N (natI (plc N s n))), 1 ≤ x ∧ x ≤ N := fun x hx => hdb x ((hms x).1 hx)
  have hA1 := plc_len60 N s n (by omega)
  have hA2 : 0 < (natI (plc N s n)).length := by
    obtain ⟨r, hr⟩ := plc_cons (s := s) N1 n1
    rw [hr]; simp
  have hsub : (natI (plc N s n)).Sublist (natI (plc N s n')) := by rw [hn'']; exact (plc_sub N s n).map _
  have hle := hsub.length_le
  have hone : (natI (plc N s n')).length ≤ (natI (plc N s n)).length + 1 := by
    rw [hn'']; simp only [List.length_map]; exact plc_one (by omega)
  have hAz : (natI (plc N s n)).getD 0 0 = 0 := by
    obtain ⟨r, hr⟩ := plc_cons (s := s) N1 n1
    rw [hr]; rfl
  have hAb := plc_bd (s := s) (n := n) N1 N2
  have hA1' : (natI (plc N s n)).length ≤ n := by simpa using hA1
  clear hz0 hA1 hss hc hc'
  have hDl := dstL_length (N : Int) (natI (plc N s n))
  have hstep := fun i d u => dst_step (N := (N : Int)) hAz (i := i) (d := d) (u := u)
  obtain ⟨D, hD⟩ : ∃ D, dstL (N : Int) (natI (plc N s n)) = D := ⟨_, rfl⟩
  have hdst : dstL (N : Int) (natI (plc N s n)) = D := hD
  rw [hD] at hsz hdb hms h3a h3b hsl hsb hDl
  simp only [hD] at hstep
  obtain ⟨S, hS⟩ : ∃ S, szs N D = S := ⟨_, rfl⟩
  rw [hS] at hsz h3a h3b hsl hsb
  simp only [hS] at hms
  clear hD hS
  generalize natI (plc N s n) = A at *
  generalize natI (plc N s n') = B at *
  have hAL : (A ++ [(N : Int)])[A.length]? = some (N : Int) := by rw [List.getElem?_append_right (Nat.le_refl _), Nat.sub_self]; rfl
  have hE0 : (A ++ [(N : Int)])[0]? = some 0 := by
    cases A with
    | nil => simp at hA2
    | cons a r => simp at hAz; simp [hAz]
  have g1 : ¬ ((S.length : Nat) : Int) < 1 := by omega
  have g2 : ¬ ((S.length : Nat) : Int) > 3 := by omega
  have g3 : ¬ ((A.length : Nat) : Int) < 1 := by omega
  have g4 : ¬ ((A.length : Nat) : Int) > (n : Int) := by omega
  have g5 : ¬ ((B.length : Nat) : Int) < (A.length : Int) := by omega
  have g6 : ¬ ((B.length : Nat) : Int) > (A.length : Int) + 1 := by omega
  have hcase : ((S.length : Int) == 3) = false ∨ (((S.length : Int) == 3) = true ∧ ∃ x y z : Int, S[0]? = some x ∧ S[1]? = some y ∧ S[2]? = some z ∧ (z != x + y) = false ∧ 1 ≤ x ∧ x ≤ N ∧ 1 ≤ y ∧ y ≤ N) := by
    by_cases h3 : S.length = 3
    · refine .inr ⟨by simp [h3], ?_⟩
      match S, h3 with
      | [x, y, z], _ =>
        have := h3b x y z rfl
        have hx := hsb x (by simp)
        have hy := hsb y (by simp)
        exact ⟨x, y, z, rfl, rfl, rfl, by simp [this], hx.1, hx.2, hy.1, hy.2⟩
    · exact .inl (by simp; omega)
  have hA60 : A.length ≤ 2400 := by omega
  rcases hcase with hc3 | ⟨hc3, x, y, z, e0, e1, e2, hne, x1, x2, y1, y2⟩
  · simp (disch := first | assumption | omega) only [c16, go_sem, ↓reduceIte, reduceIte, Nat.reduceEqDiff, Nat.reduceAdd, Nat.reduceMul, reduceCtorEq, Nat.reduceDiv, Nat.reduceLeDiff, Nat.reduceLT, Nat.reduceSub, b_remI, hN, hs, hn', hadd, cs_Places, cs_Sizes, hpl, hpl', hsz, bne_self_eq_false, g1, g2, g3, g4, g5, g6, hc3, cs_Distances, hdst]
    have hDb : ∀ x ∈ D, 1 ≤ x ∧ x ≤ N := hdb
    refine m_loop (fun M st => ∃ (i : Nat) (u : Int), M = D.length - i ∧ i ≤ D.length ∧ (A ++ [(N : Int)])[i]? = some u ∧ At st.env [(7, .int .i64 N), (10, longsV S), (12, longsV A), (14, longsV B), (16, longsV D), (17, .int .i64 u), (18, .int .i64 i)]) D.length (by omega)
      ⟨0, 0, by omega, by omega, hE0, by simp only [go_sem, ↓reduceIte, reduceIte, Nat.reduceEqDiff, Nat.reduceAdd, Nat.reduceMul, reduceCtorEq, Nat.reduceDiv, Nat.reduceLeDiff, Nat.reduceLT, Nat.reduceSub]⟩ ?_
    rintro M e h hM ⟨i, u, rfl, hi, hu, hE⟩ P hP
    simp only [At_cons, At_nil] at hE
    obtain ⟨f7, f10, f12, f14, f16, f17, f18, -⟩ := hE
    have hub : 0 ≤ u ∧ u ≤ 2400 := by
      rcases List.mem_append.1 (List.mem_of_getElem? hu) with hx | hx
      · exact hAb u hx
      · have : u = N := by simpa using hx
        omega
    by_cases hlt : i < D.length
    · obtain ⟨v, hv⟩ := get_ex hlt
      have hvb := hDb v (List.mem_of_getElem? hv)
      have hvS : v ∈ S := (hms v).2 (List.mem_of_getElem? hv)
      simp (disch := first | assumption | omega) only [go_sem, ↓reduceIte, reduceIte, Nat.reduceEqDiff, Nat.reduceAdd, Nat.reduceMul, reduceCtorEq, Nat.reduceDiv, Nat.reduceLeDiff, Nat.reduceLT, Nat.reduceSub, f7, f10, f12, f14, f16, f17, f18, hlt]
      refine m_loop (fun M st => ∃ (k : Nat) (w : Bool), M = S.length - k ∧ k ≤ S.length ∧ w = (S.take k).any (fun t => t == v) ∧ At st.env [(7, .int .i64 N), (10, longsV S), (12, longsV A), (14, longsV B), (16, longsV D), (17, .int .i64 u), (18, .int .i64 i), (19, .bool w), (20, .int .i64 k)]) S.length (by omega)
        ⟨0, false, by omega, by omega, by simp, by simp only [go_sem, ↓reduceIte, reduceIte, Nat.reduceEqDiff, Nat.reduceAdd, Nat.reduceMul, reduceCtorEq, Nat.reduceDiv, Nat.reduceLeDiff, Nat.reduceLT, Nat.reduceSub, f7, f10, f12, f14, f16, f17, f18]⟩ ?_
      clear f7 f10 f12 f14 f16 f17 f18
      rintro M e h hM2 ⟨k, w, rfl, hk, hw, hE⟩ P2 hP2
      simp only [At_cons, At_nil] at hE
      obtain ⟨f7, f10, f12, f14, f16, f17, f18, f19, f20, -⟩ := hE
      by_cases hlt2 : k < S.length
      · obtain ⟨t, ht⟩ := get_ex hlt2
        have hany : (S.take (k + 1)).any (fun t => t == v) = (w || (t == v)) := by
          rw [hw, List.take_add_one, ht, List.any_append]
          simp
        cases w with
        | true =>
          simp (disch := first | assumption | omega) only [go_sem, ↓reduceIte, reduceIte, Nat.reduceEqDiff, Nat.reduceAdd, Nat.reduceMul, reduceCtorEq, Nat.reduceDiv, Nat.reduceLeDiff, Nat.reduceLT, Nat.reduceSub, f7, f10, f12, f14, f16, f17, f18, f19, f20, hlt2]
          exact hP2 (S.length - (k + 1)) _ (by omega) ⟨k + 1, true, rfl, by omega, by rw [hany]; rfl, by simp only [go_sem, ↓reduceIte, reduceIte, Nat.reduceEqDiff, Nat.reduceAdd, Nat.reduceMul, reduceCtorEq, Nat.reduceDiv, Nat.reduceLeDiff, Nat.reduceLT, Nat.reduceSub, f7, f10, f12, f14, f16, f17, f18]⟩
        | false =>
          simp (disch := first | assumption | omega) only [go_sem, ↓reduceIte, reduceIte, Nat.reduceEqDiff, Nat.reduceAdd, Nat.reduceMul, reduceCtorEq, Nat.reduceDiv, Nat.reduceLeDiff, Nat.reduceLT, Nat.reduceSub, f7, f10, f12, f14, f16, f17, f18, f19, f20, hlt2, hlt, ht, hv]
          exact hP2 (S.length - (k + 1)) _ (by omega) ⟨k + 1, t == v, rfl, by omega, by rw [hany]; rfl, by simp only [go_sem, ↓reduceIte, reduceIte, Nat.reduceEqDiff, Nat.reduceAdd, Nat.reduceMul, reduceCtorEq, Nat.reduceDiv, Nat.reduceLeDiff, Nat.reduceLT, Nat.reduceSub, f7, f10, f12, f14, f16, f17, f18]⟩
      · obtain rfl : w = true := by
          rw [hw, show k = S.length by omega, List.take_length, List.any_eq_true]
          exact ⟨v, hvS, by simp⟩
        have hv1 : ¬ v < 1 := by omega
        simp (disch := first | assumption | omega) only [go_sem, ↓reduceIte, reduceIte, Nat.reduceEqDiff, Nat.reduceAdd, Nat.reduceMul, reduceCtorEq, Nat.reduceDiv, Nat.reduceLeDiff, Nat.reduceLT, Nat.reduceSub, f7, f10, f12, f14, f16, f17, f18, f19, f20, hlt2, hlt, hv, hv1]
        exact hP (D.length - (i + 1)) _ (by omega) ⟨i + 1, u + v, rfl, by omega, hstep i v u hv hu, by simp only [go_sem, ↓reduceIte, reduceIte, Nat.reduceEqDiff, Nat.reduceAdd, Nat.reduceMul, reduceCtorEq, Nat.reduceDiv, Nat.reduceLeDiff, Nat.reduceLT, Nat.reduceSub, f7, f10, f12, f14, f16]⟩
    · have huN : u = N := by
        rw [show i = A.length by omega, hAL] at hu
        exact (Option.some.inj hu).symm
      subst huN
      simp (disch := first | assumption | omega) only [go_sem, ↓reduceIte, reduceIte, Nat.reduceEqDiff, Nat.reduceAdd, Nat.reduceMul, reduceCtorEq, Nat.reduceDiv, Nat.reduceLeDiff, Nat.reduceLT, Nat.reduceSub, f7, f10, f12, f14, f16, f17, f18, hlt]
      refine m_loop (fun M st => ∃ (i nx : Nat), M = B.length - i ∧ i ≤ B.length ∧ nx ≤ A.length ∧ (A.drop nx).Sublist (B.drop i) ∧ At st.env [(7, .int .i64 N), (12, longsV A), (14, longsV B), (17, .int .i64 N), (21, .int .i64 nx), (22, .int .i64 i)]) B.length (by omega)
        ⟨0, 0, by omega, by omega, by omega, hsub, by simp only [go_sem, ↓reduceIte, reduceIte, Nat.reduceEqDiff, Nat.reduceAdd, Nat.reduceMul, reduceCtorEq, Nat.reduceDiv, Nat.reduceLeDiff, Nat.reduceLT, Nat.reduceSub, f7, f12, f14, f17]⟩ ?_
      clear f7 f10 f12 f14 f16 f17 f18 hP
      rintro M e h hM2 ⟨i, nx, rfl, hi, hnx, hsb2, hE⟩ P2 hP2
      simp only [At_cons, At_nil] at hE
      obtain ⟨f7, f12, f14, f17, f21, f22, -⟩ := hE
      by_cases hlt2 : i < B.length
      · obtain ⟨v, hv⟩ := get_ex hlt2
        obtain ⟨k1, k2⟩ := sub_step hsb2 hv
        by_cases hl : nx < A.length
        · obtain ⟨w, hw⟩ := get_ex hl
          by_cases hq : v = w
          · subst hq
            simp (disch := first | assumption | omega) only [go_sem, ↓reduceIte, reduceIte, Nat.reduceEqDiff, Nat.reduceAdd, Nat.reduceMul, reduceCtorEq, Nat.reduceDiv, Nat.reduceLeDiff, Nat.reduceLT, Nat.reduceSub, f7, f12, f14, f17, f21, f22, hlt2, hl, hv, hw, beq_self_eq_true]
            exact hP2 (B.length - (i + 1)) _ (by omega) ⟨i + 1, nx + 1, rfl, by omega, by omega, k1 v hw rfl, by simp only [go_sem, ↓reduceIte, reduceIte, Nat.reduceEqDiff, Nat.reduceAdd, Nat.reduceMul, reduceCtorEq, Nat.reduceDiv, Nat.reduceLeDiff, Nat.reduceLT, Nat.reduceSub, f7, f12, f14, f17]⟩
          · have hq' : (v == w) = false := by simpa using hq
            simp (disch := first | assumption | omega) only [go_sem, ↓reduceIte, reduceIte, Nat.reduceEqDiff, Nat.reduceAdd, Nat.reduceMul, reduceCtorEq, Nat.reduceDiv, Nat.reduceLeDiff, Nat.reduceLT, Nat.reduceSub, f7, f12, f14, f17, f21, f22, hlt2, hl, hv, hw, hq']
            exact hP2 (B.length - (i + 1)) _ (by omega) ⟨i + 1, nx, rfl, by omega, hnx, k2 (fun w' h' e => hq (by rw [hw] at h'; rw [← e]; exact Option.some.inj h'.symm)), by simp only [go_sem, ↓reduceIte, reduceIte, Nat.reduceEqDiff, Nat.reduceAdd, Nat.reduceMul, reduceCtorEq, Nat.reduceDiv, Nat.reduceLeDiff, Nat.reduceLT, Nat.reduceSub, f7, f12, f14, f17, f21]⟩
        · simp (disch := first | assumption | omega) only [go_sem, ↓reduceIte, reduceIte, Nat.reduceEqDiff, Nat.reduceAdd, Nat.reduceMul, reduceCtorEq, Nat.reduceDiv, Nat.reduceLeDiff, Nat.reduceLT, Nat.reduceSub, f7, f12, f14, f17, f21, f22, hlt2, hl]
          exact hP2 (B.length - (i + 1)) _ (by omega) ⟨i + 1, nx, rfl, by omega, hnx, k2 (fun w' h' => absurd (List.getElem?_eq_some_iff.1 h').1 hl), by simp only [go_sem, ↓reduceIte, reduceIte, Nat.reduceEqDiff, Nat.reduceAdd, Nat.reduceMul, reduceCtorEq, Nat.reduceDiv, Nat.reduceLeDiff, Nat.reduceLT, Nat.reduceSub, f7, f12, f14, f17, f21]⟩
      · have hnl : nx = A.length := by
          rw [List.drop_eq_nil_of_le (show B.length ≤ i by omega)] at hsb2
          have := List.drop_eq_nil_iff.1 (List.sublist_nil.1 hsb2)
          omega
        subst hnl
        simp (disch := first | assumption | omega) only [go_sem, ↓reduceIte, reduceIte, Nat.reduceEqDiff, Nat.reduceAdd, Nat.reduceMul, reduceCtorEq, Nat.reduceDiv, Nat.reduceLeDiff, Nat.reduceLT, Nat.reduceSub, f7, f12, f14, f17, f21, f22, hlt2, beq_self_eq_true, cs_Works]
  · have i0 : 0 < S.length := by omega
    have i1 : 1 < S.length := (List.getElem?_eq_some_iff.1 e1).1
    have i2 : 2 < S.length := (List.getElem?_eq_some_iff.1 e2).1
    simp (disch := first | assumption | omega) only [c16, go_sem, ↓reduceIte, reduceIte, Nat.reduceEqDiff, Nat.reduceAdd, Nat.reduceMul, reduceCtorEq, Nat.reduceDiv, Nat.reduceLeDiff, Nat.reduceLT, Nat.reduceSub, b_remI, hN, hs, hn', hadd, cs_Places, cs_Sizes, hpl, hpl', hsz, bne_self_eq_false, g1, g2, g3, g4, g5, g6, hc3, cs_Distances, hdst, e0, e1, e2, i0, i1, i2, hne]
    have hDb : ∀ x ∈ D, 1 ≤ x ∧ x ≤ N := hdb
    refine m_loop (fun M st => ∃ (i : Nat) (u : Int), M = D.length - i ∧ i ≤ D.length ∧ (A ++ [(N : Int)])[i]? = some u ∧ At st.env [(7, .int .i64 N), (10, longsV S), (12, longsV A), (14, longsV B), (16, longsV D), (17, .int .i64 u), (18, .int .i64 i)]) D.length (by omega)
      ⟨0, 0, by omega, by omega, hE0, by simp only [go_sem, ↓reduceIte, reduceIte, Nat.reduceEqDiff, Nat.reduceAdd, Nat.reduceMul, reduceCtorEq, Nat.reduceDiv, Nat.reduceLeDiff, Nat.reduceLT, Nat.reduceSub]⟩ ?_
    rintro M e h hM ⟨i, u, rfl, hi, hu, hE⟩ P hP
    simp only [At_cons, At_nil] at hE
    obtain ⟨f7, f10, f12, f14, f16, f17, f18, -⟩ := hE
    have hub : 0 ≤ u ∧ u ≤ 2400 := by
      rcases List.mem_append.1 (List.mem_of_getElem? hu) with hx | hx
      · exact hAb u hx
      · have : u = N := by simpa using hx
        omega
    by_cases hlt : i < D.length
    · obtain ⟨v, hv⟩ := get_ex hlt
      have hvb := hDb v (List.mem_of_getElem? hv)
      have hvS : v ∈ S := (hms v).2 (List.mem_of_getElem? hv)
      simp (disch := first | assumption | omega) only [go_sem, ↓reduceIte, reduceIte, Nat.reduceEqDiff, Nat.reduceAdd, Nat.reduceMul, reduceCtorEq, Nat.reduceDiv, Nat.reduceLeDiff, Nat.reduceLT, Nat.reduceSub, f7, f10, f12, f14, f16, f17, f18, hlt]
      refine m_loop (fun M st => ∃ (k : Nat) (w : Bool), M = S.length - k ∧ k ≤ S.length ∧ w = (S.take k).any (fun t => t == v) ∧ At st.env [(7, .int .i64 N), (10, longsV S), (12, longsV A), (14, longsV B), (16, longsV D), (17, .int .i64 u), (18, .int .i64 i), (19, .bool w), (20, .int .i64 k)]) S.length (by omega)
        ⟨0, false, by omega, by omega, by simp, by simp only [go_sem, ↓reduceIte, reduceIte, Nat.reduceEqDiff, Nat.reduceAdd, Nat.reduceMul, reduceCtorEq, Nat.reduceDiv, Nat.reduceLeDiff, Nat.reduceLT, Nat.reduceSub, f7, f10, f12, f14, f16, f17, f18]⟩ ?_
      clear f7 f10 f12 f14 f16 f17 f18
      rintro M e h hM2 ⟨k, w, rfl, hk, hw, hE⟩ P2 hP2
      simp only [At_cons, At_nil] at hE
      obtain ⟨f7, f10, f12, f14, f16, f17, f18, f19, f20, -⟩ := hE
      by_cases hlt2 : k < S.length
      · obtain ⟨t, ht⟩ := get_ex hlt2
        have hany : (S.take (k + 1)).any (fun t => t == v) = (w || (t == v)) := by
          rw [hw, List.take_add_one, ht, List.any_append]
          simp
        cases w with
        | true =>
          simp (disch := first | assumption | omega) only [go_sem, ↓reduceIte, reduceIte, Nat.reduceEqDiff, Nat.reduceAdd, Nat.reduceMul, reduceCtorEq, Nat.reduceDiv, Nat.reduceLeDiff, Nat.reduceLT, Nat.reduceSub, f7, f10, f12, f14, f16, f17, f18, f19, f20, hlt2]
          exact hP2 (S.length - (k + 1)) _ (by omega) ⟨k + 1, true, rfl, by omega, by rw [hany]; rfl, by simp only [go_sem, ↓reduceIte, reduceIte, Nat.reduceEqDiff, Nat.reduceAdd, Nat.reduceMul, reduceCtorEq, Nat.reduceDiv, Nat.reduceLeDiff, Nat.reduceLT, Nat.reduceSub, f7, f10, f12, f14, f16, f17, f18]⟩
        | false =>
          simp (disch := first | assumption | omega) only [go_sem, ↓reduceIte, reduceIte, Nat.reduceEqDiff, Nat.reduceAdd, Nat.reduceMul, reduceCtorEq, Nat.reduceDiv, Nat.reduceLeDiff, Nat.reduceLT, Nat.reduceSub, f7, f10, f12, f14, f16, f17, f18, f19, f20, hlt2, hlt, ht, hv]
          exact hP2 (S.length - (k + 1)) _ (by omega) ⟨k + 1, t == v, rfl, by omega, by rw [hany]; rfl, by simp only [go_sem, ↓reduceIte, reduceIte, Nat.reduceEqDiff, Nat.reduceAdd, Nat.reduceMul, reduceCtorEq, Nat.reduceDiv, Nat.reduceLeDiff, Nat.reduceLT, Nat.reduceSub, f7, f10, f12, f14, f16, f17, f18]⟩
      · obtain rfl : w = true := by
          rw [hw, show k = S.length by omega, List.take_length, List.any_eq_true]
          exact ⟨v, hvS, by simp⟩
        have hv1 : ¬ v < 1 := by omega
        simp (disch := first | assumption | omega) only [go_sem, ↓reduceIte, reduceIte, Nat.reduceEqDiff, Nat.reduceAdd, Nat.reduceMul, reduceCtorEq, Nat.reduceDiv, Nat.reduceLeDiff, Nat.reduceLT, Nat.reduceSub, f7, f10, f12, f14, f16, f17, f18, f19, f20, hlt2, hlt, hv, hv1]
        exact hP (D.length - (i + 1)) _ (by omega) ⟨i + 1, u + v, rfl, by omega, hstep i v u hv hu, by simp only [go_sem, ↓reduceIte, reduceIte, Nat.reduceEqDiff, Nat.reduceAdd, Nat.reduceMul, reduceCtorEq, Nat.reduceDiv, Nat.reduceLeDiff, Nat.reduceLT, Nat.reduceSub, f7, f10, f12, f14, f16]⟩
    · have huN : u = N := by
        rw [show i = A.length by omega, hAL] at hu
        exact (Option.some.inj hu).symm
      subst huN
      simp (disch := first | assumption | omega) only [go_sem, ↓reduceIte, reduceIte, Nat.reduceEqDiff, Nat.reduceAdd, Nat.reduceMul, reduceCtorEq, Nat.reduceDiv, Nat.reduceLeDiff, Nat.reduceLT, Nat.reduceSub, f7, f10, f12, f14, f16, f17, f18, hlt]
      refine m_loop (fun M st => ∃ (i nx : Nat), M = B.length - i ∧ i ≤ B.length ∧ nx ≤ A.length ∧ (A.drop nx).Sublist (B.drop i) ∧ At st.env [(7, .int .i64 N), (12, longsV A), (14, longsV B), (17, .int .i64 N), (21, .int .i64 nx), (22, .int .i64 i)]) B.length (by omega)
        ⟨0, 0, by omega, by omega, by omega, hsub, by simp only [go_sem, ↓reduceIte, reduceIte, Nat.reduceEqDiff, Nat.reduceAdd, Nat.reduceMul, reduceCtorEq, Nat.reduceDiv, Nat.reduceLeDiff, Nat.reduceLT, Nat.reduceSub, f7, f12, f14, f17]⟩ ?_
      clear f7 f10 f12 f14 f16 f17 f18 hP
      rintro M e h hM2 ⟨i, nx, rfl, hi, hnx, hsb2, hE⟩ P2 hP2
      simp only [At_cons, At_nil] at hE
      obtain ⟨f7, f12, f14, f17, f21, f22, -⟩ := hE
      by_cases hlt2 : i < B.length
      · obtain ⟨v, hv⟩ := get_ex hlt2
        obtain ⟨k1, k2⟩ := sub_step hsb2 hv
        by_cases hl : nx < A.length
        · obtain ⟨w, hw⟩ := get_ex hl
          by_cases hq : v = w
          · subst hq
            simp (disch := first | assumption | omega) only [go_sem, ↓reduceIte, reduceIte, Nat.reduceEqDiff, Nat.reduceAdd, Nat.reduceMul, reduceCtorEq, Nat.reduceDiv, Nat.reduceLeDiff, Nat.reduceLT, Nat.reduceSub, f7, f12, f14, f17, f21, f22, hlt2, hl, hv, hw, beq_self_eq_true]
            exact hP2 (B.length - (i + 1)) _ (by omega) ⟨i + 1, nx + 1, rfl, by omega, by omega, k1 v hw rfl, by simp only [go_sem, ↓reduceIte, reduceIte, Nat.reduceEqDiff, Nat.reduceAdd, Nat.reduceMul, reduceCtorEq, Nat.reduceDiv, Nat.reduceLeDiff, Nat.reduceLT, Nat.reduceSub, f7, f12, f14, f17]⟩
          · have hq' : (v == w) = false := by simpa using hq
            simp (disch := first | assumption | omega) only [go_sem, ↓reduceIte, reduceIte, Nat.reduceEqDiff, Nat.reduceAdd, Nat.reduceMul, reduceCtorEq, Nat.reduceDiv, Nat.reduceLeDiff, Nat.reduceLT, Nat.reduceSub, f7, f12, f14, f17, f21, f22, hlt2, hl, hv, hw, hq']
            exact hP2 (B.length - (i + 1)) _ (by omega) ⟨i + 1, nx, rfl, by omega, hnx, k2 (fun w' h' e => hq (by rw [hw] at h'; rw [← e]; exact Option.some.inj h'.symm)), by simp only [go_sem, ↓reduceIte, reduceIte, Nat.reduceEqDiff, Nat.reduceAdd, Nat.reduceMul, reduceCtorEq, Nat.reduceDiv, Nat.reduceLeDiff, Nat.reduceLT, Nat.reduceSub, f7, f12, f14, f17, f21]⟩
        · simp (disch := first | assumption | omega) only [go_sem, ↓reduceIte, reduceIte, Nat.reduceEqDiff, Nat.reduceAdd, Nat.reduceMul, reduceCtorEq, Nat.reduceDiv, Nat.reduceLeDiff, Nat.reduceLT, Nat.reduceSub, f7, f12, f14, f17, f21, f22, hlt2, hl]
          exact hP2 (B.length - (i + 1)) _ (by omega) ⟨i + 1, nx, rfl, by omega, hnx, k2 (fun w' h' => absurd (List.getElem?_eq_some_iff.1 h').1 hl), by simp only [go_sem, ↓reduceIte, reduceIte, Nat.reduceEqDiff, Nat.reduceAdd, Nat.reduceMul, reduceCtorEq, Nat.reduceDiv, Nat.reduceLeDiff, Nat.reduceLT, Nat.reduceSub, f7, f12, f14, f17, f21]⟩
      · have hnl : nx = A.length := by
          rw [List.drop_eq_nil_of_le (show B.length ≤ i by omega)] at hsb2
          have := List.drop_eq_nil_iff.1 (List.sublist_nil.1 hsb2)
          omega
        subst hnl
        simp (disch := first | assumption | omega) only [go_sem, ↓reduceIte, reduceIte, Nat.reduceEqDiff, Nat.reduceAdd, Nat.reduceMul, reduceCtorEq, Nat.reduceDiv, Nat.reduceLeDiff, Nat.reduceLT, Nat.reduceSub, f7, f12, f14, f17, f21, f22, hlt2, beq_self_eq_true, cs_Works]

def pitchThree_n : Nat := 20000
theorem pitchThree_ev (parts by' many : Int) (hp : (Lit.int .u16 parts).wf = true) (hb : (Lit.int .u16 by').wf = true) (hm : (Lit.int .u8 many).wf = true) :
    (evFn (evCall T pitchThree_n) c16 [.int .u16 parts, .int .u16 by', .int .u8 many] []).all fun p => p.1 = .bool true := pitchThree_at _ rfl parts by' many hp hb hm

end Go.Ev.YtcghegefcgnhbaaC
