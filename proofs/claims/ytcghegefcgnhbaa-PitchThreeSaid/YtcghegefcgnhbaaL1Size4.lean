/- Sizes and Back: the walks. -/
import Derived.Test.YtcghegefcgnhbaaL1Size3
set_option linter.unusedSimpArgs false
set_option linter.unusedVariables false
namespace Go.Ev.YtcghegefcgnhbaaC
open Go Go.Proofs

attribute [local irreducible] Res.all evC evLoop evOps evOper evOp evFn evCall freeze G GO GV GP GC R
set_option maxRecDepth 100000

section
variable {n base : Nat} {Q : EX × St → Prop} {d : Option Nat} {L : List IOper} {ks : List Kont} {e : Env} {h : Heap}
theorem cs_Distances {N : Nat} {l : List Int} {ex : Bool} (hn : 1 ≤ n) (hN : N ≤ 2400) (hl : l.length ≤ 2400) (hb : ∀ x ∈ l, 0 ≤ x ∧ x ≤ 2400) : GP (evCall T n) base Q d L ks e (evCall T n false (.fn 54) [.int .i64 N, .slice none (l.map (.int .i64)) ex] h) = GO (evCall T n) base Q L ks ⟨setDst e d (longsV (dstL N l)), h⟩ :=
  gp_eq (con_Distances N l hN hl hb) hn (by repeat (first | exact fz_nil _ | refine fz_slice _ _ _ _ ?_ | refine fz_int _ _ _ ?_)) rfl
end
theorem plc_bd {N s n : Nat} (h1 : 1 ≤ N) (h2 : N ≤ 2400) : ∀ x ∈ natI (plc N s n), 0 ≤ x ∧ x ≤ 2400 := fun x hx => by
  obtain ⟨q, hq, rfl⟩ := mem_natI.1 hx
  obtain ⟨i, _, h4⟩ := (mem_plc (by omega)).1 hq
  have := at_lt (show 0 < N by omega) s i
  omega
theorem plc_lt {N s n : Nat} (h1 : 1 ≤ N) : ∀ x ∈ plc N s n, x < N := fun x hx => by
  obtain ⟨i, _, h4⟩ := (mem_plc (by omega)).1 hx
  have := at_lt (show 0 < N by omega) s i
  omega
theorem plc_d0 {N s n : Nat} (h1 : 1 ≤ N) (h4 : 1 ≤ n) : (plc N s n).getD 0 0 = 0 := by
  obtain ⟨r, hr⟩ := plc_cons (s := s) h1 h4
  rw [hr]; rfl
theorem dst_bd {N s n : Nat} (h1 : 1 ≤ N) (h4 : 1 ≤ n) : ∀ x ∈ dstL N (natI (plc N s n)), 1 ≤ x ∧ x ≤ N :=
  dstL_bd (plc_sorted N s n) (plc_lt h1) (plc_d0 h1 h4)

set_option maxHeartbeats 1000000 in
theorem con_refSizes (N s n : Int) : Con T 2 45 [.int .i64 N, .int .i64 s, .int .i64 n] (.tuple [longsV (szA N s n).1, .int .i64 (szA N s n).2]) := by
  refine con_intro t45 fun m hm V hV => ?_
  by_cases h0 : chErr N s n = 0
  case neg =>
    simp (disch := first | assumption | omega) only [c45, go_sem, ↓reduceIte, reduceIte, Nat.reduceEqDiff, Nat.reduceAdd, Nat.reduceMul, reduceCtorEq, Nat.reduceDiv, Nat.reduceLeDiff, Nat.reduceLT, Nat.reduceSub, cs_refChain, (show (chErr N s n != 0) = true by simpa using h0)]
    exact hV _ _ (by rw [szA_err h0]; exact (by repeat (first | exact mz_nil _ _ | exact frz_int _ _ _ _ | exact frz_bool _ _ _ | exact frz_slice _ _ _ _ _ | exact frz_ptr _ _ _ _ | exact frz_nilptr _ _ | refine mz_cons ?_ ?_ | refine frz_agg ?_ | refine frz_two ?_ ?_ | refine frz_three ?_ ?_ ?_)))
  obtain ⟨N, s, n, rfl, rfl, rfl, h1, h2, h3, h4, h5⟩ := ch_nat h0
  have hpl := plc_len60 N s n (by omega)
  have hpb := plc_bd (s := s) (n := n) h1 h2
  have hdb := dst_bd (s := s) h1 h4
  have hdl := dstL_length N (natI (plc N s n))
  have hpl2 : (natI (plc N s n)).length ≤ 2400 := by simp; omega
  simp (disch := first | assumption | omega) only [c45, go_sem, ↓reduceIte, reduceIte, Nat.reduceEqDiff, Nat.reduceAdd, Nat.reduceMul, reduceCtorEq, Nat.reduceDiv, Nat.reduceLeDiff, Nat.reduceLT, Nat.reduceSub, cs_refChain, cs_PlacesOf, cs_Distances, h0]
  rw [szA_ok h0] at hV
  have hdl60 : (dstL N (natI (plc N s n))).length ≤ 60 := by rw [hdl]; simp; omega
  clear hpl hpb hpl2 hdl
  generalize dstL (N : Int) (natI (plc N s n)) = D at *
  refine m_loop (fun M st => ∃ (k : Nat) (v : AV), M = N + 1 - k ∧ 1 ≤ k ∧ k ≤ N + 1 ∧ At st.env [(0, .int .i64 N), (8, longsV D), (9, v), (10, .int .i64 k)] ∧ Own 49 st.heap v .i64 (szT D k) ∧ 49 ≤ st.heap.length) N (by omega)
    ⟨1, _, by omega, by omega, by omega, by simp only [go_sem, ↓reduceIte, reduceIte, Nat.reduceEqDiff, Nat.reduceAdd, Nat.reduceMul, reduceCtorEq, Nat.reduceDiv, Nat.reduceLeDiff, Nat.reduceLT, Nat.reduceSub], own_nil _ _ _, by simp⟩ ?_
  rintro M e h hM ⟨k, v, rfl, hk1, hk, hE, hO, hlen⟩ P hP
  simp only [At_cons, At_nil] at hE hO hlen
  obtain ⟨f0, f8, f9, f10, -⟩ := hE
  have hTl : (szT D k).length ≤ k := by
    have := List.length_filter_le (fun p : Nat => decide (0 < p) && decide ((p : Int) ∈ D)) (List.range k)
    simpa using this
  by_cases hlt : (k : Int) ≤ (N : Int)
  · simp (disch := first | assumption | omega) only [go_sem, ↓reduceIte, reduceIte, Nat.reduceEqDiff, Nat.reduceAdd, Nat.reduceMul, reduceCtorEq, Nat.reduceDiv, Nat.reduceLeDiff, Nat.reduceLT, Nat.reduceSub, f0, f8, f9, f10, hlt]
    refine m_loop (fun M st => ∃ (i : Nat), M = D.length - i ∧ i ≤ D.length ∧ (∀ j < i, D[j]? ≠ some (k : Int)) ∧ At st.env [(0, .int .i64 N), (8, longsV D), (9, v), (10, .int .i64 k), (11, .int .i64 i)] ∧ st.heap = h) D.length (by omega)
      ⟨0, by omega, by omega, by omega, by simp only [go_sem, ↓reduceIte, reduceIte, Nat.reduceEqDiff, Nat.reduceAdd, Nat.reduceMul, reduceCtorEq, Nat.reduceDiv, Nat.reduceLeDiff, Nat.reduceLT, Nat.reduceSub, f0, f8, f9, f10], rfl⟩ ?_
    rintro M e h' hM2 ⟨i, rfl, hi, hnot, hE, hh⟩ P' hP'
    simp only [At_cons, At_nil] at hE hh
    obtain ⟨f0, f8, f9, f10, f11, -⟩ := hE
    subst hh
    by_cases hlt2 : i < D.length
    · obtain ⟨a, ha⟩ := get_ex hlt2
      by_cases hq : a = (k : Int)
      · subst hq
        simp (disch := first | assumption | omega) only [go_sem, ↓reduceIte, reduceIte, Nat.reduceEqDiff, Nat.reduceAdd, Nat.reduceMul, reduceCtorEq, Nat.reduceDiv, Nat.reduceLeDiff, Nat.reduceLT, Nat.reduceSub, f0, f8, f9, f10, f11, hlt2, ha, beq_self_eq_true]
        refine gp_append1 (a := (k : Int)) (by first | with_reducible rfl | (simp only [length_setH, List.length_append, List.length_replicate]; done) | (simp only [length_setH, List.length_append, List.length_replicate]; omega)) hO hlen (by omega) fun x' h' hO' hF hL _ _ => ?_
        simp (disch := first | assumption | omega) only [go_sem, ↓reduceIte, reduceIte, Nat.reduceEqDiff, Nat.reduceAdd, Nat.reduceMul, reduceCtorEq, Nat.reduceDiv, Nat.reduceLeDiff, Nat.reduceLT, Nat.reduceSub, f0, f8, f10]
        exact hP (N + 1 - (k + 1)) _ (by omega) ⟨k + 1, x', rfl, by omega, by omega, by simp only [go_sem, ↓reduceIte, reduceIte, Nat.reduceEqDiff, Nat.reduceAdd, Nat.reduceMul, reduceCtorEq, Nat.reduceDiv, Nat.reduceLeDiff, Nat.reduceLT, Nat.reduceSub, f0, f8], by rw [szT_in (by omega) (List.mem_of_getElem? ha)]; exact hO', Nat.le_trans hlen hL⟩
      · have hab : (a == (k : Int)) = false := by simpa using hq
        simp (disch := first | assumption | omega) only [go_sem, ↓reduceIte, reduceIte, Nat.reduceEqDiff, Nat.reduceAdd, Nat.reduceMul, reduceCtorEq, Nat.reduceDiv, Nat.reduceLeDiff, Nat.reduceLT, Nat.reduceSub, f0, f8, f9, f10, f11, hlt2, ha, hab]
        refine hP' (D.length - (i + 1)) _ (by omega) ⟨i + 1, rfl, by omega, fun j hj => ?_, by simp only [go_sem, ↓reduceIte, reduceIte, Nat.reduceEqDiff, Nat.reduceAdd, Nat.reduceMul, reduceCtorEq, Nat.reduceDiv, Nat.reduceLeDiff, Nat.reduceLT, Nat.reduceSub, f0, f8, f9, f10], rfl⟩
        by_cases hji : j < i
        · exact hnot j hji
        · obtain rfl : j = i := by omega
          rw [ha]
          exact fun h => hq (Option.some.inj h)
    · have hkn : (k : Int) ∉ D := fun h => by
        obtain ⟨j, hj, he⟩ := List.mem_iff_getElem.1 h
        exact hnot j (by omega) (by rw [List.getElem?_eq_getElem hj, he])
      simp (disch := first | assumption | omega) only [go_sem, ↓reduceIte, reduceIte, Nat.reduceEqDiff, Nat.reduceAdd, Nat.reduceMul, reduceCtorEq, Nat.reduceDiv, Nat.reduceLeDiff, Nat.reduceLT, Nat.reduceSub, f0, f8, f9, f10, f11, hlt2]
      exact hP (N + 1 - (k + 1)) _ (by omega) ⟨k + 1, v, rfl, by omega, by omega, by simp only [go_sem, ↓reduceIte, reduceIte, Nat.reduceEqDiff, Nat.reduceAdd, Nat.reduceMul, reduceCtorEq, Nat.reduceDiv, Nat.reduceLeDiff, Nat.reduceLT, Nat.reduceSub, f0, f8, f9], by rw [szT_out hkn]; exact hO, hlen⟩
  · simp (disch := first | assumption | omega) only [go_sem, ↓reduceIte, reduceIte, Nat.reduceEqDiff, Nat.reduceAdd, Nat.reduceMul, reduceCtorEq, Nat.reduceDiv, Nat.reduceLeDiff, Nat.reduceLT, Nat.reduceSub, f0, f8, f9, f10, hlt]
    rw [show k = N + 1 by omega] at hO
    exact hV _ _ (frz_two (frz_Own hO) (frz_int _ _ _ _))

theorem Own.lo_lt {lo : Nat} {h : Heap} {v : AV} {k : IntKind} {l : List Int} (hx : Own lo h v k l) (hl : l ≠ []) : ∃ key ver, lo ≤ key ∧ key < h.length ∧ v = .oslice key ver none 0 l.length none ∧ getH h key = .cells ver (l.map (.int k)) := by
  rcases hx with ⟨h1, _⟩ | ⟨key, ver, h1, h2, h3⟩
  · exact absurd h1 hl
  · exact ⟨key, ver, h1, getH_lt h3 (by simp), h2, h3⟩
theorem dstT_any {N : Int} {l : List Int} {i : Nat} {a b : Int} (ha : l[i]? = some a) (hb : (l ++ [N + l.getD 0 0])[i + 1]? = some b) : dstT N l (i + 1) = dstT N l i ++ [b - a] := by
  rw [dstT, List.range_succ, List.map_append, List.map_cons, List.map_nil, getD_of ha, getD_of hb]

set_option maxHeartbeats 1000000 in
theorem con_Sizes (N s n : Int) : Con T 6 44 [.int .i64 N, .int .i64 s, .int .i64 n] (.tuple [longsV (szA N s n).1, .int .i64 (szA N s n).2]) := by
  refine con_intro t44 fun m hm V hV => ?_
  by_cases h0 : chErr N s n = 0
  case neg =>
    simp (disch := first | assumption | omega) only [c44, go_sem, ↓reduceIte, reduceIte, Nat.reduceEqDiff, Nat.reduceAdd, Nat.reduceMul, reduceCtorEq, Nat.reduceDiv, Nat.reduceLeDiff, Nat.reduceLT, Nat.reduceSub, cs_chain, (show (chErr N s n != 0) = true by simpa using h0)]
    exact hV _ _ (by rw [szA_err h0]; exact (by repeat (first | exact mz_nil _ _ | exact frz_int _ _ _ _ | exact frz_bool _ _ _ | exact frz_slice _ _ _ _ _ | exact frz_ptr _ _ _ _ | exact frz_nilptr _ _ | refine mz_cons ?_ ?_ | refine frz_agg ?_ | refine frz_two ?_ ?_ | refine frz_three ?_ ?_ ?_)))
  obtain ⟨m, rfl⟩ : ∃ m', m = m' + 1 := ⟨m - 1, by omega⟩
  obtain ⟨N, s, n, rfl, rfl, rfl, h1, h2, h3, h4, h5⟩ := ch_nat h0
  have hpl := plc_len60 N s n (by omega)
  have hpb := plc_bd (s := s) (n := n) h1 h2
  have hdb := dst_bd (s := s) h1 h4
  have hdl := dstL_length N (natI (plc N s n))
  have hz : (natI (plc N s n)).getD 0 0 = 0 := by
    obtain ⟨r, hr⟩ := plc_cons (s := s) h1 h4
    rw [hr]; rfl
  have hpos : 0 < (natI (plc N s n)).length := by
    obtain ⟨r, hr⟩ := plc_cons (s := s) h1 h4
    rw [hr]; simp
  simp (disch := first | assumption | omega) only [c44, go_sem, ↓reduceIte, reduceIte, Nat.reduceEqDiff, Nat.reduceAdd, Nat.reduceMul, reduceCtorEq, Nat.reduceDiv, Nat.reduceLeDiff, Nat.reduceLT, Nat.reduceSub, cs_chain, h0]
  refine gp_raw (raw_places N s n h1 h2 h3 h4 h5) (by omega) fun v h' ⟨x, hx, hv⟩ => ?_
  obtain ⟨_, _, hle, hlt', _, _⟩ := Own.lo_lt hx (List.length_pos_iff.1 hpos)
  simp (disch := first | assumption | omega) only [go_sem, ↓reduceIte, reduceIte, Nat.reduceEqDiff, Nat.reduceAdd, Nat.reduceMul, reduceCtorEq, Nat.reduceDiv, Nat.reduceLeDiff, Nat.reduceLT, Nat.reduceSub]
  rw [szA_ok h0] at hV
  have hpl' : (natI (plc N s n)).length ≤ 60 := by simp; omega
  refine gp_appendC (m := 1) (l2 := [(N : Int)]) hv (by first | with_reducible rfl | (simp only [length_setH, List.length_append, List.length_replicate]; done) | (simp only [length_setH, List.length_append, List.length_replicate]; omega)) hx (by omega) rfl rfl (by omega) (by omega) fun x' h2' hO' _ _ _ _ => ?_
  obtain ⟨key, ver, _, hkl, rfl, hH⟩ := Own.lo_lt hO' (by simp)
  clear hO' hx hv hlt' hle hpl
  generalize natI (plc N s n) = D at *
  have hLl : (D ++ [(N : Int)]).length = D.length + 1 := by simp
  have hL' : D ++ [(N : Int) + D.getD 0 0] = D ++ [(N : Int)] := by rw [hz]; simp
  have hLD : ∀ i a, D[i]? = some a → (D ++ [(N : Int)])[i]? = some a := fun i a h => by
    rw [List.getElem?_append_left (List.getElem?_eq_some_iff.1 h).1]; exact h
  have hLb : ∀ x ∈ D ++ [(N : Int)], 0 ≤ x ∧ x ≤ 2400 := fun x hx => by
    rcases List.mem_append.1 hx with hx | hx
    · exact hpb x hx
    · obtain rfl : x = N := by simpa using hx
      omega
  generalize D ++ [(N : Int)] = L at *
  rw [hLl]
  simp (disch := first | assumption | omega) only [go_sem, ↓reduceIte, reduceIte, Nat.reduceEqDiff, Nat.reduceAdd, Nat.reduceMul, reduceCtorEq, Nat.reduceDiv, Nat.reduceLeDiff, Nat.reduceLT, Nat.reduceSub]
  rw [slA_from_own (n := 1) (k := .i64) (by simp only [go_sem, ↓reduceIte, reduceIte, Nat.reduceEqDiff, Nat.reduceAdd, Nat.reduceMul, reduceCtorEq, Nat.reduceDiv, Nat.reduceLeDiff, Nat.reduceLT, Nat.reduceSub]) (by omega)]
  have hD1 : 1 + D.length = D.length + 1 := by omega
  simp (disch := first | assumption | omega) only [go_sem, ↓reduceIte, reduceIte, Nat.reduceEqDiff, Nat.reduceAdd, Nat.reduceMul, reduceCtorEq, Nat.reduceDiv, Nat.reduceLeDiff, Nat.reduceLT, Nat.reduceSub, Nat.add_sub_cancel]
  refine m_loop (fun M st => ∃ (i : Nat) (v : AV), M = D.length - i ∧ i ≤ D.length ∧ At st.env [(9, v), (10, .oslice key ver none 0 (D.length + 1) none), (28, .oslice key ver none 1 D.length none), (29, .int .i64 D.length), (30, .int .i64 i)] ∧ getH st.heap key = .cells ver (L.map (.int .i64)) ∧ Own 0 st.heap v .i64 (dstT N D i) ∧ key < st.heap.length) D.length (by omega)
    ⟨0, _, by omega, by omega, by simp only [go_sem, ↓reduceIte, reduceIte, Nat.reduceEqDiff, Nat.reduceAdd, Nat.reduceMul, reduceCtorEq, Nat.reduceDiv, Nat.reduceLeDiff, Nat.reduceLT, Nat.reduceSub], hH, own_nil _ _ _, hkl⟩ ?_
  rintro M e h hM ⟨i, v, rfl, hi, hE, hH, hO, hkl⟩ P hP
  simp only [At_cons, At_nil] at hE hH hO hkl
  obtain ⟨f9, f10, f28, f29, f30, -⟩ := hE
  have hTl : (dstT (N : Int) D i).length = i := by simp
  by_cases hlt : i < D.length
  · obtain ⟨a, ha⟩ := get_ex hlt
    obtain ⟨b, hb⟩ := get_ex (l := L) (i := 1 + i) (by omega)
    have hb' : L[i + 1]? = some b := by rw [Nat.add_comm]; exact hb
    have ha' := hLD i a ha
    have bb := hLb b (List.mem_of_getElem? hb)
    have ba := hLb a (List.mem_of_getElem? ha')
    have hlt1 : i < D.length + 1 := by omega
    simp (disch := first | assumption | omega) only [go_sem, ↓reduceIte, reduceIte, Nat.reduceEqDiff, Nat.reduceAdd, Nat.reduceMul, reduceCtorEq, Nat.reduceDiv, Nat.reduceLeDiff, Nat.reduceLT, Nat.reduceSub, f9, f10, f28, f29, f30, hlt, hH, hb, hO.lenA]
    rw [slA_full hO (k1 := .i64) (k2 := .i64) (by simp only [go_sem, ↓reduceIte, reduceIte, Nat.reduceEqDiff, Nat.reduceAdd, Nat.reduceMul, reduceCtorEq, Nat.reduceDiv, Nat.reduceLeDiff, Nat.reduceLT, Nat.reduceSub]) (by simp only [go_sem, ↓reduceIte, reduceIte, Nat.reduceEqDiff, Nat.reduceAdd, Nat.reduceMul, reduceCtorEq, Nat.reduceDiv, Nat.reduceLeDiff, Nat.reduceLT, Nat.reduceSub])]
    simp (disch := first | assumption | omega) only [go_sem, ↓reduceIte, reduceIte, Nat.reduceEqDiff, Nat.reduceAdd, Nat.reduceMul, reduceCtorEq, Nat.reduceDiv, Nat.reduceLeDiff, Nat.reduceLT, Nat.reduceSub, f9, f10, f28, f29, f30, hlt1, hH, ha']
    refine gp_append_capped (m := 1) (l2 := [b - a]) (by first | with_reducible rfl | (simp only [length_setH, List.length_append, List.length_replicate]; done) | (simp only [length_setH, List.length_append, List.length_replicate]; omega)) hO (by omega) rfl rfl Nat.one_pos (by omega) fun x' h2 hO' hF hL _ => ?_
    simp (disch := first | assumption | omega) only [go_sem, ↓reduceIte, reduceIte, Nat.reduceEqDiff, Nat.reduceAdd, Nat.reduceMul, reduceCtorEq, Nat.reduceDiv, Nat.reduceLeDiff, Nat.reduceLT, Nat.reduceSub, f10, f28, f29, f30]
    refine hP (D.length - (i + 1)) _ (by omega) ⟨i + 1, x', rfl, by omega, by simp only [go_sem, ↓reduceIte, reduceIte, Nat.reduceEqDiff, Nat.reduceAdd, Nat.reduceMul, reduceCtorEq, Nat.reduceDiv, Nat.reduceLeDiff, Nat.reduceLT, Nat.reduceSub, f10, f28, f29], by rw [hF key hkl]; exact hH, ?_, Nat.lt_of_lt_of_le hkl hL⟩
    rw [dstT_any ha (by rw [hL']; exact hb')]
    exact hO'
  · obtain rfl : i = D.length := by omega
    simp (disch := first | assumption | omega) only [go_sem, ↓reduceIte, reduceIte, Nat.reduceEqDiff, Nat.reduceAdd, Nat.reduceMul, reduceCtorEq, Nat.reduceDiv, Nat.reduceLeDiff, Nat.reduceLT, Nat.reduceSub, f9, f10, f28, f29, f30, hlt]
    have hO2 : Own 0 h v .i64 (dstL N D) := hO
    refine gp_sort (call := evCall T m) t80 hO2 (by omega) (by omega) fun h2 hO3 _ _ => ?_
    simp (disch := first | assumption | omega) only [go_sem, ↓reduceIte, reduceIte, Nat.reduceEqDiff, Nat.reduceAdd, Nat.reduceMul, reduceCtorEq, Nat.reduceDiv, Nat.reduceLeDiff, Nat.reduceLT, Nat.reduceSub, f9, f10, f28, f29, f30]
    have hsl : (isort (dstL (N : Int) D)).length = D.length := by rw [length_isort, hdl]
    refine gp_of (raw_Compact hO3 (by omega) (by omega) _ _ fun w h3 hz3 => ?_)
    simp (disch := first | assumption | omega) only [go_sem, ↓reduceIte, reduceIte, Nat.reduceEqDiff, Nat.reduceAdd, Nat.reduceMul, reduceCtorEq, Nat.reduceDiv, Nat.reduceLeDiff, Nat.reduceLT, Nat.reduceSub, f9, f10, f28, f29, f30]
    rw [cpt_szs hdb] at hz3
    exact hV _ _ (frz_two (hz3 _) (frz_int _ _ _ _))

end Go.Ev.YtcghegefcgnhbaaC
