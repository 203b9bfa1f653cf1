/- The kept orders, as the program finds them, whole. Contracts; conditions stand in each. -/
import Derived.Test.YtadneamkkepknaaL5Kept2
set_option linter.unusedSimpArgs false
set_option linter.unusedVariables false
namespace Go.Ev.YtadneamkkepknaaC
open Go Go.Proofs

attribute [local irreducible] Res.all evC evLoop evOps evOper evOp evFn evCall freeze G GO GV GP GC R
set_option maxRecDepth 100000

abbrev z10 : List AV := [.int .i64 0, .int .i64 0, .int .i64 0, .int .i64 0, .int .i64 0, .int .i64 0, .int .i64 0, .int .i64 0, .int .i64 0, .int .i64 0]

/-- the entries of the map when k orders have been looked at -/
structure EntOk (l : List Order) (k : Nat) (E : List (Int × Nat)) (clock : Nat) : Prop where
  sub : ∀ t ∈ E, t.1 ∈ (seqOf l).take k
  pw : (E.map Prod.fst).Pairwise fun a b => (seqOf l).idxOf a < (seqOf l).idxOf b
  bn : (E.map Prod.snd).Nodup
  bc : ∀ t ∈ E, t.2 < clock

theorem EntOk.add {l : List Order} {k clock : Nat} {E : List (Int × Nat)} (h : EntOk l k E clock) {x : Int} (hx : (seqOf l)[k]? = some x) : EntOk l (k + 1) (E ++ [(x, clock)]) (clock + 1) where
  sub := fun t ht => by
    rw [List.take_add_one, hx]
    rcases List.mem_append.1 ht with ht | ht
    · exact List.mem_append_left _ (h.sub t ht)
    · obtain rfl : t = (x, clock) := by simpa using ht
      simp
  pw := by
    rw [List.map_append, List.pairwise_append]
    refine ⟨h.pw, by simp, fun a ha b hb => ?_⟩
    obtain rfl : b = x := by simpa using hb
    obtain ⟨t, ht, rfl⟩ := List.mem_map.1 ha
    rw [idxOf_at (seqOf_nodup l) hx]
    exact take_lt (seqOf_nodup l) (h.sub t ht)
  bn := by
    rw [List.map_append, List.nodup_append]
    refine ⟨h.bn, by simp, fun a ha b hb => ?_⟩
    obtain rfl : b = clock := by simpa using hb
    obtain ⟨t, ht, rfl⟩ := List.mem_map.1 ha
    have := h.bc t ht
    omega
  bc := fun t ht => by
    rcases List.mem_append.1 ht with ht | ht
    · have := h.bc t ht; omega
    · obtain rfl : t = (x, clock) := by simpa using ht
      simp

theorem EntOk.erase {l : List Order} {k clock : Nat} {E : List (Int × Nat)} (h : EntOk l k E clock) (i : Nat) : EntOk l k (E.eraseIdx i) clock where
  sub := fun t ht => h.sub t (List.mem_of_mem_eraseIdx ht)
  pw := h.pw.sublist ((List.eraseIdx_sublist E i).map _)
  bn := h.bn.sublist ((List.eraseIdx_sublist E i).map _)
  bc := fun t ht => h.bc t (List.mem_of_mem_eraseIdx ht)

theorem EntOk.nodup {l : List Order} {k clock : Nat} {E : List (Int × Nat)} (h : EntOk l k E clock) : (E.map Prod.fst).Nodup := by
  have := h.pw
  refine List.Pairwise.imp (fun {a b} hab => ?_) this
  intro e
  rw [e] at hab
  omega

/-- the state at the head of the outer loop -/
structure In75 (l : List Order) (s : Int) (k : Nat) (E : List (Int × Nat)) (day : Int) (clock : Nat) : Prop where
  ent : EntOk l k E clock
  sum : day = sumW (side l s) (E.map Prod.fst)
  bd : day ≤ 1000 * k
  go : keptGo l (side l s) ((seqOf l).drop k) (E.map Prod.fst) day = keptOf l s

theorem con_75 (l : List Order) (s : Int) (hv : Valid l) (hs : s = 0 ∨ s = 1) : Con T 8 75 [deskV l s] (.agg ((marks (keptOf l s)).map (.int .i64))) := by
  refine con_intro t75 fun n hn V hV => ?_
  have hl := hv.len
  have hsl := seqOf_length l
  have hnd := seqOf_nodup l
  have hwl := side_length l s
  have hwb : ∀ x ∈ side l s, 0 ≤ x ∧ x ≤ 100 := fun x hx => by
    obtain ⟨o, ho, rfl⟩ := List.mem_map.1 hx
    have := hv.ok o ho
    have h1 := this.lo
    have h2 := this.lh
    have h3 := this.hi
    split <;> omega
  simp (disch := first | assumption | omega) only [c75, go_sem, ↓reduceIte, reduceIte, Nat.reduceEqDiff, Nat.reduceAdd, Nat.reduceMul, reduceCtorEq, Nat.reduceDiv, Nat.reduceLeDiff, Nat.reduceLT, Nat.reduceSub, m_next, deskV, cs_68]
  refine m_loop (fun M st => ∃ (k : Nat) (E : List (Int × Nat)) (day : Int) (clock : Nat), M = l.length - k ∧ k ≤ l.length ∧ In75 l s k E day clock ∧
    At st.env [(1, .optr 1 0 0), (2, .optr 2 0 0), (3, .optr 3 0 0), (4, .int .i64 day), (17, ints (seqOf l)), (18, .int .i64 l.length), (19, .int .i64 k)] ∧
    getH st.heap 1 = .cells 0 [deskV l s] ∧ getH st.heap 2 = .cells 0 z10 ∧ getH st.heap 3 = .cells 0 [.omap 88 0] ∧ getH st.heap 88 = .map 0 clock (kz (E.map Prod.fst)) (rkV (fun i => (seqOf l).idxOf i) (E.map Prod.fst)) (E.map Prod.snd) ∧ 89 ≤ st.heap.length) l.length (by omega) ⟨0, [], 0, 0, by simp, by omega, ?_, ?_, ?_⟩ ?_
  · exact ⟨⟨by simp, by simp, by simp, by simp⟩, by simp [sumW], by simp, rfl⟩
  · simp [go_sem, ↓reduceIte, reduceIte, Nat.reduceEqDiff, Nat.reduceAdd, Nat.reduceMul, reduceCtorEq, Nat.reduceDiv, Nat.reduceLeDiff, Nat.reduceLT, Nat.reduceSub, hsl]
  · refine ⟨by simp only [go_sem, ↓reduceIte, reduceIte, Nat.reduceEqDiff, Nat.reduceAdd, Nat.reduceMul, reduceCtorEq, Nat.reduceDiv, Nat.reduceLeDiff, Nat.reduceLT, Nat.reduceSub, deskV], by simp only [go_sem, ↓reduceIte, reduceIte, Nat.reduceEqDiff, Nat.reduceAdd, Nat.reduceMul, reduceCtorEq, Nat.reduceDiv, Nat.reduceLeDiff, Nat.reduceLT, Nat.reduceSub], by simp only [go_sem, ↓reduceIte, reduceIte, Nat.reduceEqDiff, Nat.reduceAdd, Nat.reduceMul, reduceCtorEq, Nat.reduceDiv, Nat.reduceLeDiff, Nat.reduceLT, Nat.reduceSub], ?_, ?_⟩
    · simp only [go_sem, ↓reduceIte, reduceIte, Nat.reduceEqDiff, Nat.reduceAdd, Nat.reduceMul, reduceCtorEq, Nat.reduceDiv, Nat.reduceLeDiff, Nat.reduceLT, Nat.reduceSub]; rfl
    · simp [length_setH]
  rintro M e h hM ⟨k, E, day, clock, rfl, hk, hin, hE, g1, g2, g3, g88, hlen⟩ P hP
  simp only [At_cons, At_nil] at hE g1 g2 g3 g88 hlen
  obtain ⟨h1, h2, h3, h4, h17, h18, h19, -⟩ := hE
  by_cases hlt : k < l.length
  · obtain ⟨i, hi⟩ := get_ex (l := seqOf l) (i := k) (by omega)
    have him := seqOf_mem.1 (List.mem_of_getElem? hi)
    obtain ⟨o, ho⟩ := get_ex (l := l) (i := i.toNat) (by omega)
    obtain ⟨x, hx⟩ := get_ex (l := side l s) (i := i.toNat) (by omega)
    obtain ⟨j, rfl⟩ := Int.eq_ofNat_of_zero_le him.1
    simp only [Int.toNat_natCast] at ho hx
    have hxw := wk_get hx
    have hxb := hwb x (List.mem_of_getElem? hx)
    have hod : dueOf l (j : Int) = o.due := by simp [dueOf, ho]
    have hsum0 := sumW_nonneg (fun x hx => (hwb x hx).1) (E.map Prod.fst)
    have hbd := hin.bd
    have hsm := hin.sum
    have hgo := hin.go
    rw [drop_cons hi, keptGo_cons, hod, ← hxw] at hgo
    have hidx : (seqOf l).idxOf (j : Int) = k := idxOf_at hnd hi
    have hnotin : (j : Int) ∉ E.map Prod.fst := fun hmem => by
      obtain ⟨t, ht, e1⟩ := List.mem_map.1 hmem
      have := hin.ent.sub t ht
      rw [e1] at this
      exact not_take hnd hi this
    -- the map with one more
    have hmu : muA (some 1) h (.agg [.int .i64 (j : Int)]) (.int .i64 k) (.omap 88 0) = .ret (.undef, setH h 88 (.map 0 (clock + 1) (kz ((E ++ [((j : Int), clock)]).map Prod.fst)) (rkV (fun i => (seqOf l).idxOf i) ((E ++ [((j : Int), clock)]).map Prod.fst)) ((E ++ [((j : Int), clock)]).map Prod.snd))) := by
      simp only [muA, g88, findK_kz, if_neg hnotin, keyOk_one]
      rw [if_pos ⟨trivial, trivial⟩]
      simp only [List.map_append, List.map_cons, List.map_nil, kz_append, kz, rkV, hidx]
    simp (disch := first | assumption | omega) only [go_sem, ↓reduceIte, reduceIte, Nat.reduceEqDiff, Nat.reduceAdd, Nat.reduceMul, reduceCtorEq, Nat.reduceDiv, Nat.reduceLeDiff, Nat.reduceLT, Nat.reduceSub, m_next, h1, h2, h3, h4, h17, h18, h19, g1, g3, hlt, hi, hmu, deskV, hx, ho, oAV]
    have hent := hin.ent.add hi
    by_cases hle : day + x ≤ o.due
    · rw [if_pos hle] at hgo
      simp (disch := first | assumption | omega) only [hle]
      refine hP (l.length - (k + 1)) _ (by omega) ⟨k + 1, E ++ [((j : Int), clock)], day + x, clock + 1, rfl, by omega, ⟨hent, ?_, by omega, ?_⟩, ?_, ?_, ?_, ?_, ?_, ?_⟩
      · rw [List.map_append, sumW_append, ← hsm, hxw]; simp [sumW]
      · rw [List.map_append]; exact hgo
      · simp only [go_sem, ↓reduceIte, reduceIte, Nat.reduceEqDiff, Nat.reduceAdd, Nat.reduceMul, reduceCtorEq, Nat.reduceDiv, Nat.reduceLeDiff, Nat.reduceLT, Nat.reduceSub, h1, h2, h3, h17, h18]
      · simp only [go_sem, ↓reduceIte, reduceIte, Nat.reduceEqDiff, Nat.reduceAdd, Nat.reduceMul, reduceCtorEq, Nat.reduceDiv, Nat.reduceLeDiff, Nat.reduceLT, Nat.reduceSub]; exact g1
      · simp only [go_sem, ↓reduceIte, reduceIte, Nat.reduceEqDiff, Nat.reduceAdd, Nat.reduceMul, reduceCtorEq, Nat.reduceDiv, Nat.reduceLeDiff, Nat.reduceLT, Nat.reduceSub]; exact g2
      · simp only [go_sem, ↓reduceIte, reduceIte, Nat.reduceEqDiff, Nat.reduceAdd, Nat.reduceMul, reduceCtorEq, Nat.reduceDiv, Nat.reduceLeDiff, Nat.reduceLT, Nat.reduceSub]; exact g3
      · simp only [go_sem, ↓reduceIte, reduceIte, Nat.reduceEqDiff, Nat.reduceAdd, Nat.reduceMul, reduceCtorEq, Nat.reduceDiv, Nat.reduceLeDiff, Nat.reduceLT, Nat.reduceSub]
      · simp only [length_setH]; omega
    · rw [if_neg hle] at hgo
      simp (disch := first | assumption | omega) only [go_sem, ↓reduceIte, reduceIte, Nat.reduceEqDiff, Nat.reduceAdd, Nat.reduceMul, reduceCtorEq, Nat.reduceDiv, Nat.reduceLeDiff, Nat.reduceLT, Nat.reduceSub, m_next, hle]
      have a1 : getH (setH h 88 (.map 0 (clock + 1) (kz ((E ++ [((j : Int), clock)]).map Prod.fst)) (rkV (fun i => (seqOf l).idxOf i) ((E ++ [((j : Int), clock)]).map Prod.fst)) ((E ++ [((j : Int), clock)]).map Prod.snd))) 1 = .cells 0 [deskV l s] := by simp only [go_sem, ↓reduceIte, reduceIte, Nat.reduceEqDiff, Nat.reduceAdd, Nat.reduceMul, reduceCtorEq, Nat.reduceDiv, Nat.reduceLeDiff, Nat.reduceLT, Nat.reduceSub]; exact g1
      have a2 : getH (setH h 88 (.map 0 (clock + 1) (kz ((E ++ [((j : Int), clock)]).map Prod.fst)) (rkV (fun i => (seqOf l).idxOf i) ((E ++ [((j : Int), clock)]).map Prod.fst)) ((E ++ [((j : Int), clock)]).map Prod.snd))) 2 = .cells 0 z10 := by simp only [go_sem, ↓reduceIte, reduceIte, Nat.reduceEqDiff, Nat.reduceAdd, Nat.reduceMul, reduceCtorEq, Nat.reduceDiv, Nat.reduceLeDiff, Nat.reduceLT, Nat.reduceSub]; exact g2
      have a3 : getH (setH h 88 (.map 0 (clock + 1) (kz ((E ++ [((j : Int), clock)]).map Prod.fst)) (rkV (fun i => (seqOf l).idxOf i) ((E ++ [((j : Int), clock)]).map Prod.fst)) ((E ++ [((j : Int), clock)]).map Prod.snd))) 3 = .cells 0 [.omap 88 0] := by simp only [go_sem, ↓reduceIte, reduceIte, Nat.reduceEqDiff, Nat.reduceAdd, Nat.reduceMul, reduceCtorEq, Nat.reduceDiv, Nat.reduceLeDiff, Nat.reduceLT, Nat.reduceSub]; exact g3
      have a4 : getH (setH h 88 (.map 0 (clock + 1) (kz ((E ++ [((j : Int), clock)]).map Prod.fst)) (rkV (fun i => (seqOf l).idxOf i) ((E ++ [((j : Int), clock)]).map Prod.fst)) ((E ++ [((j : Int), clock)]).map Prod.snd))) 88 = .map 0 (clock + 1) (kz ((E ++ [((j : Int), clock)]).map Prod.fst)) (rkV (fun i => (seqOf l).idxOf i) ((E ++ [((j : Int), clock)]).map Prod.fst)) ((E ++ [((j : Int), clock)]).map Prod.snd) := by simp only [go_sem, ↓reduceIte, reduceIte, Nat.reduceEqDiff, Nat.reduceAdd, Nat.reduceMul, reduceCtorEq, Nat.reduceDiv, Nat.reduceLeDiff, Nat.reduceLT, Nat.reduceSub]
      have a5 : 89 ≤ (setH h 88 (.map 0 (clock + 1) (kz ((E ++ [((j : Int), clock)]).map Prod.fst)) (rkV (fun i => (seqOf l).idxOf i) ((E ++ [((j : Int), clock)]).map Prod.fst)) ((E ++ [((j : Int), clock)]).map Prod.snd))).length := by rw [length_setH]; omega
      have a6 : getH (setH h 88 (.map 0 (clock + 1) (kz ((E ++ [((j : Int), clock)]).map Prod.fst)) (rkV (fun i => (seqOf l).idxOf i) ((E ++ [((j : Int), clock)]).map Prod.fst)) ((E ++ [((j : Int), clock)]).map Prod.snd))) (setH h 88 (.map 0 (clock + 1) (kz ((E ++ [((j : Int), clock)]).map Prod.fst)) (rkV (fun i => (seqOf l).idxOf i) ((E ++ [((j : Int), clock)]).map Prod.fst)) ((E ++ [((j : Int), clock)]).map Prod.snd))).length = .none := getH_ge _ _ (Nat.le_refl _)
      have hsumE : sumW (side l s) ((E ++ [((j : Int), clock)]).map Prod.fst) = day + x := by rw [List.map_append, sumW_append, ← hsm, hxw]; simp [sumW]
      have hgoE : keptGo l (side l s) ((seqOf l).drop (k + 1)) (((E ++ [((j : Int), clock)]).map Prod.fst).erase (pickL (side l s) ((E ++ [((j : Int), clock)]).map Prod.fst))) (day + x - wk (side l s) (pickL (side l s) ((E ++ [((j : Int), clock)]).map Prod.fst))) = keptOf l s := by rw [List.map_append]; exact hgo
      have hE0 : E ++ [((j : Int), clock)] ≠ [] := by simp
      have hElen : (E ++ [((j : Int), clock)]).length ≤ 10 := by
        have h1 := hent.nodup
        have h2 : ((E ++ [((j : Int), clock)]).map Prod.fst).length ≤ (idx l.length).length := List.Nodup.length_le_of_subset h1 (fun a ha => by
          obtain ⟨t, ht, rfl⟩ := List.mem_map.1 ha
          exact idx_mem.2 (seqOf_mem.1 (List.mem_of_mem_take (hent.sub t ht))))
        rw [List.length_map, idx_length] at h2
        omega
      clear hgo g1 g2 g3 g88 hmu hin hnotin
      generalize E ++ [((j : Int), clock)] = E1 at *
      generalize setH h 88 (.map 0 (clock + 1) (kz (E1.map Prod.fst)) (rkV (fun i => (seqOf l).idxOf i) (E1.map Prod.fst)) (E1.map Prod.snd)) = hA at *
      have hrg : rgA hA (.omap 88 0) = .ret (.iter hA.length 0, setH hA hA.length (.iter 0 88 0 (clock + 1) [] (clock + 1))) := by
        simp only [rgA, a4, a6, next_none, if_true]
      have n1 : ¬ hA.length = 1 := by omega
      have n2 : ¬ hA.length = 2 := by omega
      have n3 : ¬ hA.length = 3 := by omega
      have n8 : ¬ hA.length = 8 := by omega
      have n9 : ¬ hA.length = 9 := by omega
      have n88 : ¬ hA.length = 88 := by omega
      have m8 : ¬ 8 = hA.length := by omega
      simp (disch := first | assumption | omega) only [go_sem, ↓reduceIte, reduceIte, Nat.reduceEqDiff, Nat.reduceAdd, Nat.reduceMul, reduceCtorEq, Nat.reduceDiv, Nat.reduceLeDiff, Nat.reduceLT, Nat.reduceSub, m_next, hle, hrg]
      refine m_loop (fun M st => ∃ (done : List (Int × Nat)) (v : AV), M = (E1.filter fun t => !(done.map Prod.snd).contains t.2).length ∧ done.length + M ≤ E1.length ∧ (∀ t ∈ done, t ∈ E1) ∧
        At st.env [(1, .optr 1 0 0), (2, .optr 2 0 0), (3, .optr 3 0 0), (4, .int .i64 (day + x)), (7, v), (17, ints (seqOf l)), (18, .int .i64 l.length), (19, .int .i64 k), (49, .iter hA.length 0)] ∧
        getH st.heap 1 = .cells 0 [deskV l s] ∧ getH st.heap 2 = .cells 0 z10 ∧ getH st.heap 3 = .cells 0 [.omap 88 0] ∧ getH st.heap 88 = .map 0 (clock + 1) (kz (E1.map Prod.fst)) (rkV (fun i => (seqOf l).idxOf i) (E1.map Prod.fst)) (E1.map Prod.snd) ∧
        getH st.heap hA.length = .iter 0 88 0 (clock + 1) (done.map Prod.snd) (clock + 1) ∧ OwnG 89 st.heap v (some 1) done.length ((done.map Prod.fst).map (.int .i64)) ∧ keyOf v ≠ some hA.length ∧ hA.length < st.heap.length) E1.length (by omega)
        ⟨[], .slice (some 1) [] true, by rw [List.filter_eq_self.2 (by simp)], by simp, by simp, by simp [go_sem, ↓reduceIte, reduceIte, Nat.reduceEqDiff, Nat.reduceAdd, Nat.reduceMul, reduceCtorEq, Nat.reduceDiv, Nat.reduceLeDiff, Nat.reduceLT, Nat.reduceSub, h1, h2, h3, h17, h18, h19], ?_, ?_, ?_, ?_, ?_, ownG_nil .., by simp [keyOf], ?_⟩ ?_
      · simp only [go_sem, ↓reduceIte, reduceIte, Nat.reduceEqDiff, Nat.reduceAdd, Nat.reduceMul, reduceCtorEq, Nat.reduceDiv, Nat.reduceLeDiff, Nat.reduceLT, Nat.reduceSub, n1, n2, n3, n8, n9, n88]; exact a1
      · simp only [go_sem, ↓reduceIte, reduceIte, Nat.reduceEqDiff, Nat.reduceAdd, Nat.reduceMul, reduceCtorEq, Nat.reduceDiv, Nat.reduceLeDiff, Nat.reduceLT, Nat.reduceSub, n1, n2, n3, n8, n9, n88]; exact a2
      · simp only [go_sem, ↓reduceIte, reduceIte, Nat.reduceEqDiff, Nat.reduceAdd, Nat.reduceMul, reduceCtorEq, Nat.reduceDiv, Nat.reduceLeDiff, Nat.reduceLT, Nat.reduceSub, n1, n2, n3, n8, n9, n88]; exact a3
      · simp only [go_sem, ↓reduceIte, reduceIte, Nat.reduceEqDiff, Nat.reduceAdd, Nat.reduceMul, reduceCtorEq, Nat.reduceDiv, Nat.reduceLeDiff, Nat.reduceLT, Nat.reduceSub, n1, n2, n3, n8, n9, n88]; exact a4
      · simp only [go_sem, ↓reduceIte, reduceIte, Nat.reduceEqDiff, Nat.reduceAdd, Nat.reduceMul, reduceCtorEq, Nat.reduceDiv, Nat.reduceLeDiff, Nat.reduceLT, Nat.reduceSub]
      · simp only [length_setH]; omega
      clear h1 h2 h3 h4 h17 h18 h19 hlen a1 a2 a3 a4 a6 hrg
      rintro M e h hM ⟨done, v, rfl, hdl, hsub, hE, g1, g2, g3, g88, gI, hO, hko, hlen⟩ P2 hP2
      simp only [At_cons, At_nil] at hE g1 g2 g3 g88 gI hO hlen
      obtain ⟨h1, h2, h3, h4, h7, h17, h18, h19, h49, -⟩ := hE
      simp (disch := first | assumption | omega) only [go_sem, ↓reduceIte, reduceIte, Nat.reduceEqDiff, Nat.reduceAdd, Nat.reduceMul, reduceCtorEq, Nat.reduceDiv, Nat.reduceLeDiff, Nat.reduceLT, Nat.reduceSub, m_next, h49]
      refine gp_nextE gI g88 hent.bc (fun hall => ?_) (fun t ht hnt => ?_)
      · -- all have been looked at
        have hmem : ∀ a, a ∈ done.map Prod.fst ↔ a ∈ E1.map Prod.fst := fun a => by
          constructor
          · intro ha
            obtain ⟨t, ht, rfl⟩ := List.mem_map.1 ha
            exact List.mem_map_of_mem (hsub t ht)
          · intro ha
            obtain ⟨t, ht, rfl⟩ := List.mem_map.1 ha
            obtain ⟨u, hu, e2⟩ := List.mem_map.1 (hall t ht)
            have : u = t := snd_inj hent.bn (hsub u hu) ht e2
            exact List.mem_map_of_mem (this ▸ hu)
        have hd0 : done.map Prod.fst ≠ [] := fun h0 => by
          cases hE1 : E1 with
          | nil => exact hE0 hE1
          | cons a r =>
            have := (hmem a.1).2 (by rw [hE1]; simp)
            rw [h0] at this
            cases this
        have hbest := best_pick (side l s) (fun i => (seqOf l).idxOf i) (better (side l s) fun i => (seqOf l).idxOf i) (fun a b => rfl) (E1.map Prod.fst) (done.map Prod.fst) hent.pw hmem hd0
        have hpm := pickL_mem (side l s) (E1.map Prod.fst) (fun h => hE0 (List.map_eq_nil_iff.1 h))
        generalize pickL (side l s) (E1.map Prod.fst) = r at *
        have hrm := hent.sub
        have hrb : 0 ≤ r ∧ r < l.length := by
          obtain ⟨t, ht, rfl⟩ := List.mem_map.1 hpm
          exact seqOf_mem.1 (List.mem_of_mem_take (hent.sub t ht))
        have hkb : ∀ a ∈ E1.map Prod.fst, 0 ≤ a ∧ a < l.length := fun a ha => by
          obtain ⟨t, ht, rfl⟩ := List.mem_map.1 ha
          exact seqOf_mem.1 (List.mem_of_mem_take (hent.sub t ht))
        simp (disch := first | assumption | omega) only [go_sem, ↓reduceIte, reduceIte, Nat.reduceEqDiff, Nat.reduceAdd, Nat.reduceMul, reduceCtorEq, Nat.reduceDiv, Nat.reduceLeDiff, Nat.reduceLT, Nat.reduceSub, m_next, h1, h2, h3, h4, h7, h17, h18, h19, h49]
        have hfv : freeze h 8 v = .ret (.slice (some 1) (kz (done.map Prod.fst)) false) := by
          rw [frz_OwnG hO (freeze_ints _ _ _ _), ← grouped_one]
          simp
        have hdes : freeze h 6 (deskV l s) = .ret (deskV l s) := frz_desk _ _ _ _
        have hclo : freeze h 8 (.clo 90 [] [.optr 1 0 0, .optr 3 0 0]) = .ret (.clo 90 [] [.ptr [deskV l s] 0, .ptr [.fmap (kz (E1.map Prod.fst)) (rkV (fun i => (seqOf l).idxOf i) (E1.map Prod.fst))] 0]) :=
          frz_clo (mz_nil _ _) (mz_cons (frz_optr g1 (mz_cons hdes (mz_nil _ _))) (mz_cons (frz_optr g3 (mz_cons (frz_omap g88 (mapR_kz _ _ _) (mapR_ints _ _ _ _)) (mz_nil _ _))) (mz_nil _ _)))
        refine gp_con (con_89 (p := better (side l s) fun i => (seqOf l).idxOf i) (done.map Prod.fst) r (by simp; omega) (List.length_pos_iff.2 hd0) (fun a ha b hb => con_90 l (side l s) (E1.map Prod.fst) (fun i => (seqOf l).idxOf i) a b hwl hkb ((hmem a).1 ha) ((hmem b).1 hb)) (fun h a b => ?_) hbest) (by omega) (fz_cons hfv (fz_cons hclo (fz_nil _))) (or_plain rfl) ?_
        · exact fz_cons (frz_agg (mz_cons (frz_int _ _ _ _) (mz_nil _ _))) (fz_cons (frz_agg (mz_cons (frz_int _ _ _ _) (mz_nil _ _))) (fz_cons (frz_ptr _ _ _ _) (fz_cons (frz_ptr _ _ _ _) (fz_nil _))))
        obtain ⟨rn, rfl⟩ := Int.eq_ofNat_of_zero_le hrb.1
        obtain ⟨y, hy⟩ := get_ex (l := side l s) (i := rn) (by omega)
        have hyw := wk_get hy
        have hyb := hwb y (List.mem_of_getElem? hy)
        have hdlA : ∀ h' : Heap, getH h' 88 = .map 0 (clock + 1) (kz (E1.map Prod.fst)) (rkV (fun i => (seqOf l).idxOf i) (E1.map Prod.fst)) (E1.map Prod.snd) →
            dlA (some 1) h' (.agg [.int .i64 (rn : Int)]) (.omap 88 0) = .ret (.undef, setH h' 88 (.map 0 (clock + 1) (kz ((E1.eraseIdx ((E1.map Prod.fst).idxOf (rn : Int))).map Prod.fst)) (rkV (fun i => (seqOf l).idxOf i) ((E1.eraseIdx ((E1.map Prod.fst).idxOf (rn : Int))).map Prod.fst)) ((E1.eraseIdx ((E1.map Prod.fst).idxOf (rn : Int))).map Prod.snd))) := fun h' hh => by
          simp only [dlA, hh, findK_kz, if_pos hpm, keyOk_one]
          rw [if_pos ⟨trivial, trivial⟩]
          simp only [Nat.zero_add, kz, rkV, eraseIdx_map']
        have hdl9 : ∀ c : AObj, getH (setH h 9 c) 88 = .map 0 (clock + 1) (kz (E1.map Prod.fst)) (rkV (fun i => (seqOf l).idxOf i) (E1.map Prod.fst)) (E1.map Prod.snd) := fun c => by rw [getH_setH_ne _ _ _ _ (by omega), g88]
        have hdl99 : ∀ c c' : AObj, getH (setH (setH h 9 c) 9 c') 88 = .map 0 (clock + 1) (kz (E1.map Prod.fst)) (rkV (fun i => (seqOf l).idxOf i) (E1.map Prod.fst)) (E1.map Prod.snd) := fun c c' => by rw [getH_setH_ne _ _ _ _ (by omega), hdl9]
        have hdlB : ∀ c c' : AObj, dlA (some 1) (setH (setH h 9 c) 9 c') (.agg [.int .i64 (rn : Int)]) (.omap 88 0) = _ := fun c c' => hdlA _ (hdl99 c c')
        have hs1 : sumW (side l s) (E1.map Prod.fst) ≥ wk (side l s) (rn : Int) := by
          have h1 := sumW_erase (side l s) (E1.map Prod.fst) rn hpm
          have h2 := sumW_nonneg (fun x hx => (hwb x hx).1) ((E1.map Prod.fst).erase (rn : Int))
          omega
        simp (disch := first | assumption | omega) only [go_sem, ↓reduceIte, reduceIte, Nat.reduceEqDiff, Nat.reduceAdd, Nat.reduceMul, reduceCtorEq, Nat.reduceDiv, Nat.reduceLeDiff, Nat.reduceLT, Nat.reduceSub, m_next, deskV, g1, g3, h1, h2, h3, h4, h7, h17, h18, h19, h49, hy, hdlB]
        refine hP (l.length - (k + 1)) _ (by omega) ⟨k + 1, E1.eraseIdx ((E1.map Prod.fst).idxOf (rn : Int)), day + x - y, clock + 1, rfl, by omega, ⟨hent.erase _, ?_, by omega, ?_⟩, ?_, ?_, ?_, ?_, ?_, ?_⟩
        · rw [← eraseIdx_map', erase_idxOf, sumW_erase _ _ _ hpm, hsumE, hyw]
        · rw [← eraseIdx_map', erase_idxOf, hyw]; exact hgoE
        · simp only [go_sem, ↓reduceIte, reduceIte, Nat.reduceEqDiff, Nat.reduceAdd, Nat.reduceMul, reduceCtorEq, Nat.reduceDiv, Nat.reduceLeDiff, Nat.reduceLT, Nat.reduceSub, h1, h2, h3, h17, h18]
        · simp only [go_sem, ↓reduceIte, reduceIte, Nat.reduceEqDiff, Nat.reduceAdd, Nat.reduceMul, reduceCtorEq, Nat.reduceDiv, Nat.reduceLeDiff, Nat.reduceLT, Nat.reduceSub]; exact g1
        · simp only [go_sem, ↓reduceIte, reduceIte, Nat.reduceEqDiff, Nat.reduceAdd, Nat.reduceMul, reduceCtorEq, Nat.reduceDiv, Nat.reduceLeDiff, Nat.reduceLT, Nat.reduceSub]; exact g2
        · simp only [go_sem, ↓reduceIte, reduceIte, Nat.reduceEqDiff, Nat.reduceAdd, Nat.reduceMul, reduceCtorEq, Nat.reduceDiv, Nat.reduceLeDiff, Nat.reduceLT, Nat.reduceSub]; exact g3
        · simp only [go_sem, ↓reduceIte, reduceIte, Nat.reduceEqDiff, Nat.reduceAdd, Nat.reduceMul, reduceCtorEq, Nat.reduceDiv, Nat.reduceLeDiff, Nat.reduceLT, Nat.reduceSub]
        · simp only [length_setH]; omega
      · have hen : enA (setH h hA.length (.iter 0 88 0 (clock + 1) (done.map Prod.snd ++ [t.2]) (clock + 1))) (.iter hA.length 0) = .ret (.tuple [.agg [.int .i64 t.1], .int .i64 ((seqOf l).idxOf t.1)]) :=
          enA_ent (E := E1) (rk := fun i => (seqOf l).idxOf i) (mk := 88) (mv := 0) (clock := clock + 1) (since := clock + 1) (seen := done.map Prod.snd) (getH_setH_self _ _ _) (by rw [getH_setH_ne _ _ _ _ n88]; exact g88) hent.bn ht
        have hen8 : ∀ c : AObj, enA (setH (setH h hA.length (.iter 0 88 0 (clock + 1) (done.map Prod.snd ++ [t.2]) (clock + 1))) 8 c) (.iter hA.length 0) = .ret (.tuple [.agg [.int .i64 t.1], .int .i64 ((seqOf l).idxOf t.1)]) := fun c => by
          refine enA_ent (E := E1) (rk := fun i => (seqOf l).idxOf i) (mk := 88) (mv := 0) (clock := clock + 1) (since := clock + 1) (seen := done.map Prod.snd) ?_ ?_ hent.bn ht
          · simp only [go_sem, ↓reduceIte, reduceIte, Nat.reduceEqDiff, Nat.reduceAdd, Nat.reduceMul, reduceCtorEq, Nat.reduceDiv, Nat.reduceLeDiff, Nat.reduceLT, Nat.reduceSub, n1, n2, n3, n8, n9, n88, m8]
          · simp only [go_sem, ↓reduceIte, reduceIte, Nat.reduceEqDiff, Nat.reduceAdd, Nat.reduceMul, reduceCtorEq, Nat.reduceDiv, Nat.reduceLeDiff, Nat.reduceLT, Nat.reduceSub, n1, n2, n3, n8, n9, n88, m8]; exact g88
        simp (disch := first | assumption | omega) only [go_sem, ↓reduceIte, reduceIte, Nat.reduceEqDiff, Nat.reduceAdd, Nat.reduceMul, reduceCtorEq, Nat.reduceDiv, Nat.reduceLeDiff, Nat.reduceLT, Nat.reduceSub, m_next, h1, h2, h3, h4, h7, h17, h18, h19, h49, hen, hen8, n8]
        have hO1 : OwnG 89 (setH h hA.length (.iter 0 88 0 (clock + 1) (done.map Prod.snd ++ [t.2]) (clock + 1))) v (some 1) done.length ((done.map Prod.fst).map (.int .i64)) := hO.other fun j hj => getH_setH_ne _ _ _ _ (fun h => hko (h ▸ hj))
        refine gp_appendG (m := 1) (c2 := [.int .i64 t.1]) (by first | with_reducible rfl | (simp only [length_setH, List.length_append, List.length_replicate]; done) | (simp only [length_setH, List.length_append, List.length_replicate]; omega)) ((hO1.setH (by omega)).setH (by omega)) (by simp [gsize]) (by simp only [length_setH]; omega) rfl (by simp [gsize]) (by omega) (by omega) fun x' h' hO' hF hL hF2 hF3 => ?_
        have q1 := hF 1 (by omega)
        have q2 := hF 2 (by omega)
        have q3 := hF 3 (by omega)
        have q88 := hF 88 (by omega)
        have qI := hF2 hA.length (by simp only [length_setH]; omega) hko
        simp only [go_sem, ↓reduceIte, reduceIte, Nat.reduceEqDiff, Nat.reduceAdd, Nat.reduceMul, reduceCtorEq, Nat.reduceDiv, Nat.reduceLeDiff, Nat.reduceLT, Nat.reduceSub, n1, n2, n3, n8, n88, g1, g2, g3, g88, (show ¬ 8 = hA.length by omega)] at q1 q2 q3 q88 qI
        have hml : (E1.filter fun u => !((done ++ [t]).map Prod.snd).contains u.2).length < (E1.filter fun u => !(done.map Prod.snd).contains u.2).length := by
          refine filter_lt _ _ (fun u hu => ?_) t ?_ ?_ E1 ht
          · simp at hu ⊢
            exact hu.1
          · simpa using hnt
          · simp
        simp (disch := first | assumption | omega) only [go_sem, ↓reduceIte, reduceIte, Nat.reduceEqDiff, Nat.reduceAdd, Nat.reduceMul, reduceCtorEq, Nat.reduceDiv, Nat.reduceLeDiff, Nat.reduceLT, Nat.reduceSub, m_next, h1, h2, h3, h4, h7, h17, h18, h19, h49]
        refine hP2 _ _ hml ⟨done ++ [t], x', rfl, by rw [List.length_append, List.length_singleton]; omega, ?_, by simp only [go_sem, ↓reduceIte, reduceIte, Nat.reduceEqDiff, Nat.reduceAdd, Nat.reduceMul, reduceCtorEq, Nat.reduceDiv, Nat.reduceLeDiff, Nat.reduceLT, Nat.reduceSub, h1, h2, h3, h4, h17, h18, h19, h49], q1, q2, q3, q88, ?_, ?_, ?_, ?_⟩
        · intro u hu
          rcases List.mem_append.1 hu with hu | hu
          · exact hsub u hu
          · obtain rfl : u = t := by simpa using hu
            exact ht
        · rw [qI]; simp
        · simpa using hO'
        · intro hx
          rcases hF3 _ hx with h | h
          · exact hko h
          · simp only [length_setH] at h; omega
        · simp only [length_setH] at hL
          show hA.length < h'.length
          omega
  · obtain rfl : k = l.length := by omega
    have hks : E.map Prod.fst = keptOf l s := by
      rw [← hin.go, List.drop_eq_nil_of_le (by omega)]; rfl
    have hent := hin.ent
    have hkb : ∀ a ∈ E.map Prod.fst, 0 ≤ a ∧ a < l.length := fun a ha => by
      obtain ⟨t, ht, rfl⟩ := List.mem_map.1 ha
      exact seqOf_mem.1 (List.mem_of_mem_take (hent.sub t ht))
    have hElen : E.length ≤ 10 := by
      have h1 := hent.nodup
      have h2 : (E.map Prod.fst).length ≤ (idx l.length).length := List.Nodup.length_le_of_subset h1 (fun a ha => idx_mem.2 (hkb a ha))
      rw [List.length_map, idx_length] at h2
      omega
    have a10 : ∀ c : AObj, getH (setH h 10 c) 88 = .map 0 clock (kz (E.map Prod.fst)) (rkV (fun i => (seqOf l).idxOf i) (E.map Prod.fst)) (E.map Prod.snd) := fun c => by rw [getH_setH_ne _ _ _ _ (by omega), g88]
    have l10 : ∀ c : AObj, (setH h 10 c).length = h.length := fun c => by rw [length_setH]; omega
    have a11 : ∀ c : AObj, getH (setH h 10 c) h.length = .none := fun c => getH_ge _ _ (by rw [l10]; omega)
    have hrg : ∀ c : AObj, rgA (setH h 10 c) (.omap 88 0) = .ret (.iter h.length 0, setH (setH h 10 c) h.length (.iter 0 88 0 clock [] clock)) := fun c => by
      simp only [rgA, a10, l10, a11, next_none, if_true]
    have n1 : ¬ h.length = 1 := by omega
    have n2 : ¬ h.length = 2 := by omega
    have n3 : ¬ h.length = 3 := by omega
    have n10 : ¬ h.length = 10 := by omega
    have n11 : ¬ h.length = 11 := by omega
    have n88 : ¬ h.length = 88 := by omega
    have m10 : ¬ 10 = h.length := by omega
    have m11 : ¬ 11 = h.length := by omega
    simp (disch := first | assumption | omega) only [go_sem, ↓reduceIte, reduceIte, Nat.reduceEqDiff, Nat.reduceAdd, Nat.reduceMul, reduceCtorEq, Nat.reduceDiv, Nat.reduceLeDiff, Nat.reduceLT, Nat.reduceSub, m_next, h1, h2, h3, h4, h17, h18, h19, g3, hlt, hrg]
    refine m_loop (fun M st => ∃ (done : List (Int × Nat)) (v11 : Nat), M = (E.filter fun t => !(done.map Prod.snd).contains t.2).length ∧ (∀ t ∈ done, t ∈ E) ∧
        At st.env [(2, .optr 2 0 0), (10, .optr 10 (getH h 10).next 0), (75, .iter h.length 0)] ∧
        getH st.heap 2 = .cells 0 z10 ∧ getH st.heap 88 = .map 0 clock (kz (E.map Prod.fst)) (rkV (fun i => (seqOf l).idxOf i) (E.map Prod.fst)) (E.map Prod.snd) ∧
        getH st.heap h.length = .iter 0 88 0 clock (done.map Prod.snd) clock ∧ getH st.heap 10 = .cells (getH h 10).next ((marks (done.map Prod.fst)).map (.int .i64))) E.length (by omega)
        ⟨[], 0, by rw [List.filter_eq_self.2 (by simp)], by simp, by simp [go_sem, ↓reduceIte, reduceIte, Nat.reduceEqDiff, Nat.reduceAdd, Nat.reduceMul, reduceCtorEq, Nat.reduceDiv, Nat.reduceLeDiff, Nat.reduceLT, Nat.reduceSub, h2], ?_, ?_, ?_, ?_⟩ ?_
    · simp only [go_sem, ↓reduceIte, reduceIte, Nat.reduceEqDiff, Nat.reduceAdd, Nat.reduceMul, reduceCtorEq, Nat.reduceDiv, Nat.reduceLeDiff, Nat.reduceLT, Nat.reduceSub, n2]; exact g2
    · simp only [go_sem, ↓reduceIte, reduceIte, Nat.reduceEqDiff, Nat.reduceAdd, Nat.reduceMul, reduceCtorEq, Nat.reduceDiv, Nat.reduceLeDiff, Nat.reduceLT, Nat.reduceSub, n88]; exact g88
    · simp only [go_sem, ↓reduceIte, reduceIte, Nat.reduceEqDiff, Nat.reduceAdd, Nat.reduceMul, reduceCtorEq, Nat.reduceDiv, Nat.reduceLeDiff, Nat.reduceLT, Nat.reduceSub]
    · simp only [go_sem, ↓reduceIte, reduceIte, Nat.reduceEqDiff, Nat.reduceAdd, Nat.reduceMul, reduceCtorEq, Nat.reduceDiv, Nat.reduceLeDiff, Nat.reduceLT, Nat.reduceSub, n10]; rfl
    generalize hv10 : (getH h 10).next = v10
    generalize hK : h.length = K at *
    clear h1 h2 h3 h4 h17 h18 h19 g1 g2 g3 g88 a10 l10 a11 hrg
    rintro M e h hM ⟨done, v11, rfl, hsub, hE, g2, g88, gI, g10⟩ P2 hP2
    simp only [At_cons, At_nil] at hE g2 g88 gI g10
    obtain ⟨h2, h10, h75, -⟩ := hE
    simp (disch := first | assumption | omega) only [go_sem, ↓reduceIte, reduceIte, Nat.reduceEqDiff, Nat.reduceAdd, Nat.reduceMul, reduceCtorEq, Nat.reduceDiv, Nat.reduceLeDiff, Nat.reduceLT, Nat.reduceSub, m_next, h75]
    refine gp_nextE gI g88 hent.bc (fun hall => ?_) (fun t ht hnt => ?_)
    · have hmem : ∀ a, a ∈ done.map Prod.fst ↔ a ∈ E.map Prod.fst := fun a => by
        constructor
        · intro ha
          obtain ⟨t, ht, rfl⟩ := List.mem_map.1 ha
          exact List.mem_map_of_mem (hsub t ht)
        · intro ha
          obtain ⟨t, ht, rfl⟩ := List.mem_map.1 ha
          obtain ⟨u, hu, e2⟩ := List.mem_map.1 (hall t ht)
          have : u = t := snd_inj hent.bn (hsub u hu) ht e2
          exact List.mem_map_of_mem (this ▸ hu)
      rw [marks_congr hmem, hks] at g10
      have hml := marks_length (keptOf l s)
      have ht10 : List.take 10 ((marks (keptOf l s)).map (AV.int .i64)) = (marks (keptOf l s)).map (.int .i64) := List.take_of_length_le (by simp [hml])
      have hle10 : (10 : Nat) ≤ 10 := by omega
      have hz : z10 = ((List.replicate 10 (0 : Int)).map (AV.int .i64)) := rfl
      have hea : eaA 10 false (.agg ((marks (keptOf l s)).map (.int .i64))) (.agg z10) = .ret (.bool (decide (marks (keptOf l s) = List.replicate 10 0))) := by
        simp only [eaA, List.length_map, hml, if_true]
        rw [hz, eqInts_ints _ _ _ (by simp [hml])]
        simp
      have hsp : splice z10 0 ((marks (keptOf l s)).map (.int .i64)) = (marks (keptOf l s)).map (.int .i64) := splice_full _ _ (by simp [hml])
      by_cases hq : marks (keptOf l s) = List.replicate 10 0
      · have hq' : decide (marks (keptOf l s) = List.replicate 10 0) = true := decide_eq_true hq
        simp (disch := first | assumption | omega) only [go_sem, ↓reduceIte, reduceIte, Nat.reduceEqDiff, Nat.reduceAdd, Nat.reduceMul, reduceCtorEq, Nat.reduceDiv, Nat.reduceLeDiff, Nat.reduceLT, Nat.reduceSub, m_next, h2, h10, h75, g2, g10, ht10, hml, hle10, hea, hq']
        refine hV _ _ ?_
        rw [hq]
        exact frz_agg (freeze_ints _ _ .i64 (List.replicate 10 0))
      · have hq' : decide (marks (keptOf l s) = List.replicate 10 0) = false := decide_eq_false hq
        simp (disch := first | assumption | omega) only [go_sem, ↓reduceIte, reduceIte, Nat.reduceEqDiff, Nat.reduceAdd, Nat.reduceMul, reduceCtorEq, Nat.reduceDiv, Nat.reduceLeDiff, Nat.reduceLT, Nat.reduceSub, m_next, h2, h10, h75, g2, g10, ht10, hml, hle10, hea, hq', hsp, all_one_ints]
        exact hV _ _ (frz_agg (freeze_ints _ _ _ _))
    · have htb := hkb t.1 (List.mem_map_of_mem ht)
      obtain ⟨tn, htn⟩ := Int.eq_ofNat_of_zero_le htb.1
      have h10' : tn < 10 := by omega
      have h10'' : tn + 1 ≤ 10 := by omega
      have hen : enA (setH h K (.iter 0 88 0 clock (done.map Prod.snd ++ [t.2]) clock)) (.iter K 0) = .ret (.tuple [.agg [.int .i64 t.1], .int .i64 ((seqOf l).idxOf t.1)]) :=
        enA_ent (E := E) (rk := fun i => (seqOf l).idxOf i) (mk := 88) (mv := 0) (clock := clock) (since := clock) (seen := done.map Prod.snd) (getH_setH_self _ _ _) (by rw [getH_setH_ne _ _ _ _ n88]; exact g88) hent.bn ht
      rw [htn] at hen
      have hml := marks_length (done.map Prod.fst)
      have hmset : ((marks (done.map Prod.fst)).map (AV.int .i64)).set tn (.int .i64 1) = (marks ((done ++ [t]).map Prod.fst)).map (.int .i64) := by
        rw [set_map, marks_set _ _ h10', List.map_append, ← htn]
        rfl
      have hflt : (E.filter fun u => !((done ++ [t]).map Prod.snd).contains u.2).length < (E.filter fun u => !(done.map Prod.snd).contains u.2).length := by
        refine filter_lt _ _ (fun u hu => ?_) t ?_ ?_ E ht
        · simp at hu ⊢
          exact hu.1
        · simpa using hnt
        · simp
      rw [htn]
      simp (disch := first | assumption | omega) only [go_sem, ↓reduceIte, reduceIte, Nat.reduceEqDiff, Nat.reduceAdd, Nat.reduceMul, reduceCtorEq, Nat.reduceDiv, Nat.reduceLeDiff, Nat.reduceLT, Nat.reduceSub, m_next, h2, h10, h75, g2, g10, hen, n1, n2, n3, n10, n11, n88, m10, m11, h10', h10'', hml]
      refine hP2 _ _ hflt ⟨done ++ [t], v11, rfl, ?_, by simp only [go_sem, ↓reduceIte, reduceIte, Nat.reduceEqDiff, Nat.reduceAdd, Nat.reduceMul, reduceCtorEq, Nat.reduceDiv, Nat.reduceLeDiff, Nat.reduceLT, Nat.reduceSub, h2, h10, h75], ?_, ?_, ?_, ?_⟩
      · intro u hu
        rcases List.mem_append.1 hu with hu | hu
        · exact hsub u hu
        · obtain rfl : u = t := by simpa using hu
          exact ht
      · simp only [go_sem, ↓reduceIte, reduceIte, Nat.reduceEqDiff, Nat.reduceAdd, Nat.reduceMul, reduceCtorEq, Nat.reduceDiv, Nat.reduceLeDiff, Nat.reduceLT, Nat.reduceSub, n2]; exact g2
      · simp only [go_sem, ↓reduceIte, reduceIte, Nat.reduceEqDiff, Nat.reduceAdd, Nat.reduceMul, reduceCtorEq, Nat.reduceDiv, Nat.reduceLeDiff, Nat.reduceLT, Nat.reduceSub, n88]; exact g88
      · simp only [go_sem, ↓reduceIte, reduceIte, Nat.reduceEqDiff, Nat.reduceAdd, Nat.reduceMul, reduceCtorEq, Nat.reduceDiv, Nat.reduceLeDiff, Nat.reduceLT, Nat.reduceSub, m10, m11, List.map_append]
      · simp only [go_sem, ↓reduceIte, reduceIte, Nat.reduceEqDiff, Nat.reduceAdd, Nat.reduceMul, reduceCtorEq, Nat.reduceDiv, Nat.reduceLeDiff, Nat.reduceLT, Nat.reduceSub]
        rw [set_map] at hmset
        rw [hmset]

end Go.Ev.YtadneamkkepknaaC
