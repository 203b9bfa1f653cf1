/- What Delay answers, the reference's Ends and Delay, and the comparisons of lists. Contracts; conditions stand in each. -/
import Derived.Test.YtadneamkkepknaaL5Prog2
set_option linter.unusedSimpArgs false
set_option linter.unusedVariables false
namespace Go.Ev.YtadneamkkepknaaC
open Go Go.Proofs

attribute [local irreducible] Res.all evC evLoop evOps evOper evOp evFn evCall freeze G GO GV GP GC R
set_option maxRecDepth 100000

/-! ### 63, 62: best -/
theorem con_63 (x y : Int) : Con T 1 63 ([] ++ [.int .i64 x, .int .i64 y] ++ []) (.bool (decide (x > y))) := by
  refine con_intro t63 fun n hn V hV => ?_
  simp (disch := first | assumption | omega) only [c63, go_sem, ↓reduceIte, reduceIte, Nat.reduceEqDiff, Nat.reduceAdd, Nat.reduceMul, reduceCtorEq, Nat.reduceDiv, Nat.reduceLeDiff, Nat.reduceLT, Nat.reduceSub]
  exact hV _ _ (frz_bool _ _ _)

theorem con_62 (xs : List Int) (hl : xs.length ≤ 1000) (h0 : 0 < xs.length) : Con T 2 62 [ints xs, .clo 63 [] []] (.int .i64 (maxL xs)) := by
  refine con_intro t62 fun n hn V hV => ?_
  obtain ⟨a, ha⟩ := get_ex h0
  have z : asNat (.int .i64 0) = some 0 := rfl
  have h1 : (1 : Int) ≤ xs.length := by omega
  have hz1 : (0 : Int) ≤ 1 := by omega
  have hn1 : Int.toNat 1 = 1 := rfl
  simp (disch := first | assumption | omega) only [c62, go_sem, ↓reduceIte, reduceIte, Nat.reduceEqDiff, Nat.reduceAdd, Nat.reduceMul, reduceCtorEq, Nat.reduceDiv, Nat.reduceLeDiff, Nat.reduceLT, Nat.reduceSub, z, ha, h1, hz1, hn1, ← List.map_drop, List.length_drop]
  refine m_loop (fun M st => ∃ (k : Nat) (m : Int), M = xs.length - 1 - k ∧ k ≤ xs.length - 1 ∧ At st.env [(0, ints xs), (1, .clo 63 [] []), (5, .int .i64 m), (12, ints (xs.drop 1)), (13, .int .i64 (xs.length - 1 : Nat)), (14, .int .i64 k)] ∧
    ((xs.drop 1).drop k).foldl (fun m x => if x > m then x else m) m = maxL xs) (xs.length - 1) (by omega) ⟨0, a, by simp, by omega, by simp [go_sem, ↓reduceIte, reduceIte, Nat.reduceEqDiff, Nat.reduceAdd, Nat.reduceMul, reduceCtorEq, Nat.reduceDiv, Nat.reduceLeDiff, Nat.reduceLT, Nat.reduceSub], ?_⟩ ?_
  · have := drop_cons ha
    rw [List.drop_zero] at this
    conv => rhs; rw [this, maxL]
    rfl
  rintro M e h hM ⟨k, m, rfl, hk, hE, hR⟩ P hP
  simp only [At_cons, At_nil] at hE
  obtain ⟨h0, h1, h5, h12, h13, h14, -⟩ := hE
  by_cases hlt : k < xs.length - 1
  · obtain ⟨x, hx⟩ := get_ex (l := xs.drop 1) (i := k) (by simp; omega)
    rw [drop_cons hx, List.foldl_cons] at hR
    have hlt' : (k : Int) < ((xs.length - 1 : Nat) : Int) := by omega
    simp (disch := first | assumption | omega) only [go_sem, ↓reduceIte, reduceIte, Nat.reduceEqDiff, Nat.reduceAdd, Nat.reduceMul, reduceCtorEq, Nat.reduceDiv, Nat.reduceLeDiff, Nat.reduceLT, Nat.reduceSub, h0, h1, h5, h12, h13, h14, hlt, hx]
    refine gp_con (con_63 x m) (by omega) (fz_int _ _ _ (fz_int _ _ _ (fz_nil _))) (or_pb _ _) ?_
    by_cases hgt : x > m
    · rw [if_pos hgt] at hR
      simp (disch := first | assumption | omega) only [go_sem, ↓reduceIte, reduceIte, Nat.reduceEqDiff, Nat.reduceAdd, Nat.reduceMul, reduceCtorEq, Nat.reduceDiv, Nat.reduceLeDiff, Nat.reduceLT, Nat.reduceSub, h0, h1, h5, h12, h13, h14, hgt]
      exact hP (xs.length - 1 - (k + 1)) _ (by omega) ⟨k + 1, _, rfl, by omega, by simp only [go_sem, ↓reduceIte, reduceIte, Nat.reduceEqDiff, Nat.reduceAdd, Nat.reduceMul, reduceCtorEq, Nat.reduceDiv, Nat.reduceLeDiff, Nat.reduceLT, Nat.reduceSub, h0, h1, h12, h13], hR⟩
    · rw [if_neg hgt] at hR
      simp (disch := first | assumption | omega) only [go_sem, ↓reduceIte, reduceIte, Nat.reduceEqDiff, Nat.reduceAdd, Nat.reduceMul, reduceCtorEq, Nat.reduceDiv, Nat.reduceLeDiff, Nat.reduceLT, Nat.reduceSub, h0, h1, h5, h12, h13, h14, hgt]
      exact hP (xs.length - 1 - (k + 1)) _ (by omega) ⟨k + 1, _, rfl, by omega, by simp only [go_sem, ↓reduceIte, reduceIte, Nat.reduceEqDiff, Nat.reduceAdd, Nat.reduceMul, reduceCtorEq, Nat.reduceDiv, Nat.reduceLeDiff, Nat.reduceLT, Nat.reduceSub, h0, h1, h5, h12, h13], hR⟩
  · simp (disch := first | assumption | omega) only [go_sem, ↓reduceIte, reduceIte, Nat.reduceEqDiff, Nat.reduceAdd, Nat.reduceMul, reduceCtorEq, Nat.reduceDiv, Nat.reduceLeDiff, Nat.reduceLT, Nat.reduceSub, h0, h1, h5, h12, h13, h14, hlt]
    rw [List.drop_eq_nil_of_le (by simp; omega)] at hR
    exact hV _ _ (by rw [frz_int, ← hR]; rfl)

/-! ### 21: Delay -/
theorem refDelay_zero (l : List Order) (s w : List Int) (h : chkWork l s w = 0) : Valid l ∧ Seq l.length s ∧ w.length = l.length ∧ workOk l w = true := by
  unfold chkWork at h
  split at h
  · next h1 => exact (h1 h).elim
  · next h1 =>
    split at h
    · cases h
    · split at h
      · next h2 h3 => exact ⟨((chkSeq_zero l s).1 (by omega)).1, ((chkSeq_zero l s).1 (by omega)).2, by omega, h3⟩
      · cases h

def delayV (l : List Order) (s w : List Int) : AV := .tuple [.int .i64 (refDelay l s w).1, .int .i64 (refDelay l s w).2]
theorem con_21 (l : List Order) (s w : List Int) (hl : l.length ≤ 15) (hs : s.length ≤ 15) : Con T 12 21 [ords l, ints s, ints w] (delayV l s w) := by
  refine con_intro t21 fun n hn V hV => ?_
  replace hV : ∀ a b h, a = (refDelay l s w).1 → b = (refDelay l s w).2 → V (.tuple [.int .i64 a, .int .i64 b], h) := fun a b h e1 e2 => hV _ _ (by rw [e1, e2]; exact frz_two (frz_int _ _ _ _) (frz_int _ _ _ _))
  simp (disch := first | assumption | omega) only [c21, go_sem, ↓reduceIte, reduceIte, Nat.reduceEqDiff, Nat.reduceAdd, Nat.reduceMul, reduceCtorEq, Nat.reduceDiv, Nat.reduceLeDiff, Nat.reduceLT, Nat.reduceSub]
  refine gp_raw (raw_19 l s w hl hs) hn ?_
  rintro v h' (⟨hc, rfl⟩ | ⟨hc, key, ver, hkey, rfl, hH⟩)
  · have hc' : (chkWork l s w != 0) = true := by simp [hc]
    simp (disch := first | assumption | omega) only [go_sem, ↓reduceIte, reduceIte, Nat.reduceEqDiff, Nat.reduceAdd, Nat.reduceMul, reduceCtorEq, Nat.reduceDiv, Nat.reduceLeDiff, Nat.reduceLT, Nat.reduceSub, hc']
    exact hV _ _ _ (by rw [refDelay, if_pos hc]) (by rw [refDelay, if_pos hc])
  · have hc' : ((0 : Int) != 0) = false := rfl
    obtain ⟨hval, hseq, hwl, hwo⟩ := refDelay_zero l s w hc
    have hsl := hseq.len
    have hwb := workOk_of hwl hwo hval.ok
    by_cases hl0 : l.length = 0
    · have hl0' : ((l.length : Int) == 0) = true := beq_iff_eq.2 (by omega)
      simp (disch := first | assumption | omega) only [go_sem, ↓reduceIte, reduceIte, Nat.reduceEqDiff, Nat.reduceAdd, Nat.reduceMul, reduceCtorEq, Nat.reduceDiv, Nat.reduceLeDiff, Nat.reduceLT, Nat.reduceSub, hc', hl0']
      exact hV _ _ _ (by rw [refDelay, if_neg (by omega), if_pos hl0]) (by rw [refDelay, if_neg (by omega), if_pos hl0])
    · have hl0' : ((l.length : Int) == 0) = false := beq_eq_false_iff_ne.2 (by omega)
      simp (disch := first | assumption | omega) only [go_sem, ↓reduceIte, reduceIte, Nat.reduceEqDiff, Nat.reduceAdd, Nat.reduceMul, reduceCtorEq, Nat.reduceDiv, Nat.reduceLeDiff, Nat.reduceLT, Nat.reduceSub, hc', hl0']
      have hk : 45 ≤ key := by simpa using hkey
      have hk1 : ¬ (11 = key) := by omega
      have hk2 : ¬ (key = 11) := by omega
      have hel : (endsOf s w).length = l.length := by rw [endsOf_length, hsl]
      have hbd := endsOf_bd hwb s hs
      have hdl : (delays l (endsOf s w)).length = l.length := by simp [delays, hel]
      have hstep : ∀ (k : Nat) (o : Order) (x : Int), l[k]? = some o → (endsOf s w)[k]? = some x → (delays l (endsOf s w))[k]? = some (x - o.due) := fun k o x h1 h2 => by simp [delays, List.getElem?_zipWith, h1, h2]
      refine m_loop (fun M st => ∃ (k : Nat) (c : List Int), M = l.length - k ∧ k ≤ l.length ∧ At st.env [(0, ords l), (8, .oslice key ver none 0 s.length (some s.length)), (27, ords l), (28, .int .i64 l.length), (29, .int .i64 k)] ∧ getH st.heap key = .cells ver (c.map (.int .i64)) ∧ c.length = l.length ∧
        ∀ j, j < l.length → c[j]? = if j < k then (delays l (endsOf s w))[j]? else (endsOf s w)[j]?) l.length (by omega) ⟨0, endsOf s w, by simp, by omega, by simp [go_sem, ↓reduceIte, reduceIte, Nat.reduceEqDiff, Nat.reduceAdd, Nat.reduceMul, reduceCtorEq, Nat.reduceDiv, Nat.reduceLeDiff, Nat.reduceLT, Nat.reduceSub], hH, hel, by simp⟩ ?_
      rintro M e h hM ⟨k, c, rfl, hk, hE, hH, hcl, hcc⟩ P hP
      simp only [At_cons, At_nil] at hE hH
      obtain ⟨h0, h8, h27, h28, h29, -⟩ := hE
      by_cases hlt : k < l.length
      · obtain ⟨o, ho⟩ := get_ex hlt
        obtain ⟨x, hx⟩ := get_ex (l := endsOf s w) (i := k) (by omega)
        have ho' := hval.ok o (List.mem_of_getElem? ho)
        have hod := ho'.d1
        have hod0 := ho'.d0
        have hx' := hbd x (List.mem_of_getElem? hx)
        have hck : c[k]? = some x := by rw [hcc k hlt, if_neg (by omega), hx]
        have hks : k < s.length := by omega
        have hkc : k + 1 ≤ c.length := by omega
        simp (disch := first | assumption | omega) only [go_sem, ↓reduceIte, reduceIte, Nat.reduceEqDiff, Nat.reduceAdd, Nat.reduceMul, reduceCtorEq, Nat.reduceDiv, Nat.reduceLeDiff, Nat.reduceLT, Nat.reduceSub, h0, h8, h27, h28, h29, hlt, hks, ho, oAV, hH, hk1, hk2, hck, hkc]
        refine hP (l.length - (k + 1)) _ (by omega) ⟨k + 1, c.set k (x - o.due), rfl, by omega, by simp only [go_sem, ↓reduceIte, reduceIte, Nat.reduceEqDiff, Nat.reduceAdd, Nat.reduceMul, reduceCtorEq, Nat.reduceDiv, Nat.reduceLeDiff, Nat.reduceLT, Nat.reduceSub, h0, h8, h27, h28], by simp only [go_sem, ↓reduceIte, reduceIte, Nat.reduceEqDiff, Nat.reduceAdd, Nat.reduceMul, reduceCtorEq, Nat.reduceDiv, Nat.reduceLeDiff, Nat.reduceLT, Nat.reduceSub, hk1, hk2, hH], by simp [hcl], ?_⟩
        intro j hj
        rw [List.getElem?_set]
        by_cases hjk : k = j
        · subst hjk
          rw [if_pos rfl, if_pos (by omega), if_pos (by omega), hstep k o x ho hx]
        · rw [if_neg hjk, hcc j hj]
          by_cases hj2 : j < k
          · rw [if_pos hj2, if_pos (by omega)]
          · rw [if_neg hj2, if_neg (by omega)]
      · simp (disch := first | assumption | omega) only [go_sem, ↓reduceIte, reduceIte, Nat.reduceEqDiff, Nat.reduceAdd, Nat.reduceMul, reduceCtorEq, Nat.reduceDiv, Nat.reduceLeDiff, Nat.reduceLT, Nat.reduceSub, h0, h8, h27, h28, h29, hlt]
        have hcd : c = delays l (endsOf s w) := by
          apply List.ext_getElem?
          intro j
          by_cases hj : j < l.length
          · rw [hcc j hj, if_pos (by omega)]
          · rw [List.getElem?_eq_none (by omega), List.getElem?_eq_none (by omega)]
        refine gp_con (con_62 c (by omega) (by omega)) (by omega) (fz_cons (frz_own hH (by omega)) (fz_cons (frz_clo (mz_nil _ _) (mz_nil _ _)) (fz_nil _))) (or_pi _ _ _) ?_
        simp (disch := first | assumption | omega) only [go_sem, ↓reduceIte, reduceIte, Nat.reduceEqDiff, Nat.reduceAdd, Nat.reduceMul, reduceCtorEq, Nat.reduceDiv, Nat.reduceLeDiff, Nat.reduceLT, Nat.reduceSub]
        exact hV _ _ _ (by rw [refDelay, if_neg (by omega), if_neg hl0, delayOf, hcd]) (by rw [refDelay, if_neg (by omega), if_neg hl0])

/-! ### 20, 22: the reference's Ends and Delay -/
theorem con_20 (l : List Order) (s w : List Int) (hl : l.length ≤ 15) (hs : s.length ≤ 15) : Con T 4 20 [ords l, ints s, ints w] (endsV l s w) := by
  refine con_intro t20 fun n hn V hV => ?_
  unfold endsV refEnds at hV
  by_cases hc : chkWork l s w = 0
  · obtain ⟨hval, hseq, hwl, hwo⟩ := refDelay_zero l s w hc
    have hsl := hseq.len
    have hwb := workOk_of hwl hwo hval.ok
    have hslt : ∀ x ∈ s, 0 ≤ x ∧ x < s.length := by rw [hsl]; exact hseq.lt.1
    have hc' : (chkWork l s w != 0) = false := by simp [hc]
    have hws : w.length = s.length := by omega
    simp (disch := first | assumption | omega) only [c20, go_sem, ↓reduceIte, reduceIte, Nat.reduceEqDiff, Nat.reduceAdd, Nat.reduceMul, reduceCtorEq, Nat.reduceDiv, Nat.reduceLeDiff, Nat.reduceLT, Nat.reduceSub, cs_60, cs_61, hc']
    refine hV _ _ ?_
    rw [if_neg (by omega)]
    exact frz_two (frz_slice _ _ _ _ _) (frz_int _ _ _ _)
  · have hc' : (chkWork l s w != 0) = true := by simp [hc]
    simp (disch := first | assumption | omega) only [c20, go_sem, ↓reduceIte, reduceIte, Nat.reduceEqDiff, Nat.reduceAdd, Nat.reduceMul, reduceCtorEq, Nat.reduceDiv, Nat.reduceLeDiff, Nat.reduceLT, Nat.reduceSub, cs_60, hc']
    refine hV _ _ ?_
    rw [if_pos hc]
    exact frz_two (frz_slice _ _ _ _ _) (frz_int _ _ _ _)

theorem cs_64 {n base : Nat} {Q : EX × St → Prop} {d : Option Nat} {L : List IOper} {ks : List Kont} {e : Env} {h : Heap} {l : List Order} {s w : List Int} {x y z : Bool} (hn : 2 ≤ n) (hl : l.length ≤ 15) (h0 : 0 < l.length) (hsl : s.length = l.length) (hw : w.length = l.length) (hs : ∀ x ∈ s, 0 ≤ x ∧ x < s.length) (hv : ∀ x ∈ w, 0 ≤ x ∧ x ≤ 1000)
    (hd : ∀ o ∈ l, 0 ≤ o.due ∧ o.due ≤ 100000) : GP (evCall T n) base Q d L ks e (evCall T n false (.fn 64) [.slice (some 3) (l.map oAV) x, .slice none (s.map (.int .i64)) y, .slice none (w.map (.int .i64)) z] h) = GO (evCall T n) base Q L ks ⟨setDst e d (.int .i64 (delayOf l s w)), h⟩ :=
  gp_eq (con_64 l s w hl h0 hsl hw hs hv hd (endsOf_bd hv s (by omega))) hn (by repeat (first | exact fz_nil _ | refine fz_slice _ _ _ _ ?_ | refine fz_int _ _ _ ?_)) rfl

theorem con_22 (l : List Order) (s w : List Int) (hl : l.length ≤ 15) (hs : s.length ≤ 15) : Con T 4 22 [ords l, ints s, ints w] (delayV l s w) := by
  refine con_intro t22 fun n hn V hV => ?_
  replace hV : ∀ a b h, a = (refDelay l s w).1 → b = (refDelay l s w).2 → V (.tuple [.int .i64 a, .int .i64 b], h) := fun a b h e1 e2 => hV _ _ (by rw [e1, e2]; exact frz_two (frz_int _ _ _ _) (frz_int _ _ _ _))
  by_cases hc : chkWork l s w = 0
  · obtain ⟨hval, hseq, hwl, hwo⟩ := refDelay_zero l s w hc
    have hsl := hseq.len
    have hwb := workOk_of hwl hwo hval.ok
    have hslt : ∀ x ∈ s, 0 ≤ x ∧ x < s.length := by rw [hsl]; exact hseq.lt.1
    have hc' : (chkWork l s w != 0) = false := by simp [hc]
    have hdue : ∀ o ∈ l, 0 ≤ o.due ∧ o.due ≤ 100000 := fun o ho => by
      have := (hval.ok o ho).d0
      have := (hval.ok o ho).d1
      omega
    by_cases hl0 : l.length = 0
    · have hl0' : ((l.length : Int) == 0) = true := beq_iff_eq.2 (by omega)
      simp (disch := first | assumption | omega) only [c22, go_sem, ↓reduceIte, reduceIte, Nat.reduceEqDiff, Nat.reduceAdd, Nat.reduceMul, reduceCtorEq, Nat.reduceDiv, Nat.reduceLeDiff, Nat.reduceLT, Nat.reduceSub, cs_60, hc', hl0']
      exact hV _ _ _ (by rw [refDelay, if_neg (by omega), if_pos hl0]) (by rw [refDelay, if_neg (by omega), if_pos hl0])
    · have hl0' : ((l.length : Int) == 0) = false := beq_eq_false_iff_ne.2 (by omega)
      simp (disch := first | assumption | omega) only [c22, go_sem, ↓reduceIte, reduceIte, Nat.reduceEqDiff, Nat.reduceAdd, Nat.reduceMul, reduceCtorEq, Nat.reduceDiv, Nat.reduceLeDiff, Nat.reduceLT, Nat.reduceSub, cs_60, cs_64, hc', hl0']
      exact hV _ _ _ (by rw [refDelay, if_neg (by omega), if_neg hl0]) (by rw [refDelay, if_neg (by omega), if_neg hl0])
  · have hc' : (chkWork l s w != 0) = true := by simp [hc]
    simp (disch := first | assumption | omega) only [c22, go_sem, ↓reduceIte, reduceIte, Nat.reduceEqDiff, Nat.reduceAdd, Nat.reduceMul, reduceCtorEq, Nat.reduceDiv, Nat.reduceLeDiff, Nat.reduceLT, Nat.reduceSub, cs_60, hc']
    exact hV _ _ _ (by rw [refDelay, if_pos hc]) (by rw [refDelay, if_pos hc])

/-! ### 25, 30: two lists are equal -/
theorem eqL_step {a b : List Int} {k : Nat} {x y : Int} (hx : a[k]? = some x) (hy : b[k]? = some y) : eqL (a.drop k) (b.drop k) = (x == y && eqL (a.drop (k + 1)) (b.drop (k + 1))) := by
  rw [drop_cons hx, drop_cons hy, Bool.eq_iff_iff]
  simp [eqL]

theorem con_25 (a b : List Int) (ha : a.length ≤ 1000) (hb : b.length ≤ 1000) : Con T 1 25 [ints a, ints b] (.bool (eqL a b)) := by
  refine con_intro t25 fun n hn V hV => ?_
  by_cases hl : a.length = b.length
  · have hl' : ((a.length : Int) != b.length) = false := by simp [hl]
    simp (disch := first | assumption | omega) only [c25, go_sem, ↓reduceIte, reduceIte, Nat.reduceEqDiff, Nat.reduceAdd, Nat.reduceMul, reduceCtorEq, Nat.reduceDiv, Nat.reduceLeDiff, Nat.reduceLT, Nat.reduceSub, hl']
    refine m_loop (fun M st => ∃ k : Nat, M = a.length - k ∧ k ≤ a.length ∧ At st.env [(0, ints a), (1, ints b), (5, .int .i64 k)] ∧ eqL a b = eqL (a.drop k) (b.drop k)) a.length (by omega) ⟨0, by simp, by omega, by simp [go_sem, ↓reduceIte, reduceIte, Nat.reduceEqDiff, Nat.reduceAdd, Nat.reduceMul, reduceCtorEq, Nat.reduceDiv, Nat.reduceLeDiff, Nat.reduceLT, Nat.reduceSub], rfl⟩ ?_
    rintro M e h hM ⟨k, rfl, hk, hE, hA⟩ P hP
    simp only [At_cons, At_nil] at hE
    obtain ⟨h0, h1, h5, -⟩ := hE
    by_cases hlt : k < a.length
    · obtain ⟨x, hx⟩ := get_ex hlt
      obtain ⟨y, hy⟩ := get_ex (l := b) (i := k) (by omega)
      rw [eqL_step hx hy] at hA
      by_cases hxy : x = y
      · have hb : (x != y) = false := by simp [hxy]
        simp (disch := first | assumption | omega) only [go_sem, ↓reduceIte, reduceIte, Nat.reduceEqDiff, Nat.reduceAdd, Nat.reduceMul, reduceCtorEq, Nat.reduceDiv, Nat.reduceLeDiff, Nat.reduceLT, Nat.reduceSub, h0, h1, h5, hlt, hx, hy, hb]
        exact hP (a.length - (k + 1)) _ (by omega) ⟨k + 1, rfl, by omega, by simp only [go_sem, ↓reduceIte, reduceIte, Nat.reduceEqDiff, Nat.reduceAdd, Nat.reduceMul, reduceCtorEq, Nat.reduceDiv, Nat.reduceLeDiff, Nat.reduceLT, Nat.reduceSub, h0, h1], by rw [hA]; simp [hxy]⟩
      · have hb : (x != y) = true := by simp [hxy]
        simp (disch := first | assumption | omega) only [go_sem, ↓reduceIte, reduceIte, Nat.reduceEqDiff, Nat.reduceAdd, Nat.reduceMul, reduceCtorEq, Nat.reduceDiv, Nat.reduceLeDiff, Nat.reduceLT, Nat.reduceSub, h0, h1, h5, hlt, hx, hy, hb]
        refine hV _ _ ?_
        rw [frz_bool, hA]
        simp [hxy]
    · simp (disch := first | assumption | omega) only [go_sem, ↓reduceIte, reduceIte, Nat.reduceEqDiff, Nat.reduceAdd, Nat.reduceMul, reduceCtorEq, Nat.reduceDiv, Nat.reduceLeDiff, Nat.reduceLT, Nat.reduceSub, h0, h1, h5, hlt]
      refine hV _ _ ?_
      rw [frz_bool, hA, List.drop_eq_nil_of_le (by omega), List.drop_eq_nil_of_le (by omega)]
      rfl
  · have hl' : ((a.length : Int) != b.length) = true := by simp; omega
    simp (disch := first | assumption | omega) only [c25, go_sem, ↓reduceIte, reduceIte, Nat.reduceEqDiff, Nat.reduceAdd, Nat.reduceMul, reduceCtorEq, Nat.reduceDiv, Nat.reduceLeDiff, Nat.reduceLT, Nat.reduceSub, hl']
    refine hV _ _ ?_
    have : eqL a b = false := by simp [eqL]; intro h; exact hl (by rw [h])
    rw [frz_bool, this]

theorem con_30 (a b : List Int) (ha : a.length ≤ 1000) (hb : b.length ≤ 1000) : Con T 1 30 [ints a, ints b] (.bool (eqL a b)) := by
  refine con_intro t30 fun n hn V hV => ?_
  by_cases hl : a.length = b.length
  · have hl' : ((a.length : Int) != b.length) = false := by simp [hl]
    simp (disch := first | assumption | omega) only [c30, go_sem, ↓reduceIte, reduceIte, Nat.reduceEqDiff, Nat.reduceAdd, Nat.reduceMul, reduceCtorEq, Nat.reduceDiv, Nat.reduceLeDiff, Nat.reduceLT, Nat.reduceSub, hl']
    refine m_loop (fun M st => ∃ k : Nat, M = a.length - k ∧ k ≤ a.length ∧ At st.env [(0, ints a), (1, ints b), (5, .int .i64 k)] ∧ eqL a b = eqL (a.drop k) (b.drop k)) a.length (by omega) ⟨0, by simp, by omega, by simp [go_sem, ↓reduceIte, reduceIte, Nat.reduceEqDiff, Nat.reduceAdd, Nat.reduceMul, reduceCtorEq, Nat.reduceDiv, Nat.reduceLeDiff, Nat.reduceLT, Nat.reduceSub], rfl⟩ ?_
    rintro M e h hM ⟨k, rfl, hk, hE, hA⟩ P hP
    simp only [At_cons, At_nil] at hE
    obtain ⟨h0, h1, h5, -⟩ := hE
    by_cases hlt : k < a.length
    · obtain ⟨x, hx⟩ := get_ex hlt
      obtain ⟨y, hy⟩ := get_ex (l := b) (i := k) (by omega)
      rw [eqL_step hx hy] at hA
      by_cases hxy : x = y
      · have hb : (x != y) = false := by simp [hxy]
        simp (disch := first | assumption | omega) only [go_sem, ↓reduceIte, reduceIte, Nat.reduceEqDiff, Nat.reduceAdd, Nat.reduceMul, reduceCtorEq, Nat.reduceDiv, Nat.reduceLeDiff, Nat.reduceLT, Nat.reduceSub, h0, h1, h5, hlt, hx, hy, hb]
        exact hP (a.length - (k + 1)) _ (by omega) ⟨k + 1, rfl, by omega, by simp only [go_sem, ↓reduceIte, reduceIte, Nat.reduceEqDiff, Nat.reduceAdd, Nat.reduceMul, reduceCtorEq, Nat.reduceDiv, Nat.reduceLeDiff, Nat.reduceLT, Nat.reduceSub, h0, h1], by rw [hA]; simp [hxy]⟩
      · have hb : (x != y) = true := by simp [hxy]
        simp (disch := first | assumption | omega) only [go_sem, ↓reduceIte, reduceIte, Nat.reduceEqDiff, Nat.reduceAdd, Nat.reduceMul, reduceCtorEq, Nat.reduceDiv, Nat.reduceLeDiff, Nat.reduceLT, Nat.reduceSub, h0, h1, h5, hlt, hx, hy, hb]
        refine hV _ _ ?_
        rw [frz_bool, hA]
        simp [hxy]
    · simp (disch := first | assumption | omega) only [go_sem, ↓reduceIte, reduceIte, Nat.reduceEqDiff, Nat.reduceAdd, Nat.reduceMul, reduceCtorEq, Nat.reduceDiv, Nat.reduceLeDiff, Nat.reduceLT, Nat.reduceSub, h0, h1, h5, hlt]
      refine hV _ _ ?_
      rw [frz_bool, hA, List.drop_eq_nil_of_le (by omega), List.drop_eq_nil_of_le (by omega)]
      rfl
  · have hl' : ((a.length : Int) != b.length) = true := by simp; omega
    simp (disch := first | assumption | omega) only [c30, go_sem, ↓reduceIte, reduceIte, Nat.reduceEqDiff, Nat.reduceAdd, Nat.reduceMul, reduceCtorEq, Nat.reduceDiv, Nat.reduceLeDiff, Nat.reduceLT, Nat.reduceSub, hl']
    refine hV _ _ ?_
    have : eqL a b = false := by simp [eqL]; intro h; exact hl (by rw [h])
    rw [frz_bool, this]

/-! ### 17: great -/
theorem con_17 (l : List Order) (hl : l.length ≤ maxLen) : Con T 1 17 [ords l] (.bool (decide (15 < l.length))) := by
  refine con_intro t17 fun n hn V hV => ?_
  simp (disch := first | assumption | omega) only [c17, go_sem, ↓reduceIte, reduceIte, Nat.reduceEqDiff, Nat.reduceAdd, Nat.reduceMul, reduceCtorEq, Nat.reduceDiv, Nat.reduceLeDiff, Nat.reduceLT, Nat.reduceSub]
  refine hV _ _ ?_
  rw [frz_bool]
  congr 2
  rw [Bool.eq_iff_iff]
  simp
  omega

end Go.Ev.YtadneamkkepknaaC
