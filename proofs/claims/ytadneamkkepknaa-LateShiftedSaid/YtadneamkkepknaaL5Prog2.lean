/- What the program's functions answer: ends and delays. Contracts; conditions stand in each. -/
import Derived.Test.YtadneamkkepknaaL5Prog1
set_option linter.unusedSimpArgs false
set_option linter.unusedVariables false
namespace Go.Ev.YtadneamkkepknaaC
open Go Go.Proofs

attribute [local irreducible] Res.all evC evLoop evOps evOper evOp evFn evCall freeze G GO GV GP GC R
set_option maxRecDepth 100000

theorem getH_new (h : Heap) (n k : Nat) : getH (h ++ List.replicate n .none) (h.length + k) = .none := by
  rw [getH_append_none]
  exact getH_ge _ _ (by omega)

/-! ### 59: ends -/
def P59 (s w : List Int) (h : Heap) (v : AV) (h' : Heap) : Prop := ∃ key ver, h.length ≤ key ∧ v = .oslice key ver none 0 s.length (some s.length) ∧ getH h' key = .cells ver ((endsOf s w).map (.int .i64))

theorem g_59 (s w : List Int) (hl : s.length ≤ 15) (hw : w.length = s.length) (hs : ∀ x ∈ s, 0 ≤ x ∧ x < s.length) (hv : ∀ x ∈ w, 0 ≤ x ∧ x ≤ 1000) : ∀ n, 0 ≤ n → ∀ (h : Heap) (V : AV × Heap → Prop), (∀ v h', P59 s w h v h' → V (v, h')) →
    G (evCall T n) h.length (Fin c59.results V) c59.body [] ⟨[ints s, ints w], h ++ List.replicate c59.ntmps .none⟩ := by
  intro n hn h0 V hV
  have hnew := getH_new h0 30 30
  simp (disch := first | assumption | omega) only [c59, go_sem, ↓reduceIte, reduceIte, Nat.reduceEqDiff, Nat.reduceAdd, Nat.reduceMul, reduceCtorEq, Nat.reduceDiv, Nat.reduceLeDiff, Nat.reduceLT, Nat.reduceSub, hnew]
  refine m_loop (fun M st => ∃ (k : Nat) (day : Int) (out : List Int), M = s.length - k ∧ k ≤ s.length ∧ 0 ≤ day ∧ day ≤ 1000 * k ∧ out.length = s.length ∧
    At st.env [(0, ints s), (1, ints w), (5, .oslice (h0.length + 30) 0 none 0 s.length (some s.length)), (6, .int .i64 day), (12, ints s), (13, .int .i64 s.length), (14, .int .i64 k)] ∧ getH st.heap (h0.length + 30) = .cells 0 (out.map (.int .i64)) ∧ runEnds w (s.drop k) day out = endsOf s w) s.length (by omega)
    ⟨0, 0, List.replicate s.length 0, by simp, by omega, by simp, by simp, by simp, by simp [go_sem, ↓reduceIte, reduceIte, Nat.reduceEqDiff, Nat.reduceAdd, Nat.reduceMul, reduceCtorEq, Nat.reduceDiv, Nat.reduceLeDiff, Nat.reduceLT, Nat.reduceSub], by simp [go_sem, ↓reduceIte, reduceIte, Nat.reduceEqDiff, Nat.reduceAdd, Nat.reduceMul, reduceCtorEq, Nat.reduceDiv, Nat.reduceLeDiff, Nat.reduceLT, Nat.reduceSub], rfl⟩ ?_
  rintro M e h hM ⟨k, day, out, rfl, hk, hd0, hd1, ho, hE, hH, hR⟩ P hP
  simp only [At_cons, At_nil] at hE hH
  obtain ⟨h0, h1, h5, h6, h12, h13, h14, -⟩ := hE
  by_cases hlt : k < s.length
  · obtain ⟨x, hx⟩ := get_ex hlt
    have hx' := hs x (List.mem_of_getElem? hx)
    obtain ⟨i, rfl⟩ := Int.eq_ofNat_of_zero_le hx'.1
    obtain ⟨y, hy⟩ := get_ex (l := w) (i := i) (by omega)
    have hy' := hv y (List.mem_of_getElem? hy)
    simp (disch := first | assumption | omega) only [go_sem, ↓reduceIte, reduceIte, Nat.reduceEqDiff, Nat.reduceAdd, Nat.reduceMul, reduceCtorEq, Nat.reduceDiv, Nat.reduceLeDiff, Nat.reduceLT, Nat.reduceSub, h0, h1, h5, h6, h12, h13, h14, hH, hlt, hx, hy]
    refine ⟨by omega, by omega, hP (s.length - (k + 1)) _ (by omega) ⟨k + 1, day + y, out.set i (day + y), rfl, by omega, by omega, by omega, by simp [ho], by simp only [go_sem, ↓reduceIte, reduceIte, Nat.reduceEqDiff, Nat.reduceAdd, Nat.reduceMul, reduceCtorEq, Nat.reduceDiv, Nat.reduceLeDiff, Nat.reduceLT, Nat.reduceSub, h0, h1, h5, h12, h13], by simp only [go_sem, ↓reduceIte, reduceIte, Nat.reduceEqDiff, Nat.reduceAdd, Nat.reduceMul, reduceCtorEq, Nat.reduceDiv, Nat.reduceLeDiff, Nat.reduceLT, Nat.reduceSub], ?_⟩⟩
    rw [← hR, drop_cons hx, runEnds]
    simp [hy]
  · simp (disch := first | assumption | omega) only [go_sem, ↓reduceIte, reduceIte, Nat.reduceEqDiff, Nat.reduceAdd, Nat.reduceMul, reduceCtorEq, Nat.reduceDiv, Nat.reduceLeDiff, Nat.reduceLT, Nat.reduceSub, h0, h1, h5, h6, h12, h13, h14, hH, hlt]
    refine hV _ _ ⟨_, _, Nat.le_add_right _ _, rfl, ?_⟩
    rw [List.drop_eq_nil_of_le (by omega)] at hR
    rw [hH, ← hR]
    rfl

theorem raw_59 (s w : List Int) (hl : s.length ≤ 15) (hw : w.length = s.length) (hs : ∀ x ∈ s, 0 ≤ x ∧ x < s.length) (hv : ∀ x ∈ w, 0 ≤ x ∧ x ≤ 1000) : Raw T 1 59 [ints s, ints w] (P59 s w) := raw_intro t59 (g_59 s w hl hw hs hv)
theorem con_59 (s w : List Int) (hl : s.length ≤ 15) (hw : w.length = s.length) (hs : ∀ x ∈ s, 0 ≤ x ∧ x < s.length) (hv : ∀ x ∈ w, 0 ≤ x ∧ x ≤ 1000) : Con T 1 59 [ints s, ints w] (ints (endsOf s w)) :=
  con_raw t59 (g_59 s w hl hw hs hv) fun v h' ⟨key, ver, _, hv, hH⟩ => by rw [hv]; exact frz_own hH (endsOf_length s w).symm

/-! ### 19: Ends -/
def P19 (l : List Order) (s w : List Int) (h : Heap) (v : AV) (h' : Heap) : Prop :=
  (chkWork l s w ≠ 0 ∧ v = .tuple [.slice none [] true, .int .i64 (chkWork l s w)]) ∨
  (chkWork l s w = 0 ∧ ∃ key ver, h.length ≤ key ∧ v = .tuple [.oslice key ver none 0 s.length (some s.length), .int .i64 0] ∧ getH h' key = .cells ver ((endsOf s w).map (.int .i64)))

theorem workOk_of {l : List Order} {w : List Int} (hl : w.length = l.length) (h : workOk l w = true) (ho : ∀ o ∈ l, Ok o) : ∀ x ∈ w, 0 ≤ x ∧ x ≤ 1000 := by
  induction l generalizing w with
  | nil => intro x hx; simp at hl; subst hl; cases hx
  | cons o l ih =>
    cases w with
    | nil => simp at hl
    | cons y w =>
      simp only [workOk, Bool.and_eq_true, decide_eq_true_eq] at h
      intro x hx
      rcases List.mem_cons.1 hx with rfl | hx
      · have := ho o List.mem_cons_self
        have h1 := this.lo
        have h2 := this.hi
        omega
      · exact ih (by simpa using hl) h.2 (fun o h => ho o (List.mem_cons_of_mem _ h)) x hx

theorem withinB_one (lo hi x : Int) : withinB lo hi [x] = (decide (lo ≤ x) && decide (x ≤ hi)) := by
  rw [Bool.eq_iff_iff]
  simp [withinB]

theorem cs_58' {n base : Nat} {Q : EX × St → Prop} {d : Option Nat} {L : List IOper} {ks : List Kont} {e : Env} {h : Heap} {lo hi x : Int} (hn : 4 ≤ n) :
    GP (evCall T n) base Q d L ks e (evCall T n false (.fn 58) [.int .i64 lo, .int .i64 hi, .slice none [.int .i64 x] true] h) = GO (evCall T n) base Q L ks ⟨setDst e d (.bool (decide (lo ≤ x) && decide (x ≤ hi))), h⟩ := by
  rw [← withinB_one]
  exact cs_58 (xs := [x]) hn (by simp)

theorem g_19 (l : List Order) (s w : List Int) (hl : l.length ≤ 15) (hs : s.length ≤ 15) : ∀ n, 10 ≤ n → ∀ (h : Heap) (V : AV × Heap → Prop), (∀ v h', P19 l s w h v h' → V (v, h')) →
    G (evCall T n) h.length (Fin c19.results V) c19.body [] ⟨[ords l, ints s, ints w], h ++ List.replicate c19.ntmps .none⟩ := by
  intro n hn hp V hV
  by_cases hc : chkSeq l s = 0
  · have hc' : (chkSeq l s != 0) = false := by simp [hc]
    obtain ⟨hval, hseq⟩ := (chkSeq_zero l s).1 hc
    have hsl := hseq.len
    have hslt : ∀ x ∈ s, 0 ≤ x ∧ x < s.length := by rw [hsl]; exact hseq.lt.1
    by_cases hlen : w.length = l.length
    · have hlen' : ((w.length : Int) != l.length) = false := by simp [hlen]
      simp (disch := first | assumption | omega) only [c19, go_sem, ↓reduceIte, reduceIte, Nat.reduceEqDiff, Nat.reduceAdd, Nat.reduceMul, reduceCtorEq, Nat.reduceDiv, Nat.reduceLeDiff, Nat.reduceLT, Nat.reduceSub, cs_57, hc', hlen']
      have hcs : chkWork l s w = if workOk l w then 0 else 3 := by
        rw [chkWork, if_neg (by simp [hc]), if_neg (by simp [hlen])]
      refine m_loop (fun M st => ∃ k : Nat, M = l.length - k ∧ k ≤ l.length ∧ hp.length ≤ st.heap.length ∧ At st.env [(0, ords l), (1, ints s), (2, ints w), (24, ords l), (25, .int .i64 l.length), (26, .int .i64 k)] ∧ workOk l w = workOk (l.drop k) (w.drop k)) l.length (by omega) ⟨0, by simp, by omega, by simp, by simp [go_sem, ↓reduceIte, reduceIte, Nat.reduceEqDiff, Nat.reduceAdd, Nat.reduceMul, reduceCtorEq, Nat.reduceDiv, Nat.reduceLeDiff, Nat.reduceLT, Nat.reduceSub], rfl⟩ ?_
      rintro M e h hM ⟨k, rfl, hk, hhp, hE, hA⟩ P hP
      simp only [At_cons, At_nil] at hE hhp
      obtain ⟨h0, h1, h2, h24, h25, h26, -⟩ := hE
      by_cases hlt : k < l.length
      · obtain ⟨o, ho⟩ := get_ex hlt
        obtain ⟨x, hx⟩ := get_ex (l := w) (i := k) (by omega)
        rw [workOk_step ho hx] at hA
        by_cases g1 : (decide (o.lo ≤ x) && decide (x ≤ o.hi)) = true
        · simp (disch := first | assumption | omega) only [go_sem, ↓reduceIte, reduceIte, Nat.reduceEqDiff, Nat.reduceAdd, Nat.reduceMul, reduceCtorEq, Nat.reduceDiv, Nat.reduceLeDiff, Nat.reduceLT, Nat.reduceSub, h0, h1, h2, h24, h25, h26, hlt, ho, hx, oAV, cs_58', g1]
          exact hP (l.length - (k + 1)) _ (by omega) ⟨k + 1, rfl, by omega, by simp only [go_sem, ↓reduceIte, reduceIte, Nat.reduceEqDiff, Nat.reduceAdd, Nat.reduceMul, reduceCtorEq, Nat.reduceDiv, Nat.reduceLeDiff, Nat.reduceLT, Nat.reduceSub]; omega, by simp only [go_sem, ↓reduceIte, reduceIte, Nat.reduceEqDiff, Nat.reduceAdd, Nat.reduceMul, reduceCtorEq, Nat.reduceDiv, Nat.reduceLeDiff, Nat.reduceLT, Nat.reduceSub, h0, h1, h2, h24, h25], by rw [hA, g1, Bool.true_and]⟩
        · simp (disch := first | assumption | omega) only [go_sem, ↓reduceIte, reduceIte, Nat.reduceEqDiff, Nat.reduceAdd, Nat.reduceMul, reduceCtorEq, Nat.reduceDiv, Nat.reduceLeDiff, Nat.reduceLT, Nat.reduceSub, h0, h1, h2, h24, h25, h26, hlt, ho, hx, oAV, cs_58', g1]
          have : chkWork l s w = 3 := by rw [hcs, hA, Bool.eq_false_iff.2 g1]; rfl
          exact hV _ _ (.inl ⟨by omega, by rw [this]⟩)
      · simp (disch := first | assumption | omega) only [go_sem, ↓reduceIte, reduceIte, Nat.reduceEqDiff, Nat.reduceAdd, Nat.reduceMul, reduceCtorEq, Nat.reduceDiv, Nat.reduceLeDiff, Nat.reduceLT, Nat.reduceSub, h0, h1, h2, h24, h25, h26, hlt]
        have hok : workOk l w = true := by rw [hA, List.drop_eq_nil_of_le (by omega)]; rfl
        refine gp_raw (raw_59 s w hs (by omega) hslt (workOk_of hlen hok hval.ok)) (by omega) ?_
        rintro v h' ⟨key, ver, hkey, rfl, hH⟩
        simp (disch := first | assumption | omega) only [go_sem, ↓reduceIte, reduceIte, Nat.reduceEqDiff, Nat.reduceAdd, Nat.reduceMul, reduceCtorEq, Nat.reduceDiv, Nat.reduceLeDiff, Nat.reduceLT, Nat.reduceSub]
        exact hV _ _ (.inr ⟨by rw [hcs, hok]; rfl, key, ver, by omega, rfl, hH⟩)
    · have hlen' : ((w.length : Int) != l.length) = true := by simp; omega
      simp (disch := first | assumption | omega) only [c19, go_sem, ↓reduceIte, reduceIte, Nat.reduceEqDiff, Nat.reduceAdd, Nat.reduceMul, reduceCtorEq, Nat.reduceDiv, Nat.reduceLeDiff, Nat.reduceLT, Nat.reduceSub, cs_57, hc', hlen']
      have : chkWork l s w = 15 := by rw [chkWork, if_neg (by simp [hc]), if_pos (by omega)]
      exact hV _ _ (.inl ⟨by omega, by rw [this]⟩)
  · have hc' : (chkSeq l s != 0) = true := by simp [hc]
    simp (disch := first | assumption | omega) only [c19, go_sem, ↓reduceIte, reduceIte, Nat.reduceEqDiff, Nat.reduceAdd, Nat.reduceMul, reduceCtorEq, Nat.reduceDiv, Nat.reduceLeDiff, Nat.reduceLT, Nat.reduceSub, cs_57, hc']
    have : chkWork l s w = chkSeq l s := by rw [chkWork, if_pos hc]
    exact hV _ _ (.inl ⟨by omega, by rw [this]⟩)

theorem raw_19 (l : List Order) (s w : List Int) (hl : l.length ≤ 15) (hs : s.length ≤ 15) : Raw T 11 19 [ords l, ints s, ints w] (P19 l s w) := raw_intro t19 (g_19 l s w hl hs)

def endsV (l : List Order) (s w : List Int) : AV := .tuple [ints (refEnds l s w).1, .int .i64 (refEnds l s w).2]
theorem conF_19 (l : List Order) (s w : List Int) (hl : l.length ≤ 15) (hs : s.length ≤ 15) : ConF T 12 19 [ords l, ints s, ints w] (endsV l s w) := by
  refine conF_intro t19 fun n hn V hV => g_19 l s w hl hs n (by omega) [] V fun v h' hp => ?_
  unfold endsV refEnds at hV
  rcases hp with ⟨h1, rfl⟩ | ⟨h1, key, ver, _, rfl, hH⟩
  · rw [if_pos h1] at hV
    exact hV _ _ (frz_two (frz_slice _ _ _ _ _) (frz_int _ _ _ _)) (fresh_two (fresh_nil _ _ _ _) (fresh_int _ _ _ _))
  · rw [if_neg (by omega)] at hV
    exact hV _ _ (frz_two (frz_own hH (endsOf_length s w).symm) (frz_int _ _ _ _)) (fresh_two (fresh_own hH) (fresh_int _ _ _ _))
theorem con_19 (l : List Order) (s w : List Int) (hl : l.length ≤ 15) (hs : s.length ≤ 15) : Con T 11 19 [ords l, ints s, ints w] (endsV l s w) := by
  refine con_raw t19 (g_19 l s w hl hs) fun v h' hp => ?_
  unfold endsV refEnds
  rcases hp with ⟨h1, rfl⟩ | ⟨h1, key, ver, _, rfl, hH⟩
  · rw [if_pos h1]
    exact frz_two (frz_slice _ _ _ _ _) (frz_int _ _ _ _)
  · rw [if_neg (by omega)]
    exact frz_two (frz_own hH (endsOf_length s w).symm) (frz_int _ _ _ _)

end Go.Ev.YtadneamkkepknaaC
