/- What the reference's functions answer: checks, ends, delays. Contracts; conditions stand in each. -/
import Derived.Test.YtadneamkkepknaaL5Open
import Derived.Test.YtadneamkkepknaaEvMach
set_option linter.unusedSimpArgs false
set_option linter.unusedVariables false
namespace Go.Ev.YtadneamkkepknaaC
open Go Go.Proofs

attribute [local irreducible] Res.all evC evLoop evOps evOper evOp evFn evCall freeze G GO GV GP GC R
set_option maxRecDepth 100000

/-! ### 24: CheckOrders -/
theorem all_drop {l : List Order} {k : Nat} {o : Order} (h : l[k]? = some o) : (l.drop k).all okO = (okO o && (l.drop (k + 1)).all okO) := by
  rw [drop_cons h, List.all_cons]

theorem con_24 (l : List Order) (hl : l.length ≤ 15) : Con T 1 24 [ords l] (.int .i64 (chk l)) := by
  refine con_intro t24 fun n hn V hV => ?_
  by_cases h10 : 10 < l.length
  · have h10' : (10 : Int) < l.length := by omega
    simp (disch := first | assumption | omega) only [c24, go_sem, ↓reduceIte, reduceIte, Nat.reduceEqDiff, Nat.reduceAdd, Nat.reduceMul, reduceCtorEq, Nat.reduceDiv, Nat.reduceLeDiff, Nat.reduceLT, Nat.reduceSub, gt_iff_lt, h10']
    exact hV _ _ (by rw [frz_int, chk, if_pos h10])
  have h10' : ¬ (10 : Int) < l.length := by omega
  simp (disch := first | assumption | omega) only [c24, go_sem, ↓reduceIte, reduceIte, Nat.reduceEqDiff, Nat.reduceAdd, Nat.reduceMul, reduceCtorEq, Nat.reduceDiv, Nat.reduceLeDiff, Nat.reduceLT, Nat.reduceSub, gt_iff_lt, h10']
  refine m_loop (fun M s => ∃ k : Nat, M = l.length - k ∧ k ≤ l.length ∧ At s.env [(0, ords l), (3, .int .i64 k)] ∧ l.all okO = (l.drop k).all okO) l.length (by omega) ⟨0, by simp, by omega, by simp [go_sem, ↓reduceIte, reduceIte, Nat.reduceEqDiff, Nat.reduceAdd, Nat.reduceMul, reduceCtorEq, Nat.reduceDiv, Nat.reduceLeDiff, Nat.reduceLT, Nat.reduceSub], rfl⟩ ?_
  rintro M e h hM ⟨k, rfl, hk, hE, hA⟩ P hP
  simp only [At_cons, At_nil] at hE
  obtain ⟨h0, h3, -⟩ := hE
  by_cases hlt : k < l.length
  · obtain ⟨o, ho⟩ := get_ex hlt
    rw [all_drop ho] at hA
    by_cases hok : okO o = true
    · have hok' := (okO_iff o).1 hok
      have g1 : ¬ o.lo < 1 := by have := hok'.lo; omega
      have g2 : ¬ 100 < o.hi := by have := hok'.hi; omega
      have g3 : ¬ o.hi < o.lo := by have := hok'.lh; omega
      have g4 : ¬ o.due < 0 := by have := hok'.d0; omega
      have g5 : ¬ 2000 < o.due := by have := hok'.d1; omega
      simp (disch := first | assumption | omega) only [go_sem, ↓reduceIte, reduceIte, Nat.reduceEqDiff, Nat.reduceAdd, Nat.reduceMul, reduceCtorEq, Nat.reduceDiv, Nat.reduceLeDiff, Nat.reduceLT, Nat.reduceSub, h0, h3, hlt, ho, oAV, gt_iff_lt, g1, g2, g3, g4, g5]
      exact hP (l.length - (k + 1)) _ (by omega) ⟨k + 1, rfl, by omega, by simp only [go_sem, ↓reduceIte, reduceIte, Nat.reduceEqDiff, Nat.reduceAdd, Nat.reduceMul, reduceCtorEq, Nat.reduceDiv, Nat.reduceLeDiff, Nat.reduceLT, Nat.reduceSub, h0], by rw [hA, hok, Bool.true_and]⟩
    · have hb : l.all okO = false := by rw [hA]; simp [hok]
      have fin : ∀ h, V (.int .i64 3, h) := fun h => hV _ _ (by rw [frz_int, chk, if_neg h10, hb]; rfl)
      by_cases g1 : o.lo < 1
      · simp (disch := first | assumption | omega) only [go_sem, ↓reduceIte, reduceIte, Nat.reduceEqDiff, Nat.reduceAdd, Nat.reduceMul, reduceCtorEq, Nat.reduceDiv, Nat.reduceLeDiff, Nat.reduceLT, Nat.reduceSub, h0, h3, hlt, ho, oAV, gt_iff_lt, g1]
        exact fin _
      by_cases g2 : 100 < o.hi
      · simp (disch := first | assumption | omega) only [go_sem, ↓reduceIte, reduceIte, Nat.reduceEqDiff, Nat.reduceAdd, Nat.reduceMul, reduceCtorEq, Nat.reduceDiv, Nat.reduceLeDiff, Nat.reduceLT, Nat.reduceSub, h0, h3, hlt, ho, oAV, gt_iff_lt, g1, g2]
        exact fin _
      by_cases g3 : o.hi < o.lo
      · simp (disch := first | assumption | omega) only [go_sem, ↓reduceIte, reduceIte, Nat.reduceEqDiff, Nat.reduceAdd, Nat.reduceMul, reduceCtorEq, Nat.reduceDiv, Nat.reduceLeDiff, Nat.reduceLT, Nat.reduceSub, h0, h3, hlt, ho, oAV, gt_iff_lt, g1, g2, g3]
        exact fin _
      by_cases g4 : o.due < 0
      · simp (disch := first | assumption | omega) only [go_sem, ↓reduceIte, reduceIte, Nat.reduceEqDiff, Nat.reduceAdd, Nat.reduceMul, reduceCtorEq, Nat.reduceDiv, Nat.reduceLeDiff, Nat.reduceLT, Nat.reduceSub, h0, h3, hlt, ho, oAV, gt_iff_lt, g1, g2, g3, g4]
        exact fin _
      by_cases g5 : 2000 < o.due
      · simp (disch := first | assumption | omega) only [go_sem, ↓reduceIte, reduceIte, Nat.reduceEqDiff, Nat.reduceAdd, Nat.reduceMul, reduceCtorEq, Nat.reduceDiv, Nat.reduceLeDiff, Nat.reduceLT, Nat.reduceSub, h0, h3, hlt, ho, oAV, gt_iff_lt, g1, g2, g3, g4, g5]
        exact fin _
      exact (hok ((okO_iff o).2 ⟨by omega, by omega, by omega, by omega, by omega⟩)).elim
  · simp (disch := first | assumption | omega) only [go_sem, ↓reduceIte, reduceIte, Nat.reduceEqDiff, Nat.reduceAdd, Nat.reduceMul, reduceCtorEq, Nat.reduceDiv, Nat.reduceLeDiff, Nat.reduceLT, Nat.reduceSub, h0, h3, hlt]
    exact hV _ _ (by rw [frz_int, chk, if_neg h10, hA, List.drop_eq_nil_of_le (by omega)]; rfl)
section
variable {n base : Nat} {Q : EX × St → Prop} {d : Option Nat} {L : List IOper} {ks : List Kont} {e : Env} {h : Heap}
theorem cs_24 {l : List Order} {x : Bool} (hn : 1 ≤ n) (hl : l.length ≤ 15) : GP (evCall T n) base Q d L ks e (evCall T n false (.fn 24) [.slice (some 3) (l.map oAV) x] h) = GO (evCall T n) base Q L ks ⟨setDst e d (.int .i64 (chk l)), h⟩ :=
  gp_eq (con_24 l hl) hn (by repeat (first | exact fz_nil _ | refine fz_slice _ _ _ _ ?_ | refine fz_int _ _ _ ?_)) rfl
end

/-! ### 53: Place -/
theorem con_53 (l : List Int) (x : Int) (hl : l.length ≤ 1000) : Con T 1 53 [ints l, .int .i64 x] (.int .i64 (place l x)) := by
  refine con_intro t53 fun n hn V hV => ?_
  simp (disch := first | assumption | omega) only [c53, go_sem, ↓reduceIte, reduceIte, Nat.reduceEqDiff, Nat.reduceAdd, Nat.reduceMul, reduceCtorEq, Nat.reduceDiv, Nat.reduceLeDiff, Nat.reduceLT, Nat.reduceSub]
  refine m_loop (fun M s => ∃ k : Nat, M = l.length - k ∧ k ≤ l.length ∧ At s.env [(0, ints l), (1, .int .i64 x), (5, .int .i64 k)] ∧ place l x = placeFrom x (l.drop k) k) l.length (by omega) ⟨0, by simp, by omega, by simp [go_sem, ↓reduceIte, reduceIte, Nat.reduceEqDiff, Nat.reduceAdd, Nat.reduceMul, reduceCtorEq, Nat.reduceDiv, Nat.reduceLeDiff, Nat.reduceLT, Nat.reduceSub], rfl⟩ ?_
  rintro M e h hM ⟨k, rfl, hk, hE, hA⟩ P hP
  simp only [At_cons, At_nil] at hE
  obtain ⟨h0, h1, h5, -⟩ := hE
  by_cases hlt : k < l.length
  · obtain ⟨y, hy⟩ := get_ex hlt
    rw [drop_cons hy, placeFrom] at hA
    by_cases hxy : y = x
    · subst hxy
      simp (disch := first | assumption | omega) only [go_sem, ↓reduceIte, reduceIte, Nat.reduceEqDiff, Nat.reduceAdd, Nat.reduceMul, reduceCtorEq, Nat.reduceDiv, Nat.reduceLeDiff, Nat.reduceLT, Nat.reduceSub, h0, h1, h5, hlt, hy, beq_self_eq_true]
      exact hV _ _ (by rw [frz_int, hA, if_pos rfl])
    · have hb : (y == x) = false := by simpa using hxy
      simp (disch := first | assumption | omega) only [go_sem, ↓reduceIte, reduceIte, Nat.reduceEqDiff, Nat.reduceAdd, Nat.reduceMul, reduceCtorEq, Nat.reduceDiv, Nat.reduceLeDiff, Nat.reduceLT, Nat.reduceSub, h0, h1, h5, hlt, hy, hb]
      exact hP (l.length - (k + 1)) _ (by omega) ⟨k + 1, rfl, by omega, by simp only [go_sem, ↓reduceIte, reduceIte, Nat.reduceEqDiff, Nat.reduceAdd, Nat.reduceMul, reduceCtorEq, Nat.reduceDiv, Nat.reduceLeDiff, Nat.reduceLT, Nat.reduceSub, h0, h1], by rw [hA, if_neg hxy]; rfl⟩
  · simp (disch := first | assumption | omega) only [go_sem, ↓reduceIte, reduceIte, Nat.reduceEqDiff, Nat.reduceAdd, Nat.reduceMul, reduceCtorEq, Nat.reduceDiv, Nat.reduceLeDiff, Nat.reduceLT, Nat.reduceSub, h0, h1, h5, hlt]
    exact hV _ _ (by rw [frz_int, hA, List.drop_eq_nil_of_le (by omega)]; rfl)

section
variable {n base : Nat} {Q : EX × St → Prop} {d : Option Nat} {L : List IOper} {ks : List Kont} {e : Env} {h : Heap}
theorem cs_53 {l : List Int} {x : Bool} {y : Int} (hn : 1 ≤ n) (hl : l.length ≤ 1000) : GP (evCall T n) base Q d L ks e (evCall T n false (.fn 53) [.slice none (l.map (.int .i64)) x, .int .i64 y] h) = GO (evCall T n) base Q L ks ⟨setDst e d (.int .i64 (place l y)), h⟩ :=
  gp_eq (con_53 l y hl) hn (by repeat (first | exact fz_nil _ | refine fz_slice _ _ _ _ ?_ | refine fz_int _ _ _ ?_)) rfl
end

/-! ### 48: CheckSequence -/
theorem hasAll_step {s : List Int} {n k : Nat} (hk : k < n) : ((List.range n).drop k).all (fun i => s.contains (i : Int)) = (s.contains (k : Int) && ((List.range n).drop (k + 1)).all fun i => s.contains (i : Int)) := by
  rw [drop_cons (x := k) (by simp [hk]), List.all_cons]

theorem con_48 (l : List Order) (s : List Int) (hl : l.length ≤ 15) (hs : s.length ≤ 15) : Con T 2 48 [ords l, ints s] (.int .i64 (chkSeq l s)) := by
  refine con_intro t48 fun n hn V hV => ?_
  by_cases hc : chk l = 0
  · have hc' : (chk l != 0) = false := by simp [hc]
    by_cases hlen : s.length = l.length
    · have hlen' : ((s.length : Int) != l.length) = false := by simp [hlen]
      simp (disch := first | assumption | omega) only [c48, go_sem, ↓reduceIte, reduceIte, Nat.reduceEqDiff, Nat.reduceAdd, Nat.reduceMul, reduceCtorEq, Nat.reduceDiv, Nat.reduceLeDiff, Nat.reduceLT, Nat.reduceSub, cs_24, hc', hlen']
      have hcs : chkSeq l s = if hasAll l.length s then 0 else 2 := by
        rw [chkSeq, if_neg (by simp [hc]), if_neg (by simp [hlen])]
      refine m_loop (fun M st => ∃ k : Nat, M = l.length - k ∧ k ≤ l.length ∧ At st.env [(0, ords l), (1, ints s), (5, .int .i64 k)] ∧ hasAll l.length s = ((List.range l.length).drop k).all fun i => s.contains (i : Int)) l.length (by omega) ⟨0, by simp, by omega, by simp [go_sem, ↓reduceIte, reduceIte, Nat.reduceEqDiff, Nat.reduceAdd, Nat.reduceMul, reduceCtorEq, Nat.reduceDiv, Nat.reduceLeDiff, Nat.reduceLT, Nat.reduceSub], rfl⟩ ?_
      rintro M e h hM ⟨k, rfl, hk, hE, hA⟩ P hP
      simp only [At_cons, At_nil] at hE
      obtain ⟨h0, h1, h5, -⟩ := hE
      by_cases hlt : k < l.length
      · rw [hasAll_step hlt] at hA
        have hm := place_mem s k
        by_cases hp : place s k < 0
        · simp (disch := first | assumption | omega) only [go_sem, ↓reduceIte, reduceIte, Nat.reduceEqDiff, Nat.reduceAdd, Nat.reduceMul, reduceCtorEq, Nat.reduceDiv, Nat.reduceLeDiff, Nat.reduceLT, Nat.reduceSub, h0, h1, h5, hlt, cs_53, hp]
          have hnot : ¬ (k : Int) ∈ s := fun h => by have := hm.2 h; omega
          exact hV _ _ (by rw [frz_int, hcs, hA]; simp [hnot])
        · simp (disch := first | assumption | omega) only [go_sem, ↓reduceIte, reduceIte, Nat.reduceEqDiff, Nat.reduceAdd, Nat.reduceMul, reduceCtorEq, Nat.reduceDiv, Nat.reduceLeDiff, Nat.reduceLT, Nat.reduceSub, h0, h1, h5, hlt, cs_53, hp]
          have hin : (k : Int) ∈ s := hm.1 (by omega)
          exact hP (l.length - (k + 1)) _ (by omega) ⟨k + 1, rfl, by omega, by simp only [go_sem, ↓reduceIte, reduceIte, Nat.reduceEqDiff, Nat.reduceAdd, Nat.reduceMul, reduceCtorEq, Nat.reduceDiv, Nat.reduceLeDiff, Nat.reduceLT, Nat.reduceSub, h0, h1], by rw [hA]; simp [hin]⟩
      · simp (disch := first | assumption | omega) only [go_sem, ↓reduceIte, reduceIte, Nat.reduceEqDiff, Nat.reduceAdd, Nat.reduceMul, reduceCtorEq, Nat.reduceDiv, Nat.reduceLeDiff, Nat.reduceLT, Nat.reduceSub, h0, h1, h5, hlt]
        refine hV _ _ (by rw [frz_int, hcs, hA, List.drop_eq_nil_of_le (by simp; omega)]; rfl)
    · have hlen' : ((s.length : Int) != l.length) = true := by simp; omega
      simp (disch := first | assumption | omega) only [c48, go_sem, ↓reduceIte, reduceIte, Nat.reduceEqDiff, Nat.reduceAdd, Nat.reduceMul, reduceCtorEq, Nat.reduceDiv, Nat.reduceLeDiff, Nat.reduceLT, Nat.reduceSub, cs_24, hc', hlen']
      exact hV _ _ (by rw [frz_int, chkSeq, if_neg (by simp [hc]), if_pos (by omega)])
  · have hc' : (chk l != 0) = true := by simp [hc]
    simp (disch := first | assumption | omega) only [c48, go_sem, ↓reduceIte, reduceIte, Nat.reduceEqDiff, Nat.reduceAdd, Nat.reduceMul, reduceCtorEq, Nat.reduceDiv, Nat.reduceLeDiff, Nat.reduceLT, Nat.reduceSub, cs_24, hc']
    exact hV _ _ (by rw [frz_int, chkSeq, if_pos hc])

section
variable {n base : Nat} {Q : EX × St → Prop} {d : Option Nat} {L : List IOper} {ks : List Kont} {e : Env} {h : Heap}
theorem cs_48 {l : List Order} {s : List Int} {x y : Bool} (hn : 2 ≤ n) (hl : l.length ≤ 15) (hs : s.length ≤ 15) : GP (evCall T n) base Q d L ks e (evCall T n false (.fn 48) [.slice (some 3) (l.map oAV) x, .slice none (s.map (.int .i64)) y] h) = GO (evCall T n) base Q L ks ⟨setDst e d (.int .i64 (chkSeq l s)), h⟩ :=
  gp_eq (con_48 l s hl hs) hn (by repeat (first | exact fz_nil _ | refine fz_slice _ _ _ _ ?_ | refine fz_int _ _ _ ?_)) rfl
end

/-! ### 60: CheckWork -/
theorem workOk_step {l : List Order} {w : List Int} {k : Nat} {o : Order} {x : Int} (ho : l[k]? = some o) (hx : w[k]? = some x) : workOk (l.drop k) (w.drop k) = (decide (o.lo ≤ x) && decide (x ≤ o.hi) && workOk (l.drop (k + 1)) (w.drop (k + 1))) := by
  rw [drop_cons ho, drop_cons hx, workOk]

theorem con_60 (l : List Order) (s w : List Int) (hl : l.length ≤ 15) (hs : s.length ≤ 15) : Con T 3 60 [ords l, ints s, ints w] (.int .i64 (chkWork l s w)) := by
  refine con_intro t60 fun n hn V hV => ?_
  by_cases hc : chkSeq l s = 0
  · have hc' : (chkSeq l s != 0) = false := by simp [hc]
    by_cases hlen : w.length = l.length
    · have hlen' : ((w.length : Int) != l.length) = false := by simp [hlen]
      simp (disch := first | assumption | omega) only [c60, go_sem, ↓reduceIte, reduceIte, Nat.reduceEqDiff, Nat.reduceAdd, Nat.reduceMul, reduceCtorEq, Nat.reduceDiv, Nat.reduceLeDiff, Nat.reduceLT, Nat.reduceSub, cs_48, hc', hlen']
      have hcs : chkWork l s w = if workOk l w then 0 else 3 := by
        rw [chkWork, if_neg (by simp [hc]), if_neg (by simp [hlen])]
      refine m_loop (fun M st => ∃ k : Nat, M = l.length - k ∧ k ≤ l.length ∧ At st.env [(0, ords l), (2, ints w), (7, .int .i64 k)] ∧ workOk l w = workOk (l.drop k) (w.drop k)) l.length (by omega) ⟨0, by simp, by omega, by simp [go_sem, ↓reduceIte, reduceIte, Nat.reduceEqDiff, Nat.reduceAdd, Nat.reduceMul, reduceCtorEq, Nat.reduceDiv, Nat.reduceLeDiff, Nat.reduceLT, Nat.reduceSub], rfl⟩ ?_
      rintro M e h hM ⟨k, rfl, hk, hE, hA⟩ P hP
      simp only [At_cons, At_nil] at hE
      obtain ⟨h0, h2, h7, -⟩ := hE
      by_cases hlt : k < l.length
      · obtain ⟨o, ho⟩ := get_ex hlt
        obtain ⟨x, hx⟩ := get_ex (l := w) (i := k) (by omega)
        rw [workOk_step ho hx] at hA
        by_cases g1 : x < o.lo
        · simp (disch := first | assumption | omega) only [go_sem, ↓reduceIte, reduceIte, Nat.reduceEqDiff, Nat.reduceAdd, Nat.reduceMul, reduceCtorEq, Nat.reduceDiv, Nat.reduceLeDiff, Nat.reduceLT, Nat.reduceSub, h0, h2, h7, hlt, ho, hx, oAV, g1, gt_iff_lt]
          exact hV _ _ (by rw [frz_int, hcs, hA]; simp; omega)
        by_cases g2 : o.hi < x
        · simp (disch := first | assumption | omega) only [go_sem, ↓reduceIte, reduceIte, Nat.reduceEqDiff, Nat.reduceAdd, Nat.reduceMul, reduceCtorEq, Nat.reduceDiv, Nat.reduceLeDiff, Nat.reduceLT, Nat.reduceSub, h0, h2, h7, hlt, ho, hx, oAV, g1, g2, gt_iff_lt]
          exact hV _ _ (by rw [frz_int, hcs, hA]; simp; omega)
        simp (disch := first | assumption | omega) only [go_sem, ↓reduceIte, reduceIte, Nat.reduceEqDiff, Nat.reduceAdd, Nat.reduceMul, reduceCtorEq, Nat.reduceDiv, Nat.reduceLeDiff, Nat.reduceLT, Nat.reduceSub, h0, h2, h7, hlt, ho, hx, oAV, g1, g2, gt_iff_lt]
        exact hP (l.length - (k + 1)) _ (by omega) ⟨k + 1, rfl, by omega, by simp only [go_sem, ↓reduceIte, reduceIte, Nat.reduceEqDiff, Nat.reduceAdd, Nat.reduceMul, reduceCtorEq, Nat.reduceDiv, Nat.reduceLeDiff, Nat.reduceLT, Nat.reduceSub, h0, h2], by rw [hA]; simp; omega⟩
      · simp (disch := first | assumption | omega) only [go_sem, ↓reduceIte, reduceIte, Nat.reduceEqDiff, Nat.reduceAdd, Nat.reduceMul, reduceCtorEq, Nat.reduceDiv, Nat.reduceLeDiff, Nat.reduceLT, Nat.reduceSub, h0, h2, h7, hlt]
        exact hV _ _ (by rw [frz_int, hcs, hA, List.drop_eq_nil_of_le (by omega)]; rfl)
    · have hlen' : ((w.length : Int) != l.length) = true := by simp; omega
      simp (disch := first | assumption | omega) only [c60, go_sem, ↓reduceIte, reduceIte, Nat.reduceEqDiff, Nat.reduceAdd, Nat.reduceMul, reduceCtorEq, Nat.reduceDiv, Nat.reduceLeDiff, Nat.reduceLT, Nat.reduceSub, cs_48, hc', hlen']
      exact hV _ _ (by rw [frz_int, chkWork, if_neg (by simp [hc]), if_pos (by omega)])
  · have hc' : (chkSeq l s != 0) = true := by simp [hc]
    simp (disch := first | assumption | omega) only [c60, go_sem, ↓reduceIte, reduceIte, Nat.reduceEqDiff, Nat.reduceAdd, Nat.reduceMul, reduceCtorEq, Nat.reduceDiv, Nat.reduceLeDiff, Nat.reduceLT, Nat.reduceSub, cs_48, hc']
    exact hV _ _ (by rw [frz_int, chkWork, if_pos hc])

section
variable {n base : Nat} {Q : EX × St → Prop} {d : Option Nat} {L : List IOper} {ks : List Kont} {e : Env} {h : Heap}
theorem cs_60 {l : List Order} {s w : List Int} {x y z : Bool} (hn : 3 ≤ n) (hl : l.length ≤ 15) (hs : s.length ≤ 15) : GP (evCall T n) base Q d L ks e (evCall T n false (.fn 60) [.slice (some 3) (l.map oAV) x, .slice none (s.map (.int .i64)) y, .slice none (w.map (.int .i64)) z] h) = GO (evCall T n) base Q L ks ⟨setDst e d (.int .i64 (chkWork l s w)), h⟩ :=
  gp_eq (con_60 l s w hl hs) hn (by repeat (first | exact fz_nil _ | refine fz_slice _ _ _ _ ?_ | refine fz_int _ _ _ ?_)) rfl
end

/-! ### 61: EndsOf -/
theorem con_61 (seq work : List Int) (hl : seq.length ≤ 15) (hw : work.length = seq.length) (hs : ∀ x ∈ seq, 0 ≤ x ∧ x < seq.length) (hv : ∀ x ∈ work, 0 ≤ x ∧ x ≤ 1000) :
    Con T 1 61 [ints seq, ints work] (ints (endsOf seq work)) := by
  refine con_intro t61 fun n hn V hV => ?_
  simp (disch := first | assumption | omega) only [c61, go_sem, ↓reduceIte, reduceIte, Nat.reduceEqDiff, Nat.reduceAdd, Nat.reduceMul, reduceCtorEq, Nat.reduceDiv, Nat.reduceLeDiff, Nat.reduceLT, Nat.reduceSub]
  refine m_loop (fun M s => ∃ (k : Nat) (day : Int) (out : List Int), M = seq.length - k ∧ k ≤ seq.length ∧ 0 ≤ day ∧ day ≤ 1000 * k ∧ out.length = seq.length ∧
    At s.env [(0, ints seq), (1, ints work), (5, .oslice 34 0 none 0 seq.length (some seq.length)), (6, .int .i64 day), (7, .int .i64 k)] ∧ getH s.heap 34 = .cells 0 (out.map (.int .i64)) ∧ runEnds work (seq.drop k) day out = endsOf seq work) seq.length (by omega)
    ⟨0, 0, List.replicate seq.length 0, by simp, by omega, by simp, by simp, by simp, by simp [go_sem, ↓reduceIte, reduceIte, Nat.reduceEqDiff, Nat.reduceAdd, Nat.reduceMul, reduceCtorEq, Nat.reduceDiv, Nat.reduceLeDiff, Nat.reduceLT, Nat.reduceSub], by simp [go_sem, ↓reduceIte, reduceIte, Nat.reduceEqDiff, Nat.reduceAdd, Nat.reduceMul, reduceCtorEq, Nat.reduceDiv, Nat.reduceLeDiff, Nat.reduceLT, Nat.reduceSub], rfl⟩ ?_
  rintro M e h hM ⟨k, day, out, rfl, hk, hd0, hd1, ho, hE, hH, hR⟩ P hP
  simp only [At_cons, At_nil] at hE hH
  obtain ⟨h0, h1, h5, h6, h7, -⟩ := hE
  by_cases hlt : k < seq.length
  · obtain ⟨x, hx⟩ := get_ex hlt
    have hx' := hs x (List.mem_of_getElem? hx)
    obtain ⟨i, rfl⟩ := Int.eq_ofNat_of_zero_le hx'.1
    obtain ⟨y, hy⟩ := get_ex (l := work) (i := i) (by omega)
    have hy' := hv y (List.mem_of_getElem? hy)
    simp (disch := first | assumption | omega) only [go_sem, ↓reduceIte, reduceIte, Nat.reduceEqDiff, Nat.reduceAdd, Nat.reduceMul, reduceCtorEq, Nat.reduceDiv, Nat.reduceLeDiff, Nat.reduceLT, Nat.reduceSub, h0, h1, h5, h6, h7, hH, hlt, hx, hy]
    refine ⟨by omega, by omega, hP (seq.length - (k + 1)) _ (by omega) ⟨k + 1, day + y, out.set i (day + y), rfl, by omega, by omega, by omega, by simp [ho], by simp only [go_sem, ↓reduceIte, reduceIte, Nat.reduceEqDiff, Nat.reduceAdd, Nat.reduceMul, reduceCtorEq, Nat.reduceDiv, Nat.reduceLeDiff, Nat.reduceLT, Nat.reduceSub, h0, h1, h5], by simp only [go_sem, ↓reduceIte, reduceIte, Nat.reduceEqDiff, Nat.reduceAdd, Nat.reduceMul, reduceCtorEq, Nat.reduceDiv, Nat.reduceLeDiff, Nat.reduceLT, Nat.reduceSub], ?_⟩⟩
    rw [← hR, drop_cons hx, runEnds]
    simp [hy]
  · simp (disch := first | assumption | omega) only [go_sem, ↓reduceIte, reduceIte, Nat.reduceEqDiff, Nat.reduceAdd, Nat.reduceMul, reduceCtorEq, Nat.reduceDiv, Nat.reduceLeDiff, Nat.reduceLT, Nat.reduceSub, h0, h1, h5, h6, h7, hH, hlt]
    refine hV _ _ ?_
    rw [frz_own hH ho.symm]
    rw [List.drop_eq_nil_of_le (by omega)] at hR
    rw [← hR]
    rfl

theorem cs_61 {n base : Nat} {Q : EX × St → Prop} {d : Option Nat} {L : List IOper} {ks : List Kont} {e : Env} {h : Heap} {seq work : List Int} {x y : Bool} (hn : 1 ≤ n) (hl : seq.length ≤ 15) (hw : work.length = seq.length) (hs : ∀ x ∈ seq, 0 ≤ x ∧ x < seq.length) (hv : ∀ x ∈ work, 0 ≤ x ∧ x ≤ 1000) :
    GP (evCall T n) base Q d L ks e (evCall T n false (.fn 61) [.slice none (seq.map (.int .i64)) x, .slice none (work.map (.int .i64)) y] h) = GO (evCall T n) base Q L ks ⟨setDst e d (ints (endsOf seq work)), h⟩ :=
  gp_eq (con_61 seq work hl hw hs hv) hn (by repeat (first | exact fz_nil _ | refine fz_slice _ _ _ _ ?_ | refine fz_int _ _ _ ?_)) rfl

/-! ### 64: DelayOf -/
theorem con_64 (l : List Order) (s w : List Int) (hl : l.length ≤ 15) (h0 : 0 < l.length) (hsl : s.length = l.length) (hw : w.length = l.length) (hs : ∀ x ∈ s, 0 ≤ x ∧ x < s.length) (hv : ∀ x ∈ w, 0 ≤ x ∧ x ≤ 1000)
    (hd : ∀ o ∈ l, 0 ≤ o.due ∧ o.due ≤ 100000) (he : ∀ x ∈ endsOf s w, 0 ≤ x ∧ x ≤ 100000) : Con T 2 64 [ords l, ints s, ints w] (.int .i64 (delayOf l s w)) := by
  refine con_intro t64 fun n hn V hV => ?_
  have hel : (endsOf s w).length = l.length := by rw [endsOf_length, hsl]
  obtain ⟨o, ho⟩ := get_ex h0
  obtain ⟨x, hx⟩ := get_ex (l := endsOf s w) (i := 0) (by omega)
  have ho' := hd o (List.mem_of_getElem? ho)
  have hx' := he x (List.mem_of_getElem? hx)
  have hw' : w.length = s.length := by omega
  have hsl' : s.length ≤ 15 := by omega
  have z : asNat (.int .i64 0) = some 0 := rfl
  simp (disch := first | assumption | omega) only [c64, go_sem, ↓reduceIte, reduceIte, Nat.reduceEqDiff, Nat.reduceAdd, Nat.reduceMul, reduceCtorEq, Nat.reduceDiv, Nat.reduceLeDiff, Nat.reduceLT, Nat.reduceSub, cs_61, z, ho, hx, oAV]
  have hdl : (delays l (endsOf s w)).length = l.length := by simp [delays, hel]
  have hstep : ∀ (k : Nat) (o : Order) (x : Int), l[k]? = some o → (endsOf s w)[k]? = some x → (delays l (endsOf s w))[k]? = some (x - o.due) := fun k o x h1 h2 => by simp [delays, List.getElem?_zipWith, h1, h2]
  refine m_loop (fun M st => ∃ (k : Nat) (m : Int), M = l.length - k ∧ 1 ≤ k ∧ k ≤ l.length ∧ -100000 ≤ m ∧ m ≤ 100000 ∧ At st.env [(0, ords l), (7, ints (endsOf s w)), (8, .int .i64 m), (9, .int .i64 k)] ∧
    ((delays l (endsOf s w)).drop k).foldl (fun m x => if x > m then x else m) m = delayOf l s w) (l.length - 1) (by omega) ⟨1, x - o.due, rfl, by omega, by omega, by omega, by omega, by simp [go_sem, ↓reduceIte, reduceIte, Nat.reduceEqDiff, Nat.reduceAdd, Nat.reduceMul, reduceCtorEq, Nat.reduceDiv, Nat.reduceLeDiff, Nat.reduceLT, Nat.reduceSub], ?_⟩ ?_
  · rw [delayOf]
    have := drop_cons (hstep 0 o x ho hx)
    rw [List.drop_zero] at this
    conv => rhs; rw [this, maxL]
  rintro M e h hM ⟨k, m, rfl, hk1, hk, hm0, hm1, hE, hR⟩ P hP
  simp only [At_cons, At_nil] at hE
  obtain ⟨h0, h7, h8, h9, -⟩ := hE
  by_cases hlt : k < l.length
  · obtain ⟨o, ho⟩ := get_ex hlt
    obtain ⟨x, hx⟩ := get_ex (l := endsOf s w) (i := k) (by omega)
    have ho' := hd o (List.mem_of_getElem? ho)
    have hx' := he x (List.mem_of_getElem? hx)
    rw [drop_cons (hstep k o x ho hx), List.foldl_cons] at hR
    by_cases hgt : x - o.due > m
    · rw [if_pos hgt] at hR
      simp (disch := first | assumption | omega) only [go_sem, ↓reduceIte, reduceIte, Nat.reduceEqDiff, Nat.reduceAdd, Nat.reduceMul, reduceCtorEq, Nat.reduceDiv, Nat.reduceLeDiff, Nat.reduceLT, Nat.reduceSub, h0, h7, h8, h9, hlt, ho, hx, oAV, hgt]
      exact hP (l.length - (k + 1)) _ (by omega) ⟨k + 1, _, rfl, by omega, by omega, by omega, by omega, by simp only [go_sem, ↓reduceIte, reduceIte, Nat.reduceEqDiff, Nat.reduceAdd, Nat.reduceMul, reduceCtorEq, Nat.reduceDiv, Nat.reduceLeDiff, Nat.reduceLT, Nat.reduceSub, h0, h7], hR⟩
    · rw [if_neg hgt] at hR
      simp (disch := first | assumption | omega) only [go_sem, ↓reduceIte, reduceIte, Nat.reduceEqDiff, Nat.reduceAdd, Nat.reduceMul, reduceCtorEq, Nat.reduceDiv, Nat.reduceLeDiff, Nat.reduceLT, Nat.reduceSub, h0, h7, h8, h9, hlt, ho, hx, oAV, hgt]
      exact hP (l.length - (k + 1)) _ (by omega) ⟨k + 1, _, rfl, by omega, by omega, by omega, by omega, by simp only [go_sem, ↓reduceIte, reduceIte, Nat.reduceEqDiff, Nat.reduceAdd, Nat.reduceMul, reduceCtorEq, Nat.reduceDiv, Nat.reduceLeDiff, Nat.reduceLT, Nat.reduceSub, h0, h7], hR⟩
  · simp (disch := first | assumption | omega) only [go_sem, ↓reduceIte, reduceIte, Nat.reduceEqDiff, Nat.reduceAdd, Nat.reduceMul, reduceCtorEq, Nat.reduceDiv, Nat.reduceLeDiff, Nat.reduceLT, Nat.reduceSub, h0, h7, h8, h9, hlt]
    rw [List.drop_eq_nil_of_le (by omega)] at hR
    exact hV _ _ (by rw [frz_int, ← hR]; rfl)

end Go.Ev.YtadneamkkepknaaC
