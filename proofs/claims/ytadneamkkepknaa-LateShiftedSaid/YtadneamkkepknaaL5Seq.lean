/- What the functions about sequences answer: the orders by their Due, and which are on time. Contracts; conditions stand in each. -/
import Derived.Test.YtadneamkkepknaaL5Desk
set_option linter.unusedSimpArgs false
set_option linter.unusedVariables false
namespace Go.Ev.YtadneamkkepknaaC
open Go Go.Proofs

attribute [local irreducible] Res.all evC evLoop evOps evOper evOp evFn evCall freeze G GO GV GP GC R
set_option maxRecDepth 100000

/-! ### 52: SequenceOf -/
theorem isort_append (f : Int → Int) : ∀ (a d b : List Int), isort f d (a ++ b) = isort f (isort f d a) b
  | [], d, b => rfl
  | x :: a, d, b => isort_append f a _ b

theorem dueOf_get {l : List Order} {i : Nat} {o : Order} (h : l[i]? = some o) : dueOf l (i : Int) = o.due := by simp [dueOf, h]

theorem con_52 (l : List Order) (hl : l.length ≤ 15) : Con T 1 52 [ords l] (ints (seqOf l)) := by
  refine con_intro t52 fun n hn V hV => ?_
  simp (disch := first | assumption | omega) only [c52, go_sem, ↓reduceIte, reduceIte, Nat.reduceEqDiff, Nat.reduceAdd, Nat.reduceMul, reduceCtorEq, Nat.reduceDiv, Nat.reduceLeDiff, Nat.reduceLT, Nat.reduceSub]
  refine m_loop (fun M st => ∃ (k : Nat) (v : AV), M = l.length - k ∧ k ≤ l.length ∧ At st.env [(0, ords l), (3, v), (4, .int .i64 k)] ∧ Own 58 st.heap v .i64 (isort (dueOf l) [] ((idx l.length).take k)) ∧ 58 ≤ st.heap.length) l.length (by omega)
    ⟨0, .slice none [] true, by simp, by omega, by simp [go_sem, ↓reduceIte, reduceIte, Nat.reduceEqDiff, Nat.reduceAdd, Nat.reduceMul, reduceCtorEq, Nat.reduceDiv, Nat.reduceLeDiff, Nat.reduceLT, Nat.reduceSub], own_nil .., by simp⟩ ?_
  rintro M e h hM ⟨k, v, rfl, hk, hE, hO, hlen⟩ P hP
  simp only [At_cons, At_nil] at hE hO hlen
  obtain ⟨h0, h3, h4, -⟩ := hE
  have hdl : (isort (dueOf l) [] ((idx l.length).take k)).length = k := by
    rw [isort_length, List.length_take, idx_length, List.length_nil]; omega
  have hdm : ∀ x ∈ isort (dueOf l) [] ((idx l.length).take k), 0 ≤ x ∧ x < l.length := fun x hx => by
    have := (isort_perm (dueOf l) ((idx l.length).take k) []).mem_iff.1 hx
    rw [List.nil_append] at this
    exact idx_mem.1 (List.mem_of_mem_take this)
  by_cases hlt : k < l.length
  · have hnext : isort (dueOf l) [] ((idx l.length).take (k + 1)) = bub (dueOf l) (isort (dueOf l) [] ((idx l.length).take k)).reverse k [] := by
      have hk2 : (idx l.length).take (k + 1) = (idx l.length).take k ++ [(k : Int)] := by
        rw [List.take_add_one, show (idx l.length)[k]? = some (k : Int) by simp [idx, hlt]]
        rfl
      rw [hk2, isort_append]
      rfl
    generalize isort (dueOf l) [] ((idx l.length).take k) = done at *
    simp (disch := first | assumption | omega) only [go_sem, ↓reduceIte, reduceIte, Nat.reduceEqDiff, Nat.reduceAdd, Nat.reduceMul, reduceCtorEq, Nat.reduceDiv, Nat.reduceLeDiff, Nat.reduceLT, Nat.reduceSub, h0, h3, h4, hlt]
    refine gp_append1 (by first | with_reducible rfl | (simp only [length_setH, List.length_append, List.length_replicate]; done) | (simp only [length_setH, List.length_append, List.length_replicate]; omega)) hO hlen (by omega) fun x' h' hO' hF hL _ _ => ?_
    rcases hO' with ⟨hnil, _⟩ | ⟨key, ver, hk58, rfl, hH⟩
    · simp at hnil
    have hlc : (done ++ [(k : Int)]).length = k + 1 := by simp [hdl]
    rw [hlc]
    simp (disch := first | assumption | omega) only [go_sem, ↓reduceIte, reduceIte, Nat.reduceEqDiff, Nat.reduceAdd, Nat.reduceMul, reduceCtorEq, Nat.reduceDiv, Nat.reduceLeDiff, Nat.reduceLT, Nat.reduceSub, h0, h3, h4]
    refine m_loop (fun M st => ∃ (pr post c : List Int), M = pr.length ∧ c = pr.reverse ++ (k : Int) :: post ∧ c.length = k + 1 ∧ (∀ x ∈ c, 0 ≤ x ∧ x < l.length) ∧ bub (dueOf l) pr k post = bub (dueOf l) done.reverse k [] ∧
      At st.env [(0, ords l), (3, .oslice key ver none 0 (k + 1) none), (4, .int .i64 k), (5, .int .i64 pr.length)] ∧ getH st.heap key = .cells ver (c.map (.int .i64)) ∧ 58 ≤ st.heap.length) k (by omega)
      ⟨done.reverse, [], done ++ [(k : Int)], by simp [hdl], by simp, by simp [hdl], ?_, rfl, by simp [go_sem, ↓reduceIte, reduceIte, Nat.reduceEqDiff, Nat.reduceAdd, Nat.reduceMul, reduceCtorEq, Nat.reduceDiv, Nat.reduceLeDiff, Nat.reduceLT, Nat.reduceSub, hdl, h0, h4], hH, Nat.le_trans hlen hL⟩ ?_
    · intro x hx
      rcases List.mem_append.1 hx with hx | hx
      · exact hdm x hx
      · obtain rfl : x = (k : Int) := by simpa using hx
        omega
    clear h0 h3 h4 hH hO hF hL hlen
    rintro M e h hM ⟨pr, post, c, rfl, hc, hcl, hcx, hbub, hE, hH, hlen⟩ P2 hP2
    simp only [At_cons, At_nil] at hE hH hlen
    obtain ⟨h0, h3, h4, h5, -⟩ := hE
    have hstop : ∀ e : Env, At e [(0, ords l), (3, .oslice key ver none 0 (k + 1) none), (4, .int .i64 ((k : Int) + 1))] → pr.reverse ++ (k : Int) :: post = bub (dueOf l) done.reverse k [] → P ⟨e, h⟩ := fun e he hb => by
      refine hP (l.length - (k + 1)) _ (by omega) ⟨k + 1, .oslice key ver none 0 (k + 1) none, rfl, by omega, he, ?_, hlen⟩
      rw [hnext, ← hb, ← hc]
      exact .inr ⟨key, ver, hk58, by rw [hcl], hH⟩
    match pr, hM, hc, hbub, h5, hP2, hstop with
    | [], hM, hc, hbub, h5, hP2, hstop =>
      have z : ¬ ((0 : Int) > 0) := by omega
      simp (disch := first | assumption | omega) only [go_sem, ↓reduceIte, reduceIte, Nat.reduceEqDiff, Nat.reduceAdd, Nat.reduceMul, reduceCtorEq, Nat.reduceDiv, Nat.reduceLeDiff, Nat.reduceLT, Nat.reduceSub, h0, h3, h4, h5, z]
      exact hstop _ (by simp only [go_sem, ↓reduceIte, reduceIte, Nat.reduceEqDiff, Nat.reduceAdd, Nat.reduceMul, reduceCtorEq, Nat.reduceDiv, Nat.reduceLeDiff, Nat.reduceLT, Nat.reduceSub, h0, h3]) (by rw [← hbub]; rfl)
    | y :: r, hM, hc, hbub, h5, hP2, hstop =>
      have hcl' : r.length + 1 + 1 + post.length = k + 1 := by rw [← hcl, hc]; simp; omega
      have hy : c[r.length]? = some y := by rw [hc]; simp
      have hx' : c[r.length + 1]? = some (k : Int) := by rw [hc]; simp
      have hyb := hcx y (List.mem_of_getElem? hy)
      obtain ⟨yn, rfl⟩ := Int.eq_ofNat_of_zero_le hyb.1
      obtain ⟨o, ho⟩ := get_ex hlt
      obtain ⟨o2, ho2⟩ := get_ex (l := l) (i := yn) (by omega)
      simp only [List.length_cons] at h5
      have z : ((r.length : Int) + 1 > 0) := by omega
      have q1 : r.length < k + 1 := by omega
      have q2 : r.length + 1 < k + 1 := by omega
      have q3 : r.length + 2 ≤ c.length := by omega
      have q4 : ∀ a : Int, r.length + 1 ≤ (c.set (r.length + 1) a).length := fun a => by rw [List.length_set]; omega
      by_cases hf : o.due < o2.due
      · have hf' : dueOf l (k : Int) < dueOf l (yn : Int) := by rw [dueOf_get ho, dueOf_get ho2]; exact hf
        simp (disch := first | assumption | omega) only [go_sem, ↓reduceIte, reduceIte, Nat.reduceEqDiff, Nat.reduceAdd, Nat.reduceMul, reduceCtorEq, Nat.reduceDiv, Nat.reduceLeDiff, Nat.reduceLT, Nat.reduceSub, h0, h3, h4, h5, z, hH, hx', hy, Int.add_sub_cancel, ho, ho2, oAV, hf, q1, q2, q3, q4]
        have hswap : (c.set (r.length + 1) (yn : Int)).set r.length (k : Int) = r.reverse ++ (k : Int) :: ((yn : Int) :: post) := by
          rw [hc, List.reverse_cons, List.append_assoc]
          exact swap_set r.reverse yn k post r.length (by simp)
        refine hP2 r.length _ (by simp) ⟨r, (yn : Int) :: post, (c.set (r.length + 1) (yn : Int)).set r.length (k : Int), rfl, hswap, by simp [hcl], ?_, ?_, by simp only [go_sem, ↓reduceIte, reduceIte, Nat.reduceEqDiff, Nat.reduceAdd, Nat.reduceMul, reduceCtorEq, Nat.reduceDiv, Nat.reduceLeDiff, Nat.reduceLT, Nat.reduceSub, h0, h3, h4], by simp only [go_sem, ↓reduceIte, reduceIte, Nat.reduceEqDiff, Nat.reduceAdd, Nat.reduceMul, reduceCtorEq, Nat.reduceDiv, Nat.reduceLeDiff, Nat.reduceLT, Nat.reduceSub], by simp only [length_setH]; omega⟩
        · intro z hz
          rw [hswap] at hz
          apply hcx
          rw [hc]
          simp only [List.mem_append, List.mem_cons, List.mem_reverse, List.reverse_cons] at hz ⊢
          rcases hz with h | h | h | h <;> simp [h]
        · rw [← hbub]
          conv => rhs; rw [bub, if_pos hf']
      · have hf' : ¬ dueOf l (k : Int) < dueOf l (yn : Int) := by rw [dueOf_get ho, dueOf_get ho2]; exact hf
        simp (disch := first | assumption | omega) only [go_sem, ↓reduceIte, reduceIte, Nat.reduceEqDiff, Nat.reduceAdd, Nat.reduceMul, reduceCtorEq, Nat.reduceDiv, Nat.reduceLeDiff, Nat.reduceLT, Nat.reduceSub, h0, h3, h4, h5, z, hH, hx', hy, Int.add_sub_cancel, ho, ho2, oAV, hf, q1, q2]
        refine hstop _ (by simp only [go_sem, ↓reduceIte, reduceIte, Nat.reduceEqDiff, Nat.reduceAdd, Nat.reduceMul, reduceCtorEq, Nat.reduceDiv, Nat.reduceLeDiff, Nat.reduceLT, Nat.reduceSub, h0, h3]) ?_
        rw [← hbub, bub, if_neg hf']
        simp
  · obtain rfl : k = l.length := by omega
    simp (disch := first | assumption | omega) only [go_sem, ↓reduceIte, reduceIte, Nat.reduceEqDiff, Nat.reduceAdd, Nat.reduceMul, reduceCtorEq, Nat.reduceDiv, Nat.reduceLeDiff, Nat.reduceLT, Nat.reduceSub, h0, h3, h4, hlt]
    rw [List.take_of_length_le (by rw [idx_length]; omega)] at hO
    exact hV _ _ (frz_Own hO)

theorem cs_52 {n base : Nat} {Q : EX × St → Prop} {d : Option Nat} {L : List IOper} {ks : List Kont} {e : Env} {h : Heap} {l : List Order} {x : Bool} (hn : 1 ≤ n) (hl : l.length ≤ 15) : GP (evCall T n) base Q d L ks e (evCall T n false (.fn 52) [.slice (some 3) (l.map oAV) x] h) = GO (evCall T n) base Q L ks ⟨setDst e d (ints (seqOf l)), h⟩ :=
  gp_eq (con_52 l hl) hn (by repeat (first | exact fz_nil _ | refine fz_slice _ _ _ _ ?_ | refine fz_int _ _ _ ?_)) rfl

/-! ### 47: Side -/
theorem con_47 (l : List Order) (s : Int) (hl : l.length ≤ 15) : Con T 1 47 [ords l, .int .i64 s] (ints (side l s)) := by
  refine con_intro t47 fun n hn V hV => ?_
  simp (disch := first | assumption | omega) only [c47, go_sem, ↓reduceIte, reduceIte, Nat.reduceEqDiff, Nat.reduceAdd, Nat.reduceMul, reduceCtorEq, Nat.reduceDiv, Nat.reduceLeDiff, Nat.reduceLT, Nat.reduceSub]
  refine m_loop (fun M st => ∃ (k : Nat) (v : AV), M = l.length - k ∧ k ≤ l.length ∧ At st.env [(0, ords l), (1, .int .i64 s), (5, v), (6, .int .i64 k)] ∧ Own 33 st.heap v .i64 ((side l s).take k) ∧ 33 ≤ st.heap.length) l.length (by omega)
    ⟨0, .slice none [] true, by simp, by omega, by simp [go_sem, ↓reduceIte, reduceIte, Nat.reduceEqDiff, Nat.reduceAdd, Nat.reduceMul, reduceCtorEq, Nat.reduceDiv, Nat.reduceLeDiff, Nat.reduceLT, Nat.reduceSub], own_nil .., by simp⟩ ?_
  rintro M e h hM ⟨k, v, rfl, hk, hE, hO, hlen⟩ P hP
  simp only [At_cons, At_nil] at hE hO hlen
  obtain ⟨h0, h1, h5, h6, -⟩ := hE
  by_cases hlt : k < l.length
  · obtain ⟨o, ho⟩ := get_ex hlt
    have hstep := side_step (s := s) ho
    have hlk : ((side l s).take k).length + 1 ≤ 16 := by rw [List.length_take]; omega
    by_cases hs : s = 1
    · have hs' : (s == 1) = true := by simp [hs]
      rw [if_pos hs] at hstep
      simp (disch := first | assumption | omega) only [go_sem, ↓reduceIte, reduceIte, Nat.reduceEqDiff, Nat.reduceAdd, Nat.reduceMul, reduceCtorEq, Nat.reduceDiv, Nat.reduceLeDiff, Nat.reduceLT, Nat.reduceSub, h0, h1, h5, h6, hlt, ho, oAV, hs']
      refine gp_append1 (by first | with_reducible rfl | (simp only [length_setH, List.length_append, List.length_replicate]; done) | (simp only [length_setH, List.length_append, List.length_replicate]; omega)) hO hlen (by omega) fun x' h' hO' hF hL _ _ => ?_
      simp (disch := first | assumption | omega) only [go_sem, ↓reduceIte, reduceIte, Nat.reduceEqDiff, Nat.reduceAdd, Nat.reduceMul, reduceCtorEq, Nat.reduceDiv, Nat.reduceLeDiff, Nat.reduceLT, Nat.reduceSub, h0, h1, h5, h6]
      exact hP (l.length - (k + 1)) _ (by omega) ⟨k + 1, x', rfl, by omega, by simp only [go_sem, ↓reduceIte, reduceIte, Nat.reduceEqDiff, Nat.reduceAdd, Nat.reduceMul, reduceCtorEq, Nat.reduceDiv, Nat.reduceLeDiff, Nat.reduceLT, Nat.reduceSub, h0, h1], by rw [hstep]; exact hO', Nat.le_trans hlen hL⟩
    · have hs' : (s == 1) = false := by simpa using hs
      rw [if_neg hs] at hstep
      simp (disch := first | assumption | omega) only [go_sem, ↓reduceIte, reduceIte, Nat.reduceEqDiff, Nat.reduceAdd, Nat.reduceMul, reduceCtorEq, Nat.reduceDiv, Nat.reduceLeDiff, Nat.reduceLT, Nat.reduceSub, h0, h1, h5, h6, hlt, ho, oAV, hs']
      refine gp_append1 (by first | with_reducible rfl | (simp only [length_setH, List.length_append, List.length_replicate]; done) | (simp only [length_setH, List.length_append, List.length_replicate]; omega)) hO hlen (by omega) fun x' h' hO' hF hL _ _ => ?_
      simp (disch := first | assumption | omega) only [go_sem, ↓reduceIte, reduceIte, Nat.reduceEqDiff, Nat.reduceAdd, Nat.reduceMul, reduceCtorEq, Nat.reduceDiv, Nat.reduceLeDiff, Nat.reduceLT, Nat.reduceSub, h0, h1, h5, h6]
      exact hP (l.length - (k + 1)) _ (by omega) ⟨k + 1, x', rfl, by omega, by simp only [go_sem, ↓reduceIte, reduceIte, Nat.reduceEqDiff, Nat.reduceAdd, Nat.reduceMul, reduceCtorEq, Nat.reduceDiv, Nat.reduceLeDiff, Nat.reduceLT, Nat.reduceSub, h0, h1], by rw [hstep]; exact hO', Nat.le_trans hlen hL⟩
  · obtain rfl : k = l.length := by omega
    simp (disch := first | assumption | omega) only [go_sem, ↓reduceIte, reduceIte, Nat.reduceEqDiff, Nat.reduceAdd, Nat.reduceMul, reduceCtorEq, Nat.reduceDiv, Nat.reduceLeDiff, Nat.reduceLT, Nat.reduceSub, h0, h1, h5, h6, hlt]
    rw [List.take_of_length_le (by rw [side_length]; omega)] at hO
    exact hV _ _ (frz_Own hO)

theorem cs_47 {n base : Nat} {Q : EX × St → Prop} {d : Option Nat} {L : List IOper} {ks : List Kont} {e : Env} {h : Heap} {l : List Order} {s : Int} {x : Bool} (hn : 1 ≤ n) (hl : l.length ≤ 15) : GP (evCall T n) base Q d L ks e (evCall T n false (.fn 47) [.slice (some 3) (l.map oAV) x, .int .i64 s] h) = GO (evCall T n) base Q L ks ⟨setDst e d (ints (side l s)), h⟩ :=
  gp_eq (con_47 l s hl) hn (by repeat (first | exact fz_nil _ | refine fz_slice _ _ _ _ ?_ | refine fz_int _ _ _ ?_)) rfl

end Go.Ev.YtadneamkkepknaaC
