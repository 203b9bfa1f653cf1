/- How many orders are late at least, and whether an order can be kept: the program's and the reference's. Contracts; conditions stand in each. -/
import Derived.Test.YtadneamkkepknaaL5Most
import Derived.Test.YtadneamkkepknaaL5Can
import Derived.Test.YtadneamkkepknaaL5Math
import Derived.Test.YtadneamkkepknaaEvMore
set_option linter.unusedSimpArgs false
set_option linter.unusedVariables false
namespace Go.Ev.YtadneamkkepknaaC
open Go Go.Proofs

def cntB (out : List Nat) (o : Nat) : Nat := (out.map fun b => b / 2 ^ o % 2).sum
theorem cntB_le (o : Nat) : ∀ out : List Nat, cntB out o ≤ out.length
  | [] => by simp [cntB]
  | b :: r => by
    have := cntB_le o r
    simp only [cntB, List.map_cons, List.sum_cons, List.length_cons] at this ⊢
    omega
theorem cntB_all (o : Nat) : ∀ out : List Nat, cntB out o = out.length ↔ ∀ b ∈ out, bitB b o = true
  | [] => by simp [cntB]
  | b :: r => by
    have ih := cntB_all o r
    have hle := cntB_le o r
    simp only [cntB, List.map_cons, List.sum_cons, List.length_cons, List.forall_mem_cons, bitB, decide_eq_true_eq] at ih hle ⊢
    rw [← ih]
    omega
theorem cntB_ex (o : Nat) : ∀ out : List Nat, 0 < cntB out o ↔ ∃ b ∈ out, bitB b o = true
  | [] => by simp [cntB]
  | b :: r => by
    have ih := cntB_ex o r
    simp only [cntB, List.map_cons, List.sum_cons, bitB, decide_eq_true_eq] at ih ⊢
    have e : (∃ x, x ∈ b :: r ∧ x / 2 ^ o % 2 = 1) ↔ b / 2 ^ o % 2 = 1 ∨ ∃ x, x ∈ r ∧ x / 2 ^ o % 2 = 1 := by
      constructor
      · rintro ⟨x, hx, h⟩
        rcases List.mem_cons.1 hx with rfl | hx
        · exact .inl h
        · exact .inr ⟨x, hx, h⟩
      · rintro (h | ⟨x, hx, h⟩)
        · exact ⟨b, List.mem_cons_self, h⟩
        · exact ⟨x, List.mem_cons_of_mem _ hx, h⟩
    rw [e, ← ih]
    omega

attribute [local irreducible] Res.all evC evLoop evOps evOper evOp evFn evCall freeze G GO GV GP GC R
set_option maxRecDepth 100000

/-! ### 51: Listed -/
theorem con_51 (b n : Nat) (hb : b < 4611686018427387904) (hn15 : n ≤ 15) : Con T 1 51 [.int .i64 b, .int .i64 n] (ints (listed b n)) := by
  refine con_intro t51 fun f hf V hV => ?_
  simp (disch := first | assumption | omega) only [c51, go_sem, ↓reduceIte, reduceIte, Nat.reduceEqDiff, Nat.reduceAdd, Nat.reduceMul, reduceCtorEq, Nat.reduceDiv, Nat.reduceLeDiff, Nat.reduceLT, Nat.reduceSub]
  refine m_loop (fun M st => ∃ (k : Nat) (v : AV), M = n - k ∧ k ≤ n ∧ At st.env [(0, .int .i64 b), (1, .int .i64 n), (5, v), (6, .int .i64 k)] ∧ Own 22 st.heap v .i64 (((idx n).take k).filter fun i => bitB b i.toNat) ∧ 22 ≤ st.heap.length) n (by omega)
    ⟨0, .slice none [] true, by simp, by omega, by simp [go_sem, ↓reduceIte, reduceIte, Nat.reduceEqDiff, Nat.reduceAdd, Nat.reduceMul, reduceCtorEq, Nat.reduceDiv, Nat.reduceLeDiff, Nat.reduceLT, Nat.reduceSub], own_nil .., by simp⟩ ?_
  rintro M e h hM ⟨k, v, rfl, hk, hE, hO, hlen⟩ P hP
  simp only [At_cons, At_nil] at hE hO hlen
  obtain ⟨h0, h1, h5, h6, -⟩ := hE
  by_cases hlt : k < n
  · have hq : b / 2 ^ k < 4611686018427387904 := Nat.lt_of_le_of_lt (Nat.div_le_self _ _) hb
    have hk63 : k ≤ 63 := by omega
    have hfl : (((idx n).take k).filter fun i => bitB b i.toNat).length ≤ 15 := by
      refine Nat.le_trans (List.length_filter_le _ _) ?_
      rw [List.length_take]
      omega
    have hstep := filter_step hlt fun i => bitB b i.toNat
    simp only [Int.toNat_natCast] at hstep
    by_cases hbit : bitB b k = true
    · rw [if_pos hbit] at hstep
      have hm : b / 2 ^ k % 2 = 1 := by simpa [bitB] using hbit
      have hb1 : (((b / 2 ^ k % 2 : Nat) : Int) == 1) = true := by rw [hm]; rfl
      simp (disch := first | assumption | omega) only [go_sem, ↓reduceIte, reduceIte, Nat.reduceEqDiff, Nat.reduceAdd, Nat.reduceMul, reduceCtorEq, Nat.reduceDiv, Nat.reduceLeDiff, Nat.reduceLT, Nat.reduceSub, h0, h1, h5, h6, hlt, b_shr_nat, b_and1, hb1]
      refine gp_append1 (by first | with_reducible rfl | (simp only [length_setH, List.length_append, List.length_replicate]; done) | (simp only [length_setH, List.length_append, List.length_replicate]; omega)) hO hlen (by omega) fun x' h' hO' hF hL _ _ => ?_
      simp (disch := first | assumption | omega) only [go_sem, ↓reduceIte, reduceIte, Nat.reduceEqDiff, Nat.reduceAdd, Nat.reduceMul, reduceCtorEq, Nat.reduceDiv, Nat.reduceLeDiff, Nat.reduceLT, Nat.reduceSub, h0, h1, h5, h6]
      exact hP (n - (k + 1)) _ (by omega) ⟨k + 1, x', rfl, by omega, by simp only [go_sem, ↓reduceIte, reduceIte, Nat.reduceEqDiff, Nat.reduceAdd, Nat.reduceMul, reduceCtorEq, Nat.reduceDiv, Nat.reduceLeDiff, Nat.reduceLT, Nat.reduceSub, h0, h1], by rw [hstep]; exact hO', Nat.le_trans hlen hL⟩
    · rw [if_neg hbit] at hstep
      have hm : ¬ b / 2 ^ k % 2 = 1 := by simpa [bitB] using hbit
      have hb1 : (((b / 2 ^ k % 2 : Nat) : Int) == 1) = false := by rw [beq_eq_false_iff_ne]; omega
      simp (disch := first | assumption | omega) only [go_sem, ↓reduceIte, reduceIte, Nat.reduceEqDiff, Nat.reduceAdd, Nat.reduceMul, reduceCtorEq, Nat.reduceDiv, Nat.reduceLeDiff, Nat.reduceLT, Nat.reduceSub, h0, h1, h5, h6, hlt, b_shr_nat, b_and1, hb1]
      exact hP (n - (k + 1)) _ (by omega) ⟨k + 1, v, rfl, by omega, by simp only [go_sem, ↓reduceIte, reduceIte, Nat.reduceEqDiff, Nat.reduceAdd, Nat.reduceMul, reduceCtorEq, Nat.reduceDiv, Nat.reduceLeDiff, Nat.reduceLT, Nat.reduceSub, h0, h1, h5], by rw [hstep, List.append_nil]; exact hO, hlen⟩
  · obtain rfl : k = n := by omega
    simp (disch := first | assumption | omega) only [go_sem, ↓reduceIte, reduceIte, Nat.reduceEqDiff, Nat.reduceAdd, Nat.reduceMul, reduceCtorEq, Nat.reduceDiv, Nat.reduceLeDiff, Nat.reduceLT, Nat.reduceSub, h0, h1, h5, h6, hlt]
    rw [List.take_of_length_le (by rw [idx_length]; omega)] at hO
    exact hV _ _ (frz_Own hO)

theorem cs_51 {n base : Nat} {Q : EX × St → Prop} {d : Option Nat} {L : List IOper} {ks : List Kont} {e : Env} {h : Heap} {b m : Nat} (hn : 1 ≤ n) (hb : b < 4611686018427387904) (hm : m ≤ 15) : GP (evCall T n) base Q d L ks e (evCall T n false (.fn 51) [.int .i64 (b : Int), .int .i64 (m : Int)] h) = GO (evCall T n) base Q L ks ⟨setDst e d (ints (listed b m)), h⟩ :=
  gp_eq (con_51 b m hb hm) hn (by repeat (first | exact fz_nil _ | refine fz_slice _ _ _ _ ?_ | refine fz_int _ _ _ ?_)) rfl

/-! ### 80: Best -/
def bestV (l : List Order) (s : Int) : AV := .tuple [ints ((bestOf l s).1.map fun b : Nat => (b : Int)), .int .i64 ((bestOf l s).2 : Nat)]

theorem con_80 (l : List Order) (s : Int) (hv : Valid l) : Con T 5 80 [ords l, .int .i64 s] (bestV l s) := by
  refine con_intro t80 fun n hn V hV => ?_
  have hl := hv.len
  have hl60 : l.length ≤ 60 := by omega
  have hl15 : l.length ≤ 15 := by omega
  obtain ⟨N, hN, hsh, hbest⟩ : ∃ N : Nat, N ≤ 1024 ∧ binA .shl (.int .i64 1) (.int .i64 l.length) = .ret (.int .i64 N) ∧ bestOf l s = bestGo (fun b => canB l s (listed b l.length)) (fun b => (listed b l.length).length) (List.range N) [] 0 :=
    ⟨2 ^ l.length, Nat.le_trans (Nat.pow_le_pow_right (by omega) hl) (by decide), b_shl1 _ hl60, rfl⟩
  simp (disch := first | assumption | omega) only [c80, go_sem, ↓reduceIte, reduceIte, Nat.reduceEqDiff, Nat.reduceAdd, Nat.reduceMul, reduceCtorEq, Nat.reduceDiv, Nat.reduceLeDiff, Nat.reduceLT, Nat.reduceSub]
  refine m_loop (fun M st => ∃ (k : Nat) (v : AV) (out : List Nat) (most : Nat), M = N - k ∧ k ≤ N ∧ most ≤ 15 ∧ out.length ≤ k ∧ At st.env [(0, ords l), (1, .int .i64 s), (6, v), (7, .int .i64 most), (8, .int .i64 k)] ∧ Own 44 st.heap v .i64 (out.map fun b : Nat => (b : Int)) ∧ 44 ≤ st.heap.length ∧
    bestGo (fun b => canB l s (listed b l.length)) (fun b => (listed b l.length).length) ((List.range (N)).drop k) out most = bestOf l s) (N) (by omega)
    ⟨0, .slice none [] true, [], 0, by simp, by omega, by omega, by simp, by simp [go_sem, ↓reduceIte, reduceIte, Nat.reduceEqDiff, Nat.reduceAdd, Nat.reduceMul, reduceCtorEq, Nat.reduceDiv, Nat.reduceLeDiff, Nat.reduceLT, Nat.reduceSub], own_nil .., by simp, hbest.symm⟩ ?_
  rintro M e h hM ⟨k, v, out, most, rfl, hk, hmost, hol, hE, hO, hlen, hgo⟩ P hP
  simp only [At_cons, At_nil] at hE hO hlen
  obtain ⟨h0, h1, h6, h7, h8, -⟩ := hE
  by_cases hlt : k < N
  · obtain ⟨hLb, hLn⟩ := listed_facts k l.length
    have hLl : (listed k l.length).length ≤ 15 := by
      have := List.length_filter_le (fun i => bitB k i.toNat) (idx l.length)
      rw [idx_length] at this
      simp only [listed]
      omega
    have hcon := con_78 l s (listed k l.length) hv hLl hLb
    rw [drop_cons (x := k) (by simp [hlt]), bestGo] at hgo
    have hkb : k < 4611686018427387904 := by omega
    have hout : (out.map fun b : Nat => (b : Int)).length + 1 ≤ 2000 := by rw [List.length_map]; omega
    generalize hL : listed k l.length = ks at *
    by_cases g1 : ks.length < most
    · rw [if_pos (.inl g1)] at hgo
      simp (disch := first | assumption | omega) only [go_sem, ↓reduceIte, reduceIte, Nat.reduceEqDiff, Nat.reduceAdd, Nat.reduceMul, reduceCtorEq, Nat.reduceDiv, Nat.reduceLeDiff, Nat.reduceLT, Nat.reduceSub, h0, h1, h6, h7, h8, hsh, hlt, cs_51, hL, g1]
      exact hP _ _ (by omega) ⟨k + 1, v, out, most, rfl, by omega, hmost, by omega, by simp only [go_sem, ↓reduceIte, reduceIte, Nat.reduceEqDiff, Nat.reduceAdd, Nat.reduceMul, reduceCtorEq, Nat.reduceDiv, Nat.reduceLeDiff, Nat.reduceLT, Nat.reduceSub, h0, h1, h6, h7], hO, hlen, hgo⟩
    by_cases g2 : canB l s ks = true
    · rw [if_neg (by rw [g2]; simp; omega)] at hgo
      by_cases g3 : ks.length > most
      · rw [if_pos g3] at hgo
        simp (disch := first | assumption | omega) only [go_sem, ↓reduceIte, reduceIte, Nat.reduceEqDiff, Nat.reduceAdd, Nat.reduceMul, reduceCtorEq, Nat.reduceDiv, Nat.reduceLeDiff, Nat.reduceLT, Nat.reduceSub, h0, h1, h6, h7, h8, hsh, hlt, cs_51, hL, g1, g2, g3, cs_78]
        refine gp_append1 (by first | with_reducible rfl | (simp only [length_setH, List.length_append, List.length_replicate]; done) | (simp only [length_setH, List.length_append, List.length_replicate]; omega)) (own_nil 44 h .i64) hlen (by simp) fun x' h' hO' hF hL _ _ => ?_
        simp (disch := first | assumption | omega) only [go_sem, ↓reduceIte, reduceIte, Nat.reduceEqDiff, Nat.reduceAdd, Nat.reduceMul, reduceCtorEq, Nat.reduceDiv, Nat.reduceLeDiff, Nat.reduceLT, Nat.reduceSub, h0, h1, h6, h7, h8]
        exact hP _ _ (by omega) ⟨k + 1, x', [k], ks.length, rfl, by omega, hLl, by simp, by simp only [go_sem, ↓reduceIte, reduceIte, Nat.reduceEqDiff, Nat.reduceAdd, Nat.reduceMul, reduceCtorEq, Nat.reduceDiv, Nat.reduceLeDiff, Nat.reduceLT, Nat.reduceSub, h0, h1], hO', Nat.le_trans hlen hL, hgo⟩
      · rw [if_neg g3] at hgo
        simp (disch := first | assumption | omega) only [go_sem, ↓reduceIte, reduceIte, Nat.reduceEqDiff, Nat.reduceAdd, Nat.reduceMul, reduceCtorEq, Nat.reduceDiv, Nat.reduceLeDiff, Nat.reduceLT, Nat.reduceSub, h0, h1, h6, h7, h8, hsh, hlt, cs_51, hL, g1, g2, g3, cs_78]
        refine gp_append1 (by first | with_reducible rfl | (simp only [length_setH, List.length_append, List.length_replicate]; done) | (simp only [length_setH, List.length_append, List.length_replicate]; omega)) hO hlen (by omega) fun x' h' hO' hF hL _ _ => ?_
        simp (disch := first | assumption | omega) only [go_sem, ↓reduceIte, reduceIte, Nat.reduceEqDiff, Nat.reduceAdd, Nat.reduceMul, reduceCtorEq, Nat.reduceDiv, Nat.reduceLeDiff, Nat.reduceLT, Nat.reduceSub, h0, h1, h6, h7, h8]
        exact hP _ _ (by omega) ⟨k + 1, x', out ++ [k], most, rfl, by omega, hmost, by simp; omega, by simp only [go_sem, ↓reduceIte, reduceIte, Nat.reduceEqDiff, Nat.reduceAdd, Nat.reduceMul, reduceCtorEq, Nat.reduceDiv, Nat.reduceLeDiff, Nat.reduceLT, Nat.reduceSub, h0, h1, h7], by rw [List.map_append]; exact hO', Nat.le_trans hlen hL, hgo⟩
    · have g2' : canB l s ks = false := by simpa using g2
      rw [if_pos (.inr g2')] at hgo
      simp (disch := first | assumption | omega) only [go_sem, ↓reduceIte, reduceIte, Nat.reduceEqDiff, Nat.reduceAdd, Nat.reduceMul, reduceCtorEq, Nat.reduceDiv, Nat.reduceLeDiff, Nat.reduceLT, Nat.reduceSub, h0, h1, h6, h7, h8, hsh, hlt, cs_51, hL, g1, g2', cs_78]
      exact hP _ _ (by omega) ⟨k + 1, v, out, most, rfl, by omega, hmost, by omega, by simp only [go_sem, ↓reduceIte, reduceIte, Nat.reduceEqDiff, Nat.reduceAdd, Nat.reduceMul, reduceCtorEq, Nat.reduceDiv, Nat.reduceLeDiff, Nat.reduceLT, Nat.reduceSub, h0, h1, h6, h7], hO, hlen, hgo⟩
  · simp (disch := first | assumption | omega) only [go_sem, ↓reduceIte, reduceIte, Nat.reduceEqDiff, Nat.reduceAdd, Nat.reduceMul, reduceCtorEq, Nat.reduceDiv, Nat.reduceLeDiff, Nat.reduceLT, Nat.reduceSub, h0, h1, h6, h7, h8, hsh, hlt]
    rw [List.drop_eq_nil_of_le (by simp; omega)] at hgo
    have hb : (out, most) = bestOf l s := hgo
    refine hV _ _ ?_
    rw [bestV, ← hb]
    exact frz_two (frz_Own hO) (frz_int _ _ _ _)

end Go.Ev.YtadneamkkepknaaC
