/- What Kept answers. Contracts; conditions stand in each. -/
import Derived.Test.YtadneamkkepknaaL5Kept3
set_option linter.unusedSimpArgs false
set_option linter.unusedVariables false
namespace Go.Ev.YtadneamkkepknaaC
open Go Go.Proofs

attribute [local irreducible] Res.all evC evLoop evOps evOper evOp evFn evCall freeze G GO GV GP GC R
set_option maxRecDepth 100000

def keptL (l : List Order) (s : Int) : List Int := (idx l.length).filter fun i => (keptOf l s).contains i
def refKept (l : List Order) (s : Int) : List Int × Int := if chkSide l s ≠ 0 then ([], chkSide l s) else (keptL l s, 0)
def keptV (l : List Order) (s : Int) : AV := .tuple [ints (refKept l s).1, .int .i64 (refKept l s).2]

theorem chkSide_zero (l : List Order) (s : Int) : chkSide l s = 0 ↔ Valid l ∧ (s = 0 ∨ s = 1) := by
  unfold chkSide
  constructor
  · intro h
    split at h
    · next h1 => exact (h1 h).elim
    · next h1 =>
      split at h
      · next h2 => exact ⟨(chk_zero l).1 (by omega), h2⟩
      · cases h
  · rintro ⟨h1, h2⟩
    rw [if_neg (by simp [(chk_zero l).2 h1]), if_pos h2]

theorem cs_75 {n base : Nat} {Q : EX × St → Prop} {d : Option Nat} {L : List IOper} {ks : List Kont} {e : Env} {h : Heap} {l : List Order} {s : Int} (hn : 8 ≤ n) (hv : Valid l) (hs : s = 0 ∨ s = 1) : GP (evCall T n) base Q d L ks e (evCall T n false (.fn 75) [deskV l s] h) = GO (evCall T n) base Q L ks ⟨setDst e d (.agg ((marks (keptOf l s)).map (.int .i64))), h⟩ :=
  gp_eq (con_75 l s hv hs) hn (fz_cons (frz_desk _ _ _ _) (fz_nil _)) rfl

theorem filter_step {n k : Nat} (hk : k < n) (p : Int → Bool) : ((idx n).take (k + 1)).filter p = ((idx n).take k).filter p ++ if p (k : Int) then [(k : Int)] else [] := by
  rw [idx_step hk, List.filter_append]
  congr 1
  simp only [List.filter_cons, List.filter_nil]

theorem con_37 (l : List Order) (s : Int) (hl : l.length ≤ 15) : Con T 11 37 [ords l, .int .i64 s] (keptV l s) := by
  refine con_intro t37 fun n hn V hV => ?_
  unfold keptV refKept at hV
  by_cases hc : chkSide l s = 0
  · obtain ⟨hval, hs⟩ := (chkSide_zero l s).1 hc
    have hc' : (chkSide l s != 0) = false := by simp [hc]
    have hl10 := hval.len
    have hml := marks_length (keptOf l s)
    simp (disch := first | assumption | omega) only [c37, go_sem, ↓reduceIte, reduceIte, Nat.reduceEqDiff, Nat.reduceAdd, Nat.reduceMul, reduceCtorEq, Nat.reduceDiv, Nat.reduceLeDiff, Nat.reduceLT, Nat.reduceSub, cs_69, cs_75, sidedV, hc, hc', bne_self_eq_false, hml, all_one_ints]
    have hsp : splice z10 0 ((marks (keptOf l s)).map (.int .i64)) = (marks (keptOf l s)).map (.int .i64) := splice_full _ _ (by simp [hml])
    refine m_loop (fun M st => ∃ (k : Nat) (v : AV), M = l.length - k ∧ k ≤ l.length ∧ At st.env [(8, .optr 8 0 0), (9, v), (23, .int .i64 l.length), (24, .int .i64 k)] ∧ getH st.heap 8 = .cells 0 ((marks (keptOf l s)).map (.int .i64)) ∧
      Own 42 st.heap v .i64 (((idx l.length).take k).filter fun i => (keptOf l s).contains i) ∧ 42 ≤ st.heap.length) l.length (by omega) ⟨0, .slice none [] true, by simp, by omega, by simp [go_sem, ↓reduceIte, reduceIte, Nat.reduceEqDiff, Nat.reduceAdd, Nat.reduceMul, reduceCtorEq, Nat.reduceDiv, Nat.reduceLeDiff, Nat.reduceLT, Nat.reduceSub], ?_, own_nil .., by simp [length_setH]⟩ ?_
    · simp only [go_sem, ↓reduceIte, reduceIte, Nat.reduceEqDiff, Nat.reduceAdd, Nat.reduceMul, reduceCtorEq, Nat.reduceDiv, Nat.reduceLeDiff, Nat.reduceLT, Nat.reduceSub]
      rw [hsp]
    rintro M e h hM ⟨k, v, rfl, hk, hE, g8, hO, hlen⟩ P hP
    simp only [At_cons, At_nil] at hE g8 hO hlen
    obtain ⟨h8, h9, h23, h24, -⟩ := hE
    by_cases hlt : k < l.length
    · have hk10 : k < 10 := by omega
      have hmg := marks_get (keptOf l s) k hk10
      have hfl : (((idx l.length).take k).filter fun i => (keptOf l s).contains i).length ≤ 15 := by
        refine Nat.le_trans (List.length_filter_le _ _) ?_
        rw [List.length_take]
        omega
      have hstep := filter_step hlt fun i => (keptOf l s).contains i
      by_cases hin : (keptOf l s).contains (k : Int) = true
      · rw [hin, if_pos rfl] at hmg hstep
        have hpos : ((1 : Int) > 0) := by omega
        simp (disch := first | assumption | omega) only [go_sem, ↓reduceIte, reduceIte, Nat.reduceEqDiff, Nat.reduceAdd, Nat.reduceMul, reduceCtorEq, Nat.reduceDiv, Nat.reduceLeDiff, Nat.reduceLT, Nat.reduceSub, h8, h9, h23, h24, hlt, g8, hk10, hmg, hpos, hO.lenA]
        rw [slA_full hO (k1 := .i64) (k2 := .i64) (by simp only [go_sem, ↓reduceIte, reduceIte, Nat.reduceEqDiff, Nat.reduceAdd, Nat.reduceMul, reduceCtorEq, Nat.reduceDiv, Nat.reduceLeDiff, Nat.reduceLT, Nat.reduceSub]) (by simp only [go_sem, ↓reduceIte, reduceIte, Nat.reduceEqDiff, Nat.reduceAdd, Nat.reduceMul, reduceCtorEq, Nat.reduceDiv, Nat.reduceLeDiff, Nat.reduceLT, Nat.reduceSub])]
        simp (disch := first | assumption | omega) only [go_sem, ↓reduceIte, reduceIte, Nat.reduceEqDiff, Nat.reduceAdd, Nat.reduceMul, reduceCtorEq, Nat.reduceDiv, Nat.reduceLeDiff, Nat.reduceLT, Nat.reduceSub]
        refine gp_append_capped (m := 1) (l2 := [(k : Int)]) (by first | with_reducible rfl | (simp only [length_setH, List.length_append, List.length_replicate]; done) | (simp only [length_setH, List.length_append, List.length_replicate]; omega)) hO hlen rfl rfl Nat.one_pos (by omega) fun x' h' hO' hF hL _ => ?_
        simp (disch := first | assumption | omega) only [go_sem, ↓reduceIte, reduceIte, Nat.reduceEqDiff, Nat.reduceAdd, Nat.reduceMul, reduceCtorEq, Nat.reduceDiv, Nat.reduceLeDiff, Nat.reduceLT, Nat.reduceSub, h8, h9, h23, h24]
        exact hP (l.length - (k + 1)) _ (by omega) ⟨k + 1, x', rfl, by omega, by simp only [go_sem, ↓reduceIte, reduceIte, Nat.reduceEqDiff, Nat.reduceAdd, Nat.reduceMul, reduceCtorEq, Nat.reduceDiv, Nat.reduceLeDiff, Nat.reduceLT, Nat.reduceSub, h8, h23], by rw [hF 8 (by omega)]; exact g8, by rw [hstep]; exact hO', Nat.le_trans hlen hL⟩
      · have hin' : (keptOf l s).contains (k : Int) = false := by simpa using hin
        rw [hin', if_neg (by simp)] at hmg hstep
        have hpos : ¬ ((0 : Int) > 0) := by omega
        simp (disch := first | assumption | omega) only [go_sem, ↓reduceIte, reduceIte, Nat.reduceEqDiff, Nat.reduceAdd, Nat.reduceMul, reduceCtorEq, Nat.reduceDiv, Nat.reduceLeDiff, Nat.reduceLT, Nat.reduceSub, h8, h9, h23, h24, hlt, g8, hk10, hmg, hpos]
        exact hP (l.length - (k + 1)) _ (by omega) ⟨k + 1, v, rfl, by omega, by simp only [go_sem, ↓reduceIte, reduceIte, Nat.reduceEqDiff, Nat.reduceAdd, Nat.reduceMul, reduceCtorEq, Nat.reduceDiv, Nat.reduceLeDiff, Nat.reduceLT, Nat.reduceSub, h8, h9, h23], g8, by rw [hstep, List.append_nil]; exact hO, hlen⟩
    · obtain rfl : k = l.length := by omega
      simp (disch := first | assumption | omega) only [go_sem, ↓reduceIte, reduceIte, Nat.reduceEqDiff, Nat.reduceAdd, Nat.reduceMul, reduceCtorEq, Nat.reduceDiv, Nat.reduceLeDiff, Nat.reduceLT, Nat.reduceSub, h8, h9, h23, h24, hlt]
      rw [List.take_of_length_le (by rw [idx_length]; omega)] at hO
      refine hV _ _ ?_
      rw [if_neg (by omega)]
      exact frz_two (frz_Own hO) (frz_int _ _ _ _)
  · have hc' : (chkSide l s != 0) = true := by simp [hc]
    simp (disch := first | assumption | omega) only [c37, go_sem, ↓reduceIte, reduceIte, Nat.reduceEqDiff, Nat.reduceAdd, Nat.reduceMul, reduceCtorEq, Nat.reduceDiv, Nat.reduceLeDiff, Nat.reduceLT, Nat.reduceSub, cs_69, sidedV, hc']
    refine hV _ _ ?_
    rw [if_pos hc]
    exact frz_two (frz_slice _ _ _ _ _) (frz_int _ _ _ _)

end Go.Ev.YtadneamkkepknaaC
