/- Chains: what is valid, and the places of a chain, the reference's way. Contracts; conditions stand in each. -/
import Derived.Test.YtcghegefcgnhbaaL1Fine
import Derived.Test.YtcghegefcgnhbaaEvSort
import Derived.Test.YtcghegefcgnhbaaL1Math8
set_option linter.unusedSimpArgs false
set_option linter.unusedVariables false
namespace Go.Ev.YtcghegefcgnhbaaC
open Go Go.Proofs

def chErr (N s n : Int) : Int := if N < 1 ∨ 2400 < N ∨ s < 0 ∨ N < s then 2 else if n < 1 ∨ 60 < n then 6 else 0
theorem chErr_zero (N s n : Int) : chErr N s n = 0 ↔ 1 ≤ N ∧ N ≤ 2400 ∧ 0 ≤ s ∧ s ≤ N ∧ 1 ≤ n ∧ n ≤ 60 := by
  unfold chErr
  split
  · constructor <;> intro h <;> omega
  · split
    · constructor <;> intro h <;> omega
    · constructor <;> intro h <;> omega

/-- is a place there? -/
def isPl (N s n p : Nat) : Bool := (List.range n).any fun i => atC N s i == p
/-- the places of a chain -/
def plc (N s n : Nat) : List Nat := (List.range N).filter fun p => isPl N s n p
theorem isPl_iff (N s n p : Nat) : isPl N s n p = true ↔ ∃ i, i < n ∧ atC N s i = p := by
  unfold isPl
  simp [List.any_eq_true]
theorem mem_plc {N s n p : Nat} (hN : 0 < N) : p ∈ plc N s n ↔ ∃ i, i < n ∧ atC N s i = p := by
  unfold plc
  rw [List.mem_filter, isPl_iff, List.mem_range]
  constructor
  · intro h; exact h.2
  · rintro ⟨i, h1, rfl⟩
    exact ⟨at_lt hN s i, i, h1, rfl⟩
theorem plc_sorted (N s n : Nat) : (plc N s n).Pairwise (· < ·) := List.Pairwise.filter _ (List.pairwise_lt_range)
theorem plc_len (N s n : Nat) : (plc N s n).length ≤ N := by
  have := List.length_filter_le (fun p => isPl N s n p) (List.range N)
  simpa [plc] using this
abbrev natI (L : List Nat) : List Int := L.map fun n : Nat => (n : Int)

attribute [local irreducible] Res.all evC evLoop evOps evOper evOp evFn evCall freeze G GO GV GP GC R
set_option maxRecDepth 100000

theorem con_refChain (N s n : Int) : Con T 1 78 [.int .i64 N, .int .i64 s, .int .i64 n] (.int .i64 (chErr N s n)) := by
  refine con_intro t78 fun m hm V hV => ?_
  replace hV : ∀ a h, a = chErr N s n → V (.int .i64 a, h) := fun a h e1 => hV _ _ (by rw [e1]; exact (by repeat (first | exact mz_nil _ _ | exact frz_int _ _ _ _ | exact frz_bool _ _ _ | exact frz_slice _ _ _ _ _ | exact frz_ptr _ _ _ _ | exact frz_nilptr _ _ | refine mz_cons ?_ ?_ | refine frz_agg ?_ | refine frz_two ?_ ?_ | refine frz_three ?_ ?_ ?_)))
  have no2 : (N < 1 ∨ 2400 < N ∨ s < 0 ∨ N < s) → chErr N s n = 2 := fun g => by unfold chErr; rw [if_pos g]
  by_cases g1 : N < 1
  · simp (disch := first | assumption | omega) only [c78, go_sem, ↓reduceIte, reduceIte, Nat.reduceEqDiff, Nat.reduceAdd, Nat.reduceMul, reduceCtorEq, Nat.reduceDiv, Nat.reduceLeDiff, Nat.reduceLT, Nat.reduceSub, g1]
    exact hV _ _ (no2 (by omega)).symm
  by_cases g2 : N > 2400
  · simp (disch := first | assumption | omega) only [c78, go_sem, ↓reduceIte, reduceIte, Nat.reduceEqDiff, Nat.reduceAdd, Nat.reduceMul, reduceCtorEq, Nat.reduceDiv, Nat.reduceLeDiff, Nat.reduceLT, Nat.reduceSub, g1, g2]
    exact hV _ _ (no2 (by omega)).symm
  by_cases g3 : s < 0
  · simp (disch := first | assumption | omega) only [c78, go_sem, ↓reduceIte, reduceIte, Nat.reduceEqDiff, Nat.reduceAdd, Nat.reduceMul, reduceCtorEq, Nat.reduceDiv, Nat.reduceLeDiff, Nat.reduceLT, Nat.reduceSub, g1, g2, g3]
    exact hV _ _ (no2 (by omega)).symm
  by_cases g4 : s > N
  · simp (disch := first | assumption | omega) only [c78, go_sem, ↓reduceIte, reduceIte, Nat.reduceEqDiff, Nat.reduceAdd, Nat.reduceMul, reduceCtorEq, Nat.reduceDiv, Nat.reduceLeDiff, Nat.reduceLT, Nat.reduceSub, g1, g2, g3, g4]
    exact hV _ _ (no2 (by omega)).symm
  have no6 : (n < 1 ∨ 60 < n) → chErr N s n = 6 := fun g => by unfold chErr; rw [if_neg (by omega), if_pos g]
  by_cases g5 : n < 1
  · simp (disch := first | assumption | omega) only [c78, go_sem, ↓reduceIte, reduceIte, Nat.reduceEqDiff, Nat.reduceAdd, Nat.reduceMul, reduceCtorEq, Nat.reduceDiv, Nat.reduceLeDiff, Nat.reduceLT, Nat.reduceSub, g1, g2, g3, g4, g5]
    exact hV _ _ (no6 (by omega)).symm
  by_cases g6 : n > 60
  · simp (disch := first | assumption | omega) only [c78, go_sem, ↓reduceIte, reduceIte, Nat.reduceEqDiff, Nat.reduceAdd, Nat.reduceMul, reduceCtorEq, Nat.reduceDiv, Nat.reduceLeDiff, Nat.reduceLT, Nat.reduceSub, g1, g2, g3, g4, g5, g6]
    exact hV _ _ (no6 (by omega)).symm
  · simp (disch := first | assumption | omega) only [c78, go_sem, ↓reduceIte, reduceIte, Nat.reduceEqDiff, Nat.reduceAdd, Nat.reduceMul, reduceCtorEq, Nat.reduceDiv, Nat.reduceLeDiff, Nat.reduceLT, Nat.reduceSub, g1, g2, g3, g4, g5, g6]
    exact hV _ _ (by unfold chErr; rw [if_neg (by omega), if_neg (by omega)])
theorem con_chain (N s n : Int) : Con T 5 76 [.int .i64 N, .int .i64 s, .int .i64 n] (.int .i64 (chErr N s n)) := by
  refine con_intro t76 fun m hm V hV => ?_
  replace hV : ∀ a h, a = chErr N s n → V (.int .i64 a, h) := fun a h e1 => hV _ _ (by rw [e1]; exact (by repeat (first | exact mz_nil _ _ | exact frz_int _ _ _ _ | exact frz_bool _ _ _ | exact frz_slice _ _ _ _ _ | exact frz_ptr _ _ _ _ | exact frz_nilptr _ _ | refine mz_cons ?_ ?_ | refine frz_agg ?_ | refine frz_two ?_ ?_ | refine frz_three ?_ ?_ ?_)))
  by_cases g1 : 1 ≤ N ∧ N ≤ 2400
  case neg =>
    have hw : (decide (1 ≤ N) && decide (N ≤ 2400)) = false := by rw [Bool.eq_false_iff]; simp; omega
    simp (disch := first | assumption | omega) only [c76, go_sem, ↓reduceIte, reduceIte, Nat.reduceEqDiff, Nat.reduceAdd, Nat.reduceMul, reduceCtorEq, Nat.reduceDiv, Nat.reduceLeDiff, Nat.reduceLT, Nat.reduceSub, cs_within1, hw]
    exact hV _ _ (by unfold chErr; rw [if_pos (by omega)])
  obtain ⟨a1, a2⟩ := g1
  by_cases g2 : 0 ≤ s ∧ s ≤ N
  case neg =>
    have hw : (decide (0 ≤ s) && decide (s ≤ N)) = false := by rw [Bool.eq_false_iff]; simp; omega
    simp (disch := first | assumption | omega) only [c76, go_sem, ↓reduceIte, reduceIte, Nat.reduceEqDiff, Nat.reduceAdd, Nat.reduceMul, reduceCtorEq, Nat.reduceDiv, Nat.reduceLeDiff, Nat.reduceLT, Nat.reduceSub, cs_within1, a1, a2, hw]
    exact hV _ _ (by unfold chErr; rw [if_pos (by omega)])
  obtain ⟨a3, a4⟩ := g2
  by_cases g3 : 1 ≤ n ∧ n ≤ 60
  case neg =>
    have hw : (decide (1 ≤ n) && decide (n ≤ 60)) = false := by rw [Bool.eq_false_iff]; simp; omega
    simp (disch := first | assumption | omega) only [c76, go_sem, ↓reduceIte, reduceIte, Nat.reduceEqDiff, Nat.reduceAdd, Nat.reduceMul, reduceCtorEq, Nat.reduceDiv, Nat.reduceLeDiff, Nat.reduceLT, Nat.reduceSub, cs_within1, a1, a2, a3, a4, hw]
    exact hV _ _ (by unfold chErr; rw [if_neg (by omega), if_pos (by omega)])
  obtain ⟨a5, a6⟩ := g3
  simp (disch := first | assumption | omega) only [c76, go_sem, ↓reduceIte, reduceIte, Nat.reduceEqDiff, Nat.reduceAdd, Nat.reduceMul, reduceCtorEq, Nat.reduceDiv, Nat.reduceLeDiff, Nat.reduceLT, Nat.reduceSub, cs_within1, a1, a2, a3, a4, a5, a6]
  exact hV _ _ (by unfold chErr; rw [if_neg (by omega), if_neg (by omega)])

set_option maxHeartbeats 1000000 in
theorem con_PlacesOf (N s n : Nat) (h1 : 1 ≤ N) (h2 : N ≤ 2400) (h3 : s ≤ N) (h4 : n ≤ 60) : Con T 1 79 [.int .i64 N, .int .i64 s, .int .i64 n] (longsV (natI (plc N s n))) := by
  refine con_intro t79 fun m hm V hV => ?_
  have nf : (¬ False) = True := not_false_eq_true
  simp (disch := first | assumption | omega) only [c79, go_sem, ↓reduceIte, reduceIte, Nat.reduceEqDiff, Nat.reduceAdd, Nat.reduceMul, reduceCtorEq, Nat.reduceDiv, Nat.reduceLeDiff, Nat.reduceLT, Nat.reduceSub]
  refine m_loop (fun M st => ∃ (p : Nat) (v : AV), M = N - p ∧ p ≤ N ∧ At st.env [(0, .int .i64 N), (1, .int .i64 s), (2, .int .i64 n), (7, v), (8, .int .i64 p)] ∧ Own 37 st.heap v .i64 (natI ((List.range p).filter fun p => isPl N s n p)) ∧ 37 ≤ st.heap.length) N (by omega)
    ⟨0, _, by omega, by omega, by simp only [go_sem, ↓reduceIte, reduceIte, Nat.reduceEqDiff, Nat.reduceAdd, Nat.reduceMul, reduceCtorEq, Nat.reduceDiv, Nat.reduceLeDiff, Nat.reduceLT, Nat.reduceSub], own_nil _ _ _, by simp⟩ ?_
  rintro M e h hM ⟨p, v, rfl, hp, hE, hO, hl⟩ P hP
  simp only [At_cons, At_nil] at hE hO hl
  obtain ⟨f0, f1, f2, f7, f8, -⟩ := hE
  have hlen : (natI ((List.range p).filter fun p => isPl N s n p)).length ≤ p := by
    have := List.length_filter_le (fun p => isPl N s n p) (List.range p)
    simpa using this
  by_cases hlt : p < N
  · simp (disch := first | assumption | omega) only [go_sem, ↓reduceIte, reduceIte, Nat.reduceEqDiff, Nat.reduceAdd, Nat.reduceMul, reduceCtorEq, Nat.reduceDiv, Nat.reduceLeDiff, Nat.reduceLT, Nat.reduceSub, f0, f1, f2, f7, f8, hlt]
    refine m_loop (fun M st => ∃ (i : Nat) (b : Bool), M = n - i ∧ i ≤ n ∧ b = (List.range i).any (fun i => atC N s i == p) ∧ At st.env [(0, .int .i64 N), (1, .int .i64 s), (2, .int .i64 n), (7, v), (8, .int .i64 p), (9, .bool b), (10, .int .i64 i)] ∧ st.heap = h) n (by omega)
      ⟨0, false, by omega, by omega, by simp, by simp only [go_sem, ↓reduceIte, reduceIte, Nat.reduceEqDiff, Nat.reduceAdd, Nat.reduceMul, reduceCtorEq, Nat.reduceDiv, Nat.reduceLeDiff, Nat.reduceLT, Nat.reduceSub, f0, f1, f2, f7, f8], rfl⟩ ?_
    rintro M e h' hM2 ⟨i, b, rfl, hi, hb, hE, hh⟩ P' hP'
    simp only [At_cons, At_nil] at hE hh
    obtain ⟨f0, f1, f2, f7, f8, f9, f10, -⟩ := hE
    subst hh
    by_cases hlt2 : i < n
    · have hm1 : i * s ≤ 60 * 2400 := Nat.mul_le_mul (by omega) (by omega)
      have hms : ((i : Int) * (s : Int)) = ((i * s : Nat) : Int) := by simp
      have hany : (List.range (i + 1)).any (fun i => atC N s i == p) = (b || (atC N s i == p)) := by
        rw [hb, List.range_succ, List.any_append]
        simp
      have hcmp : (((i * s % N : Nat) : Int) == (p : Int)) = (atC N s i == p) := by
        rw [Bool.eq_iff_iff]
        simp only [beq_iff_eq, atC]
        omega
      cases b with
      | true =>
        simp (disch := first | assumption | omega) only [go_sem, ↓reduceIte, reduceIte, Nat.reduceEqDiff, Nat.reduceAdd, Nat.reduceMul, reduceCtorEq, Nat.reduceDiv, Nat.reduceLeDiff, Nat.reduceLT, Nat.reduceSub, f0, f1, f2, f7, f8, f9, f10, hlt2]
        exact hP' (n - (i + 1)) _ (by omega) ⟨i + 1, true, rfl, by omega, by rw [hany]; rfl, by simp only [go_sem, ↓reduceIte, reduceIte, Nat.reduceEqDiff, Nat.reduceAdd, Nat.reduceMul, reduceCtorEq, Nat.reduceDiv, Nat.reduceLeDiff, Nat.reduceLT, Nat.reduceSub, f0, f1, f2, f7, f8], rfl⟩
      | false =>
        simp (disch := first | assumption | omega) only [go_sem, ↓reduceIte, reduceIte, Nat.reduceEqDiff, Nat.reduceAdd, Nat.reduceMul, reduceCtorEq, Nat.reduceDiv, Nat.reduceLeDiff, Nat.reduceLT, Nat.reduceSub, f0, f1, f2, f7, f8, f9, f10, hlt2, hms, b_rem, hcmp]
        exact hP' (n - (i + 1)) _ (by omega) ⟨i + 1, atC N s i == p, rfl, by omega, by rw [hany]; rfl, by simp only [go_sem, ↓reduceIte, reduceIte, Nat.reduceEqDiff, Nat.reduceAdd, Nat.reduceMul, reduceCtorEq, Nat.reduceDiv, Nat.reduceLeDiff, Nat.reduceLT, Nat.reduceSub, f0, f1, f2, f7, f8], rfl⟩
    · have hbi : b = isPl N s n p := by
        rw [hb, show i = n by omega]
        rfl
      have hrs : (List.range (p + 1)).filter (fun p => isPl N s n p) = (List.range p).filter (fun p => isPl N s n p) ++ (if isPl N s n p = true then [p] else []) := by
        rw [List.range_succ, List.filter_append]
        congr 1
        rw [List.filter_cons]
        split <;> rfl
      cases hv : isPl N s n p with
      | true =>
        rw [hv] at hbi hrs
        subst hbi
        simp (disch := first | assumption | omega) only [go_sem, ↓reduceIte, reduceIte, Nat.reduceEqDiff, Nat.reduceAdd, Nat.reduceMul, reduceCtorEq, Nat.reduceDiv, Nat.reduceLeDiff, Nat.reduceLT, Nat.reduceSub, f0, f1, f2, f7, f8, f9, f10, hlt2]
        refine gp_append1 (a := (p : Int)) (by first | with_reducible rfl | (simp only [length_setH, List.length_append, List.length_replicate]; done) | (simp only [length_setH, List.length_append, List.length_replicate]; omega)) hO hl (by omega) fun x' h' hO' hF hL _ _ => ?_
        simp (disch := first | assumption | omega) only [go_sem, ↓reduceIte, reduceIte, Nat.reduceEqDiff, Nat.reduceAdd, Nat.reduceMul, reduceCtorEq, Nat.reduceDiv, Nat.reduceLeDiff, Nat.reduceLT, Nat.reduceSub, f0, f1, f2, f8]
        exact hP (N - (p + 1)) _ (by omega) ⟨p + 1, x', rfl, by omega, by simp only [go_sem, ↓reduceIte, reduceIte, Nat.reduceEqDiff, Nat.reduceAdd, Nat.reduceMul, reduceCtorEq, Nat.reduceDiv, Nat.reduceLeDiff, Nat.reduceLT, Nat.reduceSub, f0, f1, f2], by rw [hrs, if_pos rfl]; simpa [natI] using hO', Nat.le_trans hl hL⟩
      | false =>
        rw [hv] at hbi hrs
        subst hbi
        simp (disch := first | assumption | omega) only [go_sem, ↓reduceIte, reduceIte, Nat.reduceEqDiff, Nat.reduceAdd, Nat.reduceMul, reduceCtorEq, Nat.reduceDiv, Nat.reduceLeDiff, Nat.reduceLT, Nat.reduceSub, f0, f1, f2, f7, f8, f9, f10, hlt2]
        exact hP (N - (p + 1)) _ (by omega) ⟨p + 1, v, rfl, by omega, by simp only [go_sem, ↓reduceIte, reduceIte, Nat.reduceEqDiff, Nat.reduceAdd, Nat.reduceMul, reduceCtorEq, Nat.reduceDiv, Nat.reduceLeDiff, Nat.reduceLT, Nat.reduceSub, f0, f1, f2, f7], by rw [hrs, if_neg (by simp), List.append_nil]; exact hO, hl⟩
  · obtain rfl : p = N := by omega
    simp (disch := first | assumption | omega) only [go_sem, ↓reduceIte, reduceIte, Nat.reduceEqDiff, Nat.reduceAdd, Nat.reduceMul, reduceCtorEq, Nat.reduceDiv, Nat.reduceLeDiff, Nat.reduceLT, Nat.reduceSub, f0, f1, f2, f7, f8, hlt]
    exact hV _ _ (frz_Own hO)

end Go.Ev.YtcghegefcgnhbaaC
