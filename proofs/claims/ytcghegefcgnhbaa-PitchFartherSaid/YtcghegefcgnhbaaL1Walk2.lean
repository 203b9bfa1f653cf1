/- Walk, the program's and the reference's; the law PitchPaths answers true, whatever it is handed. Conditions: the arguments are integers that fit their kinds, and lists no longer than memory allows. -/
import Derived.Test.YtcghegefcgnhbaaL1Walk
set_option linter.unusedSimpArgs false
set_option linter.unusedVariables false
namespace Go.Ev.YtcghegefcgnhbaaC
open Go Go.Proofs

def badP (L : List Int) : Prop := (∃ n ∈ L, n < 0 ∨ 10000 < n) ∨ 0 ∈ L.drop 1 ∨ L = [0]
open Classical in
noncomputable def wErr (L : List Int) : Int := if 40 < L.length then 6 else if badP L then 3 else if fitsW L then 0 else 4
open Classical in
noncomputable def wlk (L : List Int) : Frac × Int := (if wErr L = 0 then (walkB 0 L wholeB).sum else zeroF, wErr L)
theorem wErr_many {L : List Int} (h : 40 < L.length) : wlk L = (zeroF, 6) := by
  have e : wErr L = 6 := by unfold wErr; rw [if_pos h]
  unfold wlk
  rw [e]
  rfl
theorem wErr_bad {L : List Int} (h : L.length ≤ 40) (hb : badP L) : wlk L = (zeroF, 3) := by
  have e : wErr L = 3 := by unfold wErr; rw [if_neg (by omega), if_pos hb]
  unfold wlk
  rw [e]
  rfl
theorem wErr_over {L : List Int} (h : L.length ≤ 40) (hb : ¬ badP L) (hf : ¬ fitsW L) : wlk L = (zeroF, 4) := by
  have e : wErr L = 4 := by unfold wErr; rw [if_neg (by omega), if_neg hb, if_neg hf]
  unfold wlk
  rw [e]
  rfl
theorem wErr_ok {L : List Int} (h : L.length ≤ 40) (hb : ¬ badP L) (hf : fitsW L) : wlk L = ((walkB 0 L wholeB).sum, 0) := by
  have e : wErr L = 0 := by unfold wErr; rw [if_neg (by omega), if_neg hb, if_pos hf]
  unfold wlk
  rw [e, if_pos rfl]
theorem notBad_range {L : List Int} (h : ¬ badP L) : ∀ n ∈ L, 0 ≤ n ∧ n ≤ 10000 := fun n hn =>
  Classical.byContradiction fun hc => h (.inl ⟨n, hn, by omega⟩)

attribute [local irreducible] Res.all evC evLoop evOps evOper evOp evFn evCall freeze G GO GV GP GC R
set_option maxRecDepth 100000

/-! ### Contains -/
theorem con_Index (xs : List Int) (a : Int) (hl : xs.length ≤ 1000) : Con T 1 82 [longsV xs, .int .i64 a] (.int .i64 (idxB (fun x => a == x) xs 0)) := by
  refine con_intro t82 fun n hn V hV => ?_
  simp (disch := first | assumption | omega) only [c82, go_sem, ↓reduceIte, reduceIte, Nat.reduceEqDiff, Nat.reduceAdd, Nat.reduceMul, reduceCtorEq, Nat.reduceDiv, Nat.reduceLeDiff, Nat.reduceLT, Nat.reduceSub]
  refine m_loop (fun M st => ∃ k : Nat, M = xs.length - k ∧ k ≤ xs.length ∧ At st.env [(0, longsV xs), (1, .int .i64 a), (7, .int .i64 xs.length), (8, .int .i64 k)] ∧ idxB (fun x => a == x) xs 0 = idxB (fun x => a == x) (xs.drop k) k) xs.length (by omega) ⟨0, by simp, by omega, by simp only [go_sem, ↓reduceIte, reduceIte, Nat.reduceEqDiff, Nat.reduceAdd, Nat.reduceMul, reduceCtorEq, Nat.reduceDiv, Nat.reduceLeDiff, Nat.reduceLT, Nat.reduceSub], rfl⟩ ?_
  rintro M e h hM ⟨k, rfl, hk, hE, hA⟩ P hP
  simp only [At_cons, At_nil] at hE
  obtain ⟨f0, f1, f7, f8, -⟩ := hE
  by_cases hlt : k < xs.length
  · obtain ⟨y, hy⟩ := get_ex hlt
    rw [drop_cons hy, idxB] at hA
    by_cases hp : (a == y) = true
    · simp (disch := first | assumption | omega) only [go_sem, ↓reduceIte, reduceIte, Nat.reduceEqDiff, Nat.reduceAdd, Nat.reduceMul, reduceCtorEq, Nat.reduceDiv, Nat.reduceLeDiff, Nat.reduceLT, Nat.reduceSub, f0, f1, f7, f8, hlt, hy, hp]
      exact hV _ _ (by rw [frz_int, hA, if_pos hp])
    · have hp' : (a == y) = false := by simpa using hp
      simp (disch := first | assumption | omega) only [go_sem, ↓reduceIte, reduceIte, Nat.reduceEqDiff, Nat.reduceAdd, Nat.reduceMul, reduceCtorEq, Nat.reduceDiv, Nat.reduceLeDiff, Nat.reduceLT, Nat.reduceSub, f0, f1, f7, f8, hlt, hy, hp']
      exact hP (xs.length - (k + 1)) _ (by omega) ⟨k + 1, rfl, by omega, by simp only [go_sem, ↓reduceIte, reduceIte, Nat.reduceEqDiff, Nat.reduceAdd, Nat.reduceMul, reduceCtorEq, Nat.reduceDiv, Nat.reduceLeDiff, Nat.reduceLT, Nat.reduceSub, f0, f1, f7], by rw [hA, if_neg hp]; rfl⟩
  · simp (disch := first | assumption | omega) only [go_sem, ↓reduceIte, reduceIte, Nat.reduceEqDiff, Nat.reduceAdd, Nat.reduceMul, reduceCtorEq, Nat.reduceDiv, Nat.reduceLeDiff, Nat.reduceLT, Nat.reduceSub, f0, f1, f7, f8, hlt]
    exact hV _ _ (by rw [frz_int, hA, List.drop_eq_nil_of_le (by omega)]; rfl)
theorem con_Contains (xs : List Int) (a : Int) (hl : xs.length ≤ 1000) : Con T 2 74 [longsV xs, .int .i64 a] (.bool (decide (a ∈ xs))) := by
  refine con_intro t74 fun n hn V hV => ?_
  simp (disch := first | assumption | omega) only [c74, go_sem, ↓reduceIte, reduceIte, Nat.reduceEqDiff, Nat.reduceAdd, Nat.reduceMul, reduceCtorEq, Nat.reduceDiv, Nat.reduceLeDiff, Nat.reduceLT, Nat.reduceSub]
  refine gp_con (con_Index xs a hl) hn (by repeat (first | exact fz_nil _ | refine fz_slice _ _ _ _ ?_ | refine fz_int _ _ _ ?_)) (or_pi _ _ _) ?_
  simp (disch := first | assumption | omega) only [go_sem, ↓reduceIte, reduceIte, Nat.reduceEqDiff, Nat.reduceAdd, Nat.reduceMul, reduceCtorEq, Nat.reduceDiv, Nat.reduceLeDiff, Nat.reduceLT, Nat.reduceSub, idxB_any]
  refine hV _ _ ?_
  have e : xs.any (fun x => a == x) = decide (a ∈ xs) := by
    rw [Bool.eq_iff_iff]
    simp
  rw [e]
  exact (by repeat (first | exact mz_nil _ _ | exact frz_int _ _ _ _ | exact frz_bool _ _ _ | exact frz_slice _ _ _ _ _ | exact frz_ptr _ _ _ _ | exact frz_nilptr _ _ | refine mz_cons ?_ ?_ | refine frz_agg ?_ | refine frz_two ?_ ?_ | refine frz_three ?_ ?_ ?_))
theorem cs_Contains {n base : Nat} {Q : EX × St → Prop} {d : Option Nat} {L : List IOper} {ks : List Kont} {e : Env} {h : Heap} {xs : List Int} {a : Int} {b : Bool} (hn : 2 ≤ n) (hl : xs.length ≤ 1000) : GP (evCall T n) base Q d L ks e (evCall T n false (.fn 74) [.slice none (xs.map (.int .i64)) b, .int .i64 a] h) = GO (evCall T n) base Q L ks ⟨setDst e d (.bool (decide (a ∈ xs))), h⟩ :=
  gp_eq (con_Contains xs a hl) hn (by repeat (first | exact fz_nil _ | refine fz_slice _ _ _ _ ?_ | refine fz_int _ _ _ ?_)) (or_pb _ _)
theorem cs_walk {n base : Nat} {Q : EX × St → Prop} {d : Option Nat} {L : List IOper} {ks : List Kont} {e : Env} {h : Heap} {xs : List Int} {b : Bool} (hn : 5 ≤ n) (hl : xs.length ≤ 40) (hx : ∀ n ∈ xs, 0 ≤ n ∧ n ≤ 10000) : GP (evCall T n) base Q d L ks e (evCall T n false (.fn 75) [.slice none (xs.map (.int .i64)) b] h) = GO (evCall T n) base Q L ks ⟨setDst e d (.tuple [rAV (walkF xs), .bool (decide (fitsW xs))]), h⟩ :=
  gp_eq (con_walk xs hl hx) hn (by repeat (first | exact fz_nil _ | refine fz_slice _ _ _ _ ?_ | refine fz_int _ _ _ ?_)) (by simp [plainB, depth])

/-! ### Walk -/
theorem withinB_range (xs : List Int) : withinB 0 10000 xs = true ↔ ∀ n ∈ xs, 0 ≤ n ∧ n ≤ 10000 := by
  unfold withinB
  simp only [Bool.not_eq_true', List.any_eq_false, Bool.or_eq_true, decide_eq_true_eq]
  constructor
  · intro h n hn
    have := h n hn
    omega
  · intro h n hn
    have := h n hn
    omega

set_option maxHeartbeats 1000000 in
theorem con_Walk (L : List Int) : Con T 6 39 [longsV L] (.tuple [rAV (wlk L).1, .int .i64 (wlk L).2]) := by
  refine con_intro t39 fun n hn V hV => ?_
  replace hV : ∀ a c h, (a, c) = wlk L → V (.tuple [rAV a, .int .i64 c], h) := fun a c h e1 => hV _ _ (by rw [← e1]; exact (by repeat (first | exact mz_nil _ _ | exact frz_int _ _ _ _ | exact frz_bool _ _ _ | exact frz_slice _ _ _ _ _ | exact frz_ptr _ _ _ _ | exact frz_nilptr _ _ | refine mz_cons ?_ ?_ | refine frz_agg ?_ | refine frz_two ?_ ?_ | refine frz_three ?_ ?_ ?_)))
  have nf : (¬ False) = True := not_false_eq_true
  by_cases g : (L.length : Int) > 40
  · simp (disch := first | assumption | omega) only [c39, go_sem, ↓reduceIte, reduceIte, Nat.reduceEqDiff, Nat.reduceAdd, Nat.reduceMul, reduceCtorEq, Nat.reduceDiv, Nat.reduceLeDiff, Nat.reduceLT, Nat.reduceSub, g, resV_ct, ret_bind, nf]
    exact hV zeroF _ _ (wErr_many (by omega)).symm
  have hl : L.length ≤ 40 := by omega
  by_cases hw : withinB 0 10000 L = true
  case neg =>
    have hw' : withinB 0 10000 L = false := by simpa using hw
    have hb : badP L := Classical.byContradiction fun h => hw ((withinB_range L).2 (notBad_range h))
    simp (disch := first | assumption | omega) only [c39, go_sem, ↓reduceIte, reduceIte, Nat.reduceEqDiff, Nat.reduceAdd, Nat.reduceMul, reduceCtorEq, Nat.reduceDiv, Nat.reduceLeDiff, Nat.reduceLT, Nat.reduceSub, g, cs_within, hw', resV_ct, ret_bind, nf]
    exact hV zeroF _ _ (wErr_bad hl hb).symm
  have hr := (withinB_range L).1 hw
  obtain ⟨m, hm⟩ : ∃ m : Nat, m = min 1 L.length := ⟨_, rfl⟩
  have hm1 : mn 1 (L.length : Int) = (m : Int) := by unfold mn; split <;> omega
  have hm2 : (m : Int) ≤ L.length := by omega
  have hm3 : (0 : Int) ≤ m := by omega
  have hdl : (L.drop m).length ≤ 1000 := by simp; omega
  have hd1 : L.drop m = L.drop 1 := by
    cases L with
    | nil => simp
    | cons a r =>
      have : m = 1 := by rw [hm]; simp
      rw [this]
  have emap : (L.map (AV.int .i64)).drop m = (L.drop m).map (.int .i64) := by rw [List.map_drop]
  by_cases hz : (0 : Int) ∈ L.drop m
  · have hz' : decide ((0 : Int) ∈ L.drop m) = true := decide_eq_true hz
    have hb : badP L := .inr (.inl (hd1 ▸ hz))
    simp (disch := first | assumption | omega) only [c39, go_sem, ↓reduceIte, reduceIte, Nat.reduceEqDiff, Nat.reduceAdd, Nat.reduceMul, reduceCtorEq, Nat.reduceDiv, Nat.reduceLeDiff, Nat.reduceLT, Nat.reduceSub, g, cs_within, hw, min_mn, hm1, hm2, hm3, Int.toNat_natCast, emap, cs_Contains, hz', resV_ct, ret_bind, nf]
    exact hV zeroF _ _ (wErr_bad hl hb).symm
  have hz' : decide ((0 : Int) ∈ L.drop m) = false := decide_eq_false hz
  have hnz : ¬ L = [0] → ¬ badP L := fun h0 hb => by
    rcases hb with ⟨n, hn, hc⟩ | hb | hb
    · have := hr n hn; omega
    · exact hz (hd1.symm ▸ hb)
    · exact h0 hb
  by_cases h1 : L.length = 1
  · have h1' : ((L.length : Int) == 1) = true := by rw [h1]; rfl
    obtain ⟨y, hy⟩ := get_ex (l := L) (i := 0) (by omega)
    have hLy : L = [y] := by
      match L, h1, hy with
      | [z], _, hy => simp at hy; rw [hy]
    by_cases hy0 : y = 0
    · have hy' : (y == 0) = true := by rw [hy0]; rfl
      have hb : badP L := .inr (.inr (by rw [hLy, hy0]))
      simp (disch := first | assumption | omega) only [c39, go_sem, ↓reduceIte, reduceIte, Nat.reduceEqDiff, Nat.reduceAdd, Nat.reduceMul, reduceCtorEq, Nat.reduceDiv, Nat.reduceLeDiff, Nat.reduceLT, Nat.reduceSub, g, cs_within, hw, min_mn, hm1, hm2, hm3, Int.toNat_natCast, emap, cs_Contains, hz', resV_ct, ret_bind, nf, h1', hy, hy']
      exact hV zeroF _ _ (wErr_bad hl hb).symm
    · have hy' : (y == 0) = false := by simp [hy0]
      have hb : ¬ badP L := hnz (by rw [hLy]; simp [hy0])
      by_cases hf : fitsW L
      · simp (disch := first | assumption | omega) only [c39, go_sem, ↓reduceIte, reduceIte, Nat.reduceEqDiff, Nat.reduceAdd, Nat.reduceMul, reduceCtorEq, Nat.reduceDiv, Nat.reduceLeDiff, Nat.reduceLT, Nat.reduceSub, g, cs_within, hw, min_mn, hm1, hm2, hm3, Int.toNat_natCast, emap, cs_Contains, hz', resV_ct, ret_bind, nf, h1', hy, hy', cs_walk, hf]
        exact hV _ _ _ (by rw [wErr_ok hl hb hf, walkF_fits (fun n hn => (hr n hn).1) hf])
      · simp (disch := first | assumption | omega) only [c39, go_sem, ↓reduceIte, reduceIte, Nat.reduceEqDiff, Nat.reduceAdd, Nat.reduceMul, reduceCtorEq, Nat.reduceDiv, Nat.reduceLeDiff, Nat.reduceLT, Nat.reduceSub, g, cs_within, hw, min_mn, hm1, hm2, hm3, Int.toNat_natCast, emap, cs_Contains, hz', resV_ct, ret_bind, nf, h1', hy, hy', cs_walk, hf]
        exact hV zeroF _ _ (wErr_over hl hb hf).symm
  · have h1' : ((L.length : Int) == 1) = false := by simp; omega
    have hb : ¬ badP L := hnz (fun h => h1 (by rw [h]; rfl))
    by_cases hf : fitsW L
    · simp (disch := first | assumption | omega) only [c39, go_sem, ↓reduceIte, reduceIte, Nat.reduceEqDiff, Nat.reduceAdd, Nat.reduceMul, reduceCtorEq, Nat.reduceDiv, Nat.reduceLeDiff, Nat.reduceLT, Nat.reduceSub, g, cs_within, hw, min_mn, hm1, hm2, hm3, Int.toNat_natCast, emap, cs_Contains, hz', resV_ct, ret_bind, nf, h1', cs_walk, hf]
      exact hV _ _ _ (by rw [wErr_ok hl hb hf, walkF_fits (fun n hn => (hr n hn).1) hf])
    · simp (disch := first | assumption | omega) only [c39, go_sem, ↓reduceIte, reduceIte, Nat.reduceEqDiff, Nat.reduceAdd, Nat.reduceMul, reduceCtorEq, Nat.reduceDiv, Nat.reduceLeDiff, Nat.reduceLT, Nat.reduceSub, g, cs_within, hw, min_mn, hm1, hm2, hm3, Int.toNat_natCast, emap, cs_Contains, hz', resV_ct, ret_bind, nf, h1', cs_walk, hf]
      exact hV zeroF _ _ (wErr_over hl hb hf).symm

theorem mv_add (s : Bd) (l : Bool) (n m : Int) : (s.mv l n).mv l m = s.mv l (n + m) := by
  cases l <;> simp only [Bd.mv, if_true, if_false, Bool.false_eq_true, Bd.mk.injEq] <;> refine ⟨?_, ?_, ?_, ?_⟩ <;> grind
theorem mv_before {L : List Int} (hL : ∀ n ∈ L, 0 ≤ n) {k : Nat} {y : Int} (hy : L[k]? = some y) {n : Int} (h0 : 0 ≤ n) (h1 : n ≤ y) : ((walkB 0 (L.take k) wholeB).mv (k % 2 == 1) n).LE (walkB 0 L wholeB) ∧ ((walkB 0 (L.take k) wholeB).mv (k % 2 == 1) n).NN := by
  obtain ⟨a1, a2, a3⟩ := walkB_rest L k hL
  obtain ⟨b1, b2, b3⟩ := walkB_rest L (k + 1) hL
  have hn := a2.mv h0 (k % 2 == 1)
  have hle := hn.le (show 0 ≤ y - n by omega) (k % 2 == 1)
  rw [mv_add, show n + (y - n) = y by omega, ← walkB_take L hy] at hle
  exact ⟨⟨Int.le_trans hle.a b1.a, Int.le_trans hle.b b1.b, Int.le_trans hle.c b1.c, Int.le_trans hle.d b1.d⟩, hn⟩
theorem over_fits {L : List Int} {s : Bd} (h : s.LE (walkB 0 L wholeB)) (ho : s.sum.num > 10000 ∨ s.sum.den > 10000) : ¬ fitsW L := fun ⟨f1, f2⟩ => by
  obtain ⟨a, b, c, d⟩ := h
  simp only [Bd.sum] at *
  omega

set_option maxHeartbeats 2000000 in
theorem con_refWalk (L : List Int) : Con T 1 40 [longsV L] (.tuple [rAV (wlk L).1, .int .i64 (wlk L).2]) := by
  refine con_intro t40 fun n hn V hV => ?_
  replace hV : ∀ a c h, (a, c) = wlk L → V (.tuple [rAV a, .int .i64 c], h) := fun a c h e1 => hV _ _ (by rw [← e1]; exact (by repeat (first | exact mz_nil _ _ | exact frz_int _ _ _ _ | exact frz_bool _ _ _ | exact frz_slice _ _ _ _ _ | exact frz_ptr _ _ _ _ | exact frz_nilptr _ _ | refine mz_cons ?_ ?_ | refine frz_agg ?_ | refine frz_two ?_ ?_ | refine frz_three ?_ ?_ ?_)))
  have nf : (¬ False) = True := not_false_eq_true
  by_cases g : (L.length : Int) > 40
  · simp (disch := first | assumption | omega) only [c40, go_sem, ↓reduceIte, reduceIte, Nat.reduceEqDiff, Nat.reduceAdd, Nat.reduceMul, reduceCtorEq, Nat.reduceDiv, Nat.reduceLeDiff, Nat.reduceLT, Nat.reduceSub, g, resV_ct, ret_bind, nf]
    exact hV zeroF _ _ (wErr_many (by omega)).symm
  have hl : L.length ≤ 40 := by omega
  simp (disch := first | assumption | omega) only [c40, go_sem, ↓reduceIte, reduceIte, Nat.reduceEqDiff, Nat.reduceAdd, Nat.reduceMul, reduceCtorEq, Nat.reduceDiv, Nat.reduceLeDiff, Nat.reduceLT, Nat.reduceSub, g]
  refine m_loop (fun M st => ∃ (k v2 : Nat) (r0 r1 : AV), M = L.length - k ∧ k ≤ L.length ∧ (∀ n ∈ L.take k, 0 ≤ n ∧ n ≤ 10000) ∧ (¬ (0 : Int) ∈ (L.take k).drop 1) ∧ (0 < k → L ≠ [0]) ∧ At st.env [(0, longsV L), (2, .optr 2 v2 0), (4, .int .i64 k)] ∧ getH st.heap 2 = .cells v2 [r0, r1]) L.length (by omega)
    ⟨0, 0, .int .i64 0, .int .i64 0, by omega, by omega, by simp, by simp, by omega, by simp only [go_sem, ↓reduceIte, reduceIte, Nat.reduceEqDiff, Nat.reduceAdd, Nat.reduceMul, reduceCtorEq, Nat.reduceDiv, Nat.reduceLeDiff, Nat.reduceLT, Nat.reduceSub], by simp only [go_sem, ↓reduceIte, reduceIte, Nat.reduceEqDiff, Nat.reduceAdd, Nat.reduceMul, reduceCtorEq, Nat.reduceDiv, Nat.reduceLeDiff, Nat.reduceLT, Nat.reduceSub]⟩ ?_
  rintro M e h hM ⟨k, v2, r0, r1, rfl, hk, hA, hB, hC, hE, hh2⟩ P hP
  simp only [At_cons, At_nil] at hE hh2
  obtain ⟨f0, f2, f4, -⟩ := hE
  by_cases hlt : k < L.length
  · obtain ⟨y, hy⟩ := get_ex hlt
    have hym := List.mem_of_getElem? hy
    by_cases y0 : y < 0
    · have hb : badP L := .inl ⟨y, hym, .inl y0⟩
      simp (disch := first | assumption | omega) only [go_sem, ↓reduceIte, reduceIte, Nat.reduceEqDiff, Nat.reduceAdd, Nat.reduceMul, reduceCtorEq, Nat.reduceDiv, Nat.reduceLeDiff, Nat.reduceLT, Nat.reduceSub, f0, f2, f4, hh2, hlt, hy, y0, resV_ct, ret_bind, nf]
      exact hV zeroF _ _ (wErr_bad hl hb).symm
    by_cases y1 : y > 10000
    · have hb : badP L := .inl ⟨y, hym, .inr y1⟩
      simp (disch := first | assumption | omega) only [go_sem, ↓reduceIte, reduceIte, Nat.reduceEqDiff, Nat.reduceAdd, Nat.reduceMul, reduceCtorEq, Nat.reduceDiv, Nat.reduceLeDiff, Nat.reduceLT, Nat.reduceSub, f0, f2, f4, hh2, hlt, hy, y0, y1, resV_ct, ret_bind, nf]
      exact hV zeroF _ _ (wErr_bad hl hb).symm
    have hA' : ∀ n ∈ L.take (k + 1), 0 ≤ n ∧ n ≤ 10000 := fun n hn => by
      rw [List.take_add_one, hy] at hn
      rcases List.mem_append.1 hn with hn | hn
      · exact hA n hn
      · simp at hn; subst hn; omega
    by_cases yz : y = 0
    · have yz' : (y == 0) = true := by rw [yz]; rfl
      by_cases k0 : (k : Int) > 0
      · have hb : badP L := by
          refine .inr (.inl ?_)
          rw [List.mem_iff_getElem?]
          exact ⟨k - 1, by rw [List.getElem?_drop, show 1 + (k - 1) = k by omega, hy, yz]⟩
        simp (disch := first | assumption | omega) only [go_sem, ↓reduceIte, reduceIte, Nat.reduceEqDiff, Nat.reduceAdd, Nat.reduceMul, reduceCtorEq, Nat.reduceDiv, Nat.reduceLeDiff, Nat.reduceLT, Nat.reduceSub, f0, f2, f4, hh2, hlt, hy, y0, y1, yz', k0, resV_ct, ret_bind, nf]
        exact hV zeroF _ _ (wErr_bad hl hb).symm
      · obtain rfl : k = 0 := by omega
        have k00 : ¬ ((0 : Int) > 0) := by omega
        have hl0 : ((0 : Int) < (L.length : Int)) = True := eq_true (by omega)
        by_cases h1 : L.length = 1
        · have h1' : ((L.length : Int) == 1) = true := by rw [h1]; rfl
          have hb : badP L := by
            refine .inr (.inr ?_)
            match L, h1, hy with
            | [z], _, hy => simp at hy; rw [hy, yz]
          simp (disch := first | assumption | omega) only [go_sem, ↓reduceIte, reduceIte, Nat.reduceEqDiff, Nat.reduceAdd, Nat.reduceMul, reduceCtorEq, Nat.reduceDiv, Nat.reduceLeDiff, Nat.reduceLT, Nat.reduceSub, f0, f2, f4, hh2, hlt, hy, y0, y1, yz', k00, hl0, h1', resV_ct, ret_bind, nf]
          exact hV zeroF _ _ (wErr_bad hl hb).symm
        · have h1' : ((L.length : Int) == 1) = false := by simp; omega
          simp (disch := first | assumption | omega) only [go_sem, ↓reduceIte, reduceIte, Nat.reduceEqDiff, Nat.reduceAdd, Nat.reduceMul, reduceCtorEq, Nat.reduceDiv, Nat.reduceLeDiff, Nat.reduceLT, Nat.reduceSub, f0, f2, f4, hh2, hlt, hy, y0, y1, yz', k00, hl0, h1', nf]
          exact hP (L.length - (0 + 1)) _ (by omega) ⟨0 + 1, v2, r0, r1, rfl, by omega, hA', by rw [List.drop_take]; simp, fun _ h => h1 (by rw [h]; rfl), by simp only [go_sem, ↓reduceIte, reduceIte, Nat.reduceEqDiff, Nat.reduceAdd, Nat.reduceMul, reduceCtorEq, Nat.reduceDiv, Nat.reduceLeDiff, Nat.reduceLT, Nat.reduceSub, f0, f2], by simp only [go_sem, ↓reduceIte, reduceIte, Nat.reduceEqDiff, Nat.reduceAdd, Nat.reduceMul, reduceCtorEq, Nat.reduceDiv, Nat.reduceLeDiff, Nat.reduceLT, Nat.reduceSub, hh2]⟩
    · have yz' : (y == 0) = false := by simp [yz]
      simp (disch := first | assumption | omega) only [go_sem, ↓reduceIte, reduceIte, Nat.reduceEqDiff, Nat.reduceAdd, Nat.reduceMul, reduceCtorEq, Nat.reduceDiv, Nat.reduceLeDiff, Nat.reduceLT, Nat.reduceSub, f0, f2, f4, hh2, hlt, hy, y0, y1, yz', nf]
      refine hP (L.length - (k + 1)) _ (by omega) ⟨k + 1, v2, r0, r1, rfl, by omega, hA', fun hm => ?_, fun _ h => ?_, by simp only [go_sem, ↓reduceIte, reduceIte, Nat.reduceEqDiff, Nat.reduceAdd, Nat.reduceMul, reduceCtorEq, Nat.reduceDiv, Nat.reduceLeDiff, Nat.reduceLT, Nat.reduceSub, f0, f2], by simp only [go_sem, ↓reduceIte, reduceIte, Nat.reduceEqDiff, Nat.reduceAdd, Nat.reduceMul, reduceCtorEq, Nat.reduceDiv, Nat.reduceLeDiff, Nat.reduceLT, Nat.reduceSub, hh2]⟩
      · rw [List.take_add_one, hy, List.drop_append] at hm
        rcases List.mem_append.1 hm with hm | hm
        · exact hB hm
        · have := List.mem_of_mem_drop hm
          simp at this
          exact yz this.symm
      · rw [h] at hy hlt
        simp at hlt
        subst hlt
        simp at hy
        exact yz hy.symm
  · have ht : L.take k = L := List.take_of_length_le (by omega)
    rw [ht] at hA hB
    have hb : ¬ badP L := fun hb => by
      rcases hb with ⟨n, hn, hc⟩ | hb | hb
      · have := hA n hn; omega
      · exact hB hb
      · exact hC (by rw [hb] at hk hlt; simp at hk hlt; omega) hb
    have hL0 : ∀ n ∈ L, 0 ≤ n := fun n hn => (hA n hn).1
    simp (disch := first | assumption | omega) only [go_sem, ↓reduceIte, reduceIte, Nat.reduceEqDiff, Nat.reduceAdd, Nat.reduceMul, reduceCtorEq, Nat.reduceDiv, Nat.reduceLeDiff, Nat.reduceLT, Nat.reduceSub, f0, f2, f4, hh2, hlt]
    refine m_loop (fun M st => ∃ (k v2 v5 v6 v7 : Nat) (r0 r1 : AV) (s : Bd), M = L.length - k ∧ k ≤ L.length ∧ s = walkB 0 (L.take k) wholeB ∧ s.a + s.c ≤ 10000 ∧ s.b + s.d ≤ 10000 ∧ At st.env [(0, longsV L), (2, .optr 2 v2 0), (5, .optr 5 v5 0), (6, .optr 6 v6 0), (7, .optr 7 v7 0), (8, .int .i64 k)] ∧ getH st.heap 2 = .cells v2 [r0, r1] ∧ getH st.heap 5 = .cells v5 [.int .i64 s.a, .int .i64 s.b] ∧ getH st.heap 6 = .cells v6 [.int .i64 s.c, .int .i64 s.d] ∧ getH st.heap 7 = .cells v7 [.int .i64 (s.a + s.c), .int .i64 (s.b + s.d)]) L.length (by omega)
      ⟨0, v2, (getH h 5).next, (getH h 6).next, (getH h 7).next, r0, r1, wholeB, by omega, by omega, rfl, by simp [wholeB], by simp [wholeB], by simp only [go_sem, ↓reduceIte, reduceIte, Nat.reduceEqDiff, Nat.reduceAdd, Nat.reduceMul, reduceCtorEq, Nat.reduceDiv, Nat.reduceLeDiff, Nat.reduceLT, Nat.reduceSub, f0, f2], by simp only [go_sem, ↓reduceIte, reduceIte, Nat.reduceEqDiff, Nat.reduceAdd, Nat.reduceMul, reduceCtorEq, Nat.reduceDiv, Nat.reduceLeDiff, Nat.reduceLT, Nat.reduceSub, hh2], by simp only [go_sem, ↓reduceIte, reduceIte, Nat.reduceEqDiff, Nat.reduceAdd, Nat.reduceMul, reduceCtorEq, Nat.reduceDiv, Nat.reduceLeDiff, Nat.reduceLT, Nat.reduceSub, wholeB], by simp only [go_sem, ↓reduceIte, reduceIte, Nat.reduceEqDiff, Nat.reduceAdd, Nat.reduceMul, reduceCtorEq, Nat.reduceDiv, Nat.reduceLeDiff, Nat.reduceLT, Nat.reduceSub, wholeB], by simp only [go_sem, ↓reduceIte, reduceIte, Nat.reduceEqDiff, Nat.reduceAdd, Nat.reduceMul, reduceCtorEq, Nat.reduceDiv, Nat.reduceLeDiff, Nat.reduceLT, Nat.reduceSub, wholeB, Int.reduceAdd]⟩ ?_
    clear hP hB hC hh2 f0 f2 f4
    rintro M e h hM ⟨k, v2, v5, v6, v7, r0, r1, s, rfl, hk, hs, t1, t2, hE, hh2, hh5, hh6, hh7⟩ P hP
    simp only [At_cons, At_nil] at hE hh2 hh5 hh6 hh7
    obtain ⟨f0, f2, f5, f6, f7, f8, -⟩ := hE
    by_cases hlt : k < L.length
    · obtain ⟨y, hy⟩ := get_ex hlt
      have hy0 := hL0 y (List.mem_of_getElem? hy)
      have hy1 := (hA y (List.mem_of_getElem? hy)).2
      have hend := walkB_take L hy
      rw [← hs] at hend
      simp (disch := first | assumption | omega) only [go_sem, ↓reduceIte, reduceIte, Nat.reduceEqDiff, Nat.reduceAdd, Nat.reduceMul, reduceCtorEq, Nat.reduceDiv, Nat.reduceLeDiff, Nat.reduceLT, Nat.reduceSub, f0, f2, f5, f6, f7, f8, hh2, hh5, hh6, hh7, hlt]
      refine m_loop (fun M st => ∃ (j v2 v5 v6 v7 : Nat) (r0 r1 : AV) (a b c d : Int), M = (y - j).toNat ∧ (j : Int) ≤ y ∧ (⟨a, b, c, d⟩ : Bd) = s.mv (k % 2 == 1) j ∧ (a + c ≤ 10000 ∧ b + d ≤ 10000) ∧ At st.env [(0, longsV L), (2, .optr 2 v2 0), (5, .optr 5 v5 0), (6, .optr 6 v6 0), (7, .optr 7 v7 0), (8, .int .i64 k), (9, .int .i64 j)] ∧ getH st.heap 2 = .cells v2 [r0, r1] ∧ getH st.heap 5 = .cells v5 [.int .i64 a, .int .i64 b] ∧ getH st.heap 6 = .cells v6 [.int .i64 c, .int .i64 d] ∧ getH st.heap 7 = .cells v7 [.int .i64 (a + c), .int .i64 (b + d)]) y.toNat (by have := (hA y (List.mem_of_getElem? hy)).2; omega)
        ⟨0, v2, v5, v6, v7, r0, r1, s.a, s.b, s.c, s.d, by simp, by simpa using hy0, by simp [Bd.mv_zero], ⟨t1, t2⟩, by simp only [go_sem, ↓reduceIte, reduceIte, Nat.reduceEqDiff, Nat.reduceAdd, Nat.reduceMul, reduceCtorEq, Nat.reduceDiv, Nat.reduceLeDiff, Nat.reduceLT, Nat.reduceSub, f0, f2, f5, f6, f7, f8], hh2, hh5, hh6, hh7⟩ ?_
      clear hh2 hh5 hh6 hh7 f0 f2 f5 f6 f7 f8 t1 t2
      rintro M e h hM2 ⟨j, v2, v5, v6, v7, r0, r1, a, b, c, d, rfl, hjy, hmv, ⟨t1, t2⟩, hE, hh2, hh5, hh6, hh7⟩ P' hP'
      simp only [At_cons, At_nil] at hE hh2 hh5 hh6 hh7
      obtain ⟨f0, f2, f5, f6, f7, f8, f9, -⟩ := hE
      have hbf1 := (mv_before hL0 hy (n := (j : Int)) (by omega) hjy).2
      rw [← hs, ← hmv] at hbf1
      obtain ⟨a0, b0, c0, d0⟩ := hbf1
      simp only at a0 b0 c0 d0
      by_cases hjy2 : (j : Int) < y
      case neg =>
        have hjy' : decide ((j : Int) < y) = false := decide_eq_false hjy2
        have hje : (j : Int) = y := by omega
        rw [hje, ← hend] at hmv
        simp (disch := first | assumption | omega) only [go_sem, ↓reduceIte, reduceIte, Nat.reduceEqDiff, Nat.reduceAdd, Nat.reduceMul, reduceCtorEq, Nat.reduceDiv, Nat.reduceLeDiff, Nat.reduceLT, Nat.reduceSub, f0, f2, f5, f6, f7, f8, f9, hh2, hh5, hh6, hh7, hy, hjy']
        exact hP (L.length - (k + 1)) _ (by omega) ⟨k + 1, v2, v5, v6, v7, r0, r1, ⟨a, b, c, d⟩, rfl, by omega, hmv, t1, t2, by simp only [go_sem, ↓reduceIte, reduceIte, Nat.reduceEqDiff, Nat.reduceAdd, Nat.reduceMul, reduceCtorEq, Nat.reduceDiv, Nat.reduceLeDiff, Nat.reduceLT, Nat.reduceSub, f0, f2, f5, f6, f7], hh2, hh5, hh6, hh7⟩
      have hjy' : decide ((j : Int) < y) = true := decide_eq_true hjy2
      have hbf2 := mv_before hL0 hy (n := (j : Int) + 1) (by omega) (by omega)
      rw [← hs] at hbf2
      by_cases hpar : k % 2 = 1
      · have hp : (((k % 2 : Nat) : Int) == 1) = true := by rw [hpar]; rfl
        have hl2 : (k % 2 == 1) = true := by simp [hpar]
        rw [hl2] at hbf2 hmv hend
        have hst : (⟨a, b, a + c, b + d⟩ : Bd) = s.mv true ((j : Int) + 1) := by rw [← mv_add, ← hmv]; simp [Bd.mv] <;> omega
        rw [← hst] at hbf2
        obtain ⟨hle2, hnn2⟩ := hbf2
        by_cases o1 : a + (a + c) > 10000
        · simp (disch := first | assumption | omega) only [go_sem, ↓reduceIte, reduceIte, Nat.reduceEqDiff, Nat.reduceAdd, Nat.reduceMul, reduceCtorEq, Nat.reduceDiv, Nat.reduceLeDiff, Nat.reduceLT, Nat.reduceSub, f0, f2, f5, f6, f7, f8, f9, hh2, hh5, hh6, hh7, hy, hjy', b_rem2, hp, o1, resV_ct, ret_bind, nf]
          exact hV zeroF _ _ (wErr_over hl hb (over_fits hle2 (by simp only [Bd.sum]; omega))).symm
        by_cases o2 : b + (b + d) > 10000
        · simp (disch := first | assumption | omega) only [go_sem, ↓reduceIte, reduceIte, Nat.reduceEqDiff, Nat.reduceAdd, Nat.reduceMul, reduceCtorEq, Nat.reduceDiv, Nat.reduceLeDiff, Nat.reduceLT, Nat.reduceSub, f0, f2, f5, f6, f7, f8, f9, hh2, hh5, hh6, hh7, hy, hjy', b_rem2, hp, o1, o2, resV_ct, ret_bind, nf]
          exact hV zeroF _ _ (wErr_over hl hb (over_fits hle2 (by simp only [Bd.sum]; omega))).symm
        simp (disch := first | assumption | omega) only [go_sem, ↓reduceIte, reduceIte, Nat.reduceEqDiff, Nat.reduceAdd, Nat.reduceMul, reduceCtorEq, Nat.reduceDiv, Nat.reduceLeDiff, Nat.reduceLT, Nat.reduceSub, f0, f2, f5, f6, f7, f8, f9, hh2, hh5, hh6, hh7, hy, hjy', b_rem2, hp, o1, o2, nf]
        exact hP' (y - ((j : Int) + 1)).toNat _ (by omega) ⟨j + 1, v2, v5, v6, v7, r0, r1, a, b, a + c, b + d, by omega, by omega, by rw [hl2]; simpa using hst, by omega, by simp only [go_sem, ↓reduceIte, reduceIte, Nat.reduceEqDiff, Nat.reduceAdd, Nat.reduceMul, reduceCtorEq, Nat.reduceDiv, Nat.reduceLeDiff, Nat.reduceLT, Nat.reduceSub, f0, f2, f5, f6, f7, f8], by simp only [go_sem, ↓reduceIte, reduceIte, Nat.reduceEqDiff, Nat.reduceAdd, Nat.reduceMul, reduceCtorEq, Nat.reduceDiv, Nat.reduceLeDiff, Nat.reduceLT, Nat.reduceSub, hh2], by simp only [go_sem, ↓reduceIte, reduceIte, Nat.reduceEqDiff, Nat.reduceAdd, Nat.reduceMul, reduceCtorEq, Nat.reduceDiv, Nat.reduceLeDiff, Nat.reduceLT, Nat.reduceSub, hh5], by simp only [go_sem, ↓reduceIte, reduceIte, Nat.reduceEqDiff, Nat.reduceAdd, Nat.reduceMul, reduceCtorEq, Nat.reduceDiv, Nat.reduceLeDiff, Nat.reduceLT, Nat.reduceSub, hh6], by simp only [go_sem, ↓reduceIte, reduceIte, Nat.reduceEqDiff, Nat.reduceAdd, Nat.reduceMul, reduceCtorEq, Nat.reduceDiv, Nat.reduceLeDiff, Nat.reduceLT, Nat.reduceSub]⟩
      · have hp : (((k % 2 : Nat) : Int) == 1) = false := by simp; omega
        have hl2 : (k % 2 == 1) = false := by simp; omega
        rw [hl2] at hbf2 hmv hend
        have hst : (⟨a + c, b + d, c, d⟩ : Bd) = s.mv false ((j : Int) + 1) := by rw [← mv_add, ← hmv]; simp [Bd.mv] <;> omega
        rw [← hst] at hbf2
        obtain ⟨hle2, hnn2⟩ := hbf2
        by_cases o1 : a + c + c > 10000
        · simp (disch := first | assumption | omega) only [go_sem, ↓reduceIte, reduceIte, Nat.reduceEqDiff, Nat.reduceAdd, Nat.reduceMul, reduceCtorEq, Nat.reduceDiv, Nat.reduceLeDiff, Nat.reduceLT, Nat.reduceSub, f0, f2, f5, f6, f7, f8, f9, hh2, hh5, hh6, hh7, hy, hjy', b_rem2, hp, o1, resV_ct, ret_bind, nf]
          exact hV zeroF _ _ (wErr_over hl hb (over_fits hle2 (by simp only [Bd.sum]; omega))).symm
        by_cases o2 : b + d + d > 10000
        · simp (disch := first | assumption | omega) only [go_sem, ↓reduceIte, reduceIte, Nat.reduceEqDiff, Nat.reduceAdd, Nat.reduceMul, reduceCtorEq, Nat.reduceDiv, Nat.reduceLeDiff, Nat.reduceLT, Nat.reduceSub, f0, f2, f5, f6, f7, f8, f9, hh2, hh5, hh6, hh7, hy, hjy', b_rem2, hp, o1, o2, resV_ct, ret_bind, nf]
          exact hV zeroF _ _ (wErr_over hl hb (over_fits hle2 (by simp only [Bd.sum]; omega))).symm
        simp (disch := first | assumption | omega) only [go_sem, ↓reduceIte, reduceIte, Nat.reduceEqDiff, Nat.reduceAdd, Nat.reduceMul, reduceCtorEq, Nat.reduceDiv, Nat.reduceLeDiff, Nat.reduceLT, Nat.reduceSub, f0, f2, f5, f6, f7, f8, f9, hh2, hh5, hh6, hh7, hy, hjy', b_rem2, hp, o1, o2, nf]
        exact hP' (y - ((j : Int) + 1)).toNat _ (by omega) ⟨j + 1, v2, v5, v6, v7, r0, r1, a + c, b + d, c, d, by omega, by omega, by rw [hl2]; simpa using hst, by omega, by simp only [go_sem, ↓reduceIte, reduceIte, Nat.reduceEqDiff, Nat.reduceAdd, Nat.reduceMul, reduceCtorEq, Nat.reduceDiv, Nat.reduceLeDiff, Nat.reduceLT, Nat.reduceSub, f0, f2, f5, f6, f7, f8], by simp only [go_sem, ↓reduceIte, reduceIte, Nat.reduceEqDiff, Nat.reduceAdd, Nat.reduceMul, reduceCtorEq, Nat.reduceDiv, Nat.reduceLeDiff, Nat.reduceLT, Nat.reduceSub, hh2], by simp only [go_sem, ↓reduceIte, reduceIte, Nat.reduceEqDiff, Nat.reduceAdd, Nat.reduceMul, reduceCtorEq, Nat.reduceDiv, Nat.reduceLeDiff, Nat.reduceLT, Nat.reduceSub, hh5], by simp only [go_sem, ↓reduceIte, reduceIte, Nat.reduceEqDiff, Nat.reduceAdd, Nat.reduceMul, reduceCtorEq, Nat.reduceDiv, Nat.reduceLeDiff, Nat.reduceLT, Nat.reduceSub, hh6], by simp only [go_sem, ↓reduceIte, reduceIte, Nat.reduceEqDiff, Nat.reduceAdd, Nat.reduceMul, reduceCtorEq, Nat.reduceDiv, Nat.reduceLeDiff, Nat.reduceLT, Nat.reduceSub]⟩
    · have ht2 : L.take k = L := List.take_of_length_le (by omega)
      rw [ht2] at hs
      have hf : fitsW L := by unfold fitsW; rw [← hs]; exact ⟨t1, t2⟩
      simp (disch := first | assumption | omega) only [go_sem, ↓reduceIte, reduceIte, Nat.reduceEqDiff, Nat.reduceAdd, Nat.reduceMul, reduceCtorEq, Nat.reduceDiv, Nat.reduceLeDiff, Nat.reduceLT, Nat.reduceSub, f0, f2, f5, f6, f7, f8, hh2, hh5, hh6, hh7, hlt, resV_ct, ret_bind, nf]
      exact hV s.sum _ _ (by rw [wErr_ok hl hb hf, ← hs])

section
variable {n base : Nat} {Q : EX × St → Prop} {d : Option Nat} {L : List IOper} {ks : List Kont} {e : Env} {h : Heap}
theorem cs_Path {x : Frac} (hn : 10004 ≤ n) : GP (evCall T n) base Q d L ks e (evCall T n false (.fn 37) [.agg [.int .i64 x.num, .int .i64 x.den]] h) = GO (evCall T n) base Q L ks ⟨setDst e d (.tuple [longsV (pth x).1, .int .i64 (pth x).2]), h⟩ :=
  gp_eq (con_Path x) hn (fz_rat _ _ (fz_nil _)) rfl
theorem cs_refPath {x : Frac} (hn : 4 ≤ n) : GP (evCall T n) base Q d L ks e (evCall T n false (.fn 38) [.agg [.int .i64 x.num, .int .i64 x.den]] h) = GO (evCall T n) base Q L ks ⟨setDst e d (.tuple [longsV (pth x).1, .int .i64 (pth x).2]), h⟩ :=
  gp_eq (con_refPath x) hn (fz_rat _ _ (fz_nil _)) rfl
theorem cs_Walk {xs : List Int} {b : Bool} (hn : 6 ≤ n) : GP (evCall T n) base Q d L ks e (evCall T n false (.fn 39) [.slice none (xs.map (.int .i64)) b] h) = GO (evCall T n) base Q L ks ⟨setDst e d (.tuple [rAV (wlk xs).1, .int .i64 (wlk xs).2]), h⟩ :=
  gp_eq (con_Walk xs) hn (by repeat (first | exact fz_nil _ | refine fz_slice _ _ _ _ ?_ | refine fz_int _ _ _ ?_)) (by simp [plainB, depth])
theorem cs_refWalk {xs : List Int} {b : Bool} (hn : 1 ≤ n) : GP (evCall T n) base Q d L ks e (evCall T n false (.fn 40) [.slice none (xs.map (.int .i64)) b] h) = GO (evCall T n) base Q L ks ⟨setDst e d (.tuple [rAV (wlk xs).1, .int .i64 (wlk xs).2]), h⟩ :=
  gp_eq (con_refWalk xs) hn (by repeat (first | exact fz_nil _ | refine fz_slice _ _ _ _ ?_ | refine fz_int _ _ _ ?_)) (by simp [plainB, depth])
end

theorem pitchPaths_at (n0 : Nat) (hn : n0 = 20000) (x : Frac) (L : List Int) (_ : RWf x) : (evFn (evCall T n0) c7 [rAV x, longsV L] []).all fun p => p.1 = .bool true := by
  rw [m_fn]
  by_cases g : (L.length : Int) > 60
  · simp (disch := first | assumption | omega) only [c7, go_sem, ↓reduceIte, reduceIte, Nat.reduceEqDiff, Nat.reduceAdd, Nat.reduceMul, reduceCtorEq, Nat.reduceDiv, Nat.reduceLeDiff, Nat.reduceLT, Nat.reduceSub, g, cs_Works]
  have hl := pth_len x
  simp (disch := first | assumption | omega) only [c7, go_sem, ↓reduceIte, reduceIte, Nat.reduceEqDiff, Nat.reduceAdd, Nat.reduceMul, reduceCtorEq, Nat.reduceDiv, Nat.reduceLeDiff, Nat.reduceLT, Nat.reduceSub, g, cs_Path, cs_refPath, cs_Walk, cs_refWalk, cs_Longs, beq_self_eq_true, eaA_self, cs_Works]

def pitchPaths_n : Nat := 20000
theorem pitchPaths_ev (x : Frac) (L : List Int) (h1 : RWf x) (_ : ∀ n ∈ L, (Lit.int .i64 n).wf = true) (_ : L.length ≤ maxLen) : (evFn (evCall T pitchPaths_n) c7 [rAV x, longsV L] []).all fun p => p.1 = .bool true := pitchPaths_at _ rfl x L h1

end Go.Ev.YtcghegefcgnhbaaC
