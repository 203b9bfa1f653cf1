/- Path, and Walk, the program's and the reference's. Contracts; conditions stand in each. -/
import Derived.Test.YtcghegefcgnhbaaL1Path
set_option linter.unusedSimpArgs false
set_option linter.unusedVariables false
namespace Go.Ev.YtcghegefcgnhbaaC
open Go Go.Proofs

/-! ### Path -/
def pth (x : Frac) : List Int × Int := if chkI x ≠ 0 then ([], chkI x) else (longsI (pathN x.num.toNat x.den.toNat), 0)
theorem longsI_length (L : List Nat) : (longsI L).length = L.length := by simp [longsI]
theorem pth_len (x : Frac) : (pth x).1.length ≤ 28 := by
  unfold pth
  split
  · simp
  · next h =>
    have hx := (chkI_zero x).1 (by omega)
    have := path_length (u := x.num.toNat) (v := x.den.toNat) (by have := hx.d2; omega)
    rw [longsI_length]
    exact this

attribute [local irreducible] Res.all evC evLoop evOps evOper evOp evFn evCall freeze G GO GV GP GC R
set_option maxRecDepth 100000

theorem con_Path (x : Frac) : Con T 10004 37 [rAV x] (.tuple [longsV (pth x).1, .int .i64 (pth x).2]) := by
  refine con_intro t37 fun n hn V hV => ?_
  have nf : (¬ False) = True := not_false_eq_true
  unfold pth at hV
  by_cases hc : chkI x = 0
  · have hx := (chkI_zero x).1 hc
    have g1 := hx.n1
    have g2 := hx.n2
    have g3 := hx.d1
    have g4 := hx.d2
    obtain ⟨u, hu⟩ := Int.eq_ofNat_of_zero_le (show 0 ≤ x.num by omega)
    obtain ⟨v, hv⟩ := Int.eq_ofNat_of_zero_le (show 0 ≤ x.den by omega)
    have e1 : x.num.toNat = u := by omega
    have e2 : x.den.toNat = v := by omega
    rw [if_neg (by omega), e1, e2] at hV
    have hcon := con_path u v (by omega) (by omega) (by omega) (by omega)
    have hlen := path_length (u := u) (v := v) (by omega)
    have hL := longsI_length (pathN u v)
    have hroom : room (pathN u v).length 8 = true := room_ok (by omega)
    have hfork : forkV x = forkV ⟨(u : Int), (v : Int)⟩ := by
      show AV.ptr [.int .i64 x.num, .int .i64 x.den] 0 = AV.ptr [.int .i64 (u : Int), .int .i64 (v : Int)] 0
      rw [hu, hv]
    simp (disch := first | assumption | omega) only [c37, go_sem, ↓reduceIte, reduceIte, Nat.reduceEqDiff, Nat.reduceAdd, Nat.reduceMul, reduceCtorEq, Nat.reduceDiv, Nat.reduceLeDiff, Nat.reduceLT, Nat.reduceSub, List.range_succ, List.range_zero, Nat.zero_mul, Nat.one_mul, cs_open1, hc, bne_self_eq_false]
    rw [hfork]
    refine gp_con hcon (by omega) (fz_cons (frz_ptr _ _ _ _) (fz_nil _)) rfl ?_
    simp (disch := first | assumption | omega) only [go_sem, ↓reduceIte, reduceIte, Nat.reduceEqDiff, Nat.reduceAdd, Nat.reduceMul, reduceCtorEq, Nat.reduceDiv, Nat.reduceLeDiff, Nat.reduceLT, Nat.reduceSub, hL, hroom]
    rw [cs_ints, hL]
    refine gp_copyAll (cs := (List.replicate (pathN u v).length [AV.int .i64 0]).flatten) (by simp only [go_sem, ↓reduceIte, reduceIte, Nat.reduceEqDiff, Nat.reduceAdd, Nat.reduceMul, reduceCtorEq, Nat.reduceDiv, Nat.reduceLeDiff, Nat.reduceLT, Nat.reduceSub]) (by simp) hL fun w h' g1 g2 g3 => ?_
    simp (disch := first | assumption | omega) only [go_sem, ↓reduceIte, reduceIte, Nat.reduceEqDiff, Nat.reduceAdd, Nat.reduceMul, reduceCtorEq, Nat.reduceDiv, Nat.reduceLeDiff, Nat.reduceLT, Nat.reduceSub]
    refine hV _ _ ?_
    exact frz_two (frz_own g1 hL.symm) (frz_int _ _ _ _)
  · have hc' : (chkI x != 0) = true := by simp [hc]
    rw [if_pos hc] at hV
    simp (disch := first | assumption | omega) only [c37, go_sem, ↓reduceIte, reduceIte, Nat.reduceEqDiff, Nat.reduceAdd, Nat.reduceMul, reduceCtorEq, Nat.reduceDiv, Nat.reduceLeDiff, Nat.reduceLT, Nat.reduceSub, List.range_succ, List.range_zero, Nat.zero_mul, Nat.one_mul, cs_open1, hc']
    exact hV _ _ (by repeat (first | exact mz_nil _ _ | exact frz_int _ _ _ _ | exact frz_bool _ _ _ | exact frz_slice _ _ _ _ _ | exact frz_ptr _ _ _ _ | exact frz_nilptr _ _ | refine mz_cons ?_ ?_ | refine frz_agg ?_ | refine frz_two ?_ ?_ | refine frz_three ?_ ?_ ?_))
theorem con_refPath (x : Frac) : Con T 4 38 [rAV x] (.tuple [longsV (pth x).1, .int .i64 (pth x).2]) := by
  refine con_intro t38 fun n hn V hV => ?_
  unfold pth at hV
  by_cases hc : chkI x = 0
  · have hc' : (chkI x != 0) = false := by simp [hc]
    have hx := (chkI_zero x).1 hc
    have g1 := hx.n1
    have g2 := hx.n2
    have g3 := hx.d1
    have g4 := hx.d2
    have g5 := hx.pr
    obtain ⟨u, hu⟩ := Int.eq_ofNat_of_zero_le (show 0 ≤ x.num by omega)
    obtain ⟨v, hv⟩ := Int.eq_ofNat_of_zero_le (show 0 ≤ x.den by omega)
    have e1 : x.num.toNat = u := by omega
    have e2 : x.den.toNat = v := by omega
    unfold Prim at g5
    rw [e1, e2] at g5
    rw [if_neg (by omega), e1, e2] at hV
    have hcon := con_PathOf u v (by omega) (by omega) (by omega) (by omega) g5
    have hfork : ([AV.int .i64 x.num, .int .i64 x.den] : List AV) = [.int .i64 (u : Int), .int .i64 (v : Int)] := by rw [hu, hv]
    simp (disch := first | assumption | omega) only [c38, go_sem, ↓reduceIte, reduceIte, Nat.reduceEqDiff, Nat.reduceAdd, Nat.reduceMul, reduceCtorEq, Nat.reduceDiv, Nat.reduceLeDiff, Nat.reduceLT, Nat.reduceSub, cs_refCheck, hc']
    rw [hfork]
    refine gp_con hcon (by omega) (fz_rat _ ⟨(u : Int), (v : Int)⟩ (fz_nil _)) rfl ?_
    simp (disch := first | assumption | omega) only [go_sem, ↓reduceIte, reduceIte, Nat.reduceEqDiff, Nat.reduceAdd, Nat.reduceMul, reduceCtorEq, Nat.reduceDiv, Nat.reduceLeDiff, Nat.reduceLT, Nat.reduceSub]
    exact hV _ _ (by repeat (first | exact mz_nil _ _ | exact frz_int _ _ _ _ | exact frz_bool _ _ _ | exact frz_slice _ _ _ _ _ | exact frz_ptr _ _ _ _ | exact frz_nilptr _ _ | refine mz_cons ?_ ?_ | refine frz_agg ?_ | refine frz_two ?_ ?_ | refine frz_three ?_ ?_ ?_))
  · have hc' : (chkI x != 0) = true := by simp [hc]
    rw [if_pos hc] at hV
    simp (disch := first | assumption | omega) only [c38, go_sem, ↓reduceIte, reduceIte, Nat.reduceEqDiff, Nat.reduceAdd, Nat.reduceMul, reduceCtorEq, Nat.reduceDiv, Nat.reduceLeDiff, Nat.reduceLT, Nat.reduceSub, cs_refCheck, hc']
    exact hV _ _ (by repeat (first | exact mz_nil _ _ | exact frz_int _ _ _ _ | exact frz_bool _ _ _ | exact frz_slice _ _ _ _ _ | exact frz_ptr _ _ _ _ | exact frz_nilptr _ _ | refine mz_cons ?_ ?_ | refine frz_agg ?_ | refine frz_two ?_ ?_ | refine frz_three ?_ ?_ ?_))

section
variable {n base : Nat} {Q : EX × St → Prop} {d : Option Nat} {L : List IOper} {ks : List Kont} {e : Env} {h : Heap}
theorem go_sliceA0 {call : Caller} {x : IX} {m k ver : Nat} {cs : List AV} (hx : x.ev e = .optr k ver 0) (hH : getH h k = .cells ver cs) (hl : cs.length = m)
    (H : GO call base Q L ks ⟨setDst e d (.oslice k ver none 0 m (some m)), h⟩) : GO call base Q (⟨d, .sliceA none m x none none none, none⟩ :: L) ks ⟨e, h⟩ := by
  rw [go_op]
  simp only [evOp, hx, hH, gsize, Nat.mul_one, Nat.zero_add, hl]
  rw [if_pos ⟨trivial, Nat.le_refl _⟩]
  simp only [sliceB, Res.bind, all_ret]
  exact H
end

/-! ### Max -/
def maxL : Int → List Int → Int
  | a, [] => a
  | a, b :: r => maxL (if b > a then b else a) r
theorem con_Max (x : Int) (xs : List Int) (hl : xs.length ≤ 1000) : Con T 1 92 [longsV (x :: xs)] (.int .i64 (maxL x xs)) := by
  refine con_intro t92 fun n hn V hV => ?_
  have hx0 : (x :: xs)[0]? = some x := rfl
  have hlen : (x :: xs).length = xs.length + 1 := rfl
  have hlt1 : (((x :: xs).length : Int) < 1) = False := eq_false (by rw [hlen]; omega)
  have hdrop : ∀ k : Nat, (x :: xs).drop (k + 1) = xs.drop k := fun k => rfl
  obtain ⟨ys, hys⟩ : ∃ ys, ys = x :: xs := ⟨_, rfl⟩
  rw [← hys] at hx0 hlen hlt1 hdrop ⊢
  simp (disch := first | assumption | omega) only [c92, go_sem, ↓reduceIte, reduceIte, Nat.reduceEqDiff, Nat.reduceAdd, Nat.reduceMul, reduceCtorEq, Nat.reduceDiv, Nat.reduceLeDiff, Nat.reduceLT, Nat.reduceSub, hlt1, hx0]
  refine m_loop (fun M st => ∃ (k : Nat) (a : Int), M = xs.length - k ∧ k ≤ xs.length ∧ At st.env [(0, longsV ys), (3, .int .i64 a), (4, .int .i64 ((k : Int) + 1))] ∧ maxL a (xs.drop k) = maxL x xs) xs.length (by omega) ⟨0, x, by omega, by omega, by simp only [go_sem, ↓reduceIte, reduceIte, Nat.reduceEqDiff, Nat.reduceAdd, Nat.reduceMul, reduceCtorEq, Nat.reduceDiv, Nat.reduceLeDiff, Nat.reduceLT, Nat.reduceSub], rfl⟩ ?_
  rintro M e h hM ⟨k, a, rfl, hk, hE, hA⟩ P hP
  simp only [At_cons, At_nil] at hE
  obtain ⟨f0, f3, f4, -⟩ := hE
  by_cases hlt : k < xs.length
  · obtain ⟨y, hy⟩ := get_ex hlt
    rw [drop_cons hy, maxL] at hA
    have hy' : ys[k + 1]? = some y := by rw [hys]; exact hy
    have hlt' : decide ((k : Int) + 1 < (ys.length : Int)) = true := decide_eq_true (by rw [hlen]; omega)
    simp (disch := first | assumption | omega) only [go_sem, ↓reduceIte, reduceIte, Nat.reduceEqDiff, Nat.reduceAdd, Nat.reduceMul, reduceCtorEq, Nat.reduceDiv, Nat.reduceLeDiff, Nat.reduceLT, Nat.reduceSub, f0, f3, f4, hlt', hy']
    exact hP (xs.length - (k + 1)) _ (by omega) ⟨k + 1, _, rfl, by omega, by simp only [go_sem, ↓reduceIte, reduceIte, Nat.reduceEqDiff, Nat.reduceAdd, Nat.reduceMul, reduceCtorEq, Nat.reduceDiv, Nat.reduceLeDiff, Nat.reduceLT, Nat.reduceSub, f0], hA⟩
  · have hlt' : decide ((k : Int) + 1 < (ys.length : Int)) = false := decide_eq_false (by rw [hlen]; omega)
    rw [List.drop_eq_nil_of_le (by omega), maxL] at hA
    simp (disch := first | assumption | omega) only [go_sem, ↓reduceIte, reduceIte, Nat.reduceEqDiff, Nat.reduceAdd, Nat.reduceMul, reduceCtorEq, Nat.reduceDiv, Nat.reduceLeDiff, Nat.reduceLT, Nat.reduceSub, f0, f3, f4, hlt']
    exact hV _ _ (by rw [hA]; exact (by repeat (first | exact mz_nil _ _ | exact frz_int _ _ _ _ | exact frz_bool _ _ _ | exact frz_slice _ _ _ _ _ | exact frz_ptr _ _ _ _ | exact frz_nilptr _ _ | refine mz_cons ?_ ?_ | refine frz_agg ?_ | refine frz_two ?_ ?_ | refine frz_three ?_ ?_ ?_)))
theorem maxL4 (a b c d : Int) : maxL a [b, c, d] > 10000 ↔ a > 10000 ∨ b > 10000 ∨ c > 10000 ∨ d > 10000 := by
  simp only [maxL]
  repeat' split
  all_goals omega

/-! ### walk -/
def fitsW (L : List Int) : Prop := (walkB 0 L wholeB).sum.num ≤ 10000 ∧ (walkB 0 L wholeB).sum.den ≤ 10000
instance (L : List Int) : Decidable (fitsW L) := by unfold fitsW; infer_instance
theorem walkB_take (L : List Int) {k : Nat} {y : Int} (hy : L[k]? = some y) : walkB 0 (L.take (k + 1)) wholeB = (walkB 0 (L.take k) wholeB).mv (k % 2 == 1) y := by
  have hk : k < L.length := (List.getElem?_eq_some_iff.1 hy).1
  rw [List.take_add_one, hy, Option.toList_some, walkB_append]
  simp only [walkB, Nat.zero_add, List.length_take, Nat.min_eq_left (Nat.le_of_lt hk)]
theorem walkB_rest (L : List Int) (k : Nat) (h : ∀ n ∈ L, 0 ≤ n) : (walkB 0 (L.take k) wholeB).LE (walkB 0 L wholeB) ∧ (walkB 0 (L.take k) wholeB).NN ∧ (walkB 0 L wholeB).NN := by
  have h1 := walkB_le (L.take k) 0 wholeB wholeB_nn fun n hn => h n (List.mem_of_mem_take hn)
  have h2 := walkB_le (L.drop k) (0 + (L.take k).length) (walkB 0 (L.take k) wholeB) h1.2 fun n hn => h n (List.mem_of_mem_drop hn)
  rw [← walkB_append, List.take_append_drop] at h2
  exact ⟨h2.1, h1.2, h2.2⟩

def smallB (s : Bd) : Prop := s.a ≤ 10000 ∧ s.b ≤ 10000 ∧ s.c ≤ 10000 ∧ s.d ≤ 10000
open Classical in
noncomputable def walkF (L : List Int) : Frac := if ∀ k, k ≤ L.length → smallB (walkB 0 (L.take k) wholeB) then (walkB 0 L wholeB).sum else zeroF
theorem fits_small {L : List Int} (h : ∀ n ∈ L, 0 ≤ n) (hf : fitsW L) (k : Nat) : smallB (walkB 0 (L.take k) wholeB) := by
  obtain ⟨h1, h2, h3⟩ := walkB_rest L k h
  obtain ⟨a, b, c, d⟩ := h1
  obtain ⟨a0, b0, c0, d0⟩ := h3
  obtain ⟨f1, f2⟩ := hf
  simp only [Bd.sum] at f1 f2
  exact ⟨by omega, by omega, by omega, by omega⟩
theorem walkF_fits {L : List Int} (h : ∀ n ∈ L, 0 ≤ n) (hf : fitsW L) : walkF L = (walkB 0 L wholeB).sum := by
  unfold walkF
  rw [if_pos fun k _ => fits_small h hf k]

theorem smallB_zero (L : List Int) (j : Nat) (hj : j ≤ 0) : smallB (walkB 0 (L.take j) wholeB) := by
  obtain rfl : j = 0 := by omega
  simp [walkB, wholeB, smallB]
abbrev bAV (s : Bd) : List AV := [.int .i64 s.a, .int .i64 s.b, .int .i64 s.c, .int .i64 s.d]

set_option maxHeartbeats 1000000 in
theorem con_walk (L : List Int) (hl : L.length ≤ 40) (hL : ∀ n ∈ L, 0 ≤ n ∧ n ≤ 10000) : Con T 5 75 [longsV L] (.tuple [rAV (walkF L), .bool (decide (fitsW L))]) := by
  refine con_intro t75 fun n hn V hV => ?_
  have nf : (¬ False) = True := not_false_eq_true
  have hL0 : ∀ n ∈ L, 0 ≤ n := fun n hn => (hL n hn).1
  replace hV : ∀ (F : Frac) (b : Bool) h, F = walkF L → b = decide (fitsW L) → V (.tuple [.agg [.int .i64 F.num, .int .i64 F.den], .bool b], h) := fun F b h e1 e2 => hV _ _ (by rw [e1, e2]; exact (by repeat (first | exact mz_nil _ _ | exact frz_int _ _ _ _ | exact frz_bool _ _ _ | exact frz_slice _ _ _ _ _ | exact frz_ptr _ _ _ _ | exact frz_nilptr _ _ | refine mz_cons ?_ ?_ | refine frz_agg ?_ | refine frz_two ?_ ?_ | refine frz_three ?_ ?_ ?_)))
  simp (disch := first | assumption | omega) only [c75, go_sem, ↓reduceIte, reduceIte, Nat.reduceEqDiff, Nat.reduceAdd, Nat.reduceMul, reduceCtorEq, Nat.reduceDiv, Nat.reduceLeDiff, Nat.reduceLT, Nat.reduceSub, cs_whole]
  refine m_loop (fun M st => ∃ (k v2 v4 : Nat) (s : Bd), M = L.length - k ∧ k ≤ L.length ∧ s = walkB 0 (L.take k) wholeB ∧ (∀ j, j ≤ k → smallB (walkB 0 (L.take j) wholeB)) ∧ At st.env [(2, .optr 2 v2 0), (3, .bool false), (4, .optr 4 v4 0), (9, longsV L), (10, .int .i64 L.length), (11, .int .i64 k)] ∧ getH st.heap 2 = .cells v2 [.int .i64 0, .int .i64 0] ∧ getH st.heap 4 = .cells v4 (bAV s)) L.length (by omega)
    ⟨0, 0, 0, wholeB, by omega, by omega, rfl, smallB_zero L, by simp only [go_sem, ↓reduceIte, reduceIte, Nat.reduceEqDiff, Nat.reduceAdd, Nat.reduceMul, reduceCtorEq, Nat.reduceDiv, Nat.reduceLeDiff, Nat.reduceLT, Nat.reduceSub], by simp only [go_sem, ↓reduceIte, reduceIte, Nat.reduceEqDiff, Nat.reduceAdd, Nat.reduceMul, reduceCtorEq, Nat.reduceDiv, Nat.reduceLeDiff, Nat.reduceLT, Nat.reduceSub], by simp only [go_sem, ↓reduceIte, reduceIte, Nat.reduceEqDiff, Nat.reduceAdd, Nat.reduceMul, reduceCtorEq, Nat.reduceDiv, Nat.reduceLeDiff, Nat.reduceLT, Nat.reduceSub, wholeB]⟩ ?_
  rintro M e h hM ⟨k, v2, v4, s, rfl, hk, hs, hsm, hE, hh2, hh4⟩ P hP
  simp only [At_cons, At_nil] at hE hh2 hh4
  obtain ⟨f2, f3, f4, f9, f10, f11, -⟩ := hE
  obtain ⟨hle, hnn, hnn2⟩ := walkB_rest L k hL0
  rw [← hs] at hle hnn
  have hsk := hsm k (Nat.le_refl _)
  rw [← hs] at hsk
  obtain ⟨a0, b0, c0, d0⟩ := hnn
  obtain ⟨a1, b1, c1, d1⟩ := hsk
  by_cases hlt : k < L.length
  · obtain ⟨y, hy⟩ := get_ex hlt
    obtain ⟨y0, y1⟩ := hL y (List.mem_of_getElem? hy)
    have hnx := walkB_take L hy
    rw [← hs] at hnx
    have p1 := prod_le (u := y) (U := 10000) (v := s.a) (V := 10000) y0 y1 a0 a1
    have p2 := prod_le (u := y) (U := 10000) (v := s.b) (V := 10000) y0 y1 b0 b1
    have p3 := prod_le (u := y) (U := 10000) (v := s.c) (V := 10000) y0 y1 c0 c1
    have p4 := prod_le (u := y) (U := 10000) (v := s.d) (V := 10000) y0 y1 d0 d1
    have main : ∀ s' : Bd, s' = walkB 0 (L.take (k + 1)) wholeB → ((maxL s'.a [s'.b, s'.c, s'.d] > 10000 ∧ walkF L = zeroF ∧ ¬ fitsW L) ∨ (¬ maxL s'.a [s'.b, s'.c, s'.d] > 10000 ∧ ∀ j, j ≤ k + 1 → smallB (walkB 0 (L.take j) wholeB))) := fun s' hs' => by
      by_cases hm : maxL s'.a [s'.b, s'.c, s'.d] > 10000
      · have hns : ¬ smallB (walkB 0 (L.take (k + 1)) wholeB) := by
          rw [← hs']
          have := (maxL4 _ _ _ _).1 hm
          unfold smallB
          omega
        refine .inl ⟨hm, ?_, fun hf => hns (fits_small hL0 hf _)⟩
        unfold walkF
        rw [if_neg fun h => hns (h (k + 1) hlt)]
      · refine .inr ⟨hm, fun j hj => ?_⟩
        by_cases hj' : j ≤ k
        · exact hsm j hj'
        · obtain rfl : j = k + 1 := by omega
          rw [← hs']
          have := mt (maxL4 _ _ _ _).2 hm
          unfold smallB
          omega
    by_cases hpar : k % 2 = 0
    · have hp : (((k % 2 : Nat) : Int) == 0) = true := by rw [hpar]; rfl
      have hmv : (⟨s.a + y * s.c, s.b + y * s.d, s.c, s.d⟩ : Bd) = walkB 0 (L.take (k + 1)) wholeB := by rw [hnx, hpar]; simp [Bd.mv]
      have hmn := main _ hmv
      simp only at hmn
      simp (disch := first | assumption | omega) only [go_sem, ↓reduceIte, reduceIte, Nat.reduceEqDiff, Nat.reduceAdd, Nat.reduceMul, reduceCtorEq, Nat.reduceDiv, Nat.reduceLeDiff, Nat.reduceLT, Nat.reduceSub, f2, f3, f4, f9, f10, f11, hlt, hy, b_rem2, hp, hh2, hh4, asNat_3]
      refine go_sliceA0 (k := 4) (ver := v4) (cs := [.int .i64 (s.a + y * s.c), .int .i64 (s.b + y * s.d), .int .i64 s.c, .int .i64 s.d]) (by simp only [go_sem, ↓reduceIte, reduceIte, Nat.reduceEqDiff, Nat.reduceAdd, Nat.reduceMul, reduceCtorEq, Nat.reduceDiv, Nat.reduceLeDiff, Nat.reduceLT, Nat.reduceSub, f4]) (by simp only [go_sem, ↓reduceIte, reduceIte, Nat.reduceEqDiff, Nat.reduceAdd, Nat.reduceMul, reduceCtorEq, Nat.reduceDiv, Nat.reduceLeDiff, Nat.reduceLT, Nat.reduceSub]) rfl ?_
      simp (disch := first | assumption | omega) only [go_sem, ↓reduceIte, reduceIte, Nat.reduceEqDiff, Nat.reduceAdd, Nat.reduceMul, reduceCtorEq, Nat.reduceDiv, Nat.reduceLeDiff, Nat.reduceLT, Nat.reduceSub]
      refine gp_con (con_Max (s.a + y * s.c) [s.b + y * s.d, s.c, s.d] (by simp)) (by omega) (fz_cons (frz_own (l := [s.a + y * s.c, s.b + y * s.d, s.c, s.d]) (by simp only [go_sem, ↓reduceIte, reduceIte, Nat.reduceEqDiff, Nat.reduceAdd, Nat.reduceMul, reduceCtorEq, Nat.reduceDiv, Nat.reduceLeDiff, Nat.reduceLT, Nat.reduceSub]) rfl) (fz_nil _)) (or_pi _ _ _) ?_
      rcases hmn with ⟨m1, m2, m3⟩ | ⟨m1, m2⟩
      · simp (disch := first | assumption | omega) only [go_sem, ↓reduceIte, reduceIte, Nat.reduceEqDiff, Nat.reduceAdd, Nat.reduceMul, reduceCtorEq, Nat.reduceDiv, Nat.reduceLeDiff, Nat.reduceLT, Nat.reduceSub, f2, f3, f4, f9, f10, f11, hh2, m1, resV_ct, ret_bind, nf]
        exact hV zeroF _ _ m2.symm (decide_eq_false m3).symm
      · simp (disch := first | assumption | omega) only [go_sem, ↓reduceIte, reduceIte, Nat.reduceEqDiff, Nat.reduceAdd, Nat.reduceMul, reduceCtorEq, Nat.reduceDiv, Nat.reduceLeDiff, Nat.reduceLT, Nat.reduceSub, f2, f3, f4, f9, f10, f11, hh2, m1]
        exact hP (L.length - (k + 1)) _ (by omega) ⟨k + 1, v2, v4, _, rfl, by omega, hmv, m2, by simp only [go_sem, ↓reduceIte, reduceIte, Nat.reduceEqDiff, Nat.reduceAdd, Nat.reduceMul, reduceCtorEq, Nat.reduceDiv, Nat.reduceLeDiff, Nat.reduceLT, Nat.reduceSub, f2, f3, f4, f9, f10], by simp only [go_sem, ↓reduceIte, reduceIte, Nat.reduceEqDiff, Nat.reduceAdd, Nat.reduceMul, reduceCtorEq, Nat.reduceDiv, Nat.reduceLeDiff, Nat.reduceLT, Nat.reduceSub, hh2], by simp only [go_sem, ↓reduceIte, reduceIte, Nat.reduceEqDiff, Nat.reduceAdd, Nat.reduceMul, reduceCtorEq, Nat.reduceDiv, Nat.reduceLeDiff, Nat.reduceLT, Nat.reduceSub]⟩
    · have hpar1 : k % 2 = 1 := by omega
      have hp : (((k % 2 : Nat) : Int) == 0) = false := by rw [hpar1]; rfl
      have hmv : (⟨s.a, s.b, s.c + y * s.a, s.d + y * s.b⟩ : Bd) = walkB 0 (L.take (k + 1)) wholeB := by rw [hnx, hpar1]; simp [Bd.mv]
      have hmn := main _ hmv
      simp only at hmn
      simp (disch := first | assumption | omega) only [go_sem, ↓reduceIte, reduceIte, Nat.reduceEqDiff, Nat.reduceAdd, Nat.reduceMul, reduceCtorEq, Nat.reduceDiv, Nat.reduceLeDiff, Nat.reduceLT, Nat.reduceSub, f2, f3, f4, f9, f10, f11, hlt, hy, b_rem2, hp, hh2, hh4, asNat_3]
      refine go_sliceA0 (k := 4) (ver := v4) (cs := [.int .i64 s.a, .int .i64 s.b, .int .i64 (s.c + y * s.a), .int .i64 (s.d + y * s.b)]) (by simp only [go_sem, ↓reduceIte, reduceIte, Nat.reduceEqDiff, Nat.reduceAdd, Nat.reduceMul, reduceCtorEq, Nat.reduceDiv, Nat.reduceLeDiff, Nat.reduceLT, Nat.reduceSub, f4]) (by simp only [go_sem, ↓reduceIte, reduceIte, Nat.reduceEqDiff, Nat.reduceAdd, Nat.reduceMul, reduceCtorEq, Nat.reduceDiv, Nat.reduceLeDiff, Nat.reduceLT, Nat.reduceSub]) rfl ?_
      simp (disch := first | assumption | omega) only [go_sem, ↓reduceIte, reduceIte, Nat.reduceEqDiff, Nat.reduceAdd, Nat.reduceMul, reduceCtorEq, Nat.reduceDiv, Nat.reduceLeDiff, Nat.reduceLT, Nat.reduceSub]
      refine gp_con (con_Max s.a [s.b, s.c + y * s.a, s.d + y * s.b] (by simp)) (by omega) (fz_cons (frz_own (l := [s.a, s.b, s.c + y * s.a, s.d + y * s.b]) (by simp only [go_sem, ↓reduceIte, reduceIte, Nat.reduceEqDiff, Nat.reduceAdd, Nat.reduceMul, reduceCtorEq, Nat.reduceDiv, Nat.reduceLeDiff, Nat.reduceLT, Nat.reduceSub]) rfl) (fz_nil _)) (or_pi _ _ _) ?_
      rcases hmn with ⟨m1, m2, m3⟩ | ⟨m1, m2⟩
      · simp (disch := first | assumption | omega) only [go_sem, ↓reduceIte, reduceIte, Nat.reduceEqDiff, Nat.reduceAdd, Nat.reduceMul, reduceCtorEq, Nat.reduceDiv, Nat.reduceLeDiff, Nat.reduceLT, Nat.reduceSub, f2, f3, f4, f9, f10, f11, hh2, m1, resV_ct, ret_bind, nf]
        exact hV zeroF _ _ m2.symm (decide_eq_false m3).symm
      · simp (disch := first | assumption | omega) only [go_sem, ↓reduceIte, reduceIte, Nat.reduceEqDiff, Nat.reduceAdd, Nat.reduceMul, reduceCtorEq, Nat.reduceDiv, Nat.reduceLeDiff, Nat.reduceLT, Nat.reduceSub, f2, f3, f4, f9, f10, f11, hh2, m1]
        exact hP (L.length - (k + 1)) _ (by omega) ⟨k + 1, v2, v4, _, rfl, by omega, hmv, m2, by simp only [go_sem, ↓reduceIte, reduceIte, Nat.reduceEqDiff, Nat.reduceAdd, Nat.reduceMul, reduceCtorEq, Nat.reduceDiv, Nat.reduceLeDiff, Nat.reduceLT, Nat.reduceSub, f2, f3, f4, f9, f10], by simp only [go_sem, ↓reduceIte, reduceIte, Nat.reduceEqDiff, Nat.reduceAdd, Nat.reduceMul, reduceCtorEq, Nat.reduceDiv, Nat.reduceLeDiff, Nat.reduceLT, Nat.reduceSub, hh2], by simp only [go_sem, ↓reduceIte, reduceIte, Nat.reduceEqDiff, Nat.reduceAdd, Nat.reduceMul, reduceCtorEq, Nat.reduceDiv, Nat.reduceLeDiff, Nat.reduceLT, Nat.reduceSub]⟩
  · have ht : L.take k = L := List.take_of_length_le (by omega)
    rw [ht] at hs
    have hF : walkF L = s.sum := by
      unfold walkF
      rw [if_pos fun j hj => ?_, ← hs]
      by_cases hj' : j ≤ k
      · exact hsm j hj'
      · omega
    have hdet : s.det = 1 := by rw [hs, walkB_det]; simp [Bd.det, wholeB]
    unfold Bd.det at hdet
    have hc1 : 1 ≤ s.c := by
      refine Classical.byContradiction fun hlt => ?_
      have e1 : s.c = 0 := by omega
      have := Int.mul_nonneg a0 d0
      rw [e1, Int.zero_mul] at hdet
      omega
    have hb1 : 1 ≤ s.b := by
      refine Classical.byContradiction fun hlt => ?_
      have e1 : s.b = 0 := by omega
      have := Int.mul_nonneg a0 d0
      rw [e1, Int.mul_zero] at hdet
      omega
    have hfit : (decide (1 ≤ s.a + s.c) && decide (s.a + s.c ≤ 10000) && (decide (1 ≤ s.b + s.d) && decide (s.b + s.d ≤ 10000))) = decide (fitsW L) := by
      have hiff : fitsW L ↔ (s.a + s.c ≤ 10000 ∧ s.b + s.d ≤ 10000) := by
        unfold fitsW
        rw [← hs]
        exact Iff.rfl
      rw [Bool.eq_iff_iff, decide_eq_true_iff, hiff]
      simp only [Bool.and_eq_true, decide_eq_true_eq]
      omega
    simp (disch := first | assumption | omega) only [go_sem, ↓reduceIte, reduceIte, Nat.reduceEqDiff, Nat.reduceAdd, Nat.reduceMul, reduceCtorEq, Nat.reduceDiv, Nat.reduceLeDiff, Nat.reduceLT, Nat.reduceSub, f2, f3, f4, f9, f10, f11, hlt, hh2, hh4, asNat_3, cs_within2, hfit, resV_ct, ret_bind, nf]
    exact hV s.sum _ _ hF.symm rfl

end Go.Ev.YtcghegefcgnhbaaC
