/- Back: the walks; PitchChains. -/
import Derived.Test.YtcghegefcgnhbaaL1Size4
set_option linter.unusedSimpArgs false
set_option linter.unusedVariables false
namespace Go.Ev.YtcghegefcgnhbaaC
open Go Go.Proofs

attribute [local irreducible] Res.all evC evLoop evOps evOper evOp evFn evCall freeze G GO GV GP GC R
set_option maxRecDepth 100000

theorem con_Far (N s i : Nat) (h1 : 1 ≤ N) (h2 : N ≤ 2400) (h3 : s ≤ N) (h4 : i ≤ 60) : Con T 1 55 [.int .i64 N, .int .i64 s, .int .i64 i] (.int .i64 (farN N s i)) := by
  refine con_intro t55 fun m hm V hV => ?_
  have hm1 : i * s ≤ 60 * 2400 := Nat.mul_le_mul (by omega) (by omega)
  have hms : ((i : Int) * (s : Int)) = ((i * s : Nat) : Int) := by simp
  have hlt := Nat.mod_lt (i * s) (show 0 < N by omega)
  simp (disch := first | assumption | omega) only [c55, go_sem, ↓reduceIte, reduceIte, Nat.reduceEqDiff, Nat.reduceAdd, Nat.reduceMul, reduceCtorEq, Nat.reduceDiv, Nat.reduceLeDiff, Nat.reduceLT, Nat.reduceSub, hms, b_rem]
  refine hV _ _ ?_
  have : (if (N : Int) - ((i * s % N : Nat) : Int) < ((i * s % N : Nat) : Int) then (N : Int) - ((i * s % N : Nat) : Int) else ((i * s % N : Nat) : Int)) = farN N s i := by
    unfold farN
    split <;> omega
  rw [this]
  exact (by repeat (first | exact mz_nil _ _ | exact frz_int _ _ _ _ | exact frz_bool _ _ _ | exact frz_slice _ _ _ _ _ | exact frz_ptr _ _ _ _ | exact frz_nilptr _ _ | refine mz_cons ?_ ?_ | refine frz_agg ?_ | refine frz_two ?_ ?_ | refine frz_three ?_ ?_ ?_))
theorem farN_bd {N s : Nat} (h1 : 1 ≤ N) (i : Nat) : 0 ≤ farN N s i ∧ farN N s i ≤ N := by
  have := Nat.mod_lt (i * s) (show 0 < N by omega)
  unfold farN
  omega
theorem cs_Far {n base : Nat} {Q : EX × St → Prop} {d : Option Nat} {L : List IOper} {ks : List Kont} {e : Env} {h : Heap} {N s i : Nat} (hn : 1 ≤ n) (h1 : 1 ≤ N) (h2 : N ≤ 2400) (h3 : s ≤ N) (h4 : i ≤ 60) : GP (evCall T n) base Q d L ks e (evCall T n false (.fn 55) [.int .i64 N, .int .i64 s, .int .i64 i] h) = GO (evCall T n) base Q L ks ⟨setDst e d (.int .i64 (farN N s i)), h⟩ :=
  gp_eq (con_Far N s i h1 h2 h3 h4) hn (by repeat (first | exact fz_nil _ | refine fz_slice _ _ _ _ ?_ | refine fz_int _ _ _ ?_)) rfl

theorem bkA_err {N s n : Int} (h : chErr N s n ≠ 0) : bkA N s n = (0, chErr N s n) := by rw [bkA, if_pos h]
theorem bkA_one {N s : Int} (h : chErr N s 1 = 0) : bkA N s 1 = (0, 0) := by rw [bkA, if_neg (by omega), if_pos rfl]
theorem bkA_ok {N s n : Nat} (h : chErr N s n = 0) (h1 : n ≠ 1) : bkA N s n = (((bstN (farN N s) n : Nat) : Int), (0 : Int)) := by rw [bkA, if_neg (by omega), if_neg (by omega)]; rfl

theorem con_refBack (N s n : Int) : Con T 2 47 [.int .i64 N, .int .i64 s, .int .i64 n] (.tuple [.int .i64 (bkA N s n).1, .int .i64 (bkA N s n).2]) := by
  refine con_intro t47 fun m hm V hV => ?_
  by_cases h0 : chErr N s n = 0
  case neg =>
    simp (disch := first | assumption | omega) only [c47, go_sem, ↓reduceIte, reduceIte, Nat.reduceEqDiff, Nat.reduceAdd, Nat.reduceMul, reduceCtorEq, Nat.reduceDiv, Nat.reduceLeDiff, Nat.reduceLT, Nat.reduceSub, cs_refChain, (show (chErr N s n != 0) = true by simpa using h0)]
    exact hV _ _ (by rw [bkA_err h0]; exact (by repeat (first | exact mz_nil _ _ | exact frz_int _ _ _ _ | exact frz_bool _ _ _ | exact frz_slice _ _ _ _ _ | exact frz_ptr _ _ _ _ | exact frz_nilptr _ _ | refine mz_cons ?_ ?_ | refine frz_agg ?_ | refine frz_two ?_ ?_ | refine frz_three ?_ ?_ ?_)))
  by_cases hn1 : n = 1
  · subst hn1
    simp (disch := first | assumption | omega) only [c47, go_sem, ↓reduceIte, reduceIte, Nat.reduceEqDiff, Nat.reduceAdd, Nat.reduceMul, reduceCtorEq, Nat.reduceDiv, Nat.reduceLeDiff, Nat.reduceLT, Nat.reduceSub, cs_refChain, h0]
    exact hV _ _ (by rw [bkA_one h0]; exact (by repeat (first | exact mz_nil _ _ | exact frz_int _ _ _ _ | exact frz_bool _ _ _ | exact frz_slice _ _ _ _ _ | exact frz_ptr _ _ _ _ | exact frz_nilptr _ _ | refine mz_cons ?_ ?_ | refine frz_agg ?_ | refine frz_two ?_ ?_ | refine frz_three ?_ ?_ ?_)))
  obtain ⟨N, s, n, rfl, rfl, rfl, h1, h2, h3, h4, h5⟩ := ch_nat h0
  have hne : ((n : Int) == 1) = false := by simpa using hn1
  rw [bkA_ok h0 (by omega)] at hV
  simp (disch := first | assumption | omega) only [c47, go_sem, ↓reduceIte, reduceIte, Nat.reduceEqDiff, Nat.reduceAdd, Nat.reduceMul, reduceCtorEq, Nat.reduceDiv, Nat.reduceLeDiff, Nat.reduceLT, Nat.reduceSub, cs_refChain, h0, hne]
  refine m_loop (fun M st => ∃ (k : Nat), M = n - k ∧ 2 ≤ k ∧ k ≤ n ∧ At st.env [(0, .int .i64 N), (1, .int .i64 s), (2, .int .i64 n), (8, .int .i64 (bstN (farN N s) k : Nat)), (9, .int .i64 k)]) (n - 2) (by omega)
    ⟨2, by omega, by omega, by omega, by simp only [go_sem, ↓reduceIte, reduceIte, Nat.reduceEqDiff, Nat.reduceAdd, Nat.reduceMul, reduceCtorEq, Nat.reduceDiv, Nat.reduceLeDiff, Nat.reduceLT, Nat.reduceSub, bstN_two]; first | done | exact ⟨rfl, rfl⟩⟩ ?_
  rintro M e h hM ⟨k, rfl, hk2, hk, hE⟩ P hP
  simp only [At_cons, At_nil] at hE
  obtain ⟨f0, f1, f2, f8, f9, -⟩ := hE
  have hb := (bstN_spec (farN N s) k hk2).1
  by_cases hlt : k < n
  · by_cases hf : farN N s k < farN N s (bstN (farN N s) k)
    · simp (disch := first | assumption | omega) only [go_sem, ↓reduceIte, reduceIte, Nat.reduceEqDiff, Nat.reduceAdd, Nat.reduceMul, reduceCtorEq, Nat.reduceDiv, Nat.reduceLeDiff, Nat.reduceLT, Nat.reduceSub, f0, f1, f2, f8, f9, hlt, cs_Far, hf]
      exact hP (n - (k + 1)) _ (by omega) ⟨k + 1, rfl, by omega, by omega, by simp only [go_sem, ↓reduceIte, reduceIte, Nat.reduceEqDiff, Nat.reduceAdd, Nat.reduceMul, reduceCtorEq, Nat.reduceDiv, Nat.reduceLeDiff, Nat.reduceLT, Nat.reduceSub, f0, f1, f2, bstN_step hk2, if_pos hf]⟩
    · simp (disch := first | assumption | omega) only [go_sem, ↓reduceIte, reduceIte, Nat.reduceEqDiff, Nat.reduceAdd, Nat.reduceMul, reduceCtorEq, Nat.reduceDiv, Nat.reduceLeDiff, Nat.reduceLT, Nat.reduceSub, f0, f1, f2, f8, f9, hlt, cs_Far, hf]
      exact hP (n - (k + 1)) _ (by omega) ⟨k + 1, rfl, by omega, by omega, by simp only [go_sem, ↓reduceIte, reduceIte, Nat.reduceEqDiff, Nat.reduceAdd, Nat.reduceMul, reduceCtorEq, Nat.reduceDiv, Nat.reduceLeDiff, Nat.reduceLT, Nat.reduceSub, f0, f1, f2, f8, bstN_step hk2, if_neg hf]⟩
  · obtain rfl : k = n := by omega
    simp (disch := first | assumption | omega) only [go_sem, ↓reduceIte, reduceIte, Nat.reduceEqDiff, Nat.reduceAdd, Nat.reduceMul, reduceCtorEq, Nat.reduceDiv, Nat.reduceLeDiff, Nat.reduceLT, Nat.reduceSub, f0, f1, f2, f8, f9, hlt]
    exact hV _ _ (by repeat (first | exact mz_nil _ _ | exact frz_int _ _ _ _ | exact frz_bool _ _ _ | exact frz_slice _ _ _ _ _ | exact frz_ptr _ _ _ _ | exact frz_nilptr _ _ | refine mz_cons ?_ ?_ | refine frz_agg ?_ | refine frz_two ?_ ?_ | refine frz_three ?_ ?_ ?_))

/-! ### Min -/
def minL : Int → List Int → Int
  | a, [] => a
  | a, b :: r => minL (if b < a then b else a) r
theorem con_Min (x : Int) (xs : List Int) (hl : xs.length ≤ 1000) : Con T 1 83 [longsV (x :: xs)] (.int .i64 (minL x xs)) := by
  refine con_intro t83 fun n hn V hV => ?_
  have hx0 : (x :: xs)[0]? = some x := rfl
  have hlen : (x :: xs).length = xs.length + 1 := rfl
  have hlt1 : (((x :: xs).length : Int) < 1) = False := eq_false (by rw [hlen]; omega)
  have hdrop : ∀ k : Nat, (x :: xs).drop (k + 1) = xs.drop k := fun k => rfl
  obtain ⟨ys, hys⟩ : ∃ ys, ys = x :: xs := ⟨_, rfl⟩
  rw [← hys] at hx0 hlen hlt1 hdrop ⊢
  simp (disch := first | assumption | omega) only [c83, go_sem, ↓reduceIte, reduceIte, Nat.reduceEqDiff, Nat.reduceAdd, Nat.reduceMul, reduceCtorEq, Nat.reduceDiv, Nat.reduceLeDiff, Nat.reduceLT, Nat.reduceSub, hlt1, hx0]
  refine m_loop (fun M st => ∃ (k : Nat) (a : Int), M = xs.length - k ∧ k ≤ xs.length ∧ At st.env [(0, longsV ys), (3, .int .i64 a), (4, .int .i64 ((k : Int) + 1))] ∧ minL a (xs.drop k) = minL x xs) xs.length (by omega) ⟨0, x, by omega, by omega, by simp only [go_sem, ↓reduceIte, reduceIte, Nat.reduceEqDiff, Nat.reduceAdd, Nat.reduceMul, reduceCtorEq, Nat.reduceDiv, Nat.reduceLeDiff, Nat.reduceLT, Nat.reduceSub], rfl⟩ ?_
  rintro M e h hM ⟨k, a, rfl, hk, hE, hA⟩ P hP
  simp only [At_cons, At_nil] at hE
  obtain ⟨f0, f3, f4, -⟩ := hE
  by_cases hlt : k < xs.length
  · obtain ⟨y, hy⟩ := get_ex hlt
    rw [drop_cons hy, minL] at hA
    have hy' : ys[k + 1]? = some y := by rw [hys]; exact hy
    have hlt' : decide ((k : Int) + 1 < (ys.length : Int)) = true := decide_eq_true (by rw [hlen]; omega)
    simp (disch := first | assumption | omega) only [go_sem, ↓reduceIte, reduceIte, Nat.reduceEqDiff, Nat.reduceAdd, Nat.reduceMul, reduceCtorEq, Nat.reduceDiv, Nat.reduceLeDiff, Nat.reduceLT, Nat.reduceSub, f0, f3, f4, hlt', hy']
    exact hP (xs.length - (k + 1)) _ (by omega) ⟨k + 1, _, rfl, by omega, by simp only [go_sem, ↓reduceIte, reduceIte, Nat.reduceEqDiff, Nat.reduceAdd, Nat.reduceMul, reduceCtorEq, Nat.reduceDiv, Nat.reduceLeDiff, Nat.reduceLT, Nat.reduceSub, f0], hA⟩
  · have hlt' : decide ((k : Int) + 1 < (ys.length : Int)) = false := decide_eq_false (by rw [hlen]; omega)
    rw [List.drop_eq_nil_of_le (by omega), minL] at hA
    simp (disch := first | assumption | omega) only [go_sem, ↓reduceIte, reduceIte, Nat.reduceEqDiff, Nat.reduceAdd, Nat.reduceMul, reduceCtorEq, Nat.reduceDiv, Nat.reduceLeDiff, Nat.reduceLT, Nat.reduceSub, f0, f3, f4, hlt']
    exact hV _ _ (by rw [hA]; exact (by repeat (first | exact mz_nil _ _ | exact frz_int _ _ _ _ | exact frz_bool _ _ _ | exact frz_slice _ _ _ _ _ | exact frz_ptr _ _ _ _ | exact frz_nilptr _ _ | refine mz_cons ?_ ?_ | refine frz_agg ?_ | refine frz_two ?_ ?_ | refine frz_three ?_ ?_ ?_)))
theorem minL_spec : ∀ (xs : List Int) (a : Int), minL a xs ≤ a ∧ (∀ x ∈ xs, minL a xs ≤ x) ∧ (minL a xs = a ∨ minL a xs ∈ xs)
  | [], a => ⟨Int.le_refl _, by simp, .inl rfl⟩
  | b :: r, a => by
    rw [minL]
    by_cases h : b < a
    · rw [if_pos h]
      obtain ⟨h1, h2, h3⟩ := minL_spec r b
      refine ⟨by omega, fun x hx => ?_, ?_⟩
      · rcases List.mem_cons.1 hx with hx | hx
        · omega
        · exact h2 x hx
      · rcases h3 with h3 | h3
        · exact .inr (by rw [h3]; simp)
        · exact .inr (List.mem_cons_of_mem _ h3)
    · rw [if_neg h]
      obtain ⟨h1, h2, h3⟩ := minL_spec r a
      refine ⟨h1, fun x hx => ?_, ?_⟩
      · rcases List.mem_cons.1 hx with hx | hx
        · omega
        · exact h2 x hx
      · rcases h3 with h3 | h3
        · exact .inl h3
        · exact .inr (List.mem_cons_of_mem _ h3)
theorem idxB_find (a : Int) : ∀ (xs : List Int) (i : Int), a ∈ xs → ∃ k : Nat, idxB (fun x => a == x) xs i = i + k ∧ xs[k]? = some a ∧ ∀ j < k, xs[j]? ≠ some a
  | [], i, h => by cases h
  | x :: r, i, h => by
    unfold idxB
    by_cases hx : a = x
    · subst hx
      rw [if_pos (by simp)]
      exact ⟨0, by omega, rfl, by omega⟩
    · rw [if_neg (by simpa using hx)]
      obtain ⟨k, h1, h2, h3⟩ := idxB_find a r (i + 1) (by
        rcases List.mem_cons.1 h with h | h
        · exact absurd h hx
        · exact h)
      refine ⟨k + 1, by rw [h1]; omega, h2, fun j hj => ?_⟩
      cases j with
      | zero => exact fun h => hx (Option.some.inj h).symm
      | succ j => exact h3 j (by omega)
theorem back_bst {f : Nat → Int} {n : Nat} (h2 : 2 ≤ n) (y : Int) (ys : List Int) (hys : y :: ys = (List.range' 1 (n - 1)).map f) : 1 + idxB (fun x => minL y ys == x) (y :: ys) 0 = (bstN f n : Nat) := by
  obtain ⟨m1, m2, m3⟩ := minL_spec ys y
  have hmem : minL y ys ∈ y :: ys := by
    rcases m3 with h | h
    · rw [h]; simp
    · exact List.mem_cons_of_mem _ h
  have hle : ∀ x ∈ y :: ys, minL y ys ≤ x := fun x hx => by
    rcases List.mem_cons.1 hx with rfl | hx
    · exact m1
    · exact m2 x hx
  obtain ⟨k, e1, e2, e3⟩ := idxB_find _ _ 0 hmem
  have hget : ∀ j, j < n - 1 → (y :: ys)[j]? = some (f (j + 1)) := fun j hj => by
    rw [hys, List.getElem?_map, List.getElem?_range' hj]
    simp [Nat.add_comm]
  have hlen : (y :: ys).length = n - 1 := by rw [hys]; simp
  have hk : k < n - 1 := by
    have := (List.getElem?_eq_some_iff.1 e2).1
    omega
  have hfk : f (k + 1) = minL y ys := by
    rw [hget k hk] at e2
    exact Option.some.inj e2
  have : bstN f n = k + 1 := by
    refine bstN_uniq h2 (by omega) (by omega) (fun i h3 h4 => ?_) fun i h3 h4 => ?_
    · rw [hfk]
      refine hle _ (List.mem_of_getElem? (i := i - 1) ?_)
      rw [hget _ (by omega), show i - 1 + 1 = i by omega]
    · have h5 := hget (i - 1) (by omega)
      rw [show i - 1 + 1 = i by omega] at h5
      have h6 := hle _ (List.mem_of_getElem? h5)
      have h7 : f i ≠ minL y ys := fun h => e3 (i - 1) (by omega) (by rw [h5, h])
      omega
  rw [e1, this]
  omega

theorem frz_off {h : Heap} {key ver off n m : Nat} {cap : Option Nat} {k : IntKind} {l : List Int} (hH : getH h key = .cells ver (l.map (.int k))) (hn : off + n = l.length) : freeze h (m + 2) (.oslice key ver none off n cap) = .ret (.slice none ((l.drop off).map (.int k)) false) := by
  have e : ((l.map (AV.int k)).drop off).take (n * gsize none) = (l.drop off).map (.int k) := by
    rw [← List.map_drop, List.take_of_length_le (by simp [gsize]; omega)]
  rw [freeze]
  simp only [hH]
  rw [if_pos ⟨trivial, by simp [gsize]; omega⟩, e, freeze_ints]
  rfl

theorem slA_from_cap {e : Env} {lo : IX} {key ver len n c : Nat} {k : IntKind} (h1 : lo.ev e = .int k n) (hn : n ≤ len) (hc : len ≤ c) : slA none e (some lo) none none (.oslice key ver none 0 len (some c)) = .ret (.oslice key ver none n (len - n) (some (c - n))) := by
  simp [slA, sliceB, h1, boundOf, Res.bind, gsize, hn]
set_option maxHeartbeats 1000000 in
theorem con_Back (N s n : Int) : Con T 6 46 [.int .i64 N, .int .i64 s, .int .i64 n] (.tuple [.int .i64 (bkA N s n).1, .int .i64 (bkA N s n).2]) := by
  refine con_intro t46 fun m hm V hV => ?_
  by_cases h0 : chErr N s n = 0
  case neg =>
    simp (disch := first | assumption | omega) only [c46, go_sem, ↓reduceIte, reduceIte, Nat.reduceEqDiff, Nat.reduceAdd, Nat.reduceMul, reduceCtorEq, Nat.reduceDiv, Nat.reduceLeDiff, Nat.reduceLT, Nat.reduceSub, cs_chain, (show (chErr N s n != 0) = true by simpa using h0)]
    exact hV _ _ (by rw [bkA_err h0]; exact (by repeat (first | exact mz_nil _ _ | exact frz_int _ _ _ _ | exact frz_bool _ _ _ | exact frz_slice _ _ _ _ _ | exact frz_ptr _ _ _ _ | exact frz_nilptr _ _ | refine mz_cons ?_ ?_ | refine frz_agg ?_ | refine frz_two ?_ ?_ | refine frz_three ?_ ?_ ?_)))
  by_cases hn1 : n = 1
  · subst hn1
    simp (disch := first | assumption | omega) only [c46, go_sem, ↓reduceIte, reduceIte, Nat.reduceEqDiff, Nat.reduceAdd, Nat.reduceMul, reduceCtorEq, Nat.reduceDiv, Nat.reduceLeDiff, Nat.reduceLT, Nat.reduceSub, cs_chain, h0]
    exact hV _ _ (by rw [bkA_one h0]; exact (by repeat (first | exact mz_nil _ _ | exact frz_int _ _ _ _ | exact frz_bool _ _ _ | exact frz_slice _ _ _ _ _ | exact frz_ptr _ _ _ _ | exact frz_nilptr _ _ | refine mz_cons ?_ ?_ | refine frz_agg ?_ | refine frz_two ?_ ?_ | refine frz_three ?_ ?_ ?_)))
  obtain ⟨N, s, n, rfl, rfl, rfl, h1, h2, h3, h4, h5⟩ := ch_nat h0
  have hne : ((n : Int) == 1) = false := by simpa using hn1
  rw [bkA_ok h0 (by omega)] at hV
  have hnew : getH (List.replicate 52 AObj.none) 52 = .none := getH_ge _ _ (by simp)
  have hroom : room n 8 = true := room_ok (by omega)
  have hflat : (List.replicate n [AV.int .i64 0]).flatten = (List.replicate n (0 : Int)).map (.int .i64) := by
    rw [List.map_replicate]
    clear h0 hV h4 h5 hn1 hne hroom
    induction n with
    | zero => rfl
    | succ n ih => rw [List.replicate_succ, List.flatten_cons, ih, List.replicate_succ]; rfl
  have hz0 : ((0 : Int) != 0) = false := rfl
  have hcl : ∀ h : Heap, getH h 52 = .cells 0 ((List.replicate n (0 : Int)).map (.int .i64)) → clA (.int .i64 0) h (.oslice 52 0 none 0 n (some n)) = .ret (.undef, setH h 52 (.cells 0 ((List.replicate n (0 : Int)).map (.int .i64)))) := fun h hh => by
    simp only [clA, hh]
    rw [if_pos ⟨trivial, by simp, rfl⟩, if_neg (by omega)]
    have := splice_zero (List.replicate n (0 : Int)) 0 (by omega)
    rw [List.length_replicate, Nat.sub_zero] at this
    rw [this]
    rfl
  simp (disch := first | assumption | omega) only [c46, go_sem, ↓reduceIte, reduceIte, Nat.reduceEqDiff, Nat.reduceAdd, Nat.reduceMul, reduceCtorEq, Nat.reduceDiv, Nat.reduceLeDiff, Nat.reduceLT, Nat.reduceSub, cs_chain, h0, hne, hnew, next_none, hroom, hflat, hz0]
  refine ⟨Nat.le_refl _, ?_⟩
  rw [hcl _ (getH_setH_self _ _ _)]
  simp (disch := first | assumption | omega) only [go_sem, ↓reduceIte, reduceIte, Nat.reduceEqDiff, Nat.reduceAdd, Nat.reduceMul, reduceCtorEq, Nat.reduceDiv, Nat.reduceLeDiff, Nat.reduceLT, Nat.reduceSub]
  refine m_loop (fun M st => ∃ (i : Nat), M = n - i ∧ i ≤ n ∧ At st.env [(0, .int .i64 N), (1, .int .i64 s), (9, .oslice 52 0 none 0 n (some n)), (27, .int .i64 n), (28, .int .i64 i)] ∧ getH st.heap 52 = .cells 0 (((List.range i).map (farN N s) ++ List.replicate (n - i) 0).map (.int .i64))) n (by omega)
    ⟨0, by omega, by omega, by simp only [go_sem, ↓reduceIte, reduceIte, Nat.reduceEqDiff, Nat.reduceAdd, Nat.reduceMul, reduceCtorEq, Nat.reduceDiv, Nat.reduceLeDiff, Nat.reduceLT, Nat.reduceSub], by simp only [go_sem, ↓reduceIte, reduceIte, Nat.reduceEqDiff, Nat.reduceAdd, Nat.reduceMul, reduceCtorEq, Nat.reduceDiv, Nat.reduceLeDiff, Nat.reduceLT, Nat.reduceSub]; rfl⟩ ?_
  rintro M e h hM ⟨i, rfl, hi, hE, hH⟩ P hP
  simp only [At_cons, At_nil] at hE hH
  obtain ⟨f0, f1, f9, f27, f28, -⟩ := hE
  by_cases hlt : i < n
  · have hm1 : i * s ≤ 60 * 2400 := Nat.mul_le_mul (by omega) (by omega)
    have hms : ((i : Int) * (s : Int)) = ((i * s : Nat) : Int) := by simp
    have hmd := Nat.mod_lt (i * s) (show 0 < N by omega)
    have hff : (if (N : Int) - ((i * s % N : Nat) : Int) < ((i * s % N : Nat) : Int) then (N : Int) - ((i * s % N : Nat) : Int) else ((i * s % N : Nat) : Int)) = farN N s i := by
      unfold farN
      split <;> omega
    have hset : ((List.range i).map (farN N s) ++ List.replicate (n - i) 0).set i (farN N s i) = (List.range (i + 1)).map (farN N s) ++ List.replicate (n - (i + 1)) 0 := by
      rw [List.set_append_right _ _ (by simp)]
      simp only [List.length_map, List.length_range, Nat.sub_self]
      obtain ⟨r, hr⟩ : ∃ r, n - i = r + 1 := ⟨n - i - 1, by omega⟩
      rw [hr, List.replicate_succ, List.set_cons_zero, List.range_succ, List.map_append, show n - (i + 1) = r by omega]
      simp
    have hlen : i < ((List.range i).map (farN N s) ++ List.replicate (n - i) (0 : Int)).length := by simp; omega
    simp (disch := first | assumption | omega) only [go_sem, ↓reduceIte, reduceIte, Nat.reduceEqDiff, Nat.reduceAdd, Nat.reduceMul, reduceCtorEq, Nat.reduceDiv, Nat.reduceLeDiff, Nat.reduceLT, Nat.reduceSub, f0, f1, f9, f27, f28, hlt, hms, b_rem, hff, hH]
    refine ⟨by simp; omega, hP (n - (i + 1)) _ (by omega) ⟨i + 1, rfl, by omega, by simp only [go_sem, ↓reduceIte, reduceIte, Nat.reduceEqDiff, Nat.reduceAdd, Nat.reduceMul, reduceCtorEq, Nat.reduceDiv, Nat.reduceLeDiff, Nat.reduceLT, Nat.reduceSub, f0, f1, f9, f27], ?_⟩⟩
    simp only [go_sem, ↓reduceIte, reduceIte, Nat.reduceEqDiff, Nat.reduceAdd, Nat.reduceMul, reduceCtorEq, Nat.reduceDiv, Nat.reduceLeDiff, Nat.reduceLT, Nat.reduceSub]
    rw [hset, List.range_succ]
  · obtain rfl : i = n := by omega
    rw [Nat.sub_self, List.replicate_zero, List.append_nil] at hH
    have hdr : ((List.range i).map (farN N s)).drop 1 = (List.range' 1 (i - 1)).map (farN N s) := by
      obtain ⟨j, rfl⟩ : ∃ j, i = j + 1 := ⟨i - 1, by omega⟩
      rw [List.range_eq_range', List.range'_succ]
      rfl
    obtain ⟨y, ys, hys⟩ : ∃ y ys, (List.range' 1 (i - 1)).map (farN N s) = y :: ys := by
      cases hq : (List.range' 1 (i - 1)).map (farN N s) with
      | nil => have := congrArg List.length hq; simp at this; omega
      | cons y ys => exact ⟨y, ys, rfl⟩
    have hyl : (y :: ys).length = i - 1 := by rw [← hys]; simp
    have hyl2 : ys.length ≤ 1000 := by simp at hyl; omega
    have hz : ∀ m c, freeze h (m + 2) (.oslice 52 0 none 1 (i - 1) c) = .ret (.slice none ((y :: ys).map (.int .i64)) false) := fun m c => by
      rw [frz_off hH (by simp; omega), hdr, hys]
    simp (disch := first | assumption | omega) only [go_sem, ↓reduceIte, reduceIte, Nat.reduceEqDiff, Nat.reduceAdd, Nat.reduceMul, reduceCtorEq, Nat.reduceDiv, Nat.reduceLeDiff, Nat.reduceLT, Nat.reduceSub, f0, f1, f9, f27, f28, hlt]
    rw [slA_from_cap (n := 1) (k := .i64) (by simp only [go_sem, ↓reduceIte, reduceIte, Nat.reduceEqDiff, Nat.reduceAdd, Nat.reduceMul, reduceCtorEq, Nat.reduceDiv, Nat.reduceLeDiff, Nat.reduceLT, Nat.reduceSub]) (by omega) (by omega)]
    simp (disch := first | assumption | omega) only [go_sem, ↓reduceIte, reduceIte, Nat.reduceEqDiff, Nat.reduceAdd, Nat.reduceMul, reduceCtorEq, Nat.reduceDiv, Nat.reduceLeDiff, Nat.reduceLT, Nat.reduceSub, f0, f1, f9, f27, f28]
    rw [slA_from_cap (n := 1) (k := .i64) (by simp only [go_sem, ↓reduceIte, reduceIte, Nat.reduceEqDiff, Nat.reduceAdd, Nat.reduceMul, reduceCtorEq, Nat.reduceDiv, Nat.reduceLeDiff, Nat.reduceLT, Nat.reduceSub]) (by omega) (by omega)]
    simp (disch := first | assumption | omega) only [go_sem, ↓reduceIte, reduceIte, Nat.reduceEqDiff, Nat.reduceAdd, Nat.reduceMul, reduceCtorEq, Nat.reduceDiv, Nat.reduceLeDiff, Nat.reduceLT, Nat.reduceSub, f0, f1, f9, f27, f28]
    refine gp_con (con_Min y ys hyl2) (by omega) (fz_cons (hz _ _) (fz_nil _)) (by first | exact or_plain rfl | rfl) ?_
    simp (disch := first | assumption | omega) only [go_sem, ↓reduceIte, reduceIte, Nat.reduceEqDiff, Nat.reduceAdd, Nat.reduceMul, reduceCtorEq, Nat.reduceDiv, Nat.reduceLeDiff, Nat.reduceLT, Nat.reduceSub, f0, f1, f9, f27, f28]
    refine gp_con (con_Index (y :: ys) (minL y ys) (by rw [hyl]; omega)) (by omega) (fz_cons (hz _ _) (fz_cons (frz_int _ _ _ _) (fz_nil _))) (by first | exact or_plain rfl | rfl) ?_
    have hb := back_bst (f := farN N s) (n := i) (by omega) y ys hys.symm
    have hbb := (bstN_spec (farN N s) i (by omega)).1
    simp (disch := first | assumption | omega) only [go_sem, ↓reduceIte, reduceIte, Nat.reduceEqDiff, Nat.reduceAdd, Nat.reduceMul, reduceCtorEq, Nat.reduceDiv, Nat.reduceLeDiff, Nat.reduceLT, Nat.reduceSub, hb]
    exact hV _ _ (by repeat (first | exact mz_nil _ _ | exact frz_int _ _ _ _ | exact frz_bool _ _ _ | exact frz_slice _ _ _ _ _ | exact frz_ptr _ _ _ _ | exact frz_nilptr _ _ | refine mz_cons ?_ ?_ | refine frz_agg ?_ | refine frz_two ?_ ?_ | refine frz_three ?_ ?_ ?_))

end Go.Ev.YtcghegefcgnhbaaC
