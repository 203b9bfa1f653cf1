/- Paths to an interval: the program's way, and the reference's; lists that are equal. Contracts; conditions stand in each. -/
import Derived.Test.YtcghegefcgnhbaaL1Fine
import Derived.Test.YtcghegefcgnhbaaL1Math7
set_option linter.unusedSimpArgs false
set_option linter.unusedVariables false
namespace Go.Ev.YtcghegefcgnhbaaC
open Go Go.Proofs

theorem b_quoN {a b : Nat} (ha : a < 4611686018427387904) (hb : 0 < b) : binA .quo (.int .i64 (a : Int)) (.int .i64 (b : Int)) = .ret (.int .i64 ((a / b : Nat) : Int)) := by
  rw [b_quo (by omega) (by omega) (by omega)]
  congr 2
theorem frz_part {h : Heap} {key ver n m : Nat} {cap : Option Nat} {k : IntKind} {l : List Int} (hH : getH h key = .cells ver (l.map (.int k))) (hn : n ≤ l.length) : freeze h (m + 2) (.oslice key ver none 0 n cap) = .ret (.slice none ((l.take n).map (.int k)) false) := by
  have e : ((l.map (AV.int k)).drop 0).take (n * gsize none) = (l.take n).map (.int k) := by rw [List.drop_zero, List.map_take]; simp [gsize]
  rw [freeze]
  simp only [hH]
  rw [if_pos ⟨trivial, by simp [gsize]; exact hn⟩, e, freeze_ints]
  rfl
theorem gp_copyAll {call : Caller} {base : Nat} {Q : EX × St → Prop} {d : Option Nat} {L : List IOper} {ks : List Kont} {e : Env} {h : Heap} {key ver n : Nat} {c : Option Nat} {cs : List AV} {k : IntKind} {l : List Int} (hH : getH h key = .cells ver cs) (hc : cs.length = n) (hn : l.length = n)
    (H : ∀ v h', getH h' key = .cells ver (l.map (.int k)) → (∀ j, j ≠ key → getH h' j = getH h j) → h.length ≤ h'.length → GO call base Q L ks ⟨setDst e d v, h'⟩) : GP call base Q d L ks e (cpA none h (.oslice key ver none 0 n c) (some (none, n, l.map (.int k)))) := by
  by_cases h0 : 0 < n
  · rw [cp_full hH hc (by simpa using hn) h0, gp_ret]
    exact H _ _ (by simp) (fun j hj => getH_setH_ne _ _ _ _ (fun he => hj he.symm)) (by rw [length_setH]; omega)
  · obtain rfl : n = 0 := by omega
    rw [cp_none hH, gp_ret]
    obtain rfl : l = [] := List.length_eq_zero_iff.1 hn
    obtain rfl : cs = [] := List.length_eq_zero_iff.1 hc
    exact H _ _ hH (fun _ _ => rfl) (Nat.le_refl _)

attribute [local irreducible] Res.all evC evLoop evOps evOper evOp evFn evCall freeze G GO GV GP GC R
set_option maxRecDepth 100000

/-! ### Longs -/
theorem con_Longs (a b : List Int) (ha : a.length < 1152921504606846976) (hb : b.length < 1152921504606846976) : Con T 1 41 [longsV a, longsV b] (.bool (decide (a = b))) := by
  refine con_intro t41 fun n hn V hV => ?_
  replace hV : ∀ w h, w = decide (a = b) → V (.bool w, h) := fun w h e1 => hV _ _ (by rw [e1]; exact (by repeat (first | exact mz_nil _ _ | exact frz_int _ _ _ _ | exact frz_bool _ _ _ | exact frz_slice _ _ _ _ _ | exact frz_ptr _ _ _ _ | exact frz_nilptr _ _ | refine mz_cons ?_ ?_ | refine frz_agg ?_ | refine frz_two ?_ ?_ | refine frz_three ?_ ?_ ?_)))
  by_cases hl : a.length = b.length
  case neg =>
    have hl' : ((a.length : Int) != b.length) = true := by simp; omega
    simp (disch := first | assumption | omega) only [c41, go_sem, ↓reduceIte, reduceIte, Nat.reduceEqDiff, Nat.reduceAdd, Nat.reduceMul, reduceCtorEq, Nat.reduceDiv, Nat.reduceLeDiff, Nat.reduceLT, Nat.reduceSub, hl']
    exact hV _ _ (decide_eq_false (fun h => hl (by rw [h]))).symm
  have hl' : ((a.length : Int) != b.length) = false := by simp; omega
  simp (disch := first | assumption | omega) only [c41, go_sem, ↓reduceIte, reduceIte, Nat.reduceEqDiff, Nat.reduceAdd, Nat.reduceMul, reduceCtorEq, Nat.reduceDiv, Nat.reduceLeDiff, Nat.reduceLT, Nat.reduceSub, hl']
  refine m_loop (fun M st => ∃ k : Nat, M = a.length - k ∧ k ≤ a.length ∧ At st.env [(0, longsV a), (1, longsV b), (5, .int .i64 k)] ∧ a.take k = b.take k) a.length (by omega) ⟨0, by omega, by omega, by simp only [go_sem, ↓reduceIte, reduceIte, Nat.reduceEqDiff, Nat.reduceAdd, Nat.reduceMul, reduceCtorEq, Nat.reduceDiv, Nat.reduceLeDiff, Nat.reduceLT, Nat.reduceSub], rfl⟩ ?_
  rintro M e h hM ⟨k, rfl, hk, hE, hA⟩ P hP
  simp only [At_cons, At_nil] at hE
  obtain ⟨f0, f1, f5, -⟩ := hE
  by_cases hlt : k < a.length
  · obtain ⟨y, hy⟩ := get_ex hlt
    obtain ⟨z, hz⟩ := get_ex (l := b) (i := k) (by omega)
    by_cases hyz : y = z
    · subst hyz
      simp (disch := first | assumption | omega) only [go_sem, ↓reduceIte, reduceIte, Nat.reduceEqDiff, Nat.reduceAdd, Nat.reduceMul, reduceCtorEq, Nat.reduceDiv, Nat.reduceLeDiff, Nat.reduceLT, Nat.reduceSub, f0, f1, f5, hlt, hy, hz, bne_self_eq_false]
      exact hP (a.length - (k + 1)) _ (by omega) ⟨k + 1, rfl, by omega, by simp only [go_sem, ↓reduceIte, reduceIte, Nat.reduceEqDiff, Nat.reduceAdd, Nat.reduceMul, reduceCtorEq, Nat.reduceDiv, Nat.reduceLeDiff, Nat.reduceLT, Nat.reduceSub, f0, f1], by rw [List.take_add_one, List.take_add_one, hA, hy, hz]⟩
    · have hyz' : (y != z) = true := by simp [hyz]
      simp (disch := first | assumption | omega) only [go_sem, ↓reduceIte, reduceIte, Nat.reduceEqDiff, Nat.reduceAdd, Nat.reduceMul, reduceCtorEq, Nat.reduceDiv, Nat.reduceLeDiff, Nat.reduceLT, Nat.reduceSub, f0, f1, f5, hlt, hy, hz, hyz']
      refine hV _ _ (decide_eq_false (fun h => hyz ?_)).symm
      rw [h, hz] at hy
      simpa using hy.symm
  · simp (disch := first | assumption | omega) only [go_sem, ↓reduceIte, reduceIte, Nat.reduceEqDiff, Nat.reduceAdd, Nat.reduceMul, reduceCtorEq, Nat.reduceDiv, Nat.reduceLeDiff, Nat.reduceLT, Nat.reduceSub, f0, f1, f5, hlt]
    refine hV _ _ (decide_eq_true ?_).symm
    rwa [List.take_of_length_le (by omega), List.take_of_length_le (by omega)] at hA
theorem cs_Longs {n base : Nat} {Q : EX × St → Prop} {d : Option Nat} {L : List IOper} {ks : List Kont} {e : Env} {h : Heap} {a b : List Int} {x y : Bool} (hn : 1 ≤ n) (ha : a.length < 1152921504606846976) (hb : b.length < 1152921504606846976) : GP (evCall T n) base Q d L ks e (evCall T n false (.fn 41) [.slice none (a.map (.int .i64)) x, .slice none (b.map (.int .i64)) y] h) = GO (evCall T n) base Q L ks ⟨setDst e d (.bool (decide (a = b))), h⟩ :=
  gp_eq (con_Longs a b ha hb) hn (by repeat (first | exact fz_nil _ | refine fz_slice _ _ _ _ ?_ | refine fz_int _ _ _ ?_)) (or_pb _ _)

/-! ### path -/
theorem cf_len {u v : Nat} (hv : v ≤ 10000) : (cf u v).length ≤ 28 := cf_length 14 u v (by omega)
theorem cf_lastPos : ∀ (b a : Nat), 0 < a → 0 < b → ∀ R r, cf a b = R ++ [r] → 1 ≤ r := by
  intro b
  induction b using Nat.strongRecOn with
  | _ b ih =>
    intro a ha hb R r h
    have hm := Nat.mod_lt a hb
    rw [cf_pos hb] at h
    by_cases hz : a % b = 0
    · rw [hz, cf_zero] at h
      cases R with
      | nil =>
        simp only [List.nil_append, List.cons.injEq, and_true] at h
        subst h
        exact (Nat.one_le_div_iff hb).2 (Nat.le_of_dvd ha (Nat.dvd_of_mod_eq_zero hz))
      | cons x R => simp at h
    · cases R with
      | nil =>
        simp only [List.nil_append, List.cons.injEq] at h
        exact (cf_ne (a := b) (b := a % b) (by omega) h.2).elim
      | cons x R =>
        simp only [List.cons_append, List.cons.injEq] at h
        exact ih (a % b) hm b hb (by omega) R r h.2
theorem fixL_last (P : List Nat) (n : Nat) : fixL (P ++ [n]) = if n - 1 = 0 then P else P ++ [n - 1] := by
  rw [fixL_append P [n] (by simp)]
  unfold fixL
  split <;> simp

set_option maxHeartbeats 1000000 in
theorem con_path (u v : Nat) (hu1 : 1 ≤ u) (hu : u ≤ 10000) (hv1 : 1 ≤ v) (hv : v ≤ 10000) : Con T 1 72 [forkV ⟨u, v⟩] (longsV (longsI (pathN u v))) := by
  refine con_intro t72 fun n hn V hV => ?_
  have hlen := cf_len (u := u) hv
  simp (disch := first | assumption | omega) only [c72, go_sem, ↓reduceIte, reduceIte, Nat.reduceEqDiff, Nat.reduceAdd, Nat.reduceMul, reduceCtorEq, Nat.reduceDiv, Nat.reduceLeDiff, Nat.reduceLT, Nat.reduceSub]
  refine m_loop (fun M st => ∃ (a b : Nat) (P : List Nat) (w : AV), M = b ∧ P ++ cf a b = cf u v ∧ b ≤ 10000 ∧ a ≤ 10000 ∧ At st.env [(0, forkV ⟨u, v⟩), (3, w), (4, .int .i64 a), (5, .int .i64 b)] ∧ Own 54 st.heap w .i64 (longsI P) ∧ 54 ≤ st.heap.length) v (by omega)
    ⟨u, v, [], _, rfl, rfl, hv, hu, by simp only [go_sem, ↓reduceIte, reduceIte, Nat.reduceEqDiff, Nat.reduceAdd, Nat.reduceMul, reduceCtorEq, Nat.reduceDiv, Nat.reduceLeDiff, Nat.reduceLT, Nat.reduceSub], own_nil _ _ _, by simp⟩ ?_
  rintro b e h hM ⟨a, _, P, w, rfl, hP0, hb, ha, hE, hO, hl⟩ P' hP'
  simp only [At_cons, At_nil] at hE hO hl
  obtain ⟨f0, f3, f4, f5, -⟩ := hE
  have hPl : P.length ≤ 28 := by
    have := congrArg List.length hP0
    rw [List.length_append] at this
    omega
  have hLl : (longsI P).length = P.length := by simp [longsI]
  by_cases hz : b = 0
  · subst hz
    rw [cf_zero, List.append_nil] at hP0
    have hz' : ((0 : Int) != 0) = false := rfl
    have hne : P ≠ [] := by rw [hP0]; exact cf_ne hv1
    obtain ⟨R, r, rfl⟩ : ∃ R r, P = R ++ [r] := ⟨P.dropLast, P.getLast hne, (List.dropLast_concat_getLast hne).symm⟩
    have hpath : pathN u v = if r - 1 = 0 then R else R ++ [r - 1] := by unfold pathN; rw [← hP0, fixL_last]
    have hr1 : r ≤ 10000 := cf_le 10000 u v hu hv r (by rw [← hP0]; simp)
    have hr0 : 1 ≤ r := cf_lastPos v u (by omega) (by omega) R r hP0.symm
    have hlt1 : (R.length < R.length + 1) = True := eq_true (by omega)
    have eL : longsI (R ++ [r]) = longsI R ++ [(r : Int)] := by simp [longsI]
    have eRl : (longsI R).length = R.length := by simp [longsI]
    rw [eL] at hO
    rcases hO with ⟨h0, _⟩ | ⟨key, ver, hk, rfl, hH⟩
    · simp at h0
    have hRl : R.length ≤ 28 := by rw [List.length_append] at hPl; omega
    have hget : (longsI R ++ [(r : Int)])[R.length]? = some (r : Int) := by rw [List.getElem?_append_right (by omega)]; simp [eRl]
    have hset : (longsI R ++ [(r : Int)]).set R.length ((r : Int) - 1) = longsI R ++ [(r : Int) - 1] := by rw [List.set_append_right _ _ (by omega)]; simp [eRl]
    have hget2 : (longsI R ++ [(r : Int) - 1])[R.length]? = some ((r : Int) - 1) := by rw [List.getElem?_append_right (by omega)]; simp [eRl]
    have hsub : ((R.length : Int) + 1 - 1) = R.length := by omega
    by_cases h1 : r = 1
    · have h1' : ((r : Int) - 1 == 0) = true := by subst h1; rfl
      rw [if_pos (by omega)] at hpath
      simp (disch := first | assumption | omega) only [go_sem, ↓reduceIte, reduceIte, Nat.reduceEqDiff, Nat.reduceAdd, Nat.reduceMul, reduceCtorEq, Nat.reduceDiv, Nat.reduceLeDiff, Nat.reduceLT, Nat.reduceSub, f0, f3, f4, f5, hz', hH, eRl, hget, hset, hget2, hsub, splice_one, h1', hlt1]
      rw [slA_to_own (n := R.length) (k := .i64) (by simp only [go_sem, ↓reduceIte, reduceIte, Nat.reduceEqDiff, Nat.reduceAdd, Nat.reduceMul, reduceCtorEq, Nat.reduceDiv, Nat.reduceLeDiff, Nat.reduceLT, Nat.reduceSub]) (by omega)]
      simp (disch := first | assumption | omega) only [go_sem, ↓reduceIte, reduceIte, Nat.reduceEqDiff, Nat.reduceAdd, Nat.reduceMul, reduceCtorEq, Nat.reduceDiv, Nat.reduceLeDiff, Nat.reduceLT, Nat.reduceSub]
      refine hV _ _ ?_
      rw [frz_part (k := .i64) (l := longsI R ++ [(r : Int) - 1]) (by simp only [go_sem, ↓reduceIte, reduceIte, Nat.reduceEqDiff, Nat.reduceAdd, Nat.reduceMul, reduceCtorEq, Nat.reduceDiv, Nat.reduceLeDiff, Nat.reduceLT, Nat.reduceSub]) (by simp [eRl]), hpath, ← eRl, List.take_left']
      rfl
    · have h1' : ((r : Int) - 1 == 0) = false := by simp; omega
      rw [if_neg (by omega)] at hpath
      simp (disch := first | assumption | omega) only [go_sem, ↓reduceIte, reduceIte, Nat.reduceEqDiff, Nat.reduceAdd, Nat.reduceMul, reduceCtorEq, Nat.reduceDiv, Nat.reduceLeDiff, Nat.reduceLT, Nat.reduceSub, f0, f3, f4, f5, hz', hH, eRl, hget, hset, hget2, hsub, splice_one, h1', hlt1]
      refine hV _ _ ?_
      rw [frz_part (k := .i64) (l := longsI R ++ [(r : Int) - 1]) (by simp only [go_sem, ↓reduceIte, reduceIte, Nat.reduceEqDiff, Nat.reduceAdd, Nat.reduceMul, reduceCtorEq, Nat.reduceDiv, Nat.reduceLeDiff, Nat.reduceLT, Nat.reduceSub]) (by simp [eRl]), hpath, List.take_of_length_le (by simp [eRl])]
      have : longsI (R ++ [r - 1]) = longsI R ++ [(r : Int) - 1] := by simp [longsI]; omega
      rw [this]
  · have hz' : ((b : Int) != 0) = true := by simp; omega
    have hm := Nat.mod_lt a (show 0 < b by omega)
    rw [cf_pos (by omega)] at hP0
    simp (disch := first | assumption | omega) only [go_sem, ↓reduceIte, reduceIte, Nat.reduceEqDiff, Nat.reduceAdd, Nat.reduceMul, reduceCtorEq, Nat.reduceDiv, Nat.reduceLeDiff, Nat.reduceLT, Nat.reduceSub, f0, f3, f4, f5, hz', hO.lenA]
    rw [slA_full hO (k1 := .i64) (k2 := .i64) (by simp only [go_sem, ↓reduceIte, reduceIte, Nat.reduceEqDiff, Nat.reduceAdd, Nat.reduceMul, reduceCtorEq, Nat.reduceDiv, Nat.reduceLeDiff, Nat.reduceLT, Nat.reduceSub]) (by simp only [go_sem, ↓reduceIte, reduceIte, Nat.reduceEqDiff, Nat.reduceAdd, Nat.reduceMul, reduceCtorEq, Nat.reduceDiv, Nat.reduceLeDiff, Nat.reduceLT, Nat.reduceSub])]
    simp (disch := first | assumption | omega) only [go_sem, ↓reduceIte, reduceIte, Nat.reduceEqDiff, Nat.reduceAdd, Nat.reduceMul, reduceCtorEq, Nat.reduceDiv, Nat.reduceLeDiff, Nat.reduceLT, Nat.reduceSub, f0, f3, f4, f5, b_quoN]
    refine gp_append_capped (m := 1) (l2 := [((a / b : Nat) : Int)]) (by first | with_reducible rfl | (simp only [length_setH, List.length_append, List.length_replicate]; done) | (simp only [length_setH, List.length_append, List.length_replicate]; omega)) hO hl rfl rfl Nat.one_pos (by omega) fun x' h' hO' hF hL _ => ?_
    simp (disch := first | assumption | omega) only [go_sem, ↓reduceIte, reduceIte, Nat.reduceEqDiff, Nat.reduceAdd, Nat.reduceMul, reduceCtorEq, Nat.reduceDiv, Nat.reduceLeDiff, Nat.reduceLT, Nat.reduceSub, f0, f4, f5, b_rem]
    exact hP' (a % b) _ hm ⟨b, a % b, P ++ [a / b], x', rfl, by rw [List.append_assoc]; exact hP0, by omega, by omega, by simp only [go_sem, ↓reduceIte, reduceIte, Nat.reduceEqDiff, Nat.reduceAdd, Nat.reduceMul, reduceCtorEq, Nat.reduceDiv, Nat.reduceLeDiff, Nat.reduceLT, Nat.reduceSub, f0], by simpa [longsI] using hO', Nat.le_trans hl hL⟩

/-! ### PathOf -/
theorem incLast_ne {L : List Nat} (h : L ≠ []) : ∃ R r, L = R ++ [r] ∧ incLast L = R ++ [r + 1] := by
  refine ⟨L.dropLast, L.getLast h, (List.dropLast_concat_getLast h).symm, ?_⟩
  conv => lhs; rw [← List.dropLast_concat_getLast h]
  exact incLast_append _ _
theorem padL_nil (left : Nat) : padL [] left = if left ≠ 0 then [0, 0] else [0] := by
  unfold padL
  by_cases h : left = 0
  · subst h; rfl
  · simp only [List.length_nil, if_true, List.length_singleton, Nat.sub_self, Nat.zero_mod]
    rw [if_pos (fun e => h e.symm), if_pos h]
    rfl
theorem padL_cons (a : Nat) (r : List Nat) (left : Nat) : padL (a :: r) left = if r.length % 2 ≠ left then a :: r ++ [0] else a :: r := by
  have h0 : ¬ (a :: r).length = 0 := by simp
  simp only [padL, if_neg h0]
  rw [List.length_cons, Nat.add_sub_cancel]
theorem padL_len (L : List Nat) (left : Nat) : (padL L left).length ≤ L.length + 2 := by
  cases L with
  | nil => rw [padL_nil]; split <;> simp
  | cons a r => rw [padL_cons]; split <;> simp
theorem padL_ne (L : List Nat) (left : Nat) : padL L left ≠ [] := by
  cases L with
  | nil => rw [padL_nil]; split <;> simp
  | cons a r => rw [padL_cons]; split <;> simp
theorem padL_mem {L : List Nat} {left n : Nat} (h : n ∈ padL L left) : n = 0 ∨ n ∈ L := by
  cases L with
  | nil =>
    rw [padL_nil] at h
    split at h <;> simp at h <;> exact .inl h
  | cons a r =>
    rw [padL_cons] at h
    split at h
    · rcases List.mem_append.1 h with h | h
      · exact .inr h
      · simp at h; exact .inl h
    · exact .inr h

/-- what the reference's walk keeps -/
structure TreeAt (x : Frac) (a b c d : Int) (u v : Nat) : Prop where
  a0 : 0 ≤ a
  b0 : 0 ≤ b
  c0 : 0 ≤ c
  d0 : 0 ≤ d
  det : c * b - a * d = 1
  u1 : 1 ≤ u
  v1 : 1 ≤ v
  num : x.num = v * a + u * c
  den : x.den = v * b + u * d
theorem TreeAt.gap {x : Frac} {a b c d : Int} {u v : Nat} (h : TreeAt x a b c d u v) : gapF ⟨a + c, b + d⟩ x = (u : Int) - v := by
  have h1 := h.det
  have h2 := h.num
  have h3 := h.den
  unfold gapF
  simp only
  rw [h2, h3]
  grind
theorem TreeAt.le {x : Frac} {a b c d : Int} {u v : Nat} (h : TreeAt x a b c d u v) : a + c ≤ x.num ∧ b + d ≤ x.den := by
  have h1 := le_mul h.a0 (show (1 : Int) ≤ v by have := h.v1; omega)
  have h2 := le_mul h.c0 (show (1 : Int) ≤ u by have := h.u1; omega)
  have h3 := le_mul h.b0 (show (1 : Int) ≤ v by have := h.v1; omega)
  have h4 := le_mul h.d0 (show (1 : Int) ≤ u by have := h.u1; omega)
  have h5 := h.num
  have h6 := h.den
  have e1 : (v : Int) * a = a * v := Int.mul_comm _ _
  have e2 : (u : Int) * c = c * u := Int.mul_comm _ _
  have e3 : (v : Int) * b = b * v := Int.mul_comm _ _
  have e4 : (u : Int) * d = d * u := Int.mul_comm _ _
  omega
theorem TreeAt.left {x : Frac} {a b c d : Int} {u v : Nat} (h : TreeAt x a b c d u v) (hlt : u < v) : TreeAt x a b (a + c) (b + d) u (v - u) := by
  have h1 := h.det
  have h2 := h.num
  have h3 := h.den
  have e : ((v - u : Nat) : Int) = (v : Int) - u := by omega
  exact ⟨h.a0, h.b0, by have := h.a0; have := h.c0; omega, by have := h.b0; have := h.d0; omega, by grind, h.u1, by omega, by rw [h2, e]; grind, by rw [h3, e]; grind⟩
theorem TreeAt.right {x : Frac} {a b c d : Int} {u v : Nat} (h : TreeAt x a b c d u v) (hlt : v < u) : TreeAt x (a + c) (b + d) c d (u - v) v := by
  have h1 := h.det
  have h2 := h.num
  have h3 := h.den
  have e : ((u - v : Nat) : Int) = (u : Int) - v := by omega
  exact ⟨by have := h.a0; have := h.c0; omega, by have := h.b0; have := h.d0; omega, h.c0, h.d0, by grind, by omega, h.v1, by rw [h2, e]; grind, by rw [h3, e]; grind⟩

set_option maxHeartbeats 4000000 in
theorem con_PathOf (U W : Nat) (hU1 : 1 ≤ U) (hU : U ≤ 10000) (hW1 : 1 ≤ W) (hW : W ≤ 10000) (hg : Nat.gcd U W = 1) : Con T 2 73 [rAV ⟨U, W⟩] (longsV (longsI (pathN U W))) := by
  refine con_intro t73 fun n hn V hV => ?_
  have nf : (¬ False) = True := not_false_eq_true
  simp (disch := first | assumption | omega) only [c73, go_sem, ↓reduceIte, reduceIte, Nat.reduceEqDiff, Nat.reduceAdd, Nat.reduceMul, reduceCtorEq, Nat.reduceDiv, Nat.reduceLeDiff, Nat.reduceLT, Nat.reduceSub]
  refine m_loop (fun M st => ∃ (u v k : Nat) (a b c d : Int) (out : List Nat) (w : AV) (v1 v3 v4 v5 : Nat), M = u + v ∧ u + v ≤ U + W ∧ u + v < k ∧ subGo k u v out = pathN U W ∧ TreeAt ⟨U, W⟩ a b c d u v ∧ out.length + 2 * (u + v) ≤ 2 * (U + W) ∧ (∀ n ∈ out, n + u + v ≤ U + W) ∧
    At st.env [(1, .optr 1 v1 0), (3, .optr 3 v3 0), (4, .optr 4 v4 0), (5, .optr 5 v5 0), (6, w)] ∧ getH st.heap 1 = .cells v1 [.int .i64 U, .int .i64 W] ∧ getH st.heap 3 = .cells v3 [.int .i64 a, .int .i64 b] ∧ getH st.heap 4 = .cells v4 [.int .i64 c, .int .i64 d] ∧ getH st.heap 5 = .cells v5 [.int .i64 (a + c), .int .i64 (b + d)] ∧
    Own 58 st.heap w .i64 (longsI out) ∧ 58 ≤ st.heap.length) (U + W) (by omega)
    ⟨U, W, U + W + 1, 0, 1, 1, 0, [], _, 0, 0, 0, 0, rfl, Nat.le_refl _, by omega, sub_path (by omega) (by omega) hg (by omega), ⟨by omega, by omega, by omega, by omega, by omega, hU1, hW1, by simp, by simp⟩, by simp, by simp, by simp only [go_sem, ↓reduceIte, reduceIte, Nat.reduceEqDiff, Nat.reduceAdd, Nat.reduceMul, reduceCtorEq, Nat.reduceDiv, Nat.reduceLeDiff, Nat.reduceLT, Nat.reduceSub], by simp only [go_sem, ↓reduceIte, reduceIte, Nat.reduceEqDiff, Nat.reduceAdd, Nat.reduceMul, reduceCtorEq, Nat.reduceDiv, Nat.reduceLeDiff, Nat.reduceLT, Nat.reduceSub], by simp only [go_sem, ↓reduceIte, reduceIte, Nat.reduceEqDiff, Nat.reduceAdd, Nat.reduceMul, reduceCtorEq, Nat.reduceDiv, Nat.reduceLeDiff, Nat.reduceLT, Nat.reduceSub], by simp only [go_sem, ↓reduceIte, reduceIte, Nat.reduceEqDiff, Nat.reduceAdd, Nat.reduceMul, reduceCtorEq, Nat.reduceDiv, Nat.reduceLeDiff, Nat.reduceLT, Nat.reduceSub], by simp only [go_sem, ↓reduceIte, reduceIte, Nat.reduceEqDiff, Nat.reduceAdd, Nat.reduceMul, reduceCtorEq, Nat.reduceDiv, Nat.reduceLeDiff, Nat.reduceLT, Nat.reduceSub]; rfl, own_nil _ _ _, by simp [length_setH]⟩ ?_
  rintro M e h hM ⟨u, v, k, a, b, c, d, out, w, v1, v3, v4, v5, rfl, huv, hk, hsub, hT, hlen, hmem, hE, hh1, hh3, hh4, hh5, hO, hl⟩ P hP
  simp only [At_cons, At_nil] at hE hh1 hh3 hh4 hh5 hO hl
  obtain ⟨f1, f3, f4, f5, f6, -⟩ := hE
  obtain ⟨k, rfl⟩ : ∃ j, k = j + 1 := ⟨k - 1, by omega⟩
  have hgap := hT.gap
  obtain ⟨le1, le2⟩ := hT.le
  simp only at le1 le2
  have a0 := hT.a0
  have b0 := hT.b0
  have c0 := hT.c0
  have d0 := hT.d0
  have u1 := hT.u1
  have w1 := hT.v1
  have bA : BF ⟨a + c, b + d⟩ := by unfold BF Bn; simp only; omega
  have bX : BF ⟨(U : Int), (W : Int)⟩ := by unfold BF Bn; simp only; omega
  have cg := con_GapOf ⟨a + c, b + d⟩ ⟨(U : Int), (W : Int)⟩ bA bX
  rw [hgap] at cg
  have cs_g : ∀ {n base : Nat} {Q : EX × St → Prop} {d' : Option Nat} {L : List IOper} {ks : List Kont} {e : Env} {h : Heap}, 1 ≤ n → GP (evCall T n) base Q d' L ks e (evCall T n false (.fn 50) [.agg [.int .i64 (a + c), .int .i64 (b + d)], .agg [.int .i64 (U : Int), .int .i64 (W : Int)]] h) = GO (evCall T n) base Q L ks ⟨setDst e d' (.int .i64 ((u : Int) - v)), h⟩ := fun hn =>
    gp_eq cg hn (fz_rat _ ⟨a + c, b + d⟩ (fz_rat _ ⟨(U : Int), (W : Int)⟩ (fz_nil _))) (or_pi _ _ _)
  rw [subGo] at hsub
  by_cases he : u = v
  · rw [if_pos he] at hsub
    have hb : ((u : Int) - v != 0) = false := by simp; omega
    simp (disch := first | assumption | omega) only [go_sem, ↓reduceIte, reduceIte, Nat.reduceEqDiff, Nat.reduceAdd, Nat.reduceMul, reduceCtorEq, Nat.reduceDiv, Nat.reduceLeDiff, Nat.reduceLT, Nat.reduceSub, f1, f3, f4, f5, f6, hh1, hh3, hh4, hh5, cs_g, hb]
    exact hV _ _ (by rw [← hsub]; exact frz_Own hO)
  rw [if_neg he] at hsub
  have hb : ((u : Int) - v != 0) = true := by simp; omega
  have hol : (longsI out).length = out.length := by simp [longsI]
  -- behind the pads: one more at the end
  have fin : ∀ (left : Nat) (o : List Nat), o = padL out left → o ≠ [] ∧ ∃ R r, o = R ++ [r] ∧ incLast o = R ++ [r + 1] ∧ R.length + 1 ≤ out.length + 2 ∧ r ≤ U + W ∧ (∀ n ∈ R ++ [r + 1], n + (u + v - 1) ≤ U + W) := fun left o ho => by
    have hne : o ≠ [] := by rw [ho]; exact padL_ne _ _
    obtain ⟨R, r, h1, h2⟩ := incLast_ne hne
    have h3 := padL_len out left
    have hmo : ∀ n ∈ R ++ [r], n + u + v ≤ U + W := fun n hn => by
      rw [← h1, ho] at hn
      rcases padL_mem hn with rfl | h
      · omega
      · exact hmem n h
    refine ⟨hne, R, r, h1, h2, ?_, ?_, fun n hn => ?_⟩
    · rw [← ho, h1] at h3; simpa using h3
    · have := hmo r (by simp); omega
    · rcases List.mem_append.1 hn with hn | hn
      · have := hmo n (by simp [hn]); omega
      · simp at hn
        subst hn
        have := hmo r (by simp)
        omega
  have z00 : ((0 : Int) == 0) = true := rfl
  have z01 : ((0 : Int) == 1) = false := rfl
  have z10 : ((0 : Int) != 1) = true := rfl
  have zr0 : binA .rem (.int .i64 0) (.int .i64 2) = .ret (.int .i64 0) := rfl
  have zm0 : ((0 : Int) != 0) = false := rfl
  have zm1 : ((1 : Int) - 1) = 0 := rfl
  have shape : ∀ (R : List Nat) (r : Nat), longsI (R ++ [r]) = longsI R ++ [(r : Int)] ∧ (longsI R).length = R.length ∧ (longsI R ++ [(r : Int)])[R.length]? = some (r : Int) ∧ (longsI R ++ [(r : Int)]).set R.length ((r : Int) + 1) = longsI R ++ [(r : Int) + 1] ∧ ((R.length : Int) + 1 - 1) = R.length ∧ (R.length < R.length + 1) = True ∧ longsI (R ++ [r + 1]) = longsI R ++ [(r : Int) + 1] := fun R r => by
    have eRl : (longsI R).length = R.length := by simp [longsI]
    exact ⟨by simp [longsI], eRl, by rw [List.getElem?_append_right (by omega)]; simp [eRl], by rw [List.set_append_right _ _ (by omega)]; simp [eRl], by omega, eq_true (by omega), by simp [longsI]⟩
  by_cases hlt : u < v
  · rw [if_pos hlt] at hsub
    have hg0 : ((u : Int) - v < 0) = True := eq_true (by omega)
    have hT' := hT.left hlt
    obtain ⟨hne, R, r, ho1, ho2, ho3, ho4, ho5⟩ := fin 1 _ rfl
    rw [ho2] at hsub
    obtain ⟨eL0, eRl, hget, hset, hsub2, hlt1, eL⟩ := shape R r
    have hsub' := hsub
    clear hsub
    have hsub := hsub2
    cases out with
    | nil =>
      rw [padL_nil, if_pos (by omega)] at ho1
      simp (disch := first | assumption | omega) only [go_sem, ↓reduceIte, reduceIte, Nat.reduceEqDiff, Nat.reduceAdd, Nat.reduceMul, reduceCtorEq, Nat.reduceDiv, Nat.reduceLeDiff, Nat.reduceLT, Nat.reduceSub, f1, f3, f4, f5, f6, hh1, hh3, hh4, hh5, cs_g, hb, hg0, z00, z01, z10, zr0, zm0, zm1, hO.lenA, longsI]
      refine gp_append1 (a := 0) (by first | with_reducible rfl | (simp only [length_setH, List.length_append, List.length_replicate]; done) | (simp only [length_setH, List.length_append, List.length_replicate]; omega)) hO hl (by simp [longsI]) fun x' h' hO' hF hL _ _ => ?_
      simp (disch := first | assumption | omega) only [go_sem, ↓reduceIte, reduceIte, Nat.reduceEqDiff, Nat.reduceAdd, Nat.reduceMul, reduceCtorEq, Nat.reduceDiv, Nat.reduceLeDiff, Nat.reduceLT, Nat.reduceSub, f1, f3, f4, f5, f6, hh1, hh3, hh4, hh5, cs_g, hb, hg0, z00, z01, z10, zr0, zm0, zm1, hO'.lenA, longsI]
      refine gp_append1 (a := 0) (by first | with_reducible rfl | (simp only [length_setH, List.length_append, List.length_replicate]; done) | (simp only [length_setH, List.length_append, List.length_replicate]; omega)) hO' (Nat.le_trans hl hL) (by simp [longsI]) fun x2 h2 hO2 hF2 hL2 _ _ => ?_
      have g1 := (hF2 1 (by omega)).trans ((hF 1 (by omega)).trans hh1)
      have g3 := (hF2 3 (by omega)).trans ((hF 3 (by omega)).trans hh3)
      have g4 := (hF2 4 (by omega)).trans ((hF 4 (by omega)).trans hh4)
      have g5 := (hF2 5 (by omega)).trans ((hF 5 (by omega)).trans hh5)
      have hO3 : Own 58 h2 x2 .i64 (longsI R ++ [(r : Int)]) := by rw [← eL0, ← ho1]; exact hO2
      rcases hO3 with ⟨h0, _⟩ | ⟨key, ver, hkey, rfl, hH⟩
      · simp at h0
      have k1 : (key = 1) = False := eq_false (by omega)
      have k3 : (key = 3) = False := eq_false (by omega)
      have k4 : (key = 4) = False := eq_false (by omega)
      have k5 : (key = 5) = False := eq_false (by omega)
      have k1' : (1 = key) = False := eq_false (by omega)
      have k3' : (3 = key) = False := eq_false (by omega)
      have k4' : (4 = key) = False := eq_false (by omega)
      have k5' : (5 = key) = False := eq_false (by omega)
      simp (disch := first | assumption | omega) only [go_sem, ↓reduceIte, reduceIte, Nat.reduceEqDiff, Nat.reduceAdd, Nat.reduceMul, reduceCtorEq, Nat.reduceDiv, Nat.reduceLeDiff, Nat.reduceLT, Nat.reduceSub, f1, f3, f4, f5, f6, g1, g3, g4, g5, hH, eRl, hget, hset, hsub, hlt1, splice_one, z01, z10, k1, k3, k4, k5, k1', k3', k4', k5', beq_self_eq_true]
      refine hP (u + (v - u)) _ (by omega) ⟨u, v - u, k, a, b, a + c, b + d, R ++ [r + 1], .oslice key ver none 0 (R.length + 1) none, v1, v3, v4, v5, rfl, by omega, by omega, hsub', hT', by simp only [List.length_append, List.length_singleton]; omega, fun n hn => by have := ho5 n hn; omega, by simp only [go_sem, ↓reduceIte, reduceIte, Nat.reduceEqDiff, Nat.reduceAdd, Nat.reduceMul, reduceCtorEq, Nat.reduceDiv, Nat.reduceLeDiff, Nat.reduceLT, Nat.reduceSub, f1, f3, f4, f5, f6, eRl], by simp only [go_sem, ↓reduceIte, reduceIte, Nat.reduceEqDiff, Nat.reduceAdd, Nat.reduceMul, reduceCtorEq, Nat.reduceDiv, Nat.reduceLeDiff, Nat.reduceLT, Nat.reduceSub, g1, k1, k1'], by simp only [go_sem, ↓reduceIte, reduceIte, Nat.reduceEqDiff, Nat.reduceAdd, Nat.reduceMul, reduceCtorEq, Nat.reduceDiv, Nat.reduceLeDiff, Nat.reduceLT, Nat.reduceSub, g3, k3, k3'], by simp only [go_sem, ↓reduceIte, reduceIte, Nat.reduceEqDiff, Nat.reduceAdd, Nat.reduceMul, reduceCtorEq, Nat.reduceDiv, Nat.reduceLeDiff, Nat.reduceLT, Nat.reduceSub, g4, k4, k4'], by simp only [go_sem, ↓reduceIte, reduceIte, Nat.reduceEqDiff, Nat.reduceAdd, Nat.reduceMul, reduceCtorEq, Nat.reduceDiv, Nat.reduceLeDiff, Nat.reduceLT, Nat.reduceSub], .inr ⟨key, ver, hkey, by simp [longsI], by simp only [go_sem, ↓reduceIte, reduceIte, Nat.reduceEqDiff, Nat.reduceAdd, Nat.reduceMul, reduceCtorEq, Nat.reduceDiv, Nat.reduceLeDiff, Nat.reduceLT, Nat.reduceSub, k4', k5', k3', eL]⟩, by simp only [length_setH]; omega⟩
    | cons y out =>
      have hsub3 : ((out.length : Int) + 1 - 1) = out.length := by omega
      have hlen0 : ((out.length : Int) + 1 == 0) = false := by simp; omega
      have hlL : (longsI (y :: out)).length = out.length + 1 := by simp [longsI]
      rw [padL_cons] at ho1
      by_cases hpar : out.length % 2 = 1
      · have hp' : (((out.length % 2 : Nat) : Int) != 1) = false := by rw [hpar]; rfl
        rw [if_neg (by omega)] at ho1
        simp (disch := first | assumption | omega) only [go_sem, ↓reduceIte, reduceIte, Nat.reduceEqDiff, Nat.reduceAdd, Nat.reduceMul, reduceCtorEq, Nat.reduceDiv, Nat.reduceLeDiff, Nat.reduceLT, Nat.reduceSub, f1, f3, f4, f5, f6, hh1, hh3, hh4, hh5, cs_g, hb, hg0, z00, z01, z10, zr0, zm0, zm1, hO.lenA, hlL, hsub3, hlen0, b_rem2, hp']
        have g1 := hh1
        have g3 := hh3
        have g4 := hh4
        have g5 := hh5
        have hRo : R.length = out.length := by have := congrArg List.length ho1; simp at this; omega
        have hO3 : Own 58 h w .i64 (longsI R ++ [(r : Int)]) := by rw [← eL0, ← ho1]; exact hO
        have hget0 := hget
        have hset0 := hset
        have hlt0 := hlt1
        rw [hRo] at hget0 hset0 hlt0
        rcases hO3 with ⟨h0, _⟩ | ⟨key, ver, hkey, rfl, hH⟩
        · simp at h0
        have k1 : (key = 1) = False := eq_false (by omega)
        have k3 : (key = 3) = False := eq_false (by omega)
        have k4 : (key = 4) = False := eq_false (by omega)
        have k5 : (key = 5) = False := eq_false (by omega)
        have k1' : (1 = key) = False := eq_false (by omega)
        have k3' : (3 = key) = False := eq_false (by omega)
        have k4' : (4 = key) = False := eq_false (by omega)
        have k5' : (5 = key) = False := eq_false (by omega)
        simp (disch := first | assumption | omega) only [go_sem, ↓reduceIte, reduceIte, Nat.reduceEqDiff, Nat.reduceAdd, Nat.reduceMul, reduceCtorEq, Nat.reduceDiv, Nat.reduceLeDiff, Nat.reduceLT, Nat.reduceSub, f1, f3, f4, f5, f6, g1, g3, g4, g5, hH, eRl, hget, hset, hsub, hlt1, hget0, hset0, hlt0, hsub3, hRo, splice_one, z01, z10, k1, k3, k4, k5, k1', k3', k4', k5', beq_self_eq_true]
        refine hP (u + (v - u)) _ (by omega) ⟨u, v - u, k, a, b, a + c, b + d, R ++ [r + 1], .oslice key ver none 0 (R.length + 1) none, v1, v3, v4, v5, rfl, by omega, by omega, hsub', hT', by simp only [List.length_append, List.length_singleton]; omega, fun n hn => by have := ho5 n hn; omega, by simp only [go_sem, ↓reduceIte, reduceIte, Nat.reduceEqDiff, Nat.reduceAdd, Nat.reduceMul, reduceCtorEq, Nat.reduceDiv, Nat.reduceLeDiff, Nat.reduceLT, Nat.reduceSub, f1, f3, f4, f5, f6, eRl], by simp only [go_sem, ↓reduceIte, reduceIte, Nat.reduceEqDiff, Nat.reduceAdd, Nat.reduceMul, reduceCtorEq, Nat.reduceDiv, Nat.reduceLeDiff, Nat.reduceLT, Nat.reduceSub, g1, k1, k1'], by simp only [go_sem, ↓reduceIte, reduceIte, Nat.reduceEqDiff, Nat.reduceAdd, Nat.reduceMul, reduceCtorEq, Nat.reduceDiv, Nat.reduceLeDiff, Nat.reduceLT, Nat.reduceSub, g3, k3, k3'], by simp only [go_sem, ↓reduceIte, reduceIte, Nat.reduceEqDiff, Nat.reduceAdd, Nat.reduceMul, reduceCtorEq, Nat.reduceDiv, Nat.reduceLeDiff, Nat.reduceLT, Nat.reduceSub, g4, k4, k4'], by simp only [go_sem, ↓reduceIte, reduceIte, Nat.reduceEqDiff, Nat.reduceAdd, Nat.reduceMul, reduceCtorEq, Nat.reduceDiv, Nat.reduceLeDiff, Nat.reduceLT, Nat.reduceSub], .inr ⟨key, ver, hkey, by simp [longsI], by simp only [go_sem, ↓reduceIte, reduceIte, Nat.reduceEqDiff, Nat.reduceAdd, Nat.reduceMul, reduceCtorEq, Nat.reduceDiv, Nat.reduceLeDiff, Nat.reduceLT, Nat.reduceSub, k4', k5', k3', eL]⟩, by simp only [length_setH]; omega⟩
      · have hp' : (((out.length % 2 : Nat) : Int) != 1) = true := by simp; omega
        rw [if_pos (by omega)] at ho1
        simp (disch := first | assumption | omega) only [go_sem, ↓reduceIte, reduceIte, Nat.reduceEqDiff, Nat.reduceAdd, Nat.reduceMul, reduceCtorEq, Nat.reduceDiv, Nat.reduceLeDiff, Nat.reduceLT, Nat.reduceSub, f1, f3, f4, f5, f6, hh1, hh3, hh4, hh5, cs_g, hb, hg0, z00, z01, z10, zr0, zm0, zm1, hO.lenA, hlL, hsub3, hlen0, b_rem2, hp']
        refine gp_append1 (a := 0) (by first | with_reducible rfl | (simp only [length_setH, List.length_append, List.length_replicate]; done) | (simp only [length_setH, List.length_append, List.length_replicate]; omega)) hO hl (by rw [hlL]; simp only [List.length_cons] at hlen; omega) fun x' h' hO' hF hL _ _ => ?_
        have g1 := (hF 1 (by omega)).trans hh1
        have g3 := (hF 3 (by omega)).trans hh3
        have g4 := (hF 4 (by omega)).trans hh4
        have g5 := (hF 5 (by omega)).trans hh5
        have hO3 : Own 58 h' x' .i64 (longsI R ++ [(r : Int)]) := by
          rw [← eL0, ← ho1]
          simpa [longsI] using hO'
        rcases hO3 with ⟨h0, _⟩ | ⟨key, ver, hkey, rfl, hH⟩
        · simp at h0
        have k1 : (key = 1) = False := eq_false (by omega)
        have k3 : (key = 3) = False := eq_false (by omega)
        have k4 : (key = 4) = False := eq_false (by omega)
        have k5 : (key = 5) = False := eq_false (by omega)
        have k1' : (1 = key) = False := eq_false (by omega)
        have k3' : (3 = key) = False := eq_false (by omega)
        have k4' : (4 = key) = False := eq_false (by omega)
        have k5' : (5 = key) = False := eq_false (by omega)
        simp (disch := first | assumption | omega) only [go_sem, ↓reduceIte, reduceIte, Nat.reduceEqDiff, Nat.reduceAdd, Nat.reduceMul, reduceCtorEq, Nat.reduceDiv, Nat.reduceLeDiff, Nat.reduceLT, Nat.reduceSub, f1, f3, f4, f5, f6, g1, g3, g4, g5, hH, eRl, hget, hset, hsub, hlt1, splice_one, z01, z10, k1, k3, k4, k5, k1', k3', k4', k5', beq_self_eq_true]
        refine hP (u + (v - u)) _ (by omega) ⟨u, v - u, k, a, b, a + c, b + d, R ++ [r + 1], .oslice key ver none 0 (R.length + 1) none, v1, v3, v4, v5, rfl, by omega, by omega, hsub', hT', by simp only [List.length_append, List.length_singleton]; omega, fun n hn => by have := ho5 n hn; omega, by simp only [go_sem, ↓reduceIte, reduceIte, Nat.reduceEqDiff, Nat.reduceAdd, Nat.reduceMul, reduceCtorEq, Nat.reduceDiv, Nat.reduceLeDiff, Nat.reduceLT, Nat.reduceSub, f1, f3, f4, f5, f6, eRl], by simp only [go_sem, ↓reduceIte, reduceIte, Nat.reduceEqDiff, Nat.reduceAdd, Nat.reduceMul, reduceCtorEq, Nat.reduceDiv, Nat.reduceLeDiff, Nat.reduceLT, Nat.reduceSub, g1, k1, k1'], by simp only [go_sem, ↓reduceIte, reduceIte, Nat.reduceEqDiff, Nat.reduceAdd, Nat.reduceMul, reduceCtorEq, Nat.reduceDiv, Nat.reduceLeDiff, Nat.reduceLT, Nat.reduceSub, g3, k3, k3'], by simp only [go_sem, ↓reduceIte, reduceIte, Nat.reduceEqDiff, Nat.reduceAdd, Nat.reduceMul, reduceCtorEq, Nat.reduceDiv, Nat.reduceLeDiff, Nat.reduceLT, Nat.reduceSub, g4, k4, k4'], by simp only [go_sem, ↓reduceIte, reduceIte, Nat.reduceEqDiff, Nat.reduceAdd, Nat.reduceMul, reduceCtorEq, Nat.reduceDiv, Nat.reduceLeDiff, Nat.reduceLT, Nat.reduceSub], .inr ⟨key, ver, hkey, by simp [longsI], by simp only [go_sem, ↓reduceIte, reduceIte, Nat.reduceEqDiff, Nat.reduceAdd, Nat.reduceMul, reduceCtorEq, Nat.reduceDiv, Nat.reduceLeDiff, Nat.reduceLT, Nat.reduceSub, k4', k5', k3', eL]⟩, by simp only [length_setH]; omega⟩
  · rw [if_neg hlt] at hsub
    have hg0 : ((u : Int) - v < 0) = False := eq_false (by omega)
    have hT' := hT.right (by omega)
    obtain ⟨hne, R, r, ho1, ho2, ho3, ho4, ho5⟩ := fin 0 _ rfl
    rw [ho2] at hsub
    obtain ⟨eL0, eRl, hget, hset, hsub2, hlt1, eL⟩ := shape R r
    have hsub' := hsub
    clear hsub
    have hsub := hsub2
    cases out with
    | nil =>
      rw [padL_nil, if_neg (by omega)] at ho1
      simp (disch := first | assumption | omega) only [go_sem, ↓reduceIte, reduceIte, Nat.reduceEqDiff, Nat.reduceAdd, Nat.reduceMul, reduceCtorEq, Nat.reduceDiv, Nat.reduceLeDiff, Nat.reduceLT, Nat.reduceSub, f1, f3, f4, f5, f6, hh1, hh3, hh4, hh5, cs_g, hb, hg0, z00, z01, z10, zr0, zm0, zm1, hO.lenA, longsI]
      refine gp_append1 (a := 0) (by first | with_reducible rfl | (simp only [length_setH, List.length_append, List.length_replicate]; done) | (simp only [length_setH, List.length_append, List.length_replicate]; omega)) hO hl (by simp [longsI]) fun x' h' hO' hF hL _ _ => ?_
      simp (disch := first | assumption | omega) only [go_sem, ↓reduceIte, reduceIte, Nat.reduceEqDiff, Nat.reduceAdd, Nat.reduceMul, reduceCtorEq, Nat.reduceDiv, Nat.reduceLeDiff, Nat.reduceLT, Nat.reduceSub, f1, f3, f4, f5, f6, hh1, hh3, hh4, hh5, cs_g, hb, hg0, z00, z01, z10, zr0, zm0, zm1, hO'.lenA, longsI]
      have g1 := (hF 1 (by omega)).trans hh1
      have g3 := (hF 3 (by omega)).trans hh3
      have g4 := (hF 4 (by omega)).trans hh4
      have g5 := (hF 5 (by omega)).trans hh5
      have hO3 : Own 58 h' x' .i64 (longsI R ++ [(r : Int)]) := by rw [← eL0, ← ho1]; exact hO'
      have hR : R.length = 0 := by have := congrArg List.length ho1; simp only [List.length_append, List.length_singleton] at this; omega
      have hget0 := hget
      have hset0 := hset
      have hlt0 := hlt1
      rw [hR] at hget0 hset0 hlt0
      have hlt00 : (0 < R.length + 1) = True := eq_true (by omega)
      rcases hO3 with ⟨h0, _⟩ | ⟨key, ver, hkey, rfl, hH⟩
      · simp at h0
      have k1 : (key = 1) = False := eq_false (by omega)
      have k3 : (key = 3) = False := eq_false (by omega)
      have k4 : (key = 4) = False := eq_false (by omega)
      have k5 : (key = 5) = False := eq_false (by omega)
      have k1' : (1 = key) = False := eq_false (by omega)
      have k3' : (3 = key) = False := eq_false (by omega)
      have k4' : (4 = key) = False := eq_false (by omega)
      have k5' : (5 = key) = False := eq_false (by omega)
      simp (disch := first | assumption | omega) only [go_sem, ↓reduceIte, reduceIte, Nat.reduceEqDiff, Nat.reduceAdd, Nat.reduceMul, reduceCtorEq, Nat.reduceDiv, Nat.reduceLeDiff, Nat.reduceLT, Nat.reduceSub, f1, f3, f4, f5, f6, g1, g3, g4, g5, hH, eRl, hget, hset, hsub, hlt1, hget0, hset0, hlt00, splice_one, z01, z10, k1, k3, k4, k5, k1', k3', k4', k5', beq_self_eq_true]
      refine hP ((u - v) + v) _ (by omega) ⟨u - v, v, k, a + c, b + d, c, d, R ++ [r + 1], .oslice key ver none 0 (R.length + 1) none, v1, v3, v4, v5, rfl, by omega, by omega, hsub', hT', by simp only [List.length_append, List.length_singleton]; omega, fun n hn => by have := ho5 n hn; omega, by simp only [go_sem, ↓reduceIte, reduceIte, Nat.reduceEqDiff, Nat.reduceAdd, Nat.reduceMul, reduceCtorEq, Nat.reduceDiv, Nat.reduceLeDiff, Nat.reduceLT, Nat.reduceSub, f1, f3, f4, f5, f6, eRl], by simp only [go_sem, ↓reduceIte, reduceIte, Nat.reduceEqDiff, Nat.reduceAdd, Nat.reduceMul, reduceCtorEq, Nat.reduceDiv, Nat.reduceLeDiff, Nat.reduceLT, Nat.reduceSub, g1, k1, k1'], by simp only [go_sem, ↓reduceIte, reduceIte, Nat.reduceEqDiff, Nat.reduceAdd, Nat.reduceMul, reduceCtorEq, Nat.reduceDiv, Nat.reduceLeDiff, Nat.reduceLT, Nat.reduceSub, g3, k3, k3'], by simp only [go_sem, ↓reduceIte, reduceIte, Nat.reduceEqDiff, Nat.reduceAdd, Nat.reduceMul, reduceCtorEq, Nat.reduceDiv, Nat.reduceLeDiff, Nat.reduceLT, Nat.reduceSub, g4, k4, k4'], by simp only [go_sem, ↓reduceIte, reduceIte, Nat.reduceEqDiff, Nat.reduceAdd, Nat.reduceMul, reduceCtorEq, Nat.reduceDiv, Nat.reduceLeDiff, Nat.reduceLT, Nat.reduceSub], .inr ⟨key, ver, hkey, by simp [longsI], by simp only [go_sem, ↓reduceIte, reduceIte, Nat.reduceEqDiff, Nat.reduceAdd, Nat.reduceMul, reduceCtorEq, Nat.reduceDiv, Nat.reduceLeDiff, Nat.reduceLT, Nat.reduceSub, k4', k5', k3', eL]⟩, by simp only [length_setH]; omega⟩
    | cons y out =>
      have hsub3 : ((out.length : Int) + 1 - 1) = out.length := by omega
      have hlen0 : ((out.length : Int) + 1 == 0) = false := by simp; omega
      have hlL : (longsI (y :: out)).length = out.length + 1 := by simp [longsI]
      rw [padL_cons] at ho1
      by_cases hpar : out.length % 2 = 0
      · have hp' : (((out.length % 2 : Nat) : Int) != 0) = false := by rw [hpar]; rfl
        rw [if_neg (by omega)] at ho1
        simp (disch := first | assumption | omega) only [go_sem, ↓reduceIte, reduceIte, Nat.reduceEqDiff, Nat.reduceAdd, Nat.reduceMul, reduceCtorEq, Nat.reduceDiv, Nat.reduceLeDiff, Nat.reduceLT, Nat.reduceSub, f1, f3, f4, f5, f6, hh1, hh3, hh4, hh5, cs_g, hb, hg0, z00, z01, z10, zr0, zm0, zm1, hO.lenA, hlL, hsub3, hlen0, b_rem2, hp']
        have g1 := hh1
        have g3 := hh3
        have g4 := hh4
        have g5 := hh5
        have hRo : R.length = out.length := by have := congrArg List.length ho1; simp at this; omega
        have hO3 : Own 58 h w .i64 (longsI R ++ [(r : Int)]) := by rw [← eL0, ← ho1]; exact hO
        have hget0 := hget
        have hset0 := hset
        have hlt0 := hlt1
        rw [hRo] at hget0 hset0 hlt0
        rcases hO3 with ⟨h0, _⟩ | ⟨key, ver, hkey, rfl, hH⟩
        · simp at h0
        have k1 : (key = 1) = False := eq_false (by omega)
        have k3 : (key = 3) = False := eq_false (by omega)
        have k4 : (key = 4) = False := eq_false (by omega)
        have k5 : (key = 5) = False := eq_false (by omega)
        have k1' : (1 = key) = False := eq_false (by omega)
        have k3' : (3 = key) = False := eq_false (by omega)
        have k4' : (4 = key) = False := eq_false (by omega)
        have k5' : (5 = key) = False := eq_false (by omega)
        simp (disch := first | assumption | omega) only [go_sem, ↓reduceIte, reduceIte, Nat.reduceEqDiff, Nat.reduceAdd, Nat.reduceMul, reduceCtorEq, Nat.reduceDiv, Nat.reduceLeDiff, Nat.reduceLT, Nat.reduceSub, f1, f3, f4, f5, f6, g1, g3, g4, g5, hH, eRl, hget, hset, hsub, hlt1, hget0, hset0, hlt0, hsub3, hRo, splice_one, z01, z10, k1, k3, k4, k5, k1', k3', k4', k5', beq_self_eq_true]
        refine hP ((u - v) + v) _ (by omega) ⟨u - v, v, k, a + c, b + d, c, d, R ++ [r + 1], .oslice key ver none 0 (R.length + 1) none, v1, v3, v4, v5, rfl, by omega, by omega, hsub', hT', by simp only [List.length_append, List.length_singleton]; omega, fun n hn => by have := ho5 n hn; omega, by simp only [go_sem, ↓reduceIte, reduceIte, Nat.reduceEqDiff, Nat.reduceAdd, Nat.reduceMul, reduceCtorEq, Nat.reduceDiv, Nat.reduceLeDiff, Nat.reduceLT, Nat.reduceSub, f1, f3, f4, f5, f6, eRl], by simp only [go_sem, ↓reduceIte, reduceIte, Nat.reduceEqDiff, Nat.reduceAdd, Nat.reduceMul, reduceCtorEq, Nat.reduceDiv, Nat.reduceLeDiff, Nat.reduceLT, Nat.reduceSub, g1, k1, k1'], by simp only [go_sem, ↓reduceIte, reduceIte, Nat.reduceEqDiff, Nat.reduceAdd, Nat.reduceMul, reduceCtorEq, Nat.reduceDiv, Nat.reduceLeDiff, Nat.reduceLT, Nat.reduceSub, g3, k3, k3'], by simp only [go_sem, ↓reduceIte, reduceIte, Nat.reduceEqDiff, Nat.reduceAdd, Nat.reduceMul, reduceCtorEq, Nat.reduceDiv, Nat.reduceLeDiff, Nat.reduceLT, Nat.reduceSub, g4, k4, k4'], by simp only [go_sem, ↓reduceIte, reduceIte, Nat.reduceEqDiff, Nat.reduceAdd, Nat.reduceMul, reduceCtorEq, Nat.reduceDiv, Nat.reduceLeDiff, Nat.reduceLT, Nat.reduceSub], .inr ⟨key, ver, hkey, by simp [longsI], by simp only [go_sem, ↓reduceIte, reduceIte, Nat.reduceEqDiff, Nat.reduceAdd, Nat.reduceMul, reduceCtorEq, Nat.reduceDiv, Nat.reduceLeDiff, Nat.reduceLT, Nat.reduceSub, k4', k5', k3', eL]⟩, by simp only [length_setH]; omega⟩
      · have hp' : (((out.length % 2 : Nat) : Int) != 0) = true := by simp; omega
        rw [if_pos (by omega)] at ho1
        simp (disch := first | assumption | omega) only [go_sem, ↓reduceIte, reduceIte, Nat.reduceEqDiff, Nat.reduceAdd, Nat.reduceMul, reduceCtorEq, Nat.reduceDiv, Nat.reduceLeDiff, Nat.reduceLT, Nat.reduceSub, f1, f3, f4, f5, f6, hh1, hh3, hh4, hh5, cs_g, hb, hg0, z00, z01, z10, zr0, zm0, zm1, hO.lenA, hlL, hsub3, hlen0, b_rem2, hp']
        refine gp_append1 (a := 0) (by first | with_reducible rfl | (simp only [length_setH, List.length_append, List.length_replicate]; done) | (simp only [length_setH, List.length_append, List.length_replicate]; omega)) hO hl (by rw [hlL]; simp only [List.length_cons] at hlen; omega) fun x' h' hO' hF hL _ _ => ?_
        have g1 := (hF 1 (by omega)).trans hh1
        have g3 := (hF 3 (by omega)).trans hh3
        have g4 := (hF 4 (by omega)).trans hh4
        have g5 := (hF 5 (by omega)).trans hh5
        have hO3 : Own 58 h' x' .i64 (longsI R ++ [(r : Int)]) := by
          rw [← eL0, ← ho1]
          simpa [longsI] using hO'
        rcases hO3 with ⟨h0, _⟩ | ⟨key, ver, hkey, rfl, hH⟩
        · simp at h0
        have k1 : (key = 1) = False := eq_false (by omega)
        have k3 : (key = 3) = False := eq_false (by omega)
        have k4 : (key = 4) = False := eq_false (by omega)
        have k5 : (key = 5) = False := eq_false (by omega)
        have k1' : (1 = key) = False := eq_false (by omega)
        have k3' : (3 = key) = False := eq_false (by omega)
        have k4' : (4 = key) = False := eq_false (by omega)
        have k5' : (5 = key) = False := eq_false (by omega)
        simp (disch := first | assumption | omega) only [go_sem, ↓reduceIte, reduceIte, Nat.reduceEqDiff, Nat.reduceAdd, Nat.reduceMul, reduceCtorEq, Nat.reduceDiv, Nat.reduceLeDiff, Nat.reduceLT, Nat.reduceSub, f1, f3, f4, f5, f6, g1, g3, g4, g5, hH, eRl, hget, hset, hsub, hlt1, splice_one, z01, z10, k1, k3, k4, k5, k1', k3', k4', k5', beq_self_eq_true]
        refine hP ((u - v) + v) _ (by omega) ⟨u - v, v, k, a + c, b + d, c, d, R ++ [r + 1], .oslice key ver none 0 (R.length + 1) none, v1, v3, v4, v5, rfl, by omega, by omega, hsub', hT', by simp only [List.length_append, List.length_singleton]; omega, fun n hn => by have := ho5 n hn; omega, by simp only [go_sem, ↓reduceIte, reduceIte, Nat.reduceEqDiff, Nat.reduceAdd, Nat.reduceMul, reduceCtorEq, Nat.reduceDiv, Nat.reduceLeDiff, Nat.reduceLT, Nat.reduceSub, f1, f3, f4, f5, f6, eRl], by simp only [go_sem, ↓reduceIte, reduceIte, Nat.reduceEqDiff, Nat.reduceAdd, Nat.reduceMul, reduceCtorEq, Nat.reduceDiv, Nat.reduceLeDiff, Nat.reduceLT, Nat.reduceSub, g1, k1, k1'], by simp only [go_sem, ↓reduceIte, reduceIte, Nat.reduceEqDiff, Nat.reduceAdd, Nat.reduceMul, reduceCtorEq, Nat.reduceDiv, Nat.reduceLeDiff, Nat.reduceLT, Nat.reduceSub, g3, k3, k3'], by simp only [go_sem, ↓reduceIte, reduceIte, Nat.reduceEqDiff, Nat.reduceAdd, Nat.reduceMul, reduceCtorEq, Nat.reduceDiv, Nat.reduceLeDiff, Nat.reduceLT, Nat.reduceSub, g4, k4, k4'], by simp only [go_sem, ↓reduceIte, reduceIte, Nat.reduceEqDiff, Nat.reduceAdd, Nat.reduceMul, reduceCtorEq, Nat.reduceDiv, Nat.reduceLeDiff, Nat.reduceLT, Nat.reduceSub], .inr ⟨key, ver, hkey, by simp [longsI], by simp only [go_sem, ↓reduceIte, reduceIte, Nat.reduceEqDiff, Nat.reduceAdd, Nat.reduceMul, reduceCtorEq, Nat.reduceDiv, Nat.reduceLeDiff, Nat.reduceLT, Nat.reduceSub, k4', k5', k3', eL]⟩, by simp only [length_setH]; omega⟩

end Go.Ev.YtcghegefcgnhbaaC
