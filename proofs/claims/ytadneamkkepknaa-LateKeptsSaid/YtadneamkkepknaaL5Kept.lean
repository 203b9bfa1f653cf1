/- The kept orders, as the program finds them: a map of those that are kept, in whatever order it is ranged over. Contracts; conditions stand in each. -/
import Derived.Test.YtadneamkkepknaaL5Desk
set_option linter.unusedSimpArgs false
set_option linter.unusedVariables false
namespace Go.Ev.YtadneamkkepknaaC
open Go Go.Proofs

attribute [local irreducible] Res.all evC evLoop evOps evOper evOp evFn evCall freeze G GO GV GP GC R
set_option maxRecDepth 100000

theorem cs_67 {n base : Nat} {Q : EX × St → Prop} {d : Option Nat} {L : List IOper} {ks : List Kont} {e : Env} {h : Heap} {l : List Order} {s : Int} {x : Bool} (hn : 1 ≤ n) (hl : l.length ≤ 15) (hs : s = 0 ∨ s = 1) : GP (evCall T n) base Q d L ks e (evCall T n false (.fn 67) [.slice (some 3) (l.map oAV) x, .int .i64 s] h) = GO (evCall T n) base Q L ks ⟨setDst e d (deskV l s), h⟩ :=
  gp_eq (con_67 l s hl hs) hn (by repeat (first | exact fz_nil _ | refine fz_slice _ _ _ _ ?_ | refine fz_int _ _ _ ?_)) rfl

/-! ### 69: sided -/
def chkSide (l : List Order) (s : Int) : Int := if chk l ≠ 0 then chk l else if s = 0 ∨ s = 1 then 0 else 2
def sidedV (l : List Order) (s : Int) : AV := .tuple [if chkSide l s = 0 then deskV l s else .nilptr, .int .i64 (chkSide l s)]

theorem frz_desk (h : Heap) (n : Nat) (l : List Order) (s : Int) : freeze h (n + 1) (deskV l s) = .ret (deskV l s) := frz_ptr _ _ _ _

theorem con_69 (l : List Order) (s : Int) (hl : l.length ≤ 15) : Con T 10 69 [ords l, .int .i64 s] (sidedV l s) := by
  refine con_intro t69 fun n hn V hV => ?_
  unfold sidedV at hV
  by_cases hc : chk l = 0
  · have hc' : (chk l != 0) = false := by simp [hc]
    by_cases hs : s = 0 ∨ s = 1
    · have hw : (decide (0 ≤ s) && decide (s ≤ 1)) = true := by simp; omega
      simp (disch := first | assumption | omega) only [c69, go_sem, ↓reduceIte, reduceIte, Nat.reduceEqDiff, Nat.reduceAdd, Nat.reduceMul, reduceCtorEq, Nat.reduceDiv, Nat.reduceLeDiff, Nat.reduceLT, Nat.reduceSub, cs_23, cs_58', cs_67, hc', hw]
      refine hV _ _ ?_
      have : chkSide l s = 0 := by rw [chkSide, if_neg (by omega), if_pos hs]
      rw [this, if_pos rfl]
      exact frz_two (frz_desk _ _ _ _) (frz_int _ _ _ _)
    · have hw : (decide (0 ≤ s) && decide (s ≤ 1)) = false := by simp; omega
      simp (disch := first | assumption | omega) only [c69, go_sem, ↓reduceIte, reduceIte, Nat.reduceEqDiff, Nat.reduceAdd, Nat.reduceMul, reduceCtorEq, Nat.reduceDiv, Nat.reduceLeDiff, Nat.reduceLT, Nat.reduceSub, cs_23, cs_58', cs_67, hc', hw]
      refine hV _ _ ?_
      have : chkSide l s = 2 := by rw [chkSide, if_neg (by omega), if_neg hs]
      rw [this, if_neg (by omega)]
      exact frz_two (frz_nilptr _ _) (frz_int _ _ _ _)
  · have hc' : (chk l != 0) = true := by simp [hc]
    simp (disch := first | assumption | omega) only [c69, go_sem, ↓reduceIte, reduceIte, Nat.reduceEqDiff, Nat.reduceAdd, Nat.reduceMul, reduceCtorEq, Nat.reduceDiv, Nat.reduceLeDiff, Nat.reduceLT, Nat.reduceSub, cs_23, hc']
    refine hV _ _ ?_
    have : chkSide l s = chk l := by rw [chkSide, if_pos hc]
    rw [this, if_neg hc]
    exact frz_two (frz_nilptr _ _) (frz_int _ _ _ _)

theorem cs_69 {n base : Nat} {Q : EX × St → Prop} {d : Option Nat} {L : List IOper} {ks : List Kont} {e : Env} {h : Heap} {l : List Order} {s : Int} {x : Bool} (hn : 10 ≤ n) (hl : l.length ≤ 15) : GP (evCall T n) base Q d L ks e (evCall T n false (.fn 69) [.slice (some 3) (l.map oAV) x, .int .i64 s] h) = GO (evCall T n) base Q L ks ⟨setDst e d (sidedV l s), h⟩ :=
  gp_eq (con_69 l s hl) hn (by repeat (first | exact fz_nil _ | refine fz_slice _ _ _ _ ?_ | refine fz_int _ _ _ ?_)) rfl

/-! ### 91: cmp.Or -/
theorem con_91 (a b : Int) : Con T 1 91 [ints [a, b]] (.int .i64 (if a ≠ 0 then a else b)) := by
  refine con_intro t91 fun n hn V hV => ?_
  simp (disch := first | assumption | omega) only [c91, go_sem, ↓reduceIte, reduceIte, Nat.reduceEqDiff, Nat.reduceAdd, Nat.reduceMul, reduceCtorEq, Nat.reduceDiv, Nat.reduceLeDiff, Nat.reduceLT, Nat.reduceSub]
  refine m_loop (fun M st => ∃ k : Nat, M = 2 - k ∧ k ≤ 2 ∧ At st.env [(3, .int .i64 0), (6, ints [a, b]), (7, .int .i64 2), (8, .int .i64 k)] ∧ (0 < k → a = 0) ∧ (1 < k → b = 0)) 2 (by omega) ⟨0, by simp, by omega, by simp [go_sem, ↓reduceIte, reduceIte, Nat.reduceEqDiff, Nat.reduceAdd, Nat.reduceMul, reduceCtorEq, Nat.reduceDiv, Nat.reduceLeDiff, Nat.reduceLT, Nat.reduceSub], by simp, by simp⟩ ?_
  rintro M e h hM ⟨k, rfl, hk, hE, hA, hB⟩ P hP
  simp only [At_cons, At_nil] at hE
  obtain ⟨h3, h6, h7, h8, -⟩ := hE
  match k, hk with
  | 0, _ =>
    have hlt : ((0 : Int) < 2) := by omega
    by_cases ha : a = 0
    · have ha' : (a != 0) = false := by simp [ha]
      simp (disch := first | assumption | omega) only [go_sem, ↓reduceIte, reduceIte, Nat.reduceEqDiff, Nat.reduceAdd, Nat.reduceMul, reduceCtorEq, Nat.reduceDiv, Nat.reduceLeDiff, Nat.reduceLT, Nat.reduceSub, h3, h6, h7, h8, hlt, ha']
      exact hP 1 _ (by omega) ⟨1, rfl, by omega, by simp only [go_sem, ↓reduceIte, reduceIte, Nat.reduceEqDiff, Nat.reduceAdd, Nat.reduceMul, reduceCtorEq, Nat.reduceDiv, Nat.reduceLeDiff, Nat.reduceLT, Nat.reduceSub, h3, h6, h7], fun _ => ha, by simp⟩
    · have ha' : (a != 0) = true := by simp [ha]
      simp (disch := first | assumption | omega) only [go_sem, ↓reduceIte, reduceIte, Nat.reduceEqDiff, Nat.reduceAdd, Nat.reduceMul, reduceCtorEq, Nat.reduceDiv, Nat.reduceLeDiff, Nat.reduceLT, Nat.reduceSub, h3, h6, h7, h8, hlt, ha']
      exact hV _ _ (by rw [frz_int, if_pos ha])
  | 1, _ =>
    have hlt : ((1 : Int) < 2) := by omega
    by_cases hb : b = 0
    · have hb' : (b != 0) = false := by simp [hb]
      simp (disch := first | assumption | omega) only [go_sem, ↓reduceIte, reduceIte, Nat.reduceEqDiff, Nat.reduceAdd, Nat.reduceMul, reduceCtorEq, Nat.reduceDiv, Nat.reduceLeDiff, Nat.reduceLT, Nat.reduceSub, h3, h6, h7, h8, hlt, hb', Int.natCast_one]
      exact hP 0 _ (by omega) ⟨2, rfl, by omega, by simp only [go_sem, ↓reduceIte, reduceIte, Nat.reduceEqDiff, Nat.reduceAdd, Nat.reduceMul, reduceCtorEq, Nat.reduceDiv, Nat.reduceLeDiff, Nat.reduceLT, Nat.reduceSub, h3, h6, h7]; rfl, fun _ => hA (by omega), fun _ => hb⟩
    · have hb' : (b != 0) = true := by simp [hb]
      simp (disch := first | assumption | omega) only [go_sem, ↓reduceIte, reduceIte, Nat.reduceEqDiff, Nat.reduceAdd, Nat.reduceMul, reduceCtorEq, Nat.reduceDiv, Nat.reduceLeDiff, Nat.reduceLT, Nat.reduceSub, h3, h6, h7, h8, hlt, hb', Int.natCast_one]
      exact hV _ _ (by rw [frz_int, if_neg (by simpa using hA (by omega))])
  | 2, _ =>
    have hlt : ¬ (((2 : Nat) : Int) < 2) := by omega
    simp (disch := first | assumption | omega) only [go_sem, ↓reduceIte, reduceIte, Nat.reduceEqDiff, Nat.reduceAdd, Nat.reduceMul, reduceCtorEq, Nat.reduceDiv, Nat.reduceLeDiff, Nat.reduceLT, Nat.reduceSub, h3, h6, h7, h8, hlt]
    exact hV _ _ (by rw [frz_int, hA (by omega), hB (by omega)]; rfl)

/-! ### 90: is one spot better? -/
def better (w : List Int) (rk : Int → Nat) (a b : Int) : Bool := decide (wk w a > wk w b) || (decide (wk w a = wk w b) && decide (rk a > rk b))

theorem mapR_kz (h : Heap) (n : Nat) (l : List Int) : mapR (freeze h (n + 2)) (kz l) = .ret (kz l) := by
  induction l with
  | nil => rfl
  | cons a r ih => exact mz_cons (frz_agg (mz_cons (frz_int _ _ _ _) (mz_nil _ _))) ih

theorem cs_91 {n base : Nat} {Q : EX × St → Prop} {d : Option Nat} {L : List IOper} {ks : List Kont} {e : Env} {h : Heap} {a b : Int} {x : Bool} (hn : 1 ≤ n) : GP (evCall T n) base Q d L ks e (evCall T n false (.fn 91) [.slice none [.int .i64 a, .int .i64 b] x] h) = GO (evCall T n) base Q L ks ⟨setDst e d (.int .i64 (if a ≠ 0 then a else b)), h⟩ :=
  gp_eq (con_91 a b) hn (fz_slice _ _ _ _ (fz_nil _)) rfl

theorem cmpI_pos (x y : Int) : cmpI x y > 0 ↔ x > y := by
  unfold cmpI
  by_cases h1 : x < y
  · simp [h1]; omega
  · by_cases h2 : x > y
    · simp [h1, h2]
    · simp [h1, h2]
theorem cmpI_zero (x y : Int) : cmpI x y = 0 ↔ x = y := by
  unfold cmpI
  by_cases h1 : x < y
  · simp [h1]; omega
  · by_cases h2 : x > y
    · simp [h1, h2]; omega
    · simp [h1, h2]; omega
theorem better_eq (w : List Int) (rk : Int → Nat) (a b : Int) : decide ((if cmpI (wk w a) (wk w b) ≠ 0 then cmpI (wk w a) (wk w b) else cmpI (rk a) (rk b)) > 0) = better w rk a b := by
  rw [Bool.eq_iff_iff]
  simp only [decide_eq_true_eq, better, Bool.or_eq_true, Bool.and_eq_true]
  by_cases h0 : cmpI (wk w a) (wk w b) = 0
  · rw [if_neg (by simpa using h0), cmpI_pos]
    rw [cmpI_zero] at h0
    omega
  · rw [if_pos h0, cmpI_pos]
    rw [cmpI_zero] at h0
    omega

theorem wk_get {w : List Int} {i : Nat} {x : Int} (h : w[i]? = some x) : x = wk w (i : Int) := by
  simp [wk, h]

theorem con_90 (l : List Order) (w : List Int) (ks : List Int) (rk : Int → Nat) (a b : Int) (hw : w.length = l.length) (hk : ∀ x ∈ ks, 0 ≤ x ∧ x < l.length) (ha : a ∈ ks) (hb : b ∈ ks) :
    Con T 4 90 ([] ++ [.agg [.int .i64 a], .agg [.int .i64 b]] ++ [.ptr [.ptr [ords l, ints w] 0] 0, .ptr [.fmap (kz ks) (ks.map fun i => .int .i64 (rk i))] 0]) (.bool (better w rk a b)) := by
  refine con_intro t90 fun n hn V hV => ?_
  have ha' := hk a ha
  have hb' := hk b hb
  obtain ⟨i, rfl⟩ := Int.eq_ofNat_of_zero_le ha'.1
  obtain ⟨j, rfl⟩ := Int.eq_ofNat_of_zero_le hb'.1
  obtain ⟨x, hx⟩ := get_ex (l := w) (i := i) (by omega)
  obtain ⟨y, hy⟩ := get_ex (l := w) (i := j) (by omega)
  have ex := wk_get hx
  have ey := wk_get hy
  subst ex ey
  have g : ∀ c : Int, c ∈ ks → (ks.map fun i => AV.int .i64 (rk i))[0 + ks.idxOf c]? = some (.int .i64 (rk c)) := fun c hc => by
    rw [Nat.zero_add, List.getElem?_map, List.getElem?_eq_getElem (List.idxOf_lt_length_of_mem hc), List.getElem_idxOf]
    rfl
  have k1 : lkA (some 1) (.int .i64 0) false (.agg [.int .i64 (i : Int)]) (some (kz ks, ks.map fun i => .int .i64 (rk i))) = .ret (.int .i64 (rk i)) := by
    simp only [lkA, findK_kz, keyOk_one, if_pos ha, g _ ha]
    rfl
  have k2 : lkA (some 1) (.int .i64 0) false (.agg [.int .i64 (j : Int)]) (some (kz ks, ks.map fun i => .int .i64 (rk i))) = .ret (.int .i64 (rk j)) := by
    simp only [lkA, findK_kz, keyOk_one, if_pos hb, g _ hb]
    rfl
  simp (disch := first | assumption | omega) only [c90, go_sem, ↓reduceIte, reduceIte, Nat.reduceEqDiff, Nat.reduceAdd, Nat.reduceMul, reduceCtorEq, Nat.reduceDiv, Nat.reduceLeDiff, Nat.reduceLT, Nat.reduceSub, m_next, hx, hy, cs_87, cs_92, cs_91, mapOf, k1, k2]
  refine hV _ _ ?_
  rw [frz_bool, better_eq]

/-! ### 89: the best of several spots -/
theorem con_89 {k f : Nat} {first cap : List AV} {p : Int → Int → Bool} (xs : List Int) (r : Int) (hl : xs.length ≤ 1000) (h0 : 0 < xs.length) (hc : ∀ x ∈ xs, ∀ y ∈ xs, Con T k f (first ++ [.agg [.int .i64 x], .agg [.int .i64 y]] ++ cap) (.bool (p x y)))
    (hz : ∀ h x y, fz h (first ++ [.agg [.int .i64 x], .agg [.int .i64 y]] ++ cap) = .ret (first ++ [.agg [.int .i64 x], .agg [.int .i64 y]] ++ cap)) (hr : xs.tail.foldl (fun m x => if p x m then x else m) (xs.headD 0) = r) :
    Con T (k + 1) 89 [.slice (some 1) (kz xs) false, .clo f first cap] (.agg [.int .i64 r]) := by
  refine con_intro t89 fun n hn V hV => ?_
  obtain ⟨a, ha⟩ := get_ex h0
  have h1 : (1 : Int) ≤ xs.length := by omega
  have hz1 : (0 : Int) ≤ 1 := by omega
  have hn1 : Int.toNat 1 = 1 := rfl
  have hkl : (kz xs).length = xs.length := by simp [kz]
  have hka : (kz xs)[0]? = some (.agg [.int .i64 a]) := by simp only [kz, List.getElem?_map, ha]; rfl
  have hle : (1 : Nat) ≤ 1 := by omega
  simp (disch := first | assumption | omega) only [c89, go_sem, ↓reduceIte, reduceIte, Nat.reduceEqDiff, Nat.reduceAdd, Nat.reduceMul, reduceCtorEq, Nat.reduceDiv, Nat.reduceLeDiff, Nat.reduceLT, Nat.reduceSub, hka, h1, hz1, hn1, hkl, List.length_drop]
  have hal : ∀ (m : Int), m ∈ xs → m ∈ xs := fun _ h => h
  have ham : a ∈ xs := List.mem_of_getElem? ha
  refine m_loop (fun M st => ∃ (k : Nat) (m : Int) (v5 : Nat), M = xs.length - 1 - k ∧ k ≤ xs.length - 1 ∧ m ∈ xs ∧ At st.env [(0, .slice (some 1) (kz xs) false), (1, .clo f first cap), (4, .optr 4 0 0), (5, .optr 5 v5 0), (12, .slice (some 1) ((kz xs).drop 1) false), (13, .int .i64 (xs.length - 1 : Nat)), (14, .int .i64 k)] ∧
    getH st.heap 4 = .cells 0 [.int .i64 0] ∧ getH st.heap 5 = .cells v5 [.int .i64 m] ∧
    ((xs.drop 1).drop k).foldl (fun m x => if p x m then x else m) m = r) (xs.length - 1) (by omega) ⟨0, a, 0, by simp, by omega, ham, by simp [go_sem, ↓reduceIte, reduceIte, Nat.reduceEqDiff, Nat.reduceAdd, Nat.reduceMul, reduceCtorEq, Nat.reduceDiv, Nat.reduceLeDiff, Nat.reduceLT, Nat.reduceSub], by simp [go_sem, ↓reduceIte, reduceIte, Nat.reduceEqDiff, Nat.reduceAdd, Nat.reduceMul, reduceCtorEq, Nat.reduceDiv, Nat.reduceLeDiff, Nat.reduceLT, Nat.reduceSub], by simp [go_sem, ↓reduceIte, reduceIte, Nat.reduceEqDiff, Nat.reduceAdd, Nat.reduceMul, reduceCtorEq, Nat.reduceDiv, Nat.reduceLeDiff, Nat.reduceLT, Nat.reduceSub], ?_⟩ ?_
  · rw [← hr]
    have := drop_cons ha
    rw [List.drop_zero] at this
    conv => rhs; rw [this]
    simp
  rintro M e h hM ⟨k, m, v5, rfl, hk, hmm, hE, hH4, hH5, hR⟩ P hP
  simp only [At_cons, At_nil] at hE hH4 hH5
  obtain ⟨h0, h1, h4, h5, h12, h13, h14, -⟩ := hE
  by_cases hlt : k < xs.length - 1
  · obtain ⟨x, hx⟩ := get_ex (l := xs.drop 1) (i := k) (by simp; omega)
    rw [drop_cons hx, List.foldl_cons] at hR
    have hxm : x ∈ xs := List.mem_of_mem_drop (List.mem_of_getElem? hx)
    have hkx : (List.drop 1 (kz xs))[k]? = some (.agg [.int .i64 x]) := by
      rw [kz, ← List.map_drop, List.getElem?_map, hx]; rfl
    have hlt' : (k : Int) < ((xs.length - 1 : Nat) : Int) := by omega
    simp (disch := first | assumption | omega) only [go_sem, ↓reduceIte, reduceIte, Nat.reduceEqDiff, Nat.reduceAdd, Nat.reduceMul, reduceCtorEq, Nat.reduceDiv, Nat.reduceLeDiff, Nat.reduceLT, Nat.reduceSub, h0, h1, h4, h5, h12, h13, h14, hlt, hkx, hH5, List.length_drop]
    refine gp_con (hc x hxm m hmm) (by omega) (hz _ _ _) (or_pb _ _) ?_
    by_cases hgt : p x m = true
    · rw [if_pos hgt] at hR
      simp (disch := first | assumption | omega) only [go_sem, ↓reduceIte, reduceIte, Nat.reduceEqDiff, Nat.reduceAdd, Nat.reduceMul, reduceCtorEq, Nat.reduceDiv, Nat.reduceLeDiff, Nat.reduceLT, Nat.reduceSub, h0, h1, h4, h5, h12, h13, h14, hgt, hH5]
      exact hP (xs.length - 1 - (k + 1)) _ (by omega) ⟨k + 1, _, v5, rfl, by omega, hxm, by simp only [go_sem, ↓reduceIte, reduceIte, Nat.reduceEqDiff, Nat.reduceAdd, Nat.reduceMul, reduceCtorEq, Nat.reduceDiv, Nat.reduceLeDiff, Nat.reduceLT, Nat.reduceSub, h0, h1, h4, h5, h12, h13], by simp only [go_sem, ↓reduceIte, reduceIte, Nat.reduceEqDiff, Nat.reduceAdd, Nat.reduceMul, reduceCtorEq, Nat.reduceDiv, Nat.reduceLeDiff, Nat.reduceLT, Nat.reduceSub]; exact hH4, by simp only [go_sem, ↓reduceIte, reduceIte, Nat.reduceEqDiff, Nat.reduceAdd, Nat.reduceMul, reduceCtorEq, Nat.reduceDiv, Nat.reduceLeDiff, Nat.reduceLT, Nat.reduceSub], hR⟩
    · rw [if_neg hgt] at hR
      simp (disch := first | assumption | omega) only [go_sem, ↓reduceIte, reduceIte, Nat.reduceEqDiff, Nat.reduceAdd, Nat.reduceMul, reduceCtorEq, Nat.reduceDiv, Nat.reduceLeDiff, Nat.reduceLT, Nat.reduceSub, h0, h1, h4, h5, h12, h13, h14, hgt]
      exact hP (xs.length - 1 - (k + 1)) _ (by omega) ⟨k + 1, _, v5, rfl, by omega, hmm, by simp only [go_sem, ↓reduceIte, reduceIte, Nat.reduceEqDiff, Nat.reduceAdd, Nat.reduceMul, reduceCtorEq, Nat.reduceDiv, Nat.reduceLeDiff, Nat.reduceLT, Nat.reduceSub, h0, h1, h4, h5, h12, h13], by simp only [go_sem, ↓reduceIte, reduceIte, Nat.reduceEqDiff, Nat.reduceAdd, Nat.reduceMul, reduceCtorEq, Nat.reduceDiv, Nat.reduceLeDiff, Nat.reduceLT, Nat.reduceSub]; exact hH4, by simp only [go_sem, ↓reduceIte, reduceIte, Nat.reduceEqDiff, Nat.reduceAdd, Nat.reduceMul, reduceCtorEq, Nat.reduceDiv, Nat.reduceLeDiff, Nat.reduceLT, Nat.reduceSub]; exact hH5, hR⟩
  · rw [List.drop_eq_nil_of_le (by simp; omega)] at hR
    have hR' : m = r := hR
    subst hR'
    simp (disch := first | assumption | omega) only [go_sem, ↓reduceIte, reduceIte, Nat.reduceEqDiff, Nat.reduceAdd, Nat.reduceMul, reduceCtorEq, Nat.reduceDiv, Nat.reduceLeDiff, Nat.reduceLT, Nat.reduceSub, h0, h1, h4, h5, h12, h13, h14, hlt, hH4, hH5]
    exact hV _ _ (frz_agg (mz_cons (frz_int _ _ _ _) (mz_nil _ _)))

end Go.Ev.YtadneamkkepknaaC
