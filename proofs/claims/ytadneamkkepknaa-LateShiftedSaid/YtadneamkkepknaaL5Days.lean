/- What the functions about bounds and days answer. Contracts; conditions stand in each. -/
import Derived.Test.YtadneamkkepknaaL5Kept
import Derived.Test.YtadneamkkepknaaL5Seq
import Derived.Test.YtadneamkkepknaaL5Math
import Derived.Test.YtadneamkkepknaaEvMore
set_option linter.unusedSimpArgs false
set_option linter.unusedVariables false
namespace Go.Ev.YtadneamkkepknaaC
open Go Go.Proofs

attribute [local irreducible] Res.all evC evLoop evOps evOper evOp evFn evCall freeze G GO GV GP GC R
set_option maxRecDepth 100000

theorem side_bd' {l : List Order} (hv : Valid l) (s : Int) : ∀ x ∈ side l s, 0 ≤ x ∧ x ≤ 1000 := fun x hx => by
  obtain ⟨o, ho, rfl⟩ := List.mem_map.1 hx
  have := hv.ok o ho
  have h1 := this.lo
  have h2 := this.lh
  have h3 := this.hi
  split <;> omega

/-! ### 70, 72: the bound of a day -/
def bdV (l : List Order) (s day : Int) : AV := .tuple [.int .i64 (bd l (side l s) day), .bool (someDue l day)]

theorem sumW_step {w : List Int} {n k : Nat} (hk : k < n) (p : Int → Bool) : sumW w (((idx n).take (k + 1)).filter p) = sumW w (((idx n).take k).filter p) + if p (k : Int) then wk w k else 0 := by
  rw [filter_step hk, sumW_append]
  split <;> simp [sumW]
theorem any_step {n k : Nat} (hk : k < n) (p : Int → Bool) : ((idx n).take (k + 1)).any p = (((idx n).take k).any p || p (k : Int)) := by
  rw [idx_step hk, List.any_append]
  simp
theorem sumW_le {w : List Int} (hw : ∀ x ∈ w, 0 ≤ x ∧ x ≤ 1000) (ks : List Int) : sumW w ks ≤ 1000 * ks.length := by
  induction ks with
  | nil => simp [sumW]
  | cons a r ih =>
    have := wk_bd (by omega) hw a
    simp only [sumW, List.map_cons, List.sum_cons, List.length_cons] at ih ⊢
    omega

theorem con_70 (l : List Order) (s day : Int) (hl : l.length ≤ 15) (hw : ∀ x ∈ side l s, 0 ≤ x ∧ x ≤ 1000) (hd : -100000 ≤ day ∧ day ≤ 100000) : Con T 1 70 [deskV l s, .int .i64 day] (bdV l s day) := by
  refine con_intro t70 fun n hn V hV => ?_
  simp (disch := first | assumption | omega) only [c70, go_sem, ↓reduceIte, reduceIte, Nat.reduceEqDiff, Nat.reduceAdd, Nat.reduceMul, reduceCtorEq, Nat.reduceDiv, Nat.reduceLeDiff, Nat.reduceLT, Nat.reduceSub, deskV]
  refine m_loop (fun M st => ∃ k : Nat, M = l.length - k ∧ k ≤ l.length ∧ At st.env [(0, deskV l s), (1, .int .i64 day), (6, .int .i64 (sumW (side l s) (((idx l.length).take k).filter fun i => decide (dueOf l i ≤ day)) - day)), (7, .bool (((idx l.length).take k).any fun i => decide (dueOf l i ≤ day))), (16, ords l), (17, .int .i64 l.length), (18, .int .i64 k)]) l.length (by omega)
    ⟨0, by simp, by omega, by simp [go_sem, ↓reduceIte, reduceIte, Nat.reduceEqDiff, Nat.reduceAdd, Nat.reduceMul, reduceCtorEq, Nat.reduceDiv, Nat.reduceLeDiff, Nat.reduceLT, Nat.reduceSub, deskV, sumW]⟩ ?_
  rintro M e h hM ⟨k, rfl, hk, hE⟩ P hP
  simp only [At_cons, At_nil] at hE
  obtain ⟨h0, h1, h6, h7, h16, h17, h18, -⟩ := hE
  by_cases hlt : k < l.length
  · obtain ⟨o, ho⟩ := get_ex hlt
    obtain ⟨x, hx⟩ := get_ex (l := side l s) (i := k) (by rw [side_length]; omega)
    have hxw := wk_get hx
    have hxb := hw x (List.mem_of_getElem? hx)
    have hss := sumW_step (w := side l s) hlt fun i => decide (dueOf l i ≤ day)
    have has := any_step hlt fun i => decide (dueOf l i ≤ day)
    have hb0 := sumW_nonneg (fun x hx => (hw x hx).1) (((idx l.length).take k).filter fun i => decide (dueOf l i ≤ day))
    have hb1 := sumW_le hw (((idx l.length).take k).filter fun i => decide (dueOf l i ≤ day))
    have hb2 : (((idx l.length).take k).filter fun i => decide (dueOf l i ≤ day)).length ≤ 15 := by
      refine Nat.le_trans (List.length_filter_le _ _) ?_
      rw [List.length_take]; omega
    by_cases hle : o.due ≤ day
    · have hd' : decide (dueOf l (k : Int) ≤ day) = true := by rw [dueOf_nat ho]; simp [hle]
      rw [hd', if_pos rfl, ← hxw] at hss
      rw [hd', Bool.or_true] at has
      simp (disch := first | assumption | omega) only [go_sem, ↓reduceIte, reduceIte, Nat.reduceEqDiff, Nat.reduceAdd, Nat.reduceMul, reduceCtorEq, Nat.reduceDiv, Nat.reduceLeDiff, Nat.reduceLT, Nat.reduceSub, h0, h1, h6, h7, h16, h17, h18, deskV, hlt, ho, oAV, hle, hx]
      refine hP (l.length - (k + 1)) _ (by omega) ⟨k + 1, rfl, by omega, ?_⟩
      rw [hss, has]
      simp only [go_sem, ↓reduceIte, reduceIte, Nat.reduceEqDiff, Nat.reduceAdd, Nat.reduceMul, reduceCtorEq, Nat.reduceDiv, Nat.reduceLeDiff, Nat.reduceLT, Nat.reduceSub, h0, h1, h16, h17, deskV]
      congr 1
      omega
    · have hd' : decide (dueOf l (k : Int) ≤ day) = false := by rw [dueOf_nat ho]; simpa using hle
      rw [hd', if_neg (by simp), Int.add_zero] at hss
      rw [hd', Bool.or_false] at has
      simp (disch := first | assumption | omega) only [go_sem, ↓reduceIte, reduceIte, Nat.reduceEqDiff, Nat.reduceAdd, Nat.reduceMul, reduceCtorEq, Nat.reduceDiv, Nat.reduceLeDiff, Nat.reduceLT, Nat.reduceSub, h0, h1, h6, h7, h16, h17, h18, deskV, hlt, ho, oAV, hle, hx]
      refine hP (l.length - (k + 1)) _ (by omega) ⟨k + 1, rfl, by omega, ?_⟩
      rw [hss, has]
      simp only [go_sem, ↓reduceIte, reduceIte, Nat.reduceEqDiff, Nat.reduceAdd, Nat.reduceMul, reduceCtorEq, Nat.reduceDiv, Nat.reduceLeDiff, Nat.reduceLT, Nat.reduceSub, h0, h1, h6, h7, h16, h17, deskV]
  · obtain rfl : k = l.length := by omega
    rw [List.take_of_length_le (by rw [idx_length]; omega)] at h6 h7
    simp (disch := first | assumption | omega) only [go_sem, ↓reduceIte, reduceIte, Nat.reduceEqDiff, Nat.reduceAdd, Nat.reduceMul, reduceCtorEq, Nat.reduceDiv, Nat.reduceLeDiff, Nat.reduceLT, Nat.reduceSub, h0, h1, h6, h7, h16, h17, h18, hlt]
    exact hV _ _ (frz_two (frz_int _ _ _ _) (frz_bool _ _ _))

theorem con_72 (l : List Order) (s day : Int) (hl : l.length ≤ 15) (hw : ∀ x ∈ side l s, 0 ≤ x ∧ x ≤ 1000) (hd : -100000 ≤ day ∧ day ≤ 100000) : Con T 2 72 [ords l, .int .i64 s, .int .i64 day] (bdV l s day) := by
  refine con_intro t72 fun n hn V hV => ?_
  simp (disch := first | assumption | omega) only [c72, go_sem, ↓reduceIte, reduceIte, Nat.reduceEqDiff, Nat.reduceAdd, Nat.reduceMul, reduceCtorEq, Nat.reduceDiv, Nat.reduceLeDiff, Nat.reduceLT, Nat.reduceSub, cs_47]
  refine m_loop (fun M st => ∃ k : Nat, M = l.length - k ∧ k ≤ l.length ∧ At st.env [(0, ords l), (2, .int .i64 day), (8, ints (side l s)), (9, .int .i64 (sumW (side l s) (((idx l.length).take k).filter fun i => decide (dueOf l i ≤ day)))), (10, .bool (((idx l.length).take k).any fun i => decide (dueOf l i ≤ day))), (11, .int .i64 k)]) l.length (by omega)
    ⟨0, by simp, by omega, by simp [go_sem, ↓reduceIte, reduceIte, Nat.reduceEqDiff, Nat.reduceAdd, Nat.reduceMul, reduceCtorEq, Nat.reduceDiv, Nat.reduceLeDiff, Nat.reduceLT, Nat.reduceSub, sumW]⟩ ?_
  rintro M e h hM ⟨k, rfl, hk, hE⟩ P hP
  simp only [At_cons, At_nil] at hE
  obtain ⟨h0, h2, h8, h9, h10, h11, -⟩ := hE
  have hb0 := sumW_nonneg (fun x hx => (hw x hx).1) (((idx l.length).take k).filter fun i => decide (dueOf l i ≤ day))
  have hb1 := sumW_le hw (((idx l.length).take k).filter fun i => decide (dueOf l i ≤ day))
  have hb2 : (((idx l.length).take k).filter fun i => decide (dueOf l i ≤ day)).length ≤ 15 := by
    refine Nat.le_trans (List.length_filter_le _ _) ?_
    rw [List.length_take]; omega
  by_cases hlt : k < l.length
  · obtain ⟨o, ho⟩ := get_ex hlt
    obtain ⟨x, hx⟩ := get_ex (l := side l s) (i := k) (by rw [side_length]; omega)
    have hxw := wk_get hx
    have hxb := hw x (List.mem_of_getElem? hx)
    have hss := sumW_step (w := side l s) hlt fun i => decide (dueOf l i ≤ day)
    have has := any_step hlt fun i => decide (dueOf l i ≤ day)
    by_cases hle : o.due ≤ day
    · have hd' : decide (dueOf l (k : Int) ≤ day) = true := by rw [dueOf_nat ho]; simp [hle]
      rw [hd', if_pos rfl, ← hxw] at hss
      rw [hd', Bool.or_true] at has
      simp (disch := first | assumption | omega) only [go_sem, ↓reduceIte, reduceIte, Nat.reduceEqDiff, Nat.reduceAdd, Nat.reduceMul, reduceCtorEq, Nat.reduceDiv, Nat.reduceLeDiff, Nat.reduceLT, Nat.reduceSub, h0, h2, h8, h9, h10, h11, hlt, ho, oAV, hle, hx]
      refine hP (l.length - (k + 1)) _ (by omega) ⟨k + 1, rfl, by omega, ?_⟩
      rw [hss, has]
      simp only [go_sem, ↓reduceIte, reduceIte, Nat.reduceEqDiff, Nat.reduceAdd, Nat.reduceMul, reduceCtorEq, Nat.reduceDiv, Nat.reduceLeDiff, Nat.reduceLT, Nat.reduceSub, h0, h2, h8]
    · have hd' : decide (dueOf l (k : Int) ≤ day) = false := by rw [dueOf_nat ho]; simpa using hle
      rw [hd', if_neg (by simp), Int.add_zero] at hss
      rw [hd', Bool.or_false] at has
      simp (disch := first | assumption | omega) only [go_sem, ↓reduceIte, reduceIte, Nat.reduceEqDiff, Nat.reduceAdd, Nat.reduceMul, reduceCtorEq, Nat.reduceDiv, Nat.reduceLeDiff, Nat.reduceLT, Nat.reduceSub, h0, h2, h8, h9, h10, h11, hlt, ho, oAV, hle, hx]
      refine hP (l.length - (k + 1)) _ (by omega) ⟨k + 1, rfl, by omega, ?_⟩
      rw [hss, has]
      simp only [go_sem, ↓reduceIte, reduceIte, Nat.reduceEqDiff, Nat.reduceAdd, Nat.reduceMul, reduceCtorEq, Nat.reduceDiv, Nat.reduceLeDiff, Nat.reduceLT, Nat.reduceSub, h0, h2, h8, h9, h10]
  · obtain rfl : k = l.length := by omega
    rw [List.take_of_length_le (by rw [idx_length]; omega)] at h9 h10 hb0 hb1 hb2
    simp (disch := first | assumption | omega) only [go_sem, ↓reduceIte, reduceIte, Nat.reduceEqDiff, Nat.reduceAdd, Nat.reduceMul, reduceCtorEq, Nat.reduceDiv, Nat.reduceLeDiff, Nat.reduceLT, Nat.reduceSub, h0, h2, h8, h9, h10, h11, hlt]
    exact hV _ _ (frz_two (frz_int _ _ _ _) (frz_bool _ _ _))

section
variable {n base : Nat} {Q : EX × St → Prop} {d : Option Nat} {L : List IOper} {ks : List Kont} {e : Env} {h : Heap}
theorem cs_70 {l : List Order} {s day : Int} (hn : 1 ≤ n) (hl : l.length ≤ 15) (hw : ∀ x ∈ side l s, 0 ≤ x ∧ x ≤ 1000) (hd : -100000 ≤ day ∧ day ≤ 100000) : GP (evCall T n) base Q d L ks e (evCall T n false (.fn 70) [deskV l s, .int .i64 day] h) = GO (evCall T n) base Q L ks ⟨setDst e d (bdV l s day), h⟩ :=
  gp_eq (con_70 l s day hl hw hd) hn (fz_cons (frz_desk _ _ _ _) (fz_int _ _ _ (fz_nil _))) rfl
theorem cs_72 {l : List Order} {s day : Int} {x : Bool} (hn : 2 ≤ n) (hl : l.length ≤ 15) (hw : ∀ x ∈ side l s, 0 ≤ x ∧ x ≤ 1000) (hd : -100000 ≤ day ∧ day ≤ 100000) : GP (evCall T n) base Q d L ks e (evCall T n false (.fn 72) [.slice (some 3) (l.map oAV) x, .int .i64 s, .int .i64 day] h) = GO (evCall T n) base Q L ks ⟨setDst e d (bdV l s day), h⟩ :=
  gp_eq (con_72 l s day hl hw hd) hn (by repeat (first | exact fz_nil _ | refine fz_slice _ _ _ _ ?_ | refine fz_int _ _ _ ?_)) rfl
end

/-! ### 71, 74: errors -/
theorem con_71 (l : List Order) (s : Int) (hl : l.length ≤ 15) : Con T 2 71 [ords l, .int .i64 s] (.int .i64 (chkSide l s)) := by
  refine con_intro t71 fun n hn V hV => ?_
  unfold chkSide at hV
  by_cases hc : chk l = 0
  · have hc' : (chk l != 0) = false := by simp [hc]
    rw [if_neg (by omega)] at hV
    by_cases h0 : s = 0
    · have h0' : (s != 0) = false := by simp [h0]
      simp (disch := first | assumption | omega) only [c71, go_sem, ↓reduceIte, reduceIte, Nat.reduceEqDiff, Nat.reduceAdd, Nat.reduceMul, reduceCtorEq, Nat.reduceDiv, Nat.reduceLeDiff, Nat.reduceLT, Nat.reduceSub, cs_24, hc', h0']
      exact hV _ _ (by rw [frz_int, if_pos (.inl h0)])
    · have h0' : (s != 0) = true := by simp [h0]
      by_cases h1 : s = 1
      · have h1' : (s != 1) = false := by simp [h1]
        simp (disch := first | assumption | omega) only [c71, go_sem, ↓reduceIte, reduceIte, Nat.reduceEqDiff, Nat.reduceAdd, Nat.reduceMul, reduceCtorEq, Nat.reduceDiv, Nat.reduceLeDiff, Nat.reduceLT, Nat.reduceSub, cs_24, hc', h0', h1']
        exact hV _ _ (by rw [frz_int, if_pos (.inr h1)])
      · have h1' : (s != 1) = true := by simp [h1]
        simp (disch := first | assumption | omega) only [c71, go_sem, ↓reduceIte, reduceIte, Nat.reduceEqDiff, Nat.reduceAdd, Nat.reduceMul, reduceCtorEq, Nat.reduceDiv, Nat.reduceLeDiff, Nat.reduceLT, Nat.reduceSub, cs_24, hc', h0', h1']
        exact hV _ _ (by rw [frz_int, if_neg (by omega)])
  · have hc' : (chk l != 0) = true := by simp [hc]
    simp (disch := first | assumption | omega) only [c71, go_sem, ↓reduceIte, reduceIte, Nat.reduceEqDiff, Nat.reduceAdd, Nat.reduceMul, reduceCtorEq, Nat.reduceDiv, Nat.reduceLeDiff, Nat.reduceLT, Nat.reduceSub, cs_24, hc']
    exact hV _ _ (by rw [frz_int, if_pos hc])

theorem cs_71 {n base : Nat} {Q : EX × St → Prop} {d : Option Nat} {L : List IOper} {ks : List Kont} {e : Env} {h : Heap} {l : List Order} {s : Int} {x : Bool} (hn : 2 ≤ n) (hl : l.length ≤ 15) : GP (evCall T n) base Q d L ks e (evCall T n false (.fn 71) [.slice (some 3) (l.map oAV) x, .int .i64 s] h) = GO (evCall T n) base Q L ks ⟨setDst e d (.int .i64 (chkSide l s)), h⟩ :=
  gp_eq (con_71 l s hl) hn (by repeat (first | exact fz_nil _ | refine fz_slice _ _ _ _ ?_ | refine fz_int _ _ _ ?_)) rfl

def dayErr (l : List Order) (s : Int) : Int := if chkSide l s ≠ 0 then chkSide l s else if l.length = 0 then 5 else 0
theorem con_74 (l : List Order) (s : Int) (hl : l.length ≤ 15) : Con T 3 74 [ords l, .int .i64 s] (.int .i64 (dayErr l s)) := by
  refine con_intro t74 fun n hn V hV => ?_
  unfold dayErr at hV
  by_cases hc : chkSide l s = 0
  · have hc' : (chkSide l s != 0) = false := by simp [hc]
    rw [if_neg (by omega)] at hV
    by_cases h0 : l.length = 0
    · have h0' : ((l.length : Int) == 0) = true := beq_iff_eq.2 (by omega)
      simp (disch := first | assumption | omega) only [c74, go_sem, ↓reduceIte, reduceIte, Nat.reduceEqDiff, Nat.reduceAdd, Nat.reduceMul, reduceCtorEq, Nat.reduceDiv, Nat.reduceLeDiff, Nat.reduceLT, Nat.reduceSub, cs_71, hc', h0']
      exact hV _ _ (by rw [frz_int, if_pos h0])
    · have h0' : ((l.length : Int) == 0) = false := beq_eq_false_iff_ne.2 (by omega)
      simp (disch := first | assumption | omega) only [c74, go_sem, ↓reduceIte, reduceIte, Nat.reduceEqDiff, Nat.reduceAdd, Nat.reduceMul, reduceCtorEq, Nat.reduceDiv, Nat.reduceLeDiff, Nat.reduceLT, Nat.reduceSub, cs_71, hc', h0']
      exact hV _ _ (by rw [frz_int, if_neg h0])
  · have hc' : (chkSide l s != 0) = true := by simp [hc]
    simp (disch := first | assumption | omega) only [c74, go_sem, ↓reduceIte, reduceIte, Nat.reduceEqDiff, Nat.reduceAdd, Nat.reduceMul, reduceCtorEq, Nat.reduceDiv, Nat.reduceLeDiff, Nat.reduceLT, Nat.reduceSub, cs_71, hc']
    exact hV _ _ (by rw [frz_int, if_pos hc])

theorem cs_74 {n base : Nat} {Q : EX × St → Prop} {d : Option Nat} {L : List IOper} {ks : List Kont} {e : Env} {h : Heap} {l : List Order} {s : Int} {x : Bool} (hn : 3 ≤ n) (hl : l.length ≤ 15) : GP (evCall T n) base Q d L ks e (evCall T n false (.fn 74) [.slice (some 3) (l.map oAV) x, .int .i64 s] h) = GO (evCall T n) base Q L ks ⟨setDst e d (.int .i64 (dayErr l s)), h⟩ :=
  gp_eq (con_74 l s hl) hn (by repeat (first | exact fz_nil _ | refine fz_slice _ _ _ _ ?_ | refine fz_int _ _ _ ?_)) rfl

theorem dayErr_zero (l : List Order) (s : Int) : dayErr l s = 0 ↔ Valid l ∧ (s = 0 ∨ s = 1) ∧ 0 < l.length := by
  unfold dayErr
  constructor
  · intro h
    split at h
    · next h1 => exact (h1 h).elim
    · next h1 =>
      split at h
      · cases h
      · have := (chkSide_zero l s).1 (by omega)
        exact ⟨this.1, this.2, by omega⟩
  · rintro ⟨h1, h2, h3⟩
    rw [if_neg (by simp [(chkSide_zero l s).2 ⟨h1, h2⟩]), if_neg (by omega)]

/-! ### 31, 32: Bound -/
def refBound (l : List Order) (s day : Int) : Int × Int :=
  if chkSide l s ≠ 0 then (0, chkSide l s) else if day < 0 ∨ 2000 < day then (0, 2) else if someDue l day then (bd l (side l s) day, 0) else (0, 5)
def boundV (l : List Order) (s day : Int) : AV := .tuple [.int .i64 (refBound l s day).1, .int .i64 (refBound l s day).2]

theorem con_31 (l : List Order) (s day : Int) (hl : l.length ≤ 15) : Con T 11 31 [ords l, .int .i64 s, .int .i64 day] (boundV l s day) := by
  refine con_intro t31 fun n hn V hV => ?_
  replace hV : ∀ a b h, a = (refBound l s day).1 → b = (refBound l s day).2 → V (.tuple [.int .i64 a, .int .i64 b], h) := fun a b h e1 e2 => hV _ _ (by rw [e1, e2]; exact frz_two (frz_int _ _ _ _) (frz_int _ _ _ _))
  unfold refBound at hV
  by_cases hc : chkSide l s = 0
  · have hc' : (chkSide l s != 0) = false := by simp [hc]
    obtain ⟨hval, hs⟩ := (chkSide_zero l s).1 hc
    have hsb := side_bd' hval s
    rw [if_neg (by omega)] at hV
    by_cases hday : day < 0 ∨ 2000 < day
    · have hw : (decide (0 ≤ day) && decide (day ≤ 2000)) = false := by simp; omega
      rw [if_pos hday] at hV
      simp (disch := first | assumption | omega) only [c31, go_sem, ↓reduceIte, reduceIte, Nat.reduceEqDiff, Nat.reduceAdd, Nat.reduceMul, reduceCtorEq, Nat.reduceDiv, Nat.reduceLeDiff, Nat.reduceLT, Nat.reduceSub, cs_69, sidedV, hc', cs_58', hw]
      exact hV _ _ _ rfl rfl
    · have hw : (decide (0 ≤ day) && decide (day ≤ 2000)) = true := by simp; omega
      rw [if_neg hday] at hV
      have hdb : -100000 ≤ day ∧ day ≤ 100000 := by omega
      by_cases hsd : someDue l day = true
      · rw [if_pos hsd] at hV
        simp (disch := first | assumption | omega) only [c31, go_sem, ↓reduceIte, reduceIte, Nat.reduceEqDiff, Nat.reduceAdd, Nat.reduceMul, reduceCtorEq, Nat.reduceDiv, Nat.reduceLeDiff, Nat.reduceLT, Nat.reduceSub, cs_69, sidedV, hc', hc, cs_58', hw, cs_70, bdV, hsd]
        exact hV _ _ _ rfl rfl
      · have hsd' : someDue l day = false := by simpa using hsd
        rw [if_neg hsd] at hV
        simp (disch := first | assumption | omega) only [c31, go_sem, ↓reduceIte, reduceIte, Nat.reduceEqDiff, Nat.reduceAdd, Nat.reduceMul, reduceCtorEq, Nat.reduceDiv, Nat.reduceLeDiff, Nat.reduceLT, Nat.reduceSub, cs_69, sidedV, hc', hc, cs_58', hw, cs_70, bdV, hsd']
        exact hV _ _ _ rfl rfl
  · have hc' : (chkSide l s != 0) = true := by simp [hc]
    rw [if_pos hc] at hV
    simp (disch := first | assumption | omega) only [c31, go_sem, ↓reduceIte, reduceIte, Nat.reduceEqDiff, Nat.reduceAdd, Nat.reduceMul, reduceCtorEq, Nat.reduceDiv, Nat.reduceLeDiff, Nat.reduceLT, Nat.reduceSub, cs_69, sidedV, hc']
    exact hV _ _ _ rfl rfl

theorem con_32 (l : List Order) (s day : Int) (hl : l.length ≤ 15) : Con T 3 32 [ords l, .int .i64 s, .int .i64 day] (boundV l s day) := by
  refine con_intro t32 fun n hn V hV => ?_
  replace hV : ∀ a b h, a = (refBound l s day).1 → b = (refBound l s day).2 → V (.tuple [.int .i64 a, .int .i64 b], h) := fun a b h e1 e2 => hV _ _ (by rw [e1, e2]; exact frz_two (frz_int _ _ _ _) (frz_int _ _ _ _))
  unfold refBound at hV
  by_cases hc : chkSide l s = 0
  · have hc' : (chkSide l s != 0) = false := by simp [hc]
    obtain ⟨hval, hs⟩ := (chkSide_zero l s).1 hc
    have hsb := side_bd' hval s
    rw [if_neg (by omega)] at hV
    by_cases hday : day < 0
    · rw [if_pos (.inl hday)] at hV
      simp (disch := first | assumption | omega) only [c32, go_sem, ↓reduceIte, reduceIte, Nat.reduceEqDiff, Nat.reduceAdd, Nat.reduceMul, reduceCtorEq, Nat.reduceDiv, Nat.reduceLeDiff, Nat.reduceLT, Nat.reduceSub, cs_71, hc', hday]
      exact hV _ _ _ rfl rfl
    by_cases hday2 : day > 2000
    · rw [if_pos (.inr hday2)] at hV
      simp (disch := first | assumption | omega) only [c32, go_sem, ↓reduceIte, reduceIte, Nat.reduceEqDiff, Nat.reduceAdd, Nat.reduceMul, reduceCtorEq, Nat.reduceDiv, Nat.reduceLeDiff, Nat.reduceLT, Nat.reduceSub, cs_71, hc', hday, hday2]
      exact hV _ _ _ rfl rfl
    rw [if_neg (by omega)] at hV
    have hdb : -100000 ≤ day ∧ day ≤ 100000 := by omega
    by_cases hsd : someDue l day = true
    · rw [if_pos hsd] at hV
      simp (disch := first | assumption | omega) only [c32, go_sem, ↓reduceIte, reduceIte, Nat.reduceEqDiff, Nat.reduceAdd, Nat.reduceMul, reduceCtorEq, Nat.reduceDiv, Nat.reduceLeDiff, Nat.reduceLT, Nat.reduceSub, cs_71, hc', hday, hday2, cs_72, bdV, hsd]
      exact hV _ _ _ rfl rfl
    · have hsd' : someDue l day = false := by simpa using hsd
      rw [if_neg hsd] at hV
      simp (disch := first | assumption | omega) only [c32, go_sem, ↓reduceIte, reduceIte, Nat.reduceEqDiff, Nat.reduceAdd, Nat.reduceMul, reduceCtorEq, Nat.reduceDiv, Nat.reduceLeDiff, Nat.reduceLT, Nat.reduceSub, cs_71, hc', hday, hday2, cs_72, bdV, hsd']
      exact hV _ _ _ rfl rfl
  · have hc' : (chkSide l s != 0) = true := by simp [hc]
    rw [if_pos hc] at hV
    simp (disch := first | assumption | omega) only [c32, go_sem, ↓reduceIte, reduceIte, Nat.reduceEqDiff, Nat.reduceAdd, Nat.reduceMul, reduceCtorEq, Nat.reduceDiv, Nat.reduceLeDiff, Nat.reduceLT, Nat.reduceSub, cs_71, hc']
    exact hV _ _ _ rfl rfl

end Go.Ev.YtadneamkkepknaaC
