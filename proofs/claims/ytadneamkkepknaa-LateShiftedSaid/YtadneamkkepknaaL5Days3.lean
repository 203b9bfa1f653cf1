/- What Shortest and Day answer, the program's and the reference's. Contracts; conditions stand in each. -/
import Derived.Test.YtadneamkkepknaaL5Days2
import Derived.Test.YtadneamkkepknaaL5Books
set_option linter.unusedSimpArgs false
set_option linter.unusedVariables false
namespace Go.Ev.YtadneamkkepknaaC
open Go Go.Proofs

attribute [local irreducible] Res.all evC evLoop evOps evOper evOp evFn evCall freeze G GO GV GP GC R
set_option maxRecDepth 100000

theorem cs_73 {n base : Nat} {Q : EX × St → Prop} {d : Option Nat} {L : List IOper} {ks : List Kont} {e : Env} {h : Heap} {l : List Order} {s : Int} {x : Bool} (hn : 12 ≤ n) (hl : l.length ≤ 15) : GP (evCall T n) base Q d L ks e (evCall T n false (.fn 73) [.slice (some 3) (l.map oAV) x, .int .i64 s] h) = GO (evCall T n) base Q L ks ⟨setDst e d (.tuple [.int .i64 (refTight l s).1, .int .i64 (refTight l s).2.1, .int .i64 (refTight l s).2.2]), h⟩ :=
  gp_eq (con_73 l s hl) hn (by repeat (first | exact fz_nil _ | refine fz_slice _ _ _ _ ?_ | refine fz_int _ _ _ ?_)) rfl

theorem refTight_err (l : List Order) (s : Int) : (refTight l s).2.2 = dayErr l s := by
  unfold refTight
  split
  · rfl
  · next h => split <;> simp_all

def refShort (l : List Order) (s : Int) : Int × Int := ((refTight l s).2.1, dayErr l s)
def refDay (l : List Order) (s : Int) : Int × Int := ((refTight l s).1, dayErr l s)
def shortV (l : List Order) (s : Int) : AV := .tuple [.int .i64 (refShort l s).1, .int .i64 (refShort l s).2]
def dayV (l : List Order) (s : Int) : AV := .tuple [.int .i64 (refDay l s).1, .int .i64 (refDay l s).2]

theorem con_33 (l : List Order) (s : Int) (hl : l.length ≤ 15) : Con T 13 33 [ords l, .int .i64 s] (shortV l s) := by
  refine con_intro t33 fun n hn V hV => ?_
  simp (disch := first | assumption | omega) only [c33, go_sem, ↓reduceIte, reduceIte, Nat.reduceEqDiff, Nat.reduceAdd, Nat.reduceMul, reduceCtorEq, Nat.reduceDiv, Nat.reduceLeDiff, Nat.reduceLT, Nat.reduceSub, cs_73]
  exact hV _ _ (by rw [shortV, refShort, refTight_err]; exact frz_two (frz_int _ _ _ _) (frz_int _ _ _ _))

theorem con_35 (l : List Order) (s : Int) (hl : l.length ≤ 15) : Con T 13 35 [ords l, .int .i64 s] (dayV l s) := by
  refine con_intro t35 fun n hn V hV => ?_
  simp (disch := first | assumption | omega) only [c35, go_sem, ↓reduceIte, reduceIte, Nat.reduceEqDiff, Nat.reduceAdd, Nat.reduceMul, reduceCtorEq, Nat.reduceDiv, Nat.reduceLeDiff, Nat.reduceLT, Nat.reduceSub, cs_73]
  exact hV _ _ (by rw [dayV, refDay, refTight_err]; exact frz_two (frz_int _ _ _ _) (frz_int _ _ _ _))

theorem refTight_ok {l : List Order} {s : Int} (h : dayErr l s = 0) : ∃ a, refTight l s = (a, delayOf l (seqOf l) (side l s), 0) ∧ someDue l a = true ∧ bd l (side l s) a = delayOf l (seqOf l) (side l s) ∧ 0 ≤ a ∧ a ≤ 2000 ∧
    ∀ d, d < a → ¬ (someDue l d = true ∧ bd l (side l s) d = bd l (side l s) a) := by
  obtain ⟨hv, hs, h0⟩ := (dayErr_zero l s).1 h
  obtain ⟨a, e1, e2, e3, e4, e5, e6⟩ := tight_spec hv h0 s
  refine ⟨a, ?_, e3, e2, e4, e5, e6⟩
  rw [refTight, if_neg (by omega), e1, ← e2]

theorem con_34 (l : List Order) (s : Int) (hl : l.length ≤ 15) : Con T 4 34 [ords l, .int .i64 s] (shortV l s) := by
  refine con_intro t34 fun n hn V hV => ?_
  replace hV : ∀ a b h, a = (refShort l s).1 → b = (refShort l s).2 → V (.tuple [.int .i64 a, .int .i64 b], h) := fun a b h e1 e2 => hV _ _ (by rw [e1, e2]; exact frz_two (frz_int _ _ _ _) (frz_int _ _ _ _))
  unfold refShort at hV
  by_cases hc : dayErr l s = 0
  · have hc' : (dayErr l s != 0) = false := by simp [hc]
    obtain ⟨a, e1, _⟩ := refTight_ok hc
    obtain ⟨hv, hs, h0⟩ := (dayErr_zero l s).1 hc
    have hsl := seqOf_length l
    have hwl := side_length l s
    have hslt : ∀ x ∈ seqOf l, 0 ≤ x ∧ x < (seqOf l).length := fun x hx => by rw [hsl]; exact seqOf_mem.1 hx
    have hsb := side_bd' hv s
    have hdue : ∀ o ∈ l, 0 ≤ o.due ∧ o.due ≤ 100000 := fun o ho => by
      have := (hv.ok o ho).d0
      have := (hv.ok o ho).d1
      omega
    simp (disch := first | assumption | omega) only [c34, go_sem, ↓reduceIte, reduceIte, Nat.reduceEqDiff, Nat.reduceAdd, Nat.reduceMul, reduceCtorEq, Nat.reduceDiv, Nat.reduceLeDiff, Nat.reduceLT, Nat.reduceSub, cs_74, hc', cs_52, cs_47, cs_64]
    exact hV _ _ _ (by rw [e1]) hc.symm
  · have hc' : (dayErr l s != 0) = true := by simp [hc]
    simp (disch := first | assumption | omega) only [c34, go_sem, ↓reduceIte, reduceIte, Nat.reduceEqDiff, Nat.reduceAdd, Nat.reduceMul, reduceCtorEq, Nat.reduceDiv, Nat.reduceLeDiff, Nat.reduceLT, Nat.reduceSub, cs_74, hc']
    exact hV _ _ _ (by rw [refTight, if_pos hc]) rfl

theorem cs_34 {n base : Nat} {Q : EX × St → Prop} {d : Option Nat} {L : List IOper} {ks : List Kont} {e : Env} {h : Heap} {l : List Order} {s : Int} {x : Bool} (hn : 4 ≤ n) (hl : l.length ≤ 15) : GP (evCall T n) base Q d L ks e (evCall T n false (.fn 34) [.slice (some 3) (l.map oAV) x, .int .i64 s] h) = GO (evCall T n) base Q L ks ⟨setDst e d (.tuple [.int .i64 (refShort l s).1, .int .i64 (refShort l s).2]), h⟩ :=
  gp_eq (con_34 l s hl) hn (by repeat (first | exact fz_nil _ | refine fz_slice _ _ _ _ ?_ | refine fz_int _ _ _ ?_)) rfl

theorem con_36 (l : List Order) (s : Int) (hl : l.length ≤ 15) : Con T 5 36 [ords l, .int .i64 s] (dayV l s) := by
  refine con_intro t36 fun n hn V hV => ?_
  replace hV : ∀ a b h, a = (refDay l s).1 → b = (refDay l s).2 → V (.tuple [.int .i64 a, .int .i64 b], h) := fun a b h e1 e2 => hV _ _ (by rw [e1, e2]; exact frz_two (frz_int _ _ _ _) (frz_int _ _ _ _))
  unfold refDay at hV
  by_cases hc : dayErr l s = 0
  · have hc' : (dayErr l s != 0) = false := by simp [hc]
    obtain ⟨a, e1, e2, e3, e4, e5, e6⟩ := refTight_ok hc
    obtain ⟨hv, hs, h0⟩ := (dayErr_zero l s).1 hc
    have hsb := side_bd' hv s
    rw [e1] at hV
    simp (disch := first | assumption | omega) only [c36, go_sem, ↓reduceIte, reduceIte, Nat.reduceEqDiff, Nat.reduceAdd, Nat.reduceMul, reduceCtorEq, Nat.reduceDiv, Nat.reduceLeDiff, Nat.reduceLT, Nat.reduceSub, cs_34, refShort, hc', e1]
    refine m_loop (fun M st => ∃ k : Nat, (M : Int) = a - k ∧ (k : Int) ≤ a ∧ At st.env [(0, ords l), (1, .int .i64 s), (6, .int .i64 (delayOf l (seqOf l) (side l s))), (8, .int .i64 k)]) a.toNat (by omega) ⟨0, by omega, by omega, by simp [go_sem, ↓reduceIte, reduceIte, Nat.reduceEqDiff, Nat.reduceAdd, Nat.reduceMul, reduceCtorEq, Nat.reduceDiv, Nat.reduceLeDiff, Nat.reduceLT, Nat.reduceSub]⟩ ?_
    rintro M e h hM ⟨k, hMk, hk, hE⟩ P hP
    simp only [At_cons, At_nil] at hE
    obtain ⟨h0, h1, h6, h8, -⟩ := hE
    have hdb : -100000 ≤ (k : Int) ∧ (k : Int) ≤ 100000 := by omega
    by_cases hka : (k : Int) = a
    · subst hka
      have hb : (bd l (side l s) (k : Int) == delayOf l (seqOf l) (side l s)) = true := by simp [e3]
      simp (disch := first | assumption | omega) only [go_sem, ↓reduceIte, reduceIte, Nat.reduceEqDiff, Nat.reduceAdd, Nat.reduceMul, reduceCtorEq, Nat.reduceDiv, Nat.reduceLeDiff, Nat.reduceLT, Nat.reduceSub, h0, h1, h6, h8, cs_72, bdV, e2, hb]
      exact hV _ _ _ rfl hc.symm
    · have hne := e6 k (by omega)
      by_cases hsd : someDue l (k : Int) = true
      · have hb : (bd l (side l s) (k : Int) == delayOf l (seqOf l) (side l s)) = false := by
          rw [beq_eq_false_iff_ne]
          intro h
          exact hne ⟨hsd, by rw [h, e3]⟩
        simp (disch := first | assumption | omega) only [go_sem, ↓reduceIte, reduceIte, Nat.reduceEqDiff, Nat.reduceAdd, Nat.reduceMul, reduceCtorEq, Nat.reduceDiv, Nat.reduceLeDiff, Nat.reduceLT, Nat.reduceSub, h0, h1, h6, h8, cs_72, bdV, hsd, hb]
        exact hP (M - 1) _ (by omega) ⟨k + 1, by omega, by omega, by simp only [go_sem, ↓reduceIte, reduceIte, Nat.reduceEqDiff, Nat.reduceAdd, Nat.reduceMul, reduceCtorEq, Nat.reduceDiv, Nat.reduceLeDiff, Nat.reduceLT, Nat.reduceSub, h0, h1, h6]⟩
      · have hsd' : someDue l (k : Int) = false := by simpa using hsd
        simp (disch := first | assumption | omega) only [go_sem, ↓reduceIte, reduceIte, Nat.reduceEqDiff, Nat.reduceAdd, Nat.reduceMul, reduceCtorEq, Nat.reduceDiv, Nat.reduceLeDiff, Nat.reduceLT, Nat.reduceSub, h0, h1, h6, h8, cs_72, bdV, hsd']
        exact hP (M - 1) _ (by omega) ⟨k + 1, by omega, by omega, by simp only [go_sem, ↓reduceIte, reduceIte, Nat.reduceEqDiff, Nat.reduceAdd, Nat.reduceMul, reduceCtorEq, Nat.reduceDiv, Nat.reduceLeDiff, Nat.reduceLT, Nat.reduceSub, h0, h1, h6]⟩
  · have hc' : (dayErr l s != 0) = true := by simp [hc]
    simp (disch := first | assumption | omega) only [c36, go_sem, ↓reduceIte, reduceIte, Nat.reduceEqDiff, Nat.reduceAdd, Nat.reduceMul, reduceCtorEq, Nat.reduceDiv, Nat.reduceLeDiff, Nat.reduceLT, Nat.reduceSub, cs_34, refShort, hc']
    exact hV _ _ _ (by rw [refTight, if_pos hc]) rfl

end Go.Ev.YtadneamkkepknaaC
