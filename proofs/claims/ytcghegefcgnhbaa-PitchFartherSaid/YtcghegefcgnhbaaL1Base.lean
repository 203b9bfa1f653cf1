/- Fractions as the laws are handed them; the checks of intervals, gaps, and what two numbers have in common. Contracts; conditions stand in each. -/
import Derived.Test.YtcghegefcgnhbaaEvOpen
import Derived.Test.YtcghegefcgnhbaaEvRem
import Derived.Test.YtcghegefcgnhbaaL1CodeB
import Derived.Test.YtcghegefcgnhbaaL1Math5
import Derived.Test.YtcghegefcgnhbaaRows
set_option linter.unusedSimpArgs false
set_option linter.unusedVariables false
namespace Go.Ev.YtcghegefcgnhbaaC
open Go Go.Proofs

def rcells (x : Frac) : List (IntKind × Int) := [(.i64, x.num), (.i64, x.den)]
def RWf (x : Frac) : Prop := (Lit.int .i64 x.num).wf = true ∧ (Lit.int .i64 x.den).wf = true

set_option maxRecDepth 100000 in
theorem open_ratio {H : Type} {enc : TypeId × Value → H} {w : World} {base : Nat} {sp : Nat → Bool} {held : Bool} {fuel : Nat} {cs : List Value} {x : DataW H × List MemPlace}
    (h : DataW.trod enc Try.prog w base sp held fuel 23 cs = some x) : ∃ a : Frac, cs = (rcells a).map (fun p => .int p.1 p.2) ∧ RWf a := by
  have c23 : Try.prog.cellsOf 23 = 2 := by kernel_rfl
  have c2 : Try.prog.cellsOf 2 = 1 := by kernel_rfl
  obtain ⟨xs, n, _, _, hl, hx, hf⟩ := DataW.trod_struct Try.underlying23 h
  rw [c23] at hl
  match cs, hl with
  | [u, v], _ =>
    have f0 := hf 0 _ rfl
    have f1 := hf 1 _ rfl
    replace hx : xs.length = 2 := hx
    rw [List.getElem?_eq_getElem (by omega)] at f0 f1
    replace f0 : DataW.trod enc Try.prog w base sp held n 2 (List.take (Try.prog.cellsOf 2) (List.drop 0 [u, v])) = _ := f0
    replace f1 : DataW.trod enc Try.prog w base sp held n 2 (List.take (Try.prog.cellsOf 2) (List.drop 1 [u, v])) = _ := f1
    rw [c2] at f0 f1
    simp only [List.drop, List.take] at f0 f1
    obtain ⟨a, e1, _, w1⟩ := DataW.trod_int Try.underlying2 f0
    obtain ⟨b, e2, _, w2⟩ := DataW.trod_int Try.underlying2 f1
    simp only [List.cons.injEq, and_true] at e1 e2
    subst e1 e2
    exact ⟨⟨a, b⟩, rfl, w1, w2⟩

abbrev longsV (l : List Int) : AV := .slice none (l.map (.int .i64)) false
abbrev rAV (x : Frac) : AV := .agg [.int .i64 x.num, .int .i64 x.den]
abbrev forkV (x : Frac) : AV := .ptr [.int .i64 x.num, .int .i64 x.den] 0

/-- numbers whose products fit -/
def Bn (a : Int) : Prop := -1073741824 ≤ a ∧ a ≤ 1073741824
def BF (x : Frac) : Prop := Bn x.num ∧ Bn x.den
theorem mul_bn {a b : Int} (ha : Bn a) (hb : Bn b) : -1152921504606846976 ≤ a * b ∧ a * b ≤ 1152921504606846976 := by
  unfold Bn at ha hb
  have h1 : a.natAbs ≤ 1073741824 := by omega
  have h2 : b.natAbs ≤ 1073741824 := by omega
  have h3 : (a * b).natAbs ≤ 1073741824 * 1073741824 := by rw [Int.natAbs_mul]; exact Nat.mul_le_mul h1 h2
  omega

def chkI (x : Frac) : Int := if x.num < 1 ∨ 10000 < x.num ∨ x.den < 1 ∨ 10000 < x.den then 3 else if Nat.gcd x.num.toNat x.den.toNat = 1 then 0 else 16
/-- a valid interval -/
structure OkI (x : Frac) : Prop where
  n1 : 1 ≤ x.num
  n2 : x.num ≤ 10000
  d1 : 1 ≤ x.den
  d2 : x.den ≤ 10000
  pr : Prim x
theorem chkI_zero (x : Frac) : chkI x = 0 ↔ OkI x := by
  unfold chkI
  constructor
  · intro h
    split at h
    · cases h
    · split at h
      · next h1 h2 => exact ⟨by omega, by omega, by omega, by omega, h2⟩
      · cases h
  · rintro ⟨a, b, c, d, e⟩
    rw [if_neg (by omega), if_pos (show Nat.gcd x.num.toNat x.den.toNat = 1 from e)]

attribute [local irreducible] Res.all evC evLoop evOps evOper evOp evFn evCall freeze G GO GV GP GC R
set_option maxRecDepth 100000

/-! ### what two numbers have in common -/
theorem con_Common (a b : Nat) (ha : a < 1152921504606846976) (hb : b < 1152921504606846976) : Con T 1 61 [.int .i64 a, .int .i64 b] (.int .i64 (Nat.gcd a b : Nat)) := by
  refine con_intro t61 fun n hn V hV => ?_
  simp (disch := first | assumption | omega) only [c61, go_sem, ↓reduceIte, reduceIte, Nat.reduceEqDiff, Nat.reduceAdd, Nat.reduceMul, reduceCtorEq, Nat.reduceDiv, Nat.reduceLeDiff, Nat.reduceLT, Nat.reduceSub]
  refine m_loop (fun M st => ∃ x y : Nat, M = y ∧ x < 1152921504606846976 ∧ y ≤ b ∧ At st.env [(0, .int .i64 x), (1, .int .i64 y)] ∧ Nat.gcd x y = Nat.gcd a b) b hb ⟨a, b, rfl, ha, by omega, by simp only [go_sem, ↓reduceIte, reduceIte, Nat.reduceEqDiff, Nat.reduceAdd, Nat.reduceMul, reduceCtorEq, Nat.reduceDiv, Nat.reduceLeDiff, Nat.reduceLT, Nat.reduceSub], rfl⟩ ?_
  rintro y e h hM ⟨x, _, rfl, hx, hy, hE, hg⟩ P hP
  simp only [At_cons, At_nil] at hE
  obtain ⟨h0, h1, -⟩ := hE
  by_cases hz : y = 0
  · subst hz
    have hz' : (((0 : Nat) : Int) != 0) = false := rfl
    simp (disch := first | assumption | omega) only [h0, h1, go_sem, ↓reduceIte, reduceIte, Nat.reduceEqDiff, Nat.reduceAdd, Nat.reduceMul, reduceCtorEq, Nat.reduceDiv, Nat.reduceLeDiff, Nat.reduceLT, Nat.reduceSub, hz']
    simp (disch := first | assumption | omega) only [go_sem, ↓reduceIte, reduceIte, Nat.reduceEqDiff, Nat.reduceAdd, Nat.reduceMul, reduceCtorEq, Nat.reduceDiv, Nat.reduceLeDiff, Nat.reduceLT, Nat.reduceSub, h0, h1, bne_self_eq_false]
    exact hV _ _ (by rw [frz_int, ← hg, Nat.gcd_zero_right])
  · have hz' : ((y : Int) != 0) = true := by simp; omega
    simp (disch := first | assumption | omega) only [go_sem, ↓reduceIte, reduceIte, Nat.reduceEqDiff, Nat.reduceAdd, Nat.reduceMul, reduceCtorEq, Nat.reduceDiv, Nat.reduceLeDiff, Nat.reduceLT, Nat.reduceSub, h0, h1, hz', b_rem]
    refine hP (x % y) _ (Nat.mod_lt _ (by omega)) ⟨y, x % y, rfl, by omega, by have := Nat.mod_lt x (show 0 < y by omega); omega, by simp only [go_sem, ↓reduceIte, reduceIte, Nat.reduceEqDiff, Nat.reduceAdd, Nat.reduceMul, reduceCtorEq, Nat.reduceDiv, Nat.reduceLeDiff, Nat.reduceLT, Nat.reduceSub], ?_⟩
    rw [← hg, Nat.gcd_comm x y, Nat.gcd_rec y x, Nat.gcd_comm]

theorem con_common : ∀ (b a : Nat), Con T (b + 1) 60 [.int .i64 a, .int .i64 b] (.int .i64 (Nat.gcd a b : Nat)) := by
  intro b
  induction b using Nat.strongRecOn with
  | _ b ih =>
    intro a
    refine con_intro t60 fun n hn V hV => ?_
    by_cases hz : b = 0
    · subst hz
      have hz' : (((0 : Nat) : Int) == 0) = true := rfl
      simp (disch := first | assumption | omega) only [c60, go_sem, ↓reduceIte, reduceIte, Nat.reduceEqDiff, Nat.reduceAdd, Nat.reduceMul, reduceCtorEq, Nat.reduceDiv, Nat.reduceLeDiff, Nat.reduceLT, Nat.reduceSub, hz', beq_self_eq_true]
      exact hV _ _ (by rw [frz_int, Nat.gcd_zero_right])
    · have hz' : ((b : Int) == 0) = false := by simp; omega
      have hm := Nat.mod_lt a (show 0 < b by omega)
      simp (disch := first | assumption | omega) only [c60, go_sem, ↓reduceIte, reduceIte, Nat.reduceEqDiff, Nat.reduceAdd, Nat.reduceMul, reduceCtorEq, Nat.reduceDiv, Nat.reduceLeDiff, Nat.reduceLT, Nat.reduceSub, hz', b_rem]
      refine gp_con (ih (a % b) hm b) (by omega) (fz_int _ _ _ (fz_int _ _ _ (fz_nil _))) (or_pi _ _ _) ?_
      simp (disch := first | assumption | omega) only [go_sem, ↓reduceIte, reduceIte, Nat.reduceEqDiff, Nat.reduceAdd, Nat.reduceMul, reduceCtorEq, Nat.reduceDiv, Nat.reduceLeDiff, Nat.reduceLT, Nat.reduceSub]
      exact hV _ _ (by rw [frz_int, Nat.gcd_comm a b, Nat.gcd_rec b a, Nat.gcd_comm])

/-! ### gaps -/
theorem con_GapOf (x y : Frac) (hx : BF x) (hy : BF y) : Con T 1 50 [rAV x, rAV y] (.int .i64 (gapF x y)) := by
  refine con_intro t50 fun n hn V hV => ?_
  have m1 := mul_bn hy.1 hx.2
  have m2 := mul_bn hx.1 hy.2
  simp (disch := first | assumption | omega) only [c50, go_sem, ↓reduceIte, reduceIte, Nat.reduceEqDiff, Nat.reduceAdd, Nat.reduceMul, reduceCtorEq, Nat.reduceDiv, Nat.reduceLeDiff, Nat.reduceLT, Nat.reduceSub]
  exact hV _ _ (by rw [frz_int]; rfl)
theorem con_gap (x y : Frac) (hx : BF x) (hy : BF y) : Con T 1 57 [forkV x, rAV y] (.int .i64 (gapF x y)) := by
  refine con_intro t57 fun n hn V hV => ?_
  have m1 := mul_bn hy.1 hx.2
  have m2 := mul_bn hx.1 hy.2
  simp (disch := first | assumption | omega) only [c57, go_sem, ↓reduceIte, reduceIte, Nat.reduceEqDiff, Nat.reduceAdd, Nat.reduceMul, reduceCtorEq, Nat.reduceDiv, Nat.reduceLeDiff, Nat.reduceLT, Nat.reduceSub]
  exact hV _ _ (by rw [frz_int]; rfl)

/-! ### CheckInterval, the reference's -/
theorem cs_Common {n base : Nat} {Q : EX × St → Prop} {d : Option Nat} {L : List IOper} {ks : List Kont} {e : Env} {h : Heap} {a b : Nat} (hn : 1 ≤ n) (ha : a < 1152921504606846976) (hb : b < 1152921504606846976) : GP (evCall T n) base Q d L ks e (evCall T n false (.fn 61) [.int .i64 (a : Int), .int .i64 (b : Int)] h) = GO (evCall T n) base Q L ks ⟨setDst e d (.int .i64 (Nat.gcd a b : Nat)), h⟩ :=
  gp_eq (con_Common a b ha hb) hn (fz_int _ _ _ (fz_int _ _ _ (fz_nil _))) (or_pi _ _ _)
theorem con_refCheck (x : Frac) : Con T 2 23 [rAV x] (.int .i64 (chkI x)) := by
  refine con_intro t23 fun n hn V hV => ?_
  unfold chkI at hV
  by_cases g1 : x.num < 1
  · simp (disch := first | assumption | omega) only [c23, go_sem, ↓reduceIte, reduceIte, Nat.reduceEqDiff, Nat.reduceAdd, Nat.reduceMul, reduceCtorEq, Nat.reduceDiv, Nat.reduceLeDiff, Nat.reduceLT, Nat.reduceSub, g1]
    exact hV _ _ (by rw [frz_int, if_pos (.inl g1)])
  by_cases g2 : x.num > 10000
  · simp (disch := first | assumption | omega) only [c23, go_sem, ↓reduceIte, reduceIte, Nat.reduceEqDiff, Nat.reduceAdd, Nat.reduceMul, reduceCtorEq, Nat.reduceDiv, Nat.reduceLeDiff, Nat.reduceLT, Nat.reduceSub, g1, g2]
    exact hV _ _ (by rw [frz_int, if_pos (by omega)])
  by_cases g3 : x.den < 1
  · simp (disch := first | assumption | omega) only [c23, go_sem, ↓reduceIte, reduceIte, Nat.reduceEqDiff, Nat.reduceAdd, Nat.reduceMul, reduceCtorEq, Nat.reduceDiv, Nat.reduceLeDiff, Nat.reduceLT, Nat.reduceSub, g1, g2, g3]
    exact hV _ _ (by rw [frz_int, if_pos (by omega)])
  by_cases g4 : x.den > 10000
  · simp (disch := first | assumption | omega) only [c23, go_sem, ↓reduceIte, reduceIte, Nat.reduceEqDiff, Nat.reduceAdd, Nat.reduceMul, reduceCtorEq, Nat.reduceDiv, Nat.reduceLeDiff, Nat.reduceLT, Nat.reduceSub, g1, g2, g3, g4]
    exact hV _ _ (by rw [frz_int, if_pos (by omega)])
  rw [if_neg (by omega)] at hV
  obtain ⟨a, ha⟩ := Int.eq_ofNat_of_zero_le (show 0 ≤ x.num by omega)
  obtain ⟨b, hb⟩ := Int.eq_ofNat_of_zero_le (show 0 ≤ x.den by omega)
  have ha' : a < 1152921504606846976 := by omega
  have hb' : b < 1152921504606846976 := by omega
  have e1 : x.num.toNat = a := by omega
  have e2 : x.den.toNat = b := by omega
  rw [e1, e2] at hV
  rw [ha] at g1 g2
  rw [hb] at g3 g4
  by_cases hg : Nat.gcd a b = 1
  · have hg' : (((Nat.gcd a b : Nat) : Int) != 1) = false := by simp [hg]
    simp (disch := first | assumption | omega) only [c23, go_sem, ↓reduceIte, reduceIte, Nat.reduceEqDiff, Nat.reduceAdd, Nat.reduceMul, reduceCtorEq, Nat.reduceDiv, Nat.reduceLeDiff, Nat.reduceLT, Nat.reduceSub, g1, g2, g3, g4, ha, hb, cs_Common, hg']
    exact hV _ _ (by rw [frz_int, if_pos hg])
  · have hg' : (((Nat.gcd a b : Nat) : Int) != 1) = true := by simp; omega
    simp (disch := first | assumption | omega) only [c23, go_sem, ↓reduceIte, reduceIte, Nat.reduceEqDiff, Nat.reduceAdd, Nat.reduceMul, reduceCtorEq, Nat.reduceDiv, Nat.reduceLeDiff, Nat.reduceLT, Nat.reduceSub, g1, g2, g3, g4, ha, hb, cs_Common, hg']
    exact hV _ _ (by rw [frz_int, if_neg hg])

end Go.Ev.YtcghegefcgnhbaaC
