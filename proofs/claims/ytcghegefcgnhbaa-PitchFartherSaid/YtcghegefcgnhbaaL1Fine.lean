/- What the laws ask with: fine, isFraction, by. Contracts; conditions stand in each. -/
import Derived.Test.YtcghegefcgnhbaaL1Near
import Derived.Test.YtcghegefcgnhbaaL1Works
import Derived.OpenShut
set_option linter.unusedSimpArgs false
set_option linter.unusedVariables false
namespace Go.Ev.YtcghegefcgnhbaaC
open Go Go.Proofs

theorem u16_bounds {n : Int} (h : (Lit.int .u16 n).wf = true) : 0 ≤ n ∧ n ≤ 65535 := bounds_u16 h
theorem u8_bounds {n : Int} (h : (Lit.int .u8 n).wf = true) : 0 ≤ n ∧ n ≤ 255 := bounds_u8 h
theorem lowN_isF {x : Frac} (hx : OkI x) {m : Nat} (h1 : 1 ≤ m) : IsLow x m (lowN x m) := lowN_spec (by have := hx.n1; omega) (by have := hx.d1; omega) m h1
theorem highN_isF {x : Frac} (hx : OkI x) {m : Nat} (h1 : 1 ≤ m) : IsHigh x m (highN x m) := highN_spec (by have := hx.n1; omega) (by have := hx.d1; omega) m h1

/-- a fraction of the form that isFraction asks for -/
structure FracUp (f : Frac) (m : Int) : Prop where
  n0 : 0 ≤ f.num
  n1 : f.num ≤ 1073741824
  d1 : 1 ≤ f.den
  d2 : f.den ≤ m
  pr : Prim f
theorem fup_low {x : Frac} (hx : OkI x) {m : Nat} (h1 : 1 ≤ m) (h2 : m ≤ 1000) : FracUp (lowN x m) m := by
  have h := lowN_isF hx h1
  have b := (low_bf hx h2).1
  unfold Bn at b
  exact ⟨h.n0, by omega, h.d1, h.dm, h.prim⟩
theorem fup_high {x : Frac} (hx : OkI x) {m : Nat} (h1 : 1 ≤ m) (h2 : m ≤ 1000) : FracUp (highN x m) m := by
  have h := highN_isF hx h1
  have b := (high_bf hx h2).1
  unfold Bn at b
  exact ⟨h.n0, by omega, h.d1, h.dm, h.prim⟩
theorem FracUp.bf {f : Frac} {m : Int} (h : FracUp f m) (hm : m ≤ 1073741824) : BF f := by
  obtain ⟨a, b, c, d, _⟩ := h
  unfold BF Bn
  omega

attribute [local irreducible] Res.all evC evLoop evOps evOper evOp evFn evCall freeze G GO GV GP GC R
set_option maxRecDepth 100000

theorem con_fine (x : Frac) : Con T 3 48 [rAV x] (.bool (chkI x == 0)) := by
  refine con_intro t48 fun n hn V hV => ?_
  simp (disch := first | assumption | omega) only [c48, go_sem, ↓reduceIte, reduceIte, Nat.reduceEqDiff, Nat.reduceAdd, Nat.reduceMul, reduceCtorEq, Nat.reduceDiv, Nat.reduceLeDiff, Nat.reduceLT, Nat.reduceSub, cs_refCheck]
  exact hV _ _ (by repeat (first | exact mz_nil _ _ | exact frz_int _ _ _ _ | exact frz_bool _ _ _ | exact frz_slice _ _ _ _ _ | exact frz_ptr _ _ _ _ | exact frz_nilptr _ _ | refine mz_cons ?_ ?_ | refine frz_agg ?_ | refine frz_two ?_ ?_ | refine frz_three ?_ ?_ ?_))
theorem con_by (a b : Int) : Con T 1 51 [.int .i64 a, .int .i64 b] (.agg [.int .i64 a, .int .i64 b]) := by
  refine con_intro t51 fun n hn V hV => ?_
  simp (disch := first | assumption | omega) only [c51, go_sem, ↓reduceIte, reduceIte, Nat.reduceEqDiff, Nat.reduceAdd, Nat.reduceMul, reduceCtorEq, Nat.reduceDiv, Nat.reduceLeDiff, Nat.reduceLT, Nat.reduceSub]
  exact hV _ _ (by repeat (first | exact mz_nil _ _ | exact frz_int _ _ _ _ | exact frz_bool _ _ _ | exact frz_slice _ _ _ _ _ | exact frz_ptr _ _ _ _ | exact frz_nilptr _ _ | refine mz_cons ?_ ?_ | refine frz_agg ?_ | refine frz_two ?_ ?_ | refine frz_three ?_ ?_ ?_))
theorem con_isFraction (f : Frac) (m : Int) (hf : FracUp f m) (hm : m ≤ 1073741824) : Con T 2 49 [rAV f, .int .i64 m] (.bool true) := by
  refine con_intro t49 fun n hn V hV => ?_
  obtain ⟨a1, a2, a3, a4, a5⟩ := hf
  obtain ⟨a, ha⟩ := Int.eq_ofNat_of_zero_le (show 0 ≤ f.num by omega)
  obtain ⟨b, hb⟩ := Int.eq_ofNat_of_zero_le (show 0 ≤ f.den by omega)
  unfold Prim at a5
  rw [ha, hb] at a5
  have hg : (((Nat.gcd a b : Nat) : Int) == 1) = true := by
    have a6 : Nat.gcd a b = 1 := a5
    rw [a6]; rfl
  rw [ha] at a1 a2
  rw [hb] at a3 a4
  have ha' : a < 1152921504606846976 := by omega
  have hb' : b < 1152921504606846976 := by omega
  have e1 : ((a : Int) ≥ 0) = True := eq_true a1
  have e2 : ((b : Int) ≥ 1) = True := eq_true a3
  simp (disch := first | assumption | omega) only [c49, go_sem, ↓reduceIte, reduceIte, Nat.reduceEqDiff, Nat.reduceAdd, Nat.reduceMul, reduceCtorEq, Nat.reduceDiv, Nat.reduceLeDiff, Nat.reduceLT, Nat.reduceSub, ha, hb, e1, a2, e2, a4, cs_Common, hg]
  exact hV _ _ (by repeat (first | exact mz_nil _ _ | exact frz_int _ _ _ _ | exact frz_bool _ _ _ | exact frz_slice _ _ _ _ _ | exact frz_ptr _ _ _ _ | exact frz_nilptr _ _ | refine mz_cons ?_ ?_ | refine frz_agg ?_ | refine frz_two ?_ ?_ | refine frz_three ?_ ?_ ?_))

section
variable {n base : Nat} {Q : EX × St → Prop} {d : Option Nat} {L : List IOper} {ks : List Kont} {e : Env} {h : Heap}
theorem cs_fine {x : Frac} (hn : 3 ≤ n) : GP (evCall T n) base Q d L ks e (evCall T n false (.fn 48) [.agg [.int .i64 x.num, .int .i64 x.den]] h) = GO (evCall T n) base Q L ks ⟨setDst e d (.bool (chkI x == 0)), h⟩ :=
  gp_eq (con_fine x) hn (fz_rat _ _ (fz_nil _)) (or_pb _ _)
theorem cs_by (f : Frac) {a b : Int} (hn : 1 ≤ n) (ha : a = f.num) (hb : b = f.den) : GP (evCall T n) base Q d L ks e (evCall T n false (.fn 51) [.int .i64 a, .int .i64 b] h) = GO (evCall T n) base Q L ks ⟨setDst e d (rAV f), h⟩ := by
  subst ha hb
  exact gp_eq (con_by _ _) hn (by repeat (first | exact fz_nil _ | refine fz_slice _ _ _ _ ?_ | refine fz_int _ _ _ ?_)) rfl
theorem cs_isFraction {f : Frac} {m : Int} (hn : 2 ≤ n) (hf : FracUp f m) (hm : m ≤ 1073741824) : GP (evCall T n) base Q d L ks e (evCall T n false (.fn 49) [.agg [.int .i64 f.num, .int .i64 f.den], .int .i64 m] h) = GO (evCall T n) base Q L ks ⟨setDst e d (.bool true), h⟩ :=
  gp_eq (con_isFraction f m hf hm) hn (fz_rat _ _ (fz_int _ _ _ (fz_nil _))) (or_pb _ _)
theorem cs_WorksW (hn : n = 20000) : GP (evCall T n) base Q d L ks e (evCall T n false (.fn 24) [] h) = GO (evCall T n) base Q L ks ⟨setDst e d (.bool true), h⟩ := cs_Works hn
end
theorem eaA_ratN (x y : Frac) : eaA 2 true (.agg [.int .i64 x.num, .int .i64 x.den]) (.agg [.int .i64 y.num, .int .i64 y.den]) = .ret (.bool (!decide (x = y))) := by
  have := eaA_rat x y
  simp only [eaA] at this ⊢
  revert this
  split
  · cases eqInts _ _ with
    | none => intro h; cases h
    | some b =>
      intro h
      simp only [Res.ret.injEq, AV.bool.injEq] at h ⊢
      rw [← h]
      cases b <;> rfl
  · intro h; cases h

theorem nbs_ok {x : Frac} (hx : OkI x) {m : Nat} (h1 : 1 ≤ m) (h2 : m ≤ 1000) : nbs x m = (lowN x m, highN x m, 0) := by
  unfold nbs
  rw [if_neg (by rw [(boundErr_zero x m).2 ⟨hx, by omega, by omega⟩]; simp)]
  rfl
theorem nrs_ok {x : Frac} (hx : OkI x) {m : Nat} (h1 : 1 ≤ m) (h2 : m ≤ 1000) : nrs x m = (nearestOf x m, 0) := by
  unfold nrs
  rw [if_neg (by rw [(boundErr_zero x m).2 ⟨hx, by omega, by omega⟩]; simp)]
  rfl
/-- both next to x: either x is one of them, or they are neighbours -/
theorem next_cases {x : Frac} (hx : OkI x) {m : Nat} (h1 : 1 ≤ m) : (x.den ≤ m ∧ lowN x m = x ∧ highN x m = x) ∨ ((m : Int) < x.den ∧ Nb x m (lowN x m) (highN x m) ∧ lowN x m ≠ highN x m) := by
  by_cases hq : x.den ≤ m
  · exact .inl ⟨hq, next_self hx.pr (by have := hx.n1; omega) h1 (by have := hx.d1; omega) hq⟩
  · have hnb := next_nb hx.pr (by have := hx.n1; omega) h1 (show (m : Int) < x.den by omega)
    refine .inr ⟨by omega, hnb, fun he => ?_⟩
    have := hnb.det
    rw [he] at this
    omega

end Go.Ev.YtcghegefcgnhbaaC
