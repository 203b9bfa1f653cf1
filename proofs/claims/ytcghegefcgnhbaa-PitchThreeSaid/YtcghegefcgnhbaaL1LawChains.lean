/- PitchChains returns true. -/
import Derived.Test.YtcghegefcgnhbaaL1Back
import Derived.Test.YtcghegefcgnhbaaL1Works
set_option linter.unusedSimpArgs false
set_option linter.unusedVariables false
namespace Go.Ev.YtcghegefcgnhbaaC
open Go Go.Proofs

attribute [local irreducible] Res.all evC evLoop evOps evOper evOp evFn evCall freeze G GO GV GP GC R
set_option maxRecDepth 100000

theorem plA_len (N s n : Int) : (plA N s n).1.length ≤ 2400 := by
  by_cases h0 : chErr N s n = 0
  · obtain ⟨N, s, n, rfl, rfl, rfl, h1, h2, h3, h4, h5⟩ := ch_nat h0
    rw [plA_ok h0]
    have := plc_len N s n
    simp only [List.length_map]
    omega
  · rw [plA_err h0]; simp
theorem szs_len (N : Nat) (d : List Int) : (szs N d).length ≤ N + 1 := by
  have := List.length_filter_le (fun p : Nat => decide (0 < p) && decide ((p : Int) ∈ d)) (List.range (N + 1))
  simpa [szs] using this
theorem szA_len (N s n : Int) : (szA N s n).1.length ≤ 2401 := by
  by_cases h0 : chErr N s n = 0
  · obtain ⟨N, s, n, rfl, rfl, rfl, h1, h2, h3, h4, h5⟩ := ch_nat h0
    rw [szA_ok h0]
    have := szs_len N (dstL N (natI (plc N s n)))
    show (szs N (dstL N (natI (plc N s n)))).length ≤ 2401
    omega
  · rw [szA_err h0]; simp
section
variable {n base : Nat} {Q : EX × St → Prop} {d : Option Nat} {L : List IOper} {ks : List Kont} {e : Env} {h : Heap} {N s m : Int}
theorem cs_Places (hn : 6 ≤ n) : GP (evCall T n) base Q d L ks e (evCall T n false (.fn 42) [.int .i64 N, .int .i64 s, .int .i64 m] h) = GO (evCall T n) base Q L ks ⟨setDst e d (.tuple [longsV (plA N s m).1, .int .i64 (plA N s m).2]), h⟩ :=
  gp_eq (con_Places N s m) hn (by repeat (first | exact fz_nil _ | refine fz_slice _ _ _ _ ?_ | refine fz_int _ _ _ ?_)) rfl
theorem cs_refPlaces (hn : 2 ≤ n) : GP (evCall T n) base Q d L ks e (evCall T n false (.fn 43) [.int .i64 N, .int .i64 s, .int .i64 m] h) = GO (evCall T n) base Q L ks ⟨setDst e d (.tuple [longsV (plA N s m).1, .int .i64 (plA N s m).2]), h⟩ :=
  gp_eq (con_refPlaces N s m) hn (by repeat (first | exact fz_nil _ | refine fz_slice _ _ _ _ ?_ | refine fz_int _ _ _ ?_)) rfl
theorem cs_Sizes (hn : 6 ≤ n) : GP (evCall T n) base Q d L ks e (evCall T n false (.fn 44) [.int .i64 N, .int .i64 s, .int .i64 m] h) = GO (evCall T n) base Q L ks ⟨setDst e d (.tuple [longsV (szA N s m).1, .int .i64 (szA N s m).2]), h⟩ :=
  gp_eq (con_Sizes N s m) hn (by repeat (first | exact fz_nil _ | refine fz_slice _ _ _ _ ?_ | refine fz_int _ _ _ ?_)) rfl
theorem cs_refSizes (hn : 2 ≤ n) : GP (evCall T n) base Q d L ks e (evCall T n false (.fn 45) [.int .i64 N, .int .i64 s, .int .i64 m] h) = GO (evCall T n) base Q L ks ⟨setDst e d (.tuple [longsV (szA N s m).1, .int .i64 (szA N s m).2]), h⟩ :=
  gp_eq (con_refSizes N s m) hn (by repeat (first | exact fz_nil _ | refine fz_slice _ _ _ _ ?_ | refine fz_int _ _ _ ?_)) rfl
theorem cs_Back (hn : 6 ≤ n) : GP (evCall T n) base Q d L ks e (evCall T n false (.fn 46) [.int .i64 N, .int .i64 s, .int .i64 m] h) = GO (evCall T n) base Q L ks ⟨setDst e d (.tuple [.int .i64 (bkA N s m).1, .int .i64 (bkA N s m).2]), h⟩ :=
  gp_eq (con_Back N s m) hn (by repeat (first | exact fz_nil _ | refine fz_slice _ _ _ _ ?_ | refine fz_int _ _ _ ?_)) rfl
theorem cs_refBack (hn : 2 ≤ n) : GP (evCall T n) base Q d L ks e (evCall T n false (.fn 47) [.int .i64 N, .int .i64 s, .int .i64 m] h) = GO (evCall T n) base Q L ks ⟨setDst e d (.tuple [.int .i64 (bkA N s m).1, .int .i64 (bkA N s m).2]), h⟩ :=
  gp_eq (con_refBack N s m) hn (by repeat (first | exact fz_nil _ | refine fz_slice _ _ _ _ ?_ | refine fz_int _ _ _ ?_)) rfl
end

theorem pitchChains_at (n0 : Nat) (hn : n0 = 20000) (N s m : Int) : (evFn (evCall T n0) c8 [.int .i64 N, .int .i64 s, .int .i64 m] []).all fun p => p.1 = .bool true := by
  rw [m_fn]
  have h1 := plA_len N s m
  have h2 := szA_len N s m
  simp (disch := first | assumption | omega) only [c8, go_sem, ↓reduceIte, reduceIte, Nat.reduceEqDiff, Nat.reduceAdd, Nat.reduceMul, reduceCtorEq, Nat.reduceDiv, Nat.reduceLeDiff, Nat.reduceLT, Nat.reduceSub, cs_Places, cs_refPlaces, cs_Sizes, cs_refSizes, cs_Back, cs_refBack, cs_Longs, beq_self_eq_true, cs_Works]
def pitchChains_n : Nat := 20000
theorem pitchChains_ev (N s m : Int) (_ : (Lit.int .i64 N).wf = true) (_ : (Lit.int .i64 s).wf = true) (_ : (Lit.int .i64 m).wf = true) : (evFn (evCall T pitchChains_n) c8 [.int .i64 N, .int .i64 s, .int .i64 m] []).all fun p => p.1 = .bool true := pitchChains_at _ rfl N s m

end Go.Ev.YtcghegefcgnhbaaC
