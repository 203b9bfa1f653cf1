/- Whether notes prove that there is no tune, the program's and the reference's. No condition but those that stand in each. -/
import Derived.Test.YtjcabpldgdafeaaDL4Std
set_option linter.unusedSimpArgs false
set_option linter.unusedVariables false
namespace Go.Ev.YtjcabpldgdafeaaC
open Go Go.Proofs Go.Ev
attribute [local irreducible] Res.all evC evLoop evOps evOper evOp evFn evCall freeze G GO GV GP GC R
set_option maxRecDepth 100000
section
variable {n base : Nat} {Q : EX × St → Prop} {d : Option Nat} {L : List IOper} {ks : List Kont} {e : Env} {h : Heap}
theorem cs_refOk {N : Nat} {es : List Ed} {x : Bool} (hn : 2 ≤ n) (hk : OkB N es) : GP (evCall T n) base Q d L ks e (evCall T n false (.fn 20) [.agg [.int .i64 N, .slice (some 2) (es.map edA) x]] h) = GO (evCall T n) base Q L ks ⟨setDst e d (.int .i64 0), h⟩ := by
 have := con_refCheck (bkN N es) (by have := hk.le; simp [bkN]; omega)
 rw [bkN_A, ok_chk hk] at this
 exact gp_eq this hn (fz_cons (frz_agg (mz_cons (frz_int _ _ _ _) (mz_cons (frz_slice _ _ _ _ _) (mz_nil _ _)))) (fz_nil _)) (or_pi _ _ _)
end
def srN (N : Nat) (s : Nat → Int) : List Int := (List.range N).map s
theorem srN_len (N : Nat) (s : Nat → Int) : (srN N s).length = N := by simp [srN]
theorem srN_get {N : Nat} (s : Nat → Int) {v : Nat} (h : v < N) : ((srN N s).map (AV.int .i64))[v]? = some (.int .i64 (s v)) := by
 unfold srN
 rw [List.map_map]
 exact range_get N v _ h
theorem srN_set {N : Nat} (s : Nat → Int) {v : Nat} (h : v < N) (a : Int) : ((srN N s).map (AV.int .i64)).set v (.int .i64 a) = (srN N fun y => if y = v then a else s y).map (AV.int .i64) := by
 unfold srN
 rw [List.map_map, List.map_map, set_range]
 apply List.map_congr_left
 intro b _
 simp only [Function.comp]
 split <;> rfl
end Go.Ev.YtjcabpldgdafeaaC
namespace Go.Ev.YtjcabpldgdafeaaC
open Go Go.Proofs Go.Ev
attribute [local irreducible] Res.all evC evLoop evOps evOper evOp evFn evCall freeze G GO GV GP GC R
set_option maxRecDepth 100000
end Go.Ev.YtjcabpldgdafeaaC
