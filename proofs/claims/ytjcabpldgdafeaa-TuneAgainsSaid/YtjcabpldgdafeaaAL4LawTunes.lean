/- The law TuneTunes answers true; whether books are too great for a law, and whether lists are equal. No condition but those that stand in each. -/
import Derived.Test.YtjcabpldgdafeaaAL4Fn4
import Derived.Test.YtjcabpldgdafeaaAL4Tune
import Derived.Test.YtjcabpldgdafeaaAL4Works
set_option linter.unusedSimpArgs false
set_option linter.unusedVariables false
namespace Go.Ev.YtjcabpldgdafeaaC
open Go Go.Proofs
attribute [local irreducible] Res.all evC evLoop evOps evOper evOp evFn evCall freeze G GO GV GP GC R
set_option maxRecDepth 100000
section
variable {n base : Nat} {Q : EX × St → Prop} {d : Option Nat} {L : List IOper} {ks : List Kont} {e : Env} {h : Heap}
theorem gp_bk {k f : Nat} {b : Bk} {r : AV} {x : Bool} (hc : Con T k f [bkA b] r) (hk : k ≤ n) : GP (evCall T n) base Q d L ks e (evCall T n false (.fn f) [.agg [.int .i64 b.notes, .slice (some 2) (b.slurs.map pA) x]] h) = GO (evCall T n) base Q L ks ⟨setDst e d r, h⟩ :=
 gp_eq hc hk (fz_cons (frz_agg (mz_cons (frz_int _ _ _ _) (mz_cons (frz_slice _ _ _ _ _) (mz_nil _ _)))) (fz_nil _)) rfl
theorem gp_bkI {k f : Nat} {b : Bk} {r : AV} {x y : Bool} {l : List Int} (hc : Con T k f [bkA b, ints l] r) (hk : k ≤ n) : GP (evCall T n) base Q d L ks e (evCall T n false (.fn f) [.agg [.int .i64 b.notes, .slice (some 2) (b.slurs.map pA) x], .slice none (l.map (.int .i64)) y] h) = GO (evCall T n) base Q L ks ⟨setDst e d r, h⟩ :=
 gp_eq hc hk (fz_cons (frz_agg (mz_cons (frz_int _ _ _ _) (mz_cons (frz_slice _ _ _ _ _) (mz_nil _ _)))) (fz_slice _ _ _ _ (fz_nil _))) rfl
end
end Go.Ev.YtjcabpldgdafeaaC
