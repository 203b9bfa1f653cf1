/- The law TuneEither answers true: either there is a tune, or notes prove that there is none. No condition but those that stand in each. -/
import Derived.Test.YtjcabpldgdafeaaDL4Fn7
import Derived.Test.YtjcabpldgdafeaaDL4Tnl
import Derived.Test.YtjcabpldgdafeaaDL4LawProofs
set_option linter.unusedSimpArgs false
set_option linter.unusedVariables false
namespace Go.Ev.YtjcabpldgdafeaaC
open Go Go.Proofs
theorem small8 {n : Int} (h : (Lit.int .u8 n).wf = true) : ∃ m : Nat, n = (m : Int) ∧ m < 256 := by
 simp only [Lit.wf, IntKind.wrap, IntKind.bits, IntKind.signed, beq_iff_eq] at h
 have a1 : IntKind.u8.min = 0 := rfl
 have a2 : IntKind.u8.max = 255 := rfl
 simp at h
 exact ⟨n.toNat, by omega, by omega⟩
attribute [local irreducible] Res.all evC evLoop evOps evOper evOp evFn evCall freeze G GO GV GP GC R
set_option maxRecDepth 100000
end Go.Ev.YtjcabpldgdafeaaC
