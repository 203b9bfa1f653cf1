/- The law TuneKnown returns true for every input, and each argument reads as it did. No condition. -/
import Derived.Test.YtjcabpldgdafeaaL4LawKnown
import Derived.Test.YtjcabpldgdafeaaEvOpen
import Derived.Test.YtjcabpldgdafeaaRows
import Derived.WalkKit
import Derived.OpenShut
set_option linter.unusedSimpArgs false
set_option linter.unusedVariables false
namespace Go.Proofs.Ytjcabpldgdafeaa
open Go Go.Ev Go.Ev.YtjcabpldgdafeaaC Go.ChangeShapes Go.WideShapes Go.ChangeAt Go.RowKit
attribute [local irreducible] Res.all evC evLoop evOps evOper evOp evFn evCall

theorem tuneKnown_own : ownKnob Try.prog.godebug = none := by kernel_rfl
theorem tuneKnown_laidOut : laidOutB Try.prog = true := by kernel_rfl

set_option maxRecDepth 100000 in
theorem tuneKnown_lifted (os : Os) (started : os.Started) (H : Type) (enc : TypeId × Value → H) :
    ReturnsInHanded {} Try.checked os 14 .any (Rows.tuneKnownSpec.pre6 enc Try.prog Try.f14 Rows.tuneKnownRow.domain false) (Rows.tuneKnownSpec.post enc Try.prog Try.f14 false true false false) := by
  refine returnsInHanded_of_change (C := Try.checked) tuneKnown_own started (by kernel_rfl) Try.func14
    (ChangeSpec.witness6 (enc := enc) (C := Try.checked) false ⟨#[], #[], []⟩ 8 (by kernel_rfl) (by kernel_rfl) (by kernel_rfl) (by kernel_rfl)) ?_
  intro W base args ds gs before hval0 hW hcnd _
  have hval : ∀ (j : Nat) t v, Try.f14.params[j]? = some t → args[j]? = some v → Value.okWide Try.prog W .any base t v := hval0
  have hW' := hW
  obtain ⟨p, q, hA0, hV, rfl, hfz, hnd⟩ := hW
  have hA : DataW.TrodAll enc Try.prog W 0 (fun _ => true) true Try.f14.params.toList args.toList ds p := hA0
  rw [Try.params14] at hA hval
  obtain ⟨hargs, rfl, rfl⟩ := trodAll_nil hA
  obtain rfl : args = #[] := by cases args; simp_all
  have hv : ∀ (i : Nat) x v, ([] : List AV)[i]? = some x → (#[] : Array Value)[i]? = some v → FR (fun b => W.heap[b]?) x v := by
    intro i x v hx
    simp at hx
  refine (calls_law T_ok (by kernel_rfl) tuneKnown_n k14 [] #[] W rfl hv (tuneKnown_ev )).mono fun e W' ⟨he, hb⟩ => ?_
  subst he
  exact ⟨_, rfl, post_law hW' rfl rfl tuneKnown_laidOut (of_decide_eq_true (by kernel_rfl)) (by kernel_rfl) Try.underlying4 hb⟩

theorem tuneKnown_holds : Rows.TuneKnownSaid :=
  OpenClaim.holds_of_wide 14 Try.f14 rfl rfl rfl rfl rfl rfl rfl ⟨rfl, rfl, rfl, rfl, rfl⟩ rfl rfl rfl rfl rfl (by kernel_rfl) Try.func14 (by kernel_rfl)
    (of_decide_eq_true (by kernel_rfl)) (by unfold Func.isWrapper; first | (rw [if_pos (by decide +kernel)]; kernel_rfl) | (rw [if_neg (by decide +kernel)]; exact ⟨rfl, rfl⟩))
    (fun os started H enc _ => tuneKnown_lifted os started H enc)

end Go.Proofs.Ytjcabpldgdafeaa
