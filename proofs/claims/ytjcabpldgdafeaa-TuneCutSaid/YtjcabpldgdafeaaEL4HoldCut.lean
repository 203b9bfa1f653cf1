/- The law TuneCut returns true for every input, and each argument reads as it did. No condition but those that stand in each. -/
import Derived.Test.YtjcabpldgdafeaaEL4LawCut
import Derived.Test.YtjcabpldgdafeaaRows
import Derived.WalkKit
import Derived.OpenShut
set_option linter.unusedSimpArgs false
set_option linter.unusedVariables false
namespace Go.Proofs.Ytjcabpldgdafeaa
open Go Go.Ev Go.Ev.YtjcabpldgdafeaaC Go.ChangeShapes Go.WideShapes Go.ChangeAt Go.RowKit
attribute [local irreducible] Res.all evC evLoop evOps evOper evOp evFn evCall
theorem tuneCut_own : ownKnob Try.prog.godebug = none := by kernel_rfl
theorem tuneCut_laidOut : laidOutB Try.prog = true := by kernel_rfl
set_option maxRecDepth 100000 in
theorem tuneCut_lifted (os : Os) (started : os.Started) (H : Type) (enc : TypeId × Value → H) :
  ReturnsInHanded {} Try.checked os 11 .any (Rows.tuneCutSpec.pre6 enc Try.prog Try.f11 Rows.tuneCutRow.domain false) (Rows.tuneCutSpec.post enc Try.prog Try.f11 false true false false) := by
 refine returnsInHanded_of_change (C := Try.checked) tuneCut_own started (by kernel_rfl) Try.func11
  (ChangeSpec.witness6 (enc := enc) (C := Try.checked) false ⟨#[], #[.agg #[.int .i64 0, .slice none 0 0]], []⟩ 8 (by kernel_rfl) (by kernel_rfl) (by kernel_rfl) (by kernel_rfl)) ?_
 intro W base args ds gs before hval0 hW hcnd _
 have hval : ∀ (j : Nat) t v, Try.f11.params[j]? = some t → args[j]? = some v → Value.okWide Try.prog W .any base t v := hval0
 have hW' := hW
 obtain ⟨p, q, hA0, hV, rfl, hfz, hnd⟩ := hW
 have hA : DataW.TrodAll enc Try.prog W 0 (fun _ => true) true Try.f11.params.toList args.toList ds p := hA0
 rw [Try.params11] at hA hval
 obtain ⟨v0, vs0, d0, ds0, p0, q0, hargs, rfl, rfl, h0, r0⟩ := trodAll_cons hA
 obtain ⟨rfl, rfl, rfl⟩ := trodAll_nil r0
 obtain rfl : args = #[v0] := by cases args; simp_all
 obtain ⟨a0, g0, w0⟩ := open_book (hval 0 24 v0 rfl rfl) h0
 have hv : ∀ (i : Nat) x v, [bkA a0][i]? = some x → #[v0][i]? = some v → FR (fun b => W.heap[b]?) x v := by
  intro i x v hx hv
  match i, hx, hv with
  | 0, hx, hv => cases hx; cases hv; exact g0
  | _ + 1, hx, _ => simp at hx
 refine (calls_law T_ok (by kernel_rfl) tuneCut_n k11 [bkA a0] #[v0] W rfl hv (tuneCut_ev a0 w0)).mono fun e W' ⟨he, hb⟩ => ?_
 subst he
 exact ⟨_, rfl, post_law hW' rfl rfl tuneCut_laidOut (of_decide_eq_true (by kernel_rfl)) (by kernel_rfl) Try.underlying4 hb⟩
theorem tuneCut_holds : Rows.TuneCutSaid :=
 OpenClaim.holds_of_wide 11 Try.f11 rfl rfl rfl rfl rfl rfl rfl ⟨rfl, rfl, rfl, rfl, rfl⟩ rfl rfl rfl rfl rfl (by kernel_rfl) Try.func11 (by kernel_rfl)
  (of_decide_eq_true (by kernel_rfl)) (by unfold Func.isWrapper; first | (rw [if_pos (by decide +kernel)]; kernel_rfl) | (rw [if_neg (by decide +kernel)]; exact ⟨rfl, rfl⟩))
  (fun os started H enc _ => tuneCut_lifted os started H enc)
end Go.Proofs.Ytjcabpldgdafeaa
