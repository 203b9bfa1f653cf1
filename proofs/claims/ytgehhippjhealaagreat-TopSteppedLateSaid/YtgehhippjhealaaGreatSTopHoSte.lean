/- The law TopSteppedLate returns true for every input, and each argument reads as it did. No condition but those that stand in each. -/
import Derived.Test.YtgehhippjhealaaGreatSTopLvSte
import Derived.Test.YtgehhippjhealaaGreatRows
import Derived.Test.YtgehhippjhealaaGreatSTopJfSte
import Derived.WalkKit
import Derived.OpenShut
set_option linter.unusedSimpArgs false
set_option linter.unusedVariables false
namespace Go.Proofs.YtgehhippjhealaaGreat
open Go Go.Ev Go.Ev.YtgehhippjhealaaGreatC Go.ChangeShapes Go.WideShapes Go.ChangeAt Go.RowKit
open Go.Ev.YtgehhippjhealaaGreatC.P5 (Order ocells OWf)
attribute [local irreducible] Res.all evC evLoop evOps evOper evOp evFn evCall
theorem topSteppedLate_own : ownKnob Tryz.prog.godebug = none := by kernel_rfl
theorem topSteppedLate_laidOut : laidOutB Tryz.prog = true := by kernel_rfl
set_option maxRecDepth 100000 in
theorem topSteppedLate_lifted (os : Os) (started : os.Started) (H : Type) (enc : TypeId × Value → H) :
  ReturnsInHanded {} Tryz.checked os 4 .any (Rows.topSteppedLateSpec.pre6 enc Tryz.prog Tryz.f4 Rows.topSteppedLateRow.domain false) (Rows.topSteppedLateSpec.post enc Tryz.prog Tryz.f4 false true false false) := by
 refine returnsInHanded_of_change (C := Tryz.checked) topSteppedLate_own started (by kernel_rfl) Tryz.func4
  (ChangeSpec.witness6 (enc := enc) (C := Tryz.checked) false ⟨#[], #[.slice none 0 0, .slice none 0 0, .bool false], []⟩ 8 (by kernel_rfl) (by kernel_rfl) (by kernel_rfl) (by kernel_rfl)) ?_
 intro W base args ds gs before hval0 hW hcnd _
 have hval : ∀ (j : Nat) t v, Tryz.f4.params[j]? = some t → args[j]? = some v → Value.okWide Tryz.prog W .any base t v := hval0
 have hW' := hW
 obtain ⟨p, q, hA0, hV, rfl, hfz, hnd⟩ := hW
 have hA : DataW.TrodAll enc Tryz.prog W 0 (fun _ => true) true Tryz.f4.params.toList args.toList ds p := hA0
 rw [Tryz.params4] at hA hval
 obtain ⟨v0, vs0, d0, ds0, p0, q0, hargs, rfl, rfl, h0, r0⟩ := trodAll_cons hA
 obtain ⟨v1, vs1, d1, ds1, p1, q1, rfl, rfl, rfl, h1, r1⟩ := trodAll_cons r0
 obtain ⟨v2, vs2, d2, ds2, p2, q2, rfl, rfl, rfl, h2, r2⟩ := trodAll_cons r1
 obtain ⟨rfl, rfl, rfl⟩ := trodAll_nil r2
 obtain rfl : args = #[v0, v1, v2] := by cases args; simp_all
 obtain ⟨a0, g0, w0, m0⟩ := open_rows (some 3) ocells OWf Tryz.underlying43 (by kernel_rfl) (by simp [gsize]) (fun fuel cs x hx => open_order hx) (hval 0 43 v0 rfl rfl) h0
 obtain ⟨a1, g1, w1, m1⟩ := open_intsFR Tryz.underlying44 Tryz.underlying5 (by kernel_rfl) (hval 1 44 v1 rfl rfl) h1
 obtain ⟨a2, e2, _, _⟩ := open_bool Tryz.underlying4 (hval 2 4 v2 rfl rfl) h2
 have g2 : FR (fun b => W.heap[b]?) (.bool a2) v2 := by rw [e2]; exact .bool
 have hv : ∀ (i : Nat) x v, [AV.slice (some 3) (a0.map fun a => rowAV (some 3) (ocells a)) false, .slice none (a1.map (.int .u8)) false, .bool a2][i]? = some x → #[v0, v1, v2][i]? = some v → FR (fun b => W.heap[b]?) x v := by
  intro i x v hx hv
  match i, hx, hv with
  | 0, hx, hv => cases hx; cases hv; exact g0
  | 1, hx, hv => cases hx; cases hv; exact g1
  | 2, hx, hv => cases hx; cases hv; exact g2
  | _ + 3, hx, _ => simp at hx
 refine (calls_law T_ok (by kernel_rfl) topSteppedLate_n k4 [.slice (some 3) (a0.map fun a => rowAV (some 3) (ocells a)) false, .slice none (a1.map (.int .u8)) false, .bool a2] #[v0, v1, v2] W rfl hv (topSteppedLate_ev a0 a1 a2 w0 m0 w1 m1)).mono fun e W' ⟨he, hb⟩ => ?_
 subst he
 exact ⟨_, rfl, post_law hW' rfl rfl topSteppedLate_laidOut (of_decide_eq_true (by kernel_rfl)) (by kernel_rfl) Tryz.underlying4 hb⟩
theorem topSteppedLate_holds : Rows.TopSteppedLateSaid :=
 OpenClaim.holds_of_wide 4 Tryz.f4 rfl rfl rfl rfl rfl rfl rfl ⟨rfl, rfl, rfl, rfl, rfl⟩ rfl rfl rfl rfl rfl (by kernel_rfl) Tryz.func4 topSteppedLate_joined
  (of_decide_eq_true (by kernel_rfl)) (by unfold Func.isWrapper; first | (rw [if_pos (by decide +kernel)]; kernel_rfl) | (rw [if_neg (by decide +kernel)]; exact ⟨rfl, rfl⟩))
  (fun os started H enc _ => topSteppedLate_lifted os started H enc)
end Go.Proofs.YtgehhippjhealaaGreat
