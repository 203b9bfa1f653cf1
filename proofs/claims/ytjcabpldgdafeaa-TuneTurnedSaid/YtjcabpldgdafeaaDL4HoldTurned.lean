/- The law TuneTurned returns true for every input, and each argument reads as it did. No condition but those that stand in each. -/
import Derived.Test.YtjcabpldgdafeaaDL4LawTurned
import Derived.Test.YtjcabpldgdafeaaRows
import Derived.WalkKit
import Derived.OpenShut
set_option linter.unusedSimpArgs false
set_option linter.unusedVariables false
namespace Go.Proofs.Ytjcabpldgdafeaa
open Go Go.Ev Go.Ev.YtjcabpldgdafeaaC Go.ChangeShapes Go.WideShapes Go.ChangeAt Go.RowKit
attribute [local irreducible] Res.all evC evLoop evOps evOper evOp evFn evCall
theorem tuneTurned_own : ownKnob Try.prog.godebug = none := by kernel_rfl
theorem tuneTurned_laidOut : laidOutB Try.prog = true := by kernel_rfl
set_option maxRecDepth 100000 in
theorem tuneTurned_lifted (os : Os) (started : os.Started) (H : Type) (enc : TypeId × Value → H) :
  ReturnsInHanded {} Try.checked os 10 .any (Rows.tuneTurnedSpec.pre6 enc Try.prog Try.f10 Rows.tuneTurnedRow.domain false) (Rows.tuneTurnedSpec.post enc Try.prog Try.f10 false true false false) := by
 refine returnsInHanded_of_change (C := Try.checked) tuneTurned_own started (by kernel_rfl) Try.func10
  (ChangeSpec.witness6 (enc := enc) (C := Try.checked) false ⟨#[], #[.agg #[.int .i64 0, .slice none 0 0], .int .u8 0, .int .u8 0], []⟩ 8 (by kernel_rfl) (by kernel_rfl) (by kernel_rfl) (by kernel_rfl)) ?_
 intro W base args ds gs before hval0 hW hcnd _
 have hval : ∀ (j : Nat) t v, Try.f10.params[j]? = some t → args[j]? = some v → Value.okWide Try.prog W .any base t v := hval0
 have hW' := hW
 obtain ⟨p, q, hA0, hV, rfl, hfz, hnd⟩ := hW
 have hA : DataW.TrodAll enc Try.prog W 0 (fun _ => true) true Try.f10.params.toList args.toList ds p := hA0
 rw [Try.params10] at hA hval
 obtain ⟨v0, vs0, d0, ds0, p0, q0, hargs, rfl, rfl, h0, r0⟩ := trodAll_cons hA
 obtain ⟨v1, vs1, d1, ds1, p1, q1, rfl, rfl, rfl, h1, r1⟩ := trodAll_cons r0
 obtain ⟨v2, vs2, d2, ds2, p2, q2, rfl, rfl, rfl, h2, r2⟩ := trodAll_cons r1
 obtain ⟨rfl, rfl, rfl⟩ := trodAll_nil r2
 obtain rfl : args = #[v0, v1, v2] := by cases args; simp_all
 obtain ⟨a0, g0, w0⟩ := open_book (hval 0 24 v0 rfl rfl) h0
 obtain ⟨a1, e1, _, _, w1⟩ := open_int Try.underlying5 (hval 1 5 v1 rfl rfl) h1
 have g1 : FR (fun b => W.heap[b]?) (.int .u8 a1) v1 := by rw [e1]; exact .int
 obtain ⟨a2, e2, _, _, w2⟩ := open_int Try.underlying5 (hval 2 5 v2 rfl rfl) h2
 have g2 : FR (fun b => W.heap[b]?) (.int .u8 a2) v2 := by rw [e2]; exact .int
 have hv : ∀ (i : Nat) x v, [bkA a0, .int .u8 a1, .int .u8 a2][i]? = some x → #[v0, v1, v2][i]? = some v → FR (fun b => W.heap[b]?) x v := by
  intro i x v hx hv
  match i, hx, hv with
  | 0, hx, hv => cases hx; cases hv; exact g0
  | 1, hx, hv => cases hx; cases hv; exact g1
  | 2, hx, hv => cases hx; cases hv; exact g2
  | _ + 3, hx, _ => simp at hx
 refine (calls_law T_ok (by kernel_rfl) tuneTurned_n k10 [bkA a0, .int .u8 a1, .int .u8 a2] #[v0, v1, v2] W rfl hv (tuneTurned_ev a0 a1 a2 w0 w1 w2)).mono fun e W' ⟨he, hb⟩ => ?_
 subst he
 exact ⟨_, rfl, post_law hW' rfl rfl tuneTurned_laidOut (of_decide_eq_true (by kernel_rfl)) (by kernel_rfl) Try.underlying4 hb⟩
theorem tuneTurned_holds : Rows.TuneTurnedSaid :=
 OpenClaim.holds_of_wide 10 Try.f10 rfl rfl rfl rfl rfl rfl rfl ⟨rfl, rfl, rfl, rfl, rfl⟩ rfl rfl rfl rfl rfl (by kernel_rfl) Try.func10 (by kernel_rfl)
  (of_decide_eq_true (by kernel_rfl)) (by unfold Func.isWrapper; first | (rw [if_pos (by decide +kernel)]; kernel_rfl) | (rw [if_neg (by decide +kernel)]; exact ⟨rfl, rfl⟩))
  (fun os started H enc _ => tuneTurned_lifted os started H enc)
end Go.Proofs.Ytjcabpldgdafeaa
