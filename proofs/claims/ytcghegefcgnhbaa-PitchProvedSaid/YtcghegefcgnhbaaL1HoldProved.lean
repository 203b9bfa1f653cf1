/- The law PitchProved returns true for every input, and each argument reads as it did. No condition. -/
import Derived.Test.YtcghegefcgnhbaaL1LawProved
import Derived.Test.YtcghegefcgnhbaaRows
import Derived.WalkKit
import Derived.OpenShut
set_option linter.unusedSimpArgs false
set_option linter.unusedVariables false
namespace Go.Proofs.Ytcghegefcgnhbaa
open Go Go.Ev Go.Ev.YtcghegefcgnhbaaC Go.ChangeShapes Go.WideShapes Go.ChangeAt Go.RowKit
attribute [local irreducible] Res.all evC evLoop evOps evOper evOp evFn evCall

theorem pitchProved_own : ownKnob Try.prog.godebug = none := by kernel_rfl
theorem pitchProved_laidOut : laidOutB Try.prog = true := by kernel_rfl

set_option maxRecDepth 100000 in
theorem pitchProved_lifted (os : Os) (started : os.Started) (H : Type) (enc : TypeId × Value → H) :
    ReturnsInHanded {} Try.checked os 9 .any (Rows.pitchProvedSpec.pre6 enc Try.prog Try.f9 Rows.pitchProvedRow.domain false) (Rows.pitchProvedSpec.post enc Try.prog Try.f9 false true false false) := by
  refine returnsInHanded_of_change (C := Try.checked) pitchProved_own started (by kernel_rfl) Try.func9
    (ChangeSpec.witness6 (enc := enc) (C := Try.checked) false ⟨#[], #[.agg #[.int .i64 0, .int .i64 0], .agg #[.int .i64 0, .int .i64 0], .agg #[.int .i64 0, .int .i64 0], .int .u16 0, .int .u16 0, .int .u16 0], []⟩ 8 (by kernel_rfl) (by kernel_rfl) (by kernel_rfl) (by kernel_rfl)) ?_
  intro W base args ds gs before hval0 hW hcnd _
  have hval : ∀ (j : Nat) t v, Try.f9.params[j]? = some t → args[j]? = some v → Value.okWide Try.prog W .any base t v := hval0
  have hW' := hW
  obtain ⟨p, q, hA0, hV, rfl, hfz, hnd⟩ := hW
  have hA : DataW.TrodAll enc Try.prog W 0 (fun _ => true) true Try.f9.params.toList args.toList ds p := hA0
  rw [Try.params9] at hA hval
  obtain ⟨v0, vs0, d0, ds0, p0, q0, hargs, rfl, rfl, h0, r0⟩ := trodAll_cons hA
  obtain ⟨v1, vs1, d1, ds1, p1, q1, rfl, rfl, rfl, h1, r1⟩ := trodAll_cons r0
  obtain ⟨v2, vs2, d2, ds2, p2, q2, rfl, rfl, rfl, h2, r2⟩ := trodAll_cons r1
  obtain ⟨v3, vs3, d3, ds3, p3, q3, rfl, rfl, rfl, h3, r3⟩ := trodAll_cons r2
  obtain ⟨v4, vs4, d4, ds4, p4, q4, rfl, rfl, rfl, h4, r4⟩ := trodAll_cons r3
  obtain ⟨v5, vs5, d5, ds5, p5, q5, rfl, rfl, rfl, h5, r5⟩ := trodAll_cons r4
  obtain ⟨rfl, rfl, rfl⟩ := trodAll_nil r5
  obtain rfl : args = #[v0, v1, v2, v3, v4, v5] := by cases args; simp_all
  obtain ⟨a0, g0, w0⟩ := open_struct rcells RWf Try.underlying23 (fun fuel cs x hx => open_ratio hx) (hval 0 23 v0 rfl rfl) h0
  obtain ⟨a1, g1, w1⟩ := open_struct rcells RWf Try.underlying23 (fun fuel cs x hx => open_ratio hx) (hval 1 23 v1 rfl rfl) h1
  obtain ⟨a2, g2, w2⟩ := open_struct rcells RWf Try.underlying23 (fun fuel cs x hx => open_ratio hx) (hval 2 23 v2 rfl rfl) h2
  obtain ⟨a3, e3, _, _, w3⟩ := open_int Try.underlying49 (hval 3 49 v3 rfl rfl) h3
  have g3 : FR (fun b => W.heap[b]?) (.int .u16 a3) v3 := by rw [e3]; exact .int
  obtain ⟨a4, e4, _, _, w4⟩ := open_int Try.underlying49 (hval 4 49 v4 rfl rfl) h4
  have g4 : FR (fun b => W.heap[b]?) (.int .u16 a4) v4 := by rw [e4]; exact .int
  obtain ⟨a5, e5, _, _, w5⟩ := open_int Try.underlying49 (hval 5 49 v5 rfl rfl) h5
  have g5 : FR (fun b => W.heap[b]?) (.int .u16 a5) v5 := by rw [e5]; exact .int
  have hv : ∀ (i : Nat) x v, [AV.agg (ivs (rcells a0)), .agg (ivs (rcells a1)), .agg (ivs (rcells a2)), .int .u16 a3, .int .u16 a4, .int .u16 a5][i]? = some x → #[v0, v1, v2, v3, v4, v5][i]? = some v → FR (fun b => W.heap[b]?) x v := by
    intro i x v hx hv
    match i, hx, hv with
    | 0, hx, hv => cases hx; cases hv; exact g0
    | 1, hx, hv => cases hx; cases hv; exact g1
    | 2, hx, hv => cases hx; cases hv; exact g2
    | 3, hx, hv => cases hx; cases hv; exact g3
    | 4, hx, hv => cases hx; cases hv; exact g4
    | 5, hx, hv => cases hx; cases hv; exact g5
    | _ + 6, hx, _ => simp at hx
  refine (calls_law T_ok (by kernel_rfl) pitchProved_n k9 [.agg (ivs (rcells a0)), .agg (ivs (rcells a1)), .agg (ivs (rcells a2)), .int .u16 a3, .int .u16 a4, .int .u16 a5] #[v0, v1, v2, v3, v4, v5] W rfl hv (pitchProved_ev a0 a1 a2 a3 a4 a5 w0 w1 w2 w3 w4 w5)).mono fun e W' ⟨he, hb⟩ => ?_
  subst he
  exact ⟨_, rfl, post_law hW' rfl rfl pitchProved_laidOut (of_decide_eq_true (by kernel_rfl)) (by kernel_rfl) Try.underlying4 hb⟩

theorem pitchProved_holds : Rows.PitchProvedSaid :=
  OpenClaim.holds_of_wide 9 Try.f9 rfl rfl rfl rfl rfl rfl rfl ⟨rfl, rfl, rfl, rfl, rfl⟩ rfl rfl rfl rfl rfl (by kernel_rfl) Try.func9 (by kernel_rfl)
    (of_decide_eq_true (by kernel_rfl)) (by unfold Func.isWrapper; first | (rw [if_pos (by decide +kernel)]; kernel_rfl) | (rw [if_neg (by decide +kernel)]; exact ⟨rfl, rfl⟩))
    (fun os started H enc _ => pitchProved_lifted os started H enc)

end Go.Proofs.Ytcghegefcgnhbaa
