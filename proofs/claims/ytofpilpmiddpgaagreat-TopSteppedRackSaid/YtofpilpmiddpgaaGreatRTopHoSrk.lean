/- The law TopSteppedRack returns true for every input, and each argument reads as it did. No condition but those that stand in each. -/
import Derived.Test.YtofpilpmiddpgaaGreatRTopLvSrk
import Derived.Test.YtofpilpmiddpgaaGreatRows
import Derived.Test.YtofpilpmiddpgaaGreatRTopJfSrk
import Derived.WalkKit
import Derived.OpenShut
set_option linter.unusedSimpArgs false
set_option linter.unusedVariables false
namespace Go.Proofs.YtofpilpmiddpgaaGreat
open Go Go.Ev Go.Ev.YtofpilpmiddpgaaGreatC Go.ChangeShapes Go.WideShapes Go.ChangeAt Go.RowKit
attribute [local irreducible] Res.all evC Dd Dg Bo Bf Dl Bg
theorem Vk:ownKnob Tryz.prog.godebug=none:=by kernel_rfl
theorem Nz:laidOutB Tryz.prog=true:=by kernel_rfl
set_option maxRecDepth 100000 in
theorem On (os:Os) (started:os.Started) (H:Type) (enc:TypeId×Value->H) :
  ReturnsInHanded {} Tryz.checked os 4 .any (Rows.topSteppedRackSpec.pre6 enc Tryz.prog Tryz.f4 Rows.topSteppedRackRow.domain false) (Rows.topSteppedRackSpec.post enc Tryz.prog Tryz.f4 false true false false):=by
 refine returnsInHanded_of_change (C:=Tryz.checked) Vk started (by kernel_rfl) Tryz.func4
  (ChangeSpec.witness6 (enc:=enc) (C:=Tryz.checked) false ⟨#[],#[.slice none 0 0],[]⟩ 8 (by kernel_rfl) (by kernel_rfl) (by kernel_rfl) (by kernel_rfl)) ?_
 intro W base args ds gs before hval0 hW hcnd _
 have hval:∀(j:Nat) t v,Tryz.f4.params[j]? = some t->args[j]? = some v->Value.okWide Tryz.prog W .any base t v:=hval0
 have hW':=hW
 obtain ⟨p,q,hA0,hV,rfl,hfz,hnd⟩:=hW
 have hA:DataW.TrodAll enc Tryz.prog W 0 (fun _=>true) true Tryz.f4.params.toList args.toList ds p:=hA0
 rw [Tryz.params4] at hA hval
 obtain ⟨v0,vs0,d0,ds0,p0,q0,hargs,rfl,rfl,h0,r0⟩:=trodAll_cons hA
 obtain ⟨rfl,rfl,rfl⟩:=trodAll_nil r0
 obtain rfl:args = #[v0]:=by cases args; simp_all
 obtain ⟨a0,g0,w0,m0⟩:=A7u Tryz.underlying22 Tryz.underlying3 (by kernel_rfl) (hval 0 22 v0 rfl rfl) h0
 have hv:∀(i:Nat) x v,[AV.slice none (a0.map (.int .i64)) false][i]? = some x->#[v0][i]? = some v->FR (fun b=>W.heap[b]?) x v:=by
  intro i x v hx hv
  match i,hx,hv with
  | 0,hx,hv=>cases hx; cases hv; exact g0
  | _+1,hx,_=>simp at hx
 refine (Acn Bmf (by kernel_rfl) Jr k4 [.slice none (a0.map (.int .i64)) false] #[v0] W rfl hv (Wf a0 w0 m0)).mono fun e W' ⟨he,hb⟩ => ?_
 subst he
 exact ⟨_,rfl,Aid hW' rfl rfl Nz (of_decide_eq_true (by kernel_rfl)) (by kernel_rfl) Tryz.underlying4 hb⟩
theorem topSteppedRack_holds:Rows.TopSteppedRackSaid:=
 OpenClaim.holds_of_wide 4 Tryz.f4 rfl rfl rfl rfl rfl rfl rfl ⟨rfl,rfl,rfl,rfl,rfl⟩ rfl rfl rfl rfl rfl (by kernel_rfl) Tryz.func4 Om
  (of_decide_eq_true (by kernel_rfl)) (by unfold Func.isWrapper; first | (rw [if_pos (by decide +kernel)]; kernel_rfl) | (rw [if_neg (by decide +kernel)]; exact ⟨rfl,rfl⟩))
  (fun os started H enc _=>On os started H enc)
end Go.Proofs.YtofpilpmiddpgaaGreat
