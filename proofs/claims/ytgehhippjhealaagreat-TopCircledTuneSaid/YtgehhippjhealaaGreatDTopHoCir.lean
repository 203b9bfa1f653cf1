/- The law TopCircledTune returns true for every input, and each argument reads as it did. No condition but those that stand in each. -/
import Derived.Test.YtgehhippjhealaaGreatDTopLvCir
import Derived.Test.YtgehhippjhealaaGreatRows
import Derived.Test.YtgehhippjhealaaGreatDTopJfCir
import Derived.WalkKit
import Derived.OpenShut
set_option linter.unusedSimpArgs false
set_option linter.unusedVariables false
namespace Go.Proofs.YtgehhippjhealaaGreat
open Go Go.Ev Go.Ev.YtgehhippjhealaaGreatC Go.ChangeShapes Go.WideShapes Go.ChangeAt Go.RowKit
attribute [local irreducible] Res.all evC Dd Df Br Bh Dj Bd
theorem Xz:ownKnob Tryz.prog.godebug=none:=by kernel_rfl
theorem Sf:laidOutB Tryz.prog=true:=by kernel_rfl
set_option maxRecDepth 100000 in
theorem Ue (os:Os) (started:os.Started) (H:Type) (enc:TypeId×Value->H) :
  ReturnsInHanded {} Tryz.checked os 3 .any (Rows.topCircledTuneSpec.pre6 enc Tryz.prog Tryz.f3 Rows.topCircledTuneRow.domain false) (Rows.topCircledTuneSpec.post enc Tryz.prog Tryz.f3 false true false false):=by
 refine returnsInHanded_of_change (C:=Tryz.checked) Xz started (by kernel_rfl) Tryz.func3
  (ChangeSpec.witness6 (enc:=enc) (C:=Tryz.checked) false ⟨#[],#[.slice none 0 0,.int .u8 0],[]⟩ 8 (by kernel_rfl) (by kernel_rfl) (by kernel_rfl) (by kernel_rfl)) ?_
 intro W base args ds gs before hval0 hW hcnd _
 have hval:∀(j:Nat) t v,Tryz.f3.params[j]? = some t->args[j]? = some v->Value.okWide Tryz.prog W .any base t v:=hval0
 have hW':=hW
 obtain ⟨p,q,hA0,hV,rfl,hfz,hnd⟩:=hW
 have hA:DataW.TrodAll enc Tryz.prog W 0 (fun _=>true) true Tryz.f3.params.toList args.toList ds p:=hA0
 rw [Tryz.params3] at hA hval
 obtain ⟨v0,vs0,d0,ds0,p0,q0,hargs,rfl,rfl,h0,r0⟩:=trodAll_cons hA
 obtain ⟨v1,vs1,d1,ds1,p1,q1,rfl,rfl,rfl,h1,r1⟩:=trodAll_cons r0
 obtain ⟨rfl,rfl,rfl⟩:=trodAll_nil r1
 obtain rfl:args = #[v0,v1]:=by cases args; simp_all
 obtain ⟨a0,g0,w0,m0⟩:=Aev Tryz.underlying22 Tryz.underlying3 (by kernel_rfl) (hval 0 22 v0 rfl rfl) h0
 obtain ⟨a1,e1,_,_,w1⟩:=open_int Tryz.underlying5 (hval 1 5 v1 rfl rfl) h1
 have g1:FR (fun b=>W.heap[b]?) (.int .u8 a1) v1:=by rw [e1]; exact .int
 have hv:∀(i:Nat) x v,[AV.slice none (a0.map (.int .i64)) false,.int .u8 a1][i]? = some x->#[v0,v1][i]? = some v->FR (fun b=>W.heap[b]?) x v:=by
  intro i x v hx hv
  match i,hx,hv with
  | 0,hx,hv=>cases hx; cases hv; exact g0
  | 1,hx,hv=>cases hx; cases hv; exact g1
  | _+2,hx,_=>simp at hx
 refine (Amy Buh (by kernel_rfl) Lg k3 [.slice none (a0.map (.int .i64)) false,.int .u8 a1] #[v0,v1] W rfl hv (A0x a0 a1 w0 m0 w1)).mono fun e W' ⟨he,hb⟩ => ?_
 subst he
 exact ⟨_,rfl,Asq hW' rfl rfl Sf (of_decide_eq_true (by kernel_rfl)) (by kernel_rfl) Tryz.underlying4 hb⟩
theorem topCircledTune_holds:Rows.TopCircledTuneSaid:=
 OpenClaim.holds_of_wide 3 Tryz.f3 rfl rfl rfl rfl rfl rfl rfl ⟨rfl,rfl,rfl,rfl,rfl⟩ rfl rfl rfl rfl rfl (by kernel_rfl) Tryz.func3 Uk
  (of_decide_eq_true (by kernel_rfl)) (by unfold Func.isWrapper; first | (rw [if_pos (by decide +kernel)]; kernel_rfl) | (rw [if_neg (by decide +kernel)]; exact ⟨rfl,rfl⟩))
  (fun os started H enc _=>Ue os started H enc)
end Go.Proofs.YtgehhippjhealaaGreat
