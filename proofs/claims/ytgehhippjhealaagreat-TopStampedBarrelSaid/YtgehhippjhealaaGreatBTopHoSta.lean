/- The law TopStampedBarrel returns true for every input, and each argument reads as it did. No condition but those that stand in each. -/
import Derived.Test.YtgehhippjhealaaGreatBTopLvSta
import Derived.Test.YtgehhippjhealaaGreatRows
import Derived.Test.YtgehhippjhealaaGreatBTopJfSta
import Derived.WalkKit
import Derived.OpenShut
set_option linter.unusedSimpArgs false
set_option linter.unusedVariables false
namespace Go.Proofs.YtgehhippjhealaaGreat
open Go Go.Ev Go.Ev.YtgehhippjhealaaGreatC Go.ChangeShapes Go.WideShapes Go.ChangeAt Go.RowKit
attribute [local irreducible] Res.all evC Df Dh Bq Bh Dn Bf
theorem Qm:ownKnob Tryz.prog.godebug=none:=by kernel_rfl
theorem Mq:laidOutB Tryz.prog=true:=by kernel_rfl
set_option maxRecDepth 100000 in
theorem My (os:Os) (started:os.Started) (H:Type) (enc:TypeId×Value->H) :
  ReturnsInHanded {} Tryz.checked os 6 .any (Rows.topStampedBarrelSpec.pre6 enc Tryz.prog Tryz.f6 Rows.topStampedBarrelRow.domain false) (Rows.topStampedBarrelSpec.post enc Tryz.prog Tryz.f6 false true false false):=by
 refine returnsInHanded_of_change (C:=Tryz.checked) Qm started (by kernel_rfl) Tryz.func6
  (ChangeSpec.witness6 (enc:=enc) (C:=Tryz.checked) false ⟨#[],#[.slice none 0 0,.int .u32 0,.int .u32 0],[]⟩ 8 (by kernel_rfl) (by kernel_rfl) (by kernel_rfl) (by kernel_rfl)) ?_
 intro W base args ds gs before hval0 hW hcnd _
 have hval:∀(j:Nat) t v,Tryz.f6.params[j]? = some t->args[j]? = some v->Value.okWide Tryz.prog W .any base t v:=hval0
 have hW':=hW
 obtain ⟨p,q,hA0,hV,rfl,hfz,hnd⟩:=hW
 have hA:DataW.TrodAll enc Tryz.prog W 0 (fun _=>true) true Tryz.f6.params.toList args.toList ds p:=hA0
 rw [Tryz.params6] at hA hval
 obtain ⟨v0,vs0,d0,ds0,p0,q0,hargs,rfl,rfl,h0,r0⟩:=trodAll_cons hA
 obtain ⟨v1,vs1,d1,ds1,p1,q1,rfl,rfl,rfl,h1,r1⟩:=trodAll_cons r0
 obtain ⟨v2,vs2,d2,ds2,p2,q2,rfl,rfl,rfl,h2,r2⟩:=trodAll_cons r1
 obtain ⟨rfl,rfl,rfl⟩:=trodAll_nil r2
 obtain rfl:args = #[v0,v1,v2]:=by cases args; simp_all
 obtain ⟨a0,g0,w0,m0⟩:=A6n Tryz.underlying22 Tryz.underlying3 (by kernel_rfl) (hval 0 22 v0 rfl rfl) h0
 obtain ⟨a1,e1,_,_,w1⟩:=open_int Tryz.underlying66 (hval 1 66 v1 rfl rfl) h1
 have g1:FR (fun b=>W.heap[b]?) (.int .u32 a1) v1:=by rw [e1]; exact .int
 obtain ⟨a2,e2,_,_,w2⟩:=open_int Tryz.underlying66 (hval 2 66 v2 rfl rfl) h2
 have g2:FR (fun b=>W.heap[b]?) (.int .u32 a2) v2:=by rw [e2]; exact .int
 have hv:∀(i:Nat) x v,[AV.slice none (a0.map (.int .i64)) false,.int .u32 a1,.int .u32 a2][i]? = some x->#[v0,v1,v2][i]? = some v->FR (fun b=>W.heap[b]?) x v:=by
  intro i x v hx hv
  match i,hx,hv with
  | 0,hx,hv=>cases hx; cases hv; exact g0
  | 1,hx,hv=>cases hx; cases hv; exact g1
  | 2,hx,hv=>cases hx; cases hv; exact g2
  | _+3,hx,_=>simp at hx
 refine (Adf B6l (by kernel_rfl) Ic k6 [.slice none (a0.map (.int .i64)) false,.int .u32 a1,.int .u32 a2] #[v0,v1,v2] W rfl hv (Sn a0 a1 a2 w0 m0 w1 w2)).mono fun e W' ⟨he,hb⟩ => ?_
 subst he
 exact ⟨_,rfl,Ahc hW' rfl rfl Mq (of_decide_eq_true (by kernel_rfl)) (by kernel_rfl) Tryz.underlying4 hb⟩
theorem topStampedBarrel_holds:Rows.TopStampedBarrelSaid:=
 OpenClaim.holds_of_wide 6 Tryz.f6 rfl rfl rfl rfl rfl rfl rfl ⟨rfl,rfl,rfl,rfl,rfl⟩ rfl rfl rfl rfl rfl (by kernel_rfl) Tryz.func6 Mz
  (of_decide_eq_true (by kernel_rfl)) (by unfold Func.isWrapper; first | (rw [if_pos (by decide +kernel)]; kernel_rfl) | (rw [if_neg (by decide +kernel)]; exact ⟨rfl,rfl⟩))
  (fun os started H enc _=>My os started H enc)
end Go.Proofs.YtgehhippjhealaaGreat
