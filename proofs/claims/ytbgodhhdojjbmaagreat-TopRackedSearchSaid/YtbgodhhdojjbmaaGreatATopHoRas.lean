/- The law TopRackedSearch returns true for every input, and each argument reads as it did. No condition but those that stand in each. -/
import Derived.Test.YtbgodhhdojjbmaaGreatATopLvRas
import Derived.Test.YtbgodhhdojjbmaaGreatRows
import Derived.Test.YtbgodhhdojjbmaaGreatATopJfRas
import Derived.WalkKit
import Derived.OpenShut
set_option linter.unusedSimpArgs false
set_option linter.unusedVariables false
namespace Go.Proofs.YtbgodhhdojjbmaaGreat
open Go Go.Ev Go.Ev.YtbgodhhdojjbmaaGreatC Go.ChangeShapes Go.WideShapes Go.ChangeAt Go.RowKit
attribute [local irreducible] Res.all evC Do Dr Bv Bd Dw Bg
theorem Vs:ownKnob Tryz.prog.godebug=none:=by kernel_rfl
theorem Ou:laidOutB Tryz.prog=true:=by kernel_rfl
set_option maxRecDepth 100000 in
theorem Ra (os:Os) (started:os.Started) (H:Type) (enc:TypeId×Value->H) :
  ReturnsInHanded {} Tryz.checked os 4 .any (Rows.topRackedSearchSpec.pre6 enc Tryz.prog Tryz.f4 Rows.topRackedSearchRow.domain false) (Rows.topRackedSearchSpec.post enc Tryz.prog Tryz.f4 false true false false):=by
 refine returnsInHanded_of_change (C:=Tryz.checked) Vs started (by kernel_rfl) Tryz.func4
  (ChangeSpec.witness6 (enc:=enc) (C:=Tryz.checked) false ⟨#[],#[.int .u8 0,.slice none 0 0],[]⟩ 8 (by kernel_rfl) (by kernel_rfl) (by kernel_rfl) (by kernel_rfl)) ?_
 intro W base args ds gs before hval0 hW hcnd _
 have hval:∀(j:Nat) t v,Tryz.f4.params[j]? = some t->args[j]? = some v->Value.okWide Tryz.prog W .any base t v:=hval0
 have hW':=hW
 obtain ⟨p,q,hA0,hV,rfl,hfz,hnd⟩:=hW
 have hA:DataW.TrodAll enc Tryz.prog W 0 (fun _=>true) true Tryz.f4.params.toList args.toList ds p:=hA0
 rw [Tryz.params4] at hA hval
 obtain ⟨v0,vs0,d0,ds0,p0,q0,hargs,rfl,rfl,h0,r0⟩:=trodAll_cons hA
 obtain ⟨v1,vs1,d1,ds1,p1,q1,rfl,rfl,rfl,h1,r1⟩:=trodAll_cons r0
 obtain ⟨rfl,rfl,rfl⟩:=trodAll_nil r1
 obtain rfl:args = #[v0,v1]:=by cases args; simp_all
 obtain ⟨a0,e0,_,_,w0⟩:=open_int Tryz.underlying5 (hval 0 5 v0 rfl rfl) h0
 have g0:FR (fun b=>W.heap[b]?) (.int .u8 a0) v0:=by rw [e0]; exact .int
 obtain ⟨a1,g1,w1,m1⟩:=Abd Tryz.underlying44 Tryz.underlying5 (by kernel_rfl) (hval 1 44 v1 rfl rfl) h1
 have hv:∀(i:Nat) x v,[AV.int .u8 a0,.slice none (a1.map (.int .u8)) false][i]? = some x->#[v0,v1][i]? = some v->FR (fun b=>W.heap[b]?) x v:=by
  intro i x v hx hv
  match i,hx,hv with
  | 0,hx,hv=>cases hx; cases hv; exact g0
  | 1,hx,hv=>cases hx; cases hv; exact g1
  | _+2,hx,_=>simp at hx
 refine (Agq C4x (by kernel_rfl) Jw k4 [.int .u8 a0,.slice none (a1.map (.int .u8)) false] #[v0,v1] W rfl hv (Xi a0 a1 w0 w1 m1)).mono fun e W' ⟨he,hb⟩ => ?_
 subst he
 exact ⟨_,rfl,Anb hW' rfl rfl Ou (of_decide_eq_true (by kernel_rfl)) (by kernel_rfl) Tryz.underlying4 hb⟩
theorem topRackedSearch_holds:Rows.TopRackedSearchSaid:=
 OpenClaim.holds_of_wide 4 Tryz.f4 rfl rfl rfl rfl rfl rfl rfl ⟨rfl,rfl,rfl,rfl,rfl⟩ rfl rfl rfl rfl rfl (by kernel_rfl) Tryz.func4 Qz
  (of_decide_eq_true (by kernel_rfl)) (by unfold Func.isWrapper; first | (rw [if_pos (by decide +kernel)]; kernel_rfl) | (rw [if_neg (by decide +kernel)]; exact ⟨rfl,rfl⟩))
  (fun os started H enc _=>Ra os started H enc)
end Go.Proofs.YtbgodhhdojjbmaaGreat
