/- The law TopPathSearch returns true for every input, and each argument reads as it did. No condition but those that stand in each. -/
import Derived.Test.YtbgodhhdojjbmaaGreatPTopLvPas
import Derived.Test.YtbgodhhdojjbmaaGreatRows
import Derived.Test.YtbgodhhdojjbmaaGreatPTopJfPas
import Derived.WalkKit
import Derived.OpenShut
set_option linter.unusedSimpArgs false
set_option linter.unusedVariables false
namespace Go.Proofs.YtbgodhhdojjbmaaGreat
open Go Go.Ev Go.Ev.YtbgodhhdojjbmaaGreatC Go.ChangeShapes Go.WideShapes Go.ChangeAt Go.RowKit
attribute [local irreducible] Res.all evC Dg Di Bq Bg Do Bf
theorem Yp:ownKnob Tryz.prog.godebug=none:=by kernel_rfl
theorem Ry:laidOutB Tryz.prog=true:=by kernel_rfl
set_option maxRecDepth 100000 in
theorem Uf (os:Os) (started:os.Started) (H:Type) (enc:TypeId×Value->H) :
  ReturnsInHanded {} Tryz.checked os 3 .any (Rows.topPathSearchSpec.pre6 enc Tryz.prog Tryz.f3 Rows.topPathSearchRow.domain false) (Rows.topPathSearchSpec.post enc Tryz.prog Tryz.f3 false true false false):=by
 refine returnsInHanded_of_change (C:=Tryz.checked) Yp started (by kernel_rfl) Tryz.func3
  (ChangeSpec.witness6 (enc:=enc) (C:=Tryz.checked) false ⟨#[],#[.agg #[.int .i64 0,.int .i64 0],.int .u8 0],[]⟩ 8 (by kernel_rfl) (by kernel_rfl) (by kernel_rfl) (by kernel_rfl)) ?_
 intro W base args ds gs before hval0 hW hcnd _
 have hval:∀(j:Nat) t v,Tryz.f3.params[j]? = some t->args[j]? = some v->Value.okWide Tryz.prog W .any base t v:=hval0
 have hW':=hW
 obtain ⟨p,q,hA0,hV,rfl,hfz,hnd⟩:=hW
 have hA:DataW.TrodAll enc Tryz.prog W 0 (fun _=>true) true Tryz.f3.params.toList args.toList ds p:=hA0
 rw [Tryz.params3] at hA hval
 obtain ⟨v0,vs0,d0,ds0,p0,q0,hargs,rfl,rfl,h0,r0⟩:=trodAll_cons hA
 obtain ⟨v1,vs1,d1,ds1,p1,q1,rfl,rfl,rfl,h1,r1⟩:=trodAll_cons r0
 obtain ⟨rfl,rfl,rfl⟩:=trodAll_nil r1
 obtain rfl:args = #[v0,v1]:=by cases args; simp_all
 obtain ⟨a0,g0,w0⟩:=A9w rcells RWf Tryz.underlying23 (fun fuel cs x hx=>Adj hx) (hval 0 23 v0 rfl rfl) h0
 obtain ⟨a1,e1,_,_,w1⟩:=open_int Tryz.underlying5 (hval 1 5 v1 rfl rfl) h1
 have g1:FR (fun b=>W.heap[b]?) (.int .u8 a1) v1:=by rw [e1]; exact .int
 have hv:∀(i:Nat) x v,[AV.agg (ivs (rcells a0)),.int .u8 a1][i]? = some x->#[v0,v1][i]? = some v->FR (fun b=>W.heap[b]?) x v:=by
  intro i x v hx hv
  match i,hx,hv with
  | 0,hx,hv=>cases hx; cases hv; exact g0
  | 1,hx,hv=>cases hx; cases hv; exact g1
  | _+2,hx,_=>simp at hx
 refine (Aes Bvs (by kernel_rfl) Lp k3 [.agg (ivs (rcells a0)),.int .u8 a1] #[v0,v1] W rfl hv (Zw a0 a1 w0 w1)).mono fun e W' ⟨he,hb⟩ => ?_
 subst he
 exact ⟨_,rfl,Ali hW' rfl rfl Ry (of_decide_eq_true (by kernel_rfl)) (by kernel_rfl) Tryz.underlying4 hb⟩
theorem topPathSearch_holds:Rows.TopPathSearchSaid:=
 OpenClaim.holds_of_wide 3 Tryz.f3 rfl rfl rfl rfl rfl rfl rfl ⟨rfl,rfl,rfl,rfl,rfl⟩ rfl rfl rfl rfl rfl (by kernel_rfl) Tryz.func3 Ue
  (of_decide_eq_true (by kernel_rfl)) (by unfold Func.isWrapper; first | (rw [if_pos (by decide +kernel)]; kernel_rfl) | (rw [if_neg (by decide +kernel)]; exact ⟨rfl,rfl⟩))
  (fun os started H enc _=>Uf os started H enc)
end Go.Proofs.YtbgodhhdojjbmaaGreat
