/- The closed facts of the row of TopInverseRack, each by itself. No condition but those that stand in each. -/
import Derived.Test.YtofpilpmiddpgaaGreatRows
import Derived.Test.YtofpilpmiddpgaaGreatProg
import Derived.WalkKit
import Derived.JoinedOf
import Derived.KernelRfl
set_option linter.unusedSimpArgs false
set_option linter.unusedVariables false
set_option maxRecDepth 100000
namespace Go.Proofs.YtofpilpmiddpgaaGreat
open Go
theorem Bn {a b:Bool} (h1:a=true) (h2:b=true):(a&&b)=true:=by rw [h1,h2]; rfl
theorem Vb:(Rows.topInverseRackRow.wf (OpenSpec.ofChange Rows.topInverseRackSpec))=true:=by kernel_rfl
theorem Vc:(laidOutB Tryz.prog)=true:=by kernel_rfl
theorem Vd:(mapsRowed Tryz.prog)=true:=by kernel_rfl
theorem Ve:(Tryz.f3.params.all (Tryz.prog.readableRec ·))=true:=by kernel_rfl
theorem Vf:(namedTie Tryz.prog Rows.topInverseRackRow.named Rows.topInverseRackSpec.vars)=true:=by kernel_rfl
theorem Vg:((Rows.topInverseRackRow.stops==[]))=true:=by kernel_rfl
theorem Vh:((Tryz.prog.stops==[]))=true:=by kernel_rfl
theorem Vi:((Rows.topInverseRackRow.knobs==[]))=true:=by kernel_rfl
theorem Vj:((Tryz.prog.stopKnobs==[]))=true:=by kernel_rfl
theorem Vk:((Rows.topInverseRackRow.inPlace==Tryz.prog.inPlace 3))=true:=by kernel_rfl
theorem Rq:((Rows.topInverseRackRow.unfollowed==Tryz.prog.unfollowed 3))=true:=by kernel_rfl
theorem Rr:((Rows.topInverseRackRow.recurses==Tryz.prog.recurses 3))=true:=by kernel_rfl
theorem Rs:((Rows.topInverseRackRow.named==Tryz.prog.varsNamed 3))=true:=by kernel_rfl
theorem Rt:((Rows.topInverseRackRow.maps==(Tryz.f3.params.toList++Rows.topInverseRackSpec.plain.varTypes Tryz.prog).any (Tryz.prog.mapsRec ·)))=true:=by kernel_rfl
theorem Ru:((Rows.topInverseRackRow.ifaces==(Tryz.f3.params.toList++Rows.topInverseRackSpec.plain.varTypes Tryz.prog).any (Tryz.prog.ifacesRec ·)))=true:=by kernel_rfl
theorem Rv:((Rows.topInverseRackRow.mapsOut==Tryz.prog.mapsAmong Tryz.f3.resultTypes.toList))=true:=by kernel_rfl
theorem Rw:((Rows.topInverseRackRow.loops==(Tryz.f3.params.toList++Rows.topInverseRackSpec.plain.varTypes Tryz.prog).any (Tryz.prog.loopsFrom ·)))=true:=by kernel_rfl
theorem Rx:((Rows.topInverseRackRow.wideKeys==(Tryz.f3.params.toList++Rows.topInverseRackSpec.plain.varTypes Tryz.prog++Tryz.f3.resultTypes.toList).any (Tryz.prog.wideKeysFrom ·)))=true:=by kernel_rfl
theorem Ry:(Rows.topInverseRackSpec.vars.all (Tryz.prog.varReadable ·))=true:=by kernel_rfl
theorem Rz:(Tryz.f3.resultTypes.all (fun t=>Tryz.prog.readableRec t&&decide (t<Tryz.prog.types.size)))=true:=by kernel_rfl
theorem Sa:((Rows.topInverseRackRow.ifacesOut==Tryz.f3.resultTypes.toList.any (Tryz.prog.ifacesRec ·)))=true:=by kernel_rfl
theorem Sb:((Rows.topInverseRackRow.loopsOut==Tryz.f3.resultTypes.toList.any (Tryz.prog.loopsFrom ·)))=true:=by kernel_rfl
theorem Sc:((Rows.topInverseRackRow.plainKeys==Tryz.prog.plainKeys))=true:=by kernel_rfl
theorem Sd:(Rows.topInverseRackRow.shortTexts.isNone)=true:=by kernel_rfl
theorem Se:(Tryz.prog.stopsHeard)=true:=by kernel_rfl
theorem Sf:(Tryz.prog.mayEnter)=true:=by kernel_rfl
theorem Sg:((Rows.topInverseRackRow.lifted==Tryz.prog.liftsFinal))=true:=by kernel_rfl
theorem Sh:((Tryz.prog.make==some Rows.topInverseRackRow.make))=true:=by kernel_rfl
theorem Si:((Rows.topInverseRackRow.kinds==(if Rows.topInverseRackRow.domain.isEmpty then [] else Tryz.f3.params.toList.map fun t=>match Tryz.prog.underlying t with | some (.int k)=>some k | _=>none)))=true:=by kernel_rfl
theorem Sj:((Rows.topInverseRackRow.pinned==Rows.topInverseRackRow.pinnedBy))=true:=by kernel_rfl
theorem Sk:((Rows.topInverseRackRow.veiled==(Tryz.f3.params.toList++Rows.topInverseRackSpec.plain.varTypes Tryz.prog++Tryz.f3.resultTypes.toList).any (Tryz.prog.veiledRec ·)))=true:=by kernel_rfl
theorem Sl:(Rows.topInverseRackRow.veiledFits Tryz.prog Tryz.f3.params.toList (Tryz.f3.params.toList++Rows.topInverseRackSpec.plain.varTypes Tryz.prog++Tryz.f3.resultTypes.toList))=true:=by kernel_rfl
theorem Oz:joinedFacts Tryz.prog 3 Tryz.f3 Rows.topInverseRackSpec Rows.topInverseRackRow=true:=by
 unfold joinedFacts
 exact Bn (Bn (Bn (Bn (Bn (Bn (Bn (Bn (Bn (Bn (Bn (Bn (Bn (Bn (Bn (Bn (Bn (Bn (Bn (Bn (Bn (Bn (Bn (Bn (Bn (Bn (Bn (Bn (Bn (Bn (Bn (Vb) Vc) Vd) Ve) Vf) Vg) Vh) Vi) Vj) Vk) Rq) Rr) Rs) Rt) Ru) Rv) Rw) Rx) Ry) Rz) Sa) Sb) Sc) Sd) Se) Sf) Sg) Sh) Si) Sj) Sk) Sl
end Go.Proofs.YtofpilpmiddpgaaGreat
