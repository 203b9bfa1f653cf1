/- The closed facts of the row of TopSteppedRack, each by itself. No condition but those that stand in each. -/
import Derived.Test.YtofpilpmiddpgaaGreatRows
import Derived.Test.YtofpilpmiddpgaaGreatProg
import Derived.WalkKit
import Derived.JoinedOf
import Derived.KernelRfl
set_option linter.unusedSimpArgs false
set_option linter.unusedVariables false
set_option maxRecDepth 100000
namespace Go.Proofs.YtofpilpmiddpgaaGreat
open Go
theorem Bn {a b:Bool} (h1:a=true) (h2:b=true):(a&&b)=true:=by rw [h1,h2]; rfl
theorem Va:(Rows.topSteppedRackRow.wf (OpenSpec.ofChange Rows.topSteppedRackSpec))=true:=by kernel_rfl
theorem Vb:(laidOutB Tryz.prog)=true:=by kernel_rfl
theorem Vc:(mapsRowed Tryz.prog)=true:=by kernel_rfl
theorem Vd:(Tryz.f4.params.all (Tryz.prog.readableRec ·))=true:=by kernel_rfl
theorem Ve:(namedTie Tryz.prog Rows.topSteppedRackRow.named Rows.topSteppedRackSpec.vars)=true:=by kernel_rfl
theorem Vf:((Rows.topSteppedRackRow.stops==[]))=true:=by kernel_rfl
theorem Vg:((Tryz.prog.stops==[]))=true:=by kernel_rfl
theorem Vh:((Rows.topSteppedRackRow.knobs==[]))=true:=by kernel_rfl
theorem Vi:((Tryz.prog.stopKnobs==[]))=true:=by kernel_rfl
theorem Vj:((Rows.topSteppedRackRow.inPlace==Tryz.prog.inPlace 4))=true:=by kernel_rfl
theorem Rn:((Rows.topSteppedRackRow.unfollowed==Tryz.prog.unfollowed 4))=true:=by kernel_rfl
theorem Ro:((Rows.topSteppedRackRow.recurses==Tryz.prog.recurses 4))=true:=by kernel_rfl
theorem Rp:((Rows.topSteppedRackRow.named==Tryz.prog.varsNamed 4))=true:=by kernel_rfl
theorem Rq:((Rows.topSteppedRackRow.maps==(Tryz.f4.params.toList++Rows.topSteppedRackSpec.plain.varTypes Tryz.prog).any (Tryz.prog.mapsRec ·)))=true:=by kernel_rfl
theorem Rr:((Rows.topSteppedRackRow.ifaces==(Tryz.f4.params.toList++Rows.topSteppedRackSpec.plain.varTypes Tryz.prog).any (Tryz.prog.ifacesRec ·)))=true:=by kernel_rfl
theorem Rs:((Rows.topSteppedRackRow.mapsOut==Tryz.prog.mapsAmong Tryz.f4.resultTypes.toList))=true:=by kernel_rfl
theorem Rt:((Rows.topSteppedRackRow.loops==(Tryz.f4.params.toList++Rows.topSteppedRackSpec.plain.varTypes Tryz.prog).any (Tryz.prog.loopsFrom ·)))=true:=by kernel_rfl
theorem Ru:((Rows.topSteppedRackRow.wideKeys==(Tryz.f4.params.toList++Rows.topSteppedRackSpec.plain.varTypes Tryz.prog++Tryz.f4.resultTypes.toList).any (Tryz.prog.wideKeysFrom ·)))=true:=by kernel_rfl
theorem Rv:(Rows.topSteppedRackSpec.vars.all (Tryz.prog.varReadable ·))=true:=by kernel_rfl
theorem Rw:(Tryz.f4.resultTypes.all (fun t=>Tryz.prog.readableRec t&&decide (t<Tryz.prog.types.size)))=true:=by kernel_rfl
theorem Rx:((Rows.topSteppedRackRow.ifacesOut==Tryz.f4.resultTypes.toList.any (Tryz.prog.ifacesRec ·)))=true:=by kernel_rfl
theorem Ry:((Rows.topSteppedRackRow.loopsOut==Tryz.f4.resultTypes.toList.any (Tryz.prog.loopsFrom ·)))=true:=by kernel_rfl
theorem Rz:((Rows.topSteppedRackRow.plainKeys==Tryz.prog.plainKeys))=true:=by kernel_rfl
theorem Sa:(Rows.topSteppedRackRow.shortTexts.isNone)=true:=by kernel_rfl
theorem Sb:(Tryz.prog.stopsHeard)=true:=by kernel_rfl
theorem Sc:(Tryz.prog.mayEnter)=true:=by kernel_rfl
theorem Sd:((Rows.topSteppedRackRow.lifted==Tryz.prog.liftsFinal))=true:=by kernel_rfl
theorem Se:((Tryz.prog.make==some Rows.topSteppedRackRow.make))=true:=by kernel_rfl
theorem Sf:((Rows.topSteppedRackRow.kinds==(if Rows.topSteppedRackRow.domain.isEmpty then [] else Tryz.f4.params.toList.map fun t=>match Tryz.prog.underlying t with | some (.int k)=>some k | _=>none)))=true:=by kernel_rfl
theorem Sg:((Rows.topSteppedRackRow.pinned==Rows.topSteppedRackRow.pinnedBy))=true:=by kernel_rfl
theorem Sh:((Rows.topSteppedRackRow.veiled==(Tryz.f4.params.toList++Rows.topSteppedRackSpec.plain.varTypes Tryz.prog++Tryz.f4.resultTypes.toList).any (Tryz.prog.veiledRec ·)))=true:=by kernel_rfl
theorem Si:(Rows.topSteppedRackRow.veiledFits Tryz.prog Tryz.f4.params.toList (Tryz.f4.params.toList++Rows.topSteppedRackSpec.plain.varTypes Tryz.prog++Tryz.f4.resultTypes.toList))=true:=by kernel_rfl
theorem Om:joinedFacts Tryz.prog 4 Tryz.f4 Rows.topSteppedRackSpec Rows.topSteppedRackRow=true:=by
 unfold joinedFacts
 exact Bn (Bn (Bn (Bn (Bn (Bn (Bn (Bn (Bn (Bn (Bn (Bn (Bn (Bn (Bn (Bn (Bn (Bn (Bn (Bn (Bn (Bn (Bn (Bn (Bn (Bn (Bn (Bn (Bn (Bn (Bn (Va) Vb) Vc) Vd) Ve) Vf) Vg) Vh) Vi) Vj) Rn) Ro) Rp) Rq) Rr) Rs) Rt) Ru) Rv) Rw) Rx) Ry) Rz) Sa) Sb) Sc) Sd) Se) Sf) Sg) Sh) Si
end Go.Proofs.YtofpilpmiddpgaaGreat
