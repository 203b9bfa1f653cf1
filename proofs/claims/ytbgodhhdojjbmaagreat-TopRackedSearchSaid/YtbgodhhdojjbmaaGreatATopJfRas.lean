/- The closed facts of the row of TopRackedSearch, each by itself. No condition but those that stand in each. -/
import Derived.Test.YtbgodhhdojjbmaaGreatRows
import Derived.Test.YtbgodhhdojjbmaaGreatProg
import Derived.WalkKit
import Derived.JoinedOf
import Derived.KernelRfl
set_option linter.unusedSimpArgs false
set_option linter.unusedVariables false
set_option maxRecDepth 100000
namespace Go.Proofs.YtbgodhhdojjbmaaGreat
open Go
theorem Br {a b:Bool} (h1:a=true) (h2:b=true):(a&&b)=true:=by rw [h1,h2]; rfl
theorem Vi:(Rows.topRackedSearchRow.wf (OpenSpec.ofChange Rows.topRackedSearchSpec))=true:=by kernel_rfl
theorem Vj:(laidOutB Tryz.prog)=true:=by kernel_rfl
theorem Vk:(mapsRowed Tryz.prog)=true:=by kernel_rfl
theorem Vl:(Tryz.f4.params.all (Tryz.prog.readableRec ·))=true:=by kernel_rfl
theorem Vm:(namedTie Tryz.prog Rows.topRackedSearchRow.named Rows.topRackedSearchSpec.vars)=true:=by kernel_rfl
theorem Vn:((Rows.topRackedSearchRow.stops==[]))=true:=by kernel_rfl
theorem Vo:((Tryz.prog.stops==[]))=true:=by kernel_rfl
theorem Vp:((Rows.topRackedSearchRow.knobs==[]))=true:=by kernel_rfl
theorem Vq:((Tryz.prog.stopKnobs==[]))=true:=by kernel_rfl
theorem Vr:((Rows.topRackedSearchRow.inPlace==Tryz.prog.inPlace 4))=true:=by kernel_rfl
theorem Ua:((Rows.topRackedSearchRow.unfollowed==Tryz.prog.unfollowed 4))=true:=by kernel_rfl
theorem Ub:((Rows.topRackedSearchRow.recurses==Tryz.prog.recurses 4))=true:=by kernel_rfl
theorem Uc:((Rows.topRackedSearchRow.named==Tryz.prog.varsNamed 4))=true:=by kernel_rfl
theorem Ud:((Rows.topRackedSearchRow.maps==(Tryz.f4.params.toList++Rows.topRackedSearchSpec.plain.varTypes Tryz.prog).any (Tryz.prog.mapsRec ·)))=true:=by kernel_rfl
theorem Ue:((Rows.topRackedSearchRow.ifaces==(Tryz.f4.params.toList++Rows.topRackedSearchSpec.plain.varTypes Tryz.prog).any (Tryz.prog.ifacesRec ·)))=true:=by kernel_rfl
theorem Uf:((Rows.topRackedSearchRow.mapsOut==Tryz.prog.mapsAmong Tryz.f4.resultTypes.toList))=true:=by kernel_rfl
theorem Ug:((Rows.topRackedSearchRow.loops==(Tryz.f4.params.toList++Rows.topRackedSearchSpec.plain.varTypes Tryz.prog).any (Tryz.prog.loopsFrom ·)))=true:=by kernel_rfl
theorem Uh:((Rows.topRackedSearchRow.wideKeys==(Tryz.f4.params.toList++Rows.topRackedSearchSpec.plain.varTypes Tryz.prog++Tryz.f4.resultTypes.toList).any (Tryz.prog.wideKeysFrom ·)))=true:=by kernel_rfl
theorem Ui:(Rows.topRackedSearchSpec.vars.all (Tryz.prog.varReadable ·))=true:=by kernel_rfl
theorem Uj:(Tryz.f4.resultTypes.all (fun t=>Tryz.prog.readableRec t&&decide (t<Tryz.prog.types.size)))=true:=by kernel_rfl
theorem Uk:((Rows.topRackedSearchRow.ifacesOut==Tryz.f4.resultTypes.toList.any (Tryz.prog.ifacesRec ·)))=true:=by kernel_rfl
theorem Ul:((Rows.topRackedSearchRow.loopsOut==Tryz.f4.resultTypes.toList.any (Tryz.prog.loopsFrom ·)))=true:=by kernel_rfl
theorem Um:((Rows.topRackedSearchRow.plainKeys==Tryz.prog.plainKeys))=true:=by kernel_rfl
theorem Un:(Rows.topRackedSearchRow.shortTexts.isNone)=true:=by kernel_rfl
theorem Uo:(Tryz.prog.stopsHeard)=true:=by kernel_rfl
theorem Up:(Tryz.prog.mayEnter)=true:=by kernel_rfl
theorem Uq:((Rows.topRackedSearchRow.lifted==Tryz.prog.liftsFinal))=true:=by kernel_rfl
theorem Ur:((Tryz.prog.make==some Rows.topRackedSearchRow.make))=true:=by kernel_rfl
theorem Us:((Rows.topRackedSearchRow.kinds==(if Rows.topRackedSearchRow.domain.isEmpty then [] else Tryz.f4.params.toList.map fun t=>match Tryz.prog.underlying t with | some (.int k)=>some k | _=>none)))=true:=by kernel_rfl
theorem Ut:((Rows.topRackedSearchRow.pinned==Rows.topRackedSearchRow.pinnedBy))=true:=by kernel_rfl
theorem Uu:((Rows.topRackedSearchRow.veiled==(Tryz.f4.params.toList++Rows.topRackedSearchSpec.plain.varTypes Tryz.prog++Tryz.f4.resultTypes.toList).any (Tryz.prog.veiledRec ·)))=true:=by kernel_rfl
theorem Uv:(Rows.topRackedSearchRow.veiledFits Tryz.prog Tryz.f4.params.toList (Tryz.f4.params.toList++Rows.topRackedSearchSpec.plain.varTypes Tryz.prog++Tryz.f4.resultTypes.toList))=true:=by kernel_rfl
theorem Qz:joinedFacts Tryz.prog 4 Tryz.f4 Rows.topRackedSearchSpec Rows.topRackedSearchRow=true:=by
 unfold joinedFacts
 exact Br (Br (Br (Br (Br (Br (Br (Br (Br (Br (Br (Br (Br (Br (Br (Br (Br (Br (Br (Br (Br (Br (Br (Br (Br (Br (Br (Br (Br (Br (Br (Vi) Vj) Vk) Vl) Vm) Vn) Vo) Vp) Vq) Vr) Ua) Ub) Uc) Ud) Ue) Uf) Ug) Uh) Ui) Uj) Uk) Ul) Um) Un) Uo) Up) Uq) Ur) Us) Ut) Uu) Uv
end Go.Proofs.YtbgodhhdojjbmaaGreat
