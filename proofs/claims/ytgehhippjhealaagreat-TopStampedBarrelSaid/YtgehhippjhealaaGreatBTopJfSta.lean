/- The closed facts of the row of TopStampedBarrel, each by itself. No condition but those that stand in each. -/
import Derived.Test.YtgehhippjhealaaGreatRows
import Derived.Test.YtgehhippjhealaaGreatProg
import Derived.WalkKit
import Derived.JoinedOf
import Derived.KernelRfl
set_option linter.unusedSimpArgs false
set_option linter.unusedVariables false
set_option maxRecDepth 100000
namespace Go.Proofs.YtgehhippjhealaaGreat
open Go
theorem Bm {a b:Bool} (h1:a=true) (h2:b=true):(a&&b)=true:=by rw [h1,h2]; rfl
theorem Qt:(Rows.topStampedBarrelRow.wf (OpenSpec.ofChange Rows.topStampedBarrelSpec))=true:=by kernel_rfl
theorem Sa:(laidOutB Tryz.prog)=true:=by kernel_rfl
theorem Rn:(mapsRowed Tryz.prog)=true:=by kernel_rfl
theorem Qk:(Tryz.f6.params.all (Tryz.prog.readableRec ·))=true:=by kernel_rfl
theorem Rm:(namedTie Tryz.prog Rows.topStampedBarrelRow.named Rows.topStampedBarrelSpec.vars)=true:=by kernel_rfl
theorem Rk:((Rows.topStampedBarrelRow.stops==[]))=true:=by kernel_rfl
theorem Qp:((Tryz.prog.stops==[]))=true:=by kernel_rfl
theorem Rq:((Rows.topStampedBarrelRow.knobs==[]))=true:=by kernel_rfl
theorem Qq:((Tryz.prog.stopKnobs==[]))=true:=by kernel_rfl
theorem Qu:((Rows.topStampedBarrelRow.inPlace==Tryz.prog.inPlace 6))=true:=by kernel_rfl
theorem Oc:((Rows.topStampedBarrelRow.unfollowed==Tryz.prog.unfollowed 6))=true:=by kernel_rfl
theorem Oh:((Rows.topStampedBarrelRow.recurses==Tryz.prog.recurses 6))=true:=by kernel_rfl
theorem Oo:((Rows.topStampedBarrelRow.named==Tryz.prog.varsNamed 6))=true:=by kernel_rfl
theorem Ou:((Rows.topStampedBarrelRow.maps==(Tryz.f6.params.toList++Rows.topStampedBarrelSpec.plain.varTypes Tryz.prog).any (Tryz.prog.mapsRec ·)))=true:=by kernel_rfl
theorem Qa:((Rows.topStampedBarrelRow.ifaces==(Tryz.f6.params.toList++Rows.topStampedBarrelSpec.plain.varTypes Tryz.prog).any (Tryz.prog.ifacesRec ·)))=true:=by kernel_rfl
theorem Qd:((Rows.topStampedBarrelRow.mapsOut==Tryz.prog.mapsAmong Tryz.f6.resultTypes.toList))=true:=by kernel_rfl
theorem Qb:((Rows.topStampedBarrelRow.loops==(Tryz.f6.params.toList++Rows.topStampedBarrelSpec.plain.varTypes Tryz.prog).any (Tryz.prog.loopsFrom ·)))=true:=by kernel_rfl
theorem Qj:((Rows.topStampedBarrelRow.wideKeys==(Tryz.f6.params.toList++Rows.topStampedBarrelSpec.plain.varTypes Tryz.prog++Tryz.f6.resultTypes.toList).any (Tryz.prog.wideKeysFrom ·)))=true:=by kernel_rfl
theorem Qg:(Rows.topStampedBarrelSpec.vars.all (Tryz.prog.varReadable ·))=true:=by kernel_rfl
theorem Qe:(Tryz.f6.resultTypes.all (fun t=>Tryz.prog.readableRec t&&decide (t<Tryz.prog.types.size)))=true:=by kernel_rfl
theorem Of:((Rows.topStampedBarrelRow.ifacesOut==Tryz.f6.resultTypes.toList.any (Tryz.prog.ifacesRec ·)))=true:=by kernel_rfl
theorem Ow:((Rows.topStampedBarrelRow.loopsOut==Tryz.f6.resultTypes.toList.any (Tryz.prog.loopsFrom ·)))=true:=by kernel_rfl
theorem Oz:((Rows.topStampedBarrelRow.plainKeys==Tryz.prog.plainKeys))=true:=by kernel_rfl
theorem Om:(Rows.topStampedBarrelRow.shortTexts.isNone)=true:=by kernel_rfl
theorem Qi:(Tryz.prog.stopsHeard)=true:=by kernel_rfl
theorem Ot:(Tryz.prog.mayEnter)=true:=by kernel_rfl
theorem Ov:((Rows.topStampedBarrelRow.lifted==Tryz.prog.liftsFinal))=true:=by kernel_rfl
theorem Oj:((Tryz.prog.make==some Rows.topStampedBarrelRow.make))=true:=by kernel_rfl
theorem Oq:((Rows.topStampedBarrelRow.kinds==(if Rows.topStampedBarrelRow.domain.isEmpty then [] else Tryz.f6.params.toList.map fun t=>match Tryz.prog.underlying t with | some (.int k)=>some k | _=>none)))=true:=by kernel_rfl
theorem Qf:((Rows.topStampedBarrelRow.pinned==Rows.topStampedBarrelRow.pinnedBy))=true:=by kernel_rfl
theorem Og:((Rows.topStampedBarrelRow.veiled==(Tryz.f6.params.toList++Rows.topStampedBarrelSpec.plain.varTypes Tryz.prog++Tryz.f6.resultTypes.toList).any (Tryz.prog.veiledRec ·)))=true:=by kernel_rfl
theorem Oe:(Rows.topStampedBarrelRow.veiledFits Tryz.prog Tryz.f6.params.toList (Tryz.f6.params.toList++Rows.topStampedBarrelSpec.plain.varTypes Tryz.prog++Tryz.f6.resultTypes.toList))=true:=by kernel_rfl
theorem Mz:joinedFacts Tryz.prog 6 Tryz.f6 Rows.topStampedBarrelSpec Rows.topStampedBarrelRow=true:=by
 unfold joinedFacts
 exact Bm (Bm (Bm (Bm (Bm (Bm (Bm (Bm (Bm (Bm (Bm (Bm (Bm (Bm (Bm (Bm (Bm (Bm (Bm (Bm (Bm (Bm (Bm (Bm (Bm (Bm (Bm (Bm (Bm (Bm (Bm (Qt) Sa) Rn) Qk) Rm) Rk) Qp) Rq) Qq) Qu) Oc) Oh) Oo) Ou) Qa) Qd) Qb) Qj) Qg) Qe) Of) Ow) Oz) Om) Qi) Ot) Ov) Oj) Oq) Qf) Og) Oe
end Go.Proofs.YtgehhippjhealaaGreat
