/- The closed facts of the row of TopPathSearch, each by itself. No condition but those that stand in each. -/
import Derived.Test.YtbgodhhdojjbmaaGreatRows
import Derived.Test.YtbgodhhdojjbmaaGreatProg
import Derived.WalkKit
import Derived.JoinedOf
import Derived.KernelRfl
set_option linter.unusedSimpArgs false
set_option linter.unusedVariables false
set_option maxRecDepth 100000
namespace Go.Proofs.YtbgodhhdojjbmaaGreat
open Go
theorem Bu {a b:Bool} (h1:a=true) (h2:b=true):(a&&b)=true:=by rw [h1,h2]; rfl
theorem Yf:(Rows.topPathSearchRow.wf (OpenSpec.ofChange Rows.topPathSearchSpec))=true:=by kernel_rfl
theorem Yg:(laidOutB Tryz.prog)=true:=by kernel_rfl
theorem Yh:(mapsRowed Tryz.prog)=true:=by kernel_rfl
theorem Yi:(Tryz.f3.params.all (Tryz.prog.readableRec ·))=true:=by kernel_rfl
theorem Yj:(namedTie Tryz.prog Rows.topPathSearchRow.named Rows.topPathSearchSpec.vars)=true:=by kernel_rfl
theorem Yk:((Rows.topPathSearchRow.stops==[]))=true:=by kernel_rfl
theorem Yl:((Tryz.prog.stops==[]))=true:=by kernel_rfl
theorem Ym:((Rows.topPathSearchRow.knobs==[]))=true:=by kernel_rfl
theorem Yn:((Tryz.prog.stopKnobs==[]))=true:=by kernel_rfl
theorem Yo:((Rows.topPathSearchRow.inPlace==Tryz.prog.inPlace 3))=true:=by kernel_rfl
theorem Wi:((Rows.topPathSearchRow.unfollowed==Tryz.prog.unfollowed 3))=true:=by kernel_rfl
theorem Wj:((Rows.topPathSearchRow.recurses==Tryz.prog.recurses 3))=true:=by kernel_rfl
theorem Wk:((Rows.topPathSearchRow.named==Tryz.prog.varsNamed 3))=true:=by kernel_rfl
theorem Wl:((Rows.topPathSearchRow.maps==(Tryz.f3.params.toList++Rows.topPathSearchSpec.plain.varTypes Tryz.prog).any (Tryz.prog.mapsRec ·)))=true:=by kernel_rfl
theorem Wm:((Rows.topPathSearchRow.ifaces==(Tryz.f3.params.toList++Rows.topPathSearchSpec.plain.varTypes Tryz.prog).any (Tryz.prog.ifacesRec ·)))=true:=by kernel_rfl
theorem Wn:((Rows.topPathSearchRow.mapsOut==Tryz.prog.mapsAmong Tryz.f3.resultTypes.toList))=true:=by kernel_rfl
theorem Wo:((Rows.topPathSearchRow.loops==(Tryz.f3.params.toList++Rows.topPathSearchSpec.plain.varTypes Tryz.prog).any (Tryz.prog.loopsFrom ·)))=true:=by kernel_rfl
theorem Wp:((Rows.topPathSearchRow.wideKeys==(Tryz.f3.params.toList++Rows.topPathSearchSpec.plain.varTypes Tryz.prog++Tryz.f3.resultTypes.toList).any (Tryz.prog.wideKeysFrom ·)))=true:=by kernel_rfl
theorem Wq:(Rows.topPathSearchSpec.vars.all (Tryz.prog.varReadable ·))=true:=by kernel_rfl
theorem Wr:(Tryz.f3.resultTypes.all (fun t=>Tryz.prog.readableRec t&&decide (t<Tryz.prog.types.size)))=true:=by kernel_rfl
theorem Ws:((Rows.topPathSearchRow.ifacesOut==Tryz.f3.resultTypes.toList.any (Tryz.prog.ifacesRec ·)))=true:=by kernel_rfl
theorem Wt:((Rows.topPathSearchRow.loopsOut==Tryz.f3.resultTypes.toList.any (Tryz.prog.loopsFrom ·)))=true:=by kernel_rfl
theorem Wu:((Rows.topPathSearchRow.plainKeys==Tryz.prog.plainKeys))=true:=by kernel_rfl
theorem Wv:(Rows.topPathSearchRow.shortTexts.isNone)=true:=by kernel_rfl
theorem Ww:(Tryz.prog.stopsHeard)=true:=by kernel_rfl
theorem Wx:(Tryz.prog.mayEnter)=true:=by kernel_rfl
theorem Wy:((Rows.topPathSearchRow.lifted==Tryz.prog.liftsFinal))=true:=by kernel_rfl
theorem Wz:((Tryz.prog.make==some Rows.topPathSearchRow.make))=true:=by kernel_rfl
theorem Xa:((Rows.topPathSearchRow.kinds==(if Rows.topPathSearchRow.domain.isEmpty then [] else Tryz.f3.params.toList.map fun t=>match Tryz.prog.underlying t with | some (.int k)=>some k | _=>none)))=true:=by kernel_rfl
theorem Xb:((Rows.topPathSearchRow.pinned==Rows.topPathSearchRow.pinnedBy))=true:=by kernel_rfl
theorem Xc:((Rows.topPathSearchRow.veiled==(Tryz.f3.params.toList++Rows.topPathSearchSpec.plain.varTypes Tryz.prog++Tryz.f3.resultTypes.toList).any (Tryz.prog.veiledRec ·)))=true:=by kernel_rfl
theorem Xd:(Rows.topPathSearchRow.veiledFits Tryz.prog Tryz.f3.params.toList (Tryz.f3.params.toList++Rows.topPathSearchSpec.plain.varTypes Tryz.prog++Tryz.f3.resultTypes.toList))=true:=by kernel_rfl
theorem Ue:joinedFacts Tryz.prog 3 Tryz.f3 Rows.topPathSearchSpec Rows.topPathSearchRow=true:=by
 unfold joinedFacts
 exact Bu (Bu (Bu (Bu (Bu (Bu (Bu (Bu (Bu (Bu (Bu (Bu (Bu (Bu (Bu (Bu (Bu (Bu (Bu (Bu (Bu (Bu (Bu (Bu (Bu (Bu (Bu (Bu (Bu (Bu (Bu (Yf) Yg) Yh) Yi) Yj) Yk) Yl) Ym) Yn) Yo) Wi) Wj) Wk) Wl) Wm) Wn) Wo) Wp) Wq) Wr) Ws) Wt) Wu) Wv) Ww) Wx) Wy) Wz) Xa) Xb) Xc) Xd
end Go.Proofs.YtbgodhhdojjbmaaGreat
