/- The closed facts of the row of TopCircledTune, each by itself. No condition but those that stand in each. -/
import Derived.Test.YtgehhippjhealaaGreatRows
import Derived.Test.YtgehhippjhealaaGreatProg
import Derived.WalkKit
import Derived.JoinedOf
import Derived.KernelRfl
set_option linter.unusedSimpArgs false
set_option linter.unusedVariables false
set_option maxRecDepth 100000
namespace Go.Proofs.YtgehhippjhealaaGreat
open Go
theorem Bs {a b:Bool} (h1:a=true) (h2:b=true):(a&&b)=true:=by rw [h1,h2]; rfl
theorem Zp:(Rows.topCircledTuneRow.wf (OpenSpec.ofChange Rows.topCircledTuneSpec))=true:=by kernel_rfl
theorem Yc:(laidOutB Tryz.prog)=true:=by kernel_rfl
theorem Zb:(mapsRowed Tryz.prog)=true:=by kernel_rfl
theorem Ze:(Tryz.f3.params.all (Tryz.prog.readableRec ·))=true:=by kernel_rfl
theorem Xq:(namedTie Tryz.prog Rows.topCircledTuneRow.named Rows.topCircledTuneSpec.vars)=true:=by kernel_rfl
theorem Xo:((Rows.topCircledTuneRow.stops==[]))=true:=by kernel_rfl
theorem Yy:((Tryz.prog.stops==[]))=true:=by kernel_rfl
theorem Yk:((Rows.topCircledTuneRow.knobs==[]))=true:=by kernel_rfl
theorem Yf:((Tryz.prog.stopKnobs==[]))=true:=by kernel_rfl
theorem Ym:((Rows.topCircledTuneRow.inPlace==Tryz.prog.inPlace 3))=true:=by kernel_rfl
theorem Wq:((Rows.topCircledTuneRow.unfollowed==Tryz.prog.unfollowed 3))=true:=by kernel_rfl
theorem Wo:((Rows.topCircledTuneRow.recurses==Tryz.prog.recurses 3))=true:=by kernel_rfl
theorem Wy:((Rows.topCircledTuneRow.named==Tryz.prog.varsNamed 3))=true:=by kernel_rfl
theorem Xg:((Rows.topCircledTuneRow.maps==(Tryz.f3.params.toList++Rows.topCircledTuneSpec.plain.varTypes Tryz.prog).any (Tryz.prog.mapsRec ·)))=true:=by kernel_rfl
theorem Wt:((Rows.topCircledTuneRow.ifaces==(Tryz.f3.params.toList++Rows.topCircledTuneSpec.plain.varTypes Tryz.prog).any (Tryz.prog.ifacesRec ·)))=true:=by kernel_rfl
theorem Ws:((Rows.topCircledTuneRow.mapsOut==Tryz.prog.mapsAmong Tryz.f3.resultTypes.toList))=true:=by kernel_rfl
theorem Xa:((Rows.topCircledTuneRow.loops==(Tryz.f3.params.toList++Rows.topCircledTuneSpec.plain.varTypes Tryz.prog).any (Tryz.prog.loopsFrom ·)))=true:=by kernel_rfl
theorem Xi:((Rows.topCircledTuneRow.wideKeys==(Tryz.f3.params.toList++Rows.topCircledTuneSpec.plain.varTypes Tryz.prog++Tryz.f3.resultTypes.toList).any (Tryz.prog.wideKeysFrom ·)))=true:=by kernel_rfl
theorem Xh:(Rows.topCircledTuneSpec.vars.all (Tryz.prog.varReadable ·))=true:=by kernel_rfl
theorem Wv:(Tryz.f3.resultTypes.all (fun t=>Tryz.prog.readableRec t&&decide (t<Tryz.prog.types.size)))=true:=by kernel_rfl
theorem Xd:((Rows.topCircledTuneRow.ifacesOut==Tryz.f3.resultTypes.toList.any (Tryz.prog.ifacesRec ·)))=true:=by kernel_rfl
theorem Xj:((Rows.topCircledTuneRow.loopsOut==Tryz.f3.resultTypes.toList.any (Tryz.prog.loopsFrom ·)))=true:=by kernel_rfl
theorem Xb:((Rows.topCircledTuneRow.plainKeys==Tryz.prog.plainKeys))=true:=by kernel_rfl
theorem Wp:(Rows.topCircledTuneRow.shortTexts.isNone)=true:=by kernel_rfl
theorem Xf:(Tryz.prog.stopsHeard)=true:=by kernel_rfl
theorem Ww:(Tryz.prog.mayEnter)=true:=by kernel_rfl
theorem Xc:((Rows.topCircledTuneRow.lifted==Tryz.prog.liftsFinal))=true:=by kernel_rfl
theorem Wx:((Tryz.prog.make==some Rows.topCircledTuneRow.make))=true:=by kernel_rfl
theorem Wu:((Rows.topCircledTuneRow.kinds==(if Rows.topCircledTuneRow.domain.isEmpty then [] else Tryz.f3.params.toList.map fun t=>match Tryz.prog.underlying t with | some (.int k)=>some k | _=>none)))=true:=by kernel_rfl
theorem Wz:((Rows.topCircledTuneRow.pinned==Rows.topCircledTuneRow.pinnedBy))=true:=by kernel_rfl
theorem Wr:((Rows.topCircledTuneRow.veiled==(Tryz.f3.params.toList++Rows.topCircledTuneSpec.plain.varTypes Tryz.prog++Tryz.f3.resultTypes.toList).any (Tryz.prog.veiledRec ·)))=true:=by kernel_rfl
theorem Xe:(Rows.topCircledTuneRow.veiledFits Tryz.prog Tryz.f3.params.toList (Tryz.f3.params.toList++Rows.topCircledTuneSpec.plain.varTypes Tryz.prog++Tryz.f3.resultTypes.toList))=true:=by kernel_rfl
theorem Uk:joinedFacts Tryz.prog 3 Tryz.f3 Rows.topCircledTuneSpec Rows.topCircledTuneRow=true:=by
 unfold joinedFacts
 exact Bs (Bs (Bs (Bs (Bs (Bs (Bs (Bs (Bs (Bs (Bs (Bs (Bs (Bs (Bs (Bs (Bs (Bs (Bs (Bs (Bs (Bs (Bs (Bs (Bs (Bs (Bs (Bs (Bs (Bs (Bs (Zp) Yc) Zb) Ze) Xq) Xo) Yy) Yk) Yf) Ym) Wq) Wo) Wy) Xg) Wt) Ws) Xa) Xi) Xh) Wv) Xd) Xj) Xb) Wp) Xf) Ww) Xc) Wx) Wu) Wz) Wr) Xe
end Go.Proofs.YtgehhippjhealaaGreat
