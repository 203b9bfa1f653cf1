/- The closed facts of the row of TopChainedBarrel, each by itself. No condition but those that stand in each. -/
import Derived.Test.YtgehhippjhealaaGreatRows
import Derived.Test.YtgehhippjhealaaGreatProg
import Derived.WalkKit
import Derived.JoinedOf
import Derived.KernelRfl
set_option linter.unusedSimpArgs false
set_option linter.unusedVariables false
set_option maxRecDepth 100000
namespace Go.Proofs.YtgehhippjhealaaGreat
open Go
theorem topChainedBarrel_and {a b : Bool} (h1 : a = true) (h2 : b = true) : (a && b) = true := by rw [h1, h2]; rfl
theorem topChainedBarrel_jf0 : (Rows.topChainedBarrelRow.wf (OpenSpec.ofChange Rows.topChainedBarrelSpec)) = true := by kernel_rfl
theorem topChainedBarrel_jf1 : (laidOutB Tryz.prog) = true := by kernel_rfl
theorem topChainedBarrel_jf2 : (mapsRowed Tryz.prog) = true := by kernel_rfl
theorem topChainedBarrel_jf3 : (Tryz.f5.params.all (Tryz.prog.readableRec ·)) = true := by kernel_rfl
theorem topChainedBarrel_jf4 : (namedTie Tryz.prog Rows.topChainedBarrelRow.named Rows.topChainedBarrelSpec.vars) = true := by kernel_rfl
theorem topChainedBarrel_jf5 : ((Rows.topChainedBarrelRow.stops == [])) = true := by kernel_rfl
theorem topChainedBarrel_jf6 : ((Tryz.prog.stops == [])) = true := by kernel_rfl
theorem topChainedBarrel_jf7 : ((Rows.topChainedBarrelRow.knobs == [])) = true := by kernel_rfl
theorem topChainedBarrel_jf8 : ((Tryz.prog.stopKnobs == [])) = true := by kernel_rfl
theorem topChainedBarrel_jf9 : ((Rows.topChainedBarrelRow.inPlace == Tryz.prog.inPlace 5)) = true := by kernel_rfl
theorem topChainedBarrel_jf10 : ((Rows.topChainedBarrelRow.unfollowed == Tryz.prog.unfollowed 5)) = true := by kernel_rfl
theorem topChainedBarrel_jf11 : ((Rows.topChainedBarrelRow.recurses == Tryz.prog.recurses 5)) = true := by kernel_rfl
theorem topChainedBarrel_jf12 : ((Rows.topChainedBarrelRow.named == Tryz.prog.varsNamed 5)) = true := by kernel_rfl
theorem topChainedBarrel_jf13 : ((Rows.topChainedBarrelRow.maps == (Tryz.f5.params.toList ++ Rows.topChainedBarrelSpec.plain.varTypes Tryz.prog).any (Tryz.prog.mapsRec ·))) = true := by kernel_rfl
theorem topChainedBarrel_jf14 : ((Rows.topChainedBarrelRow.ifaces == (Tryz.f5.params.toList ++ Rows.topChainedBarrelSpec.plain.varTypes Tryz.prog).any (Tryz.prog.ifacesRec ·))) = true := by kernel_rfl
theorem topChainedBarrel_jf15 : ((Rows.topChainedBarrelRow.mapsOut == Tryz.prog.mapsAmong Tryz.f5.resultTypes.toList)) = true := by kernel_rfl
theorem topChainedBarrel_jf16 : ((Rows.topChainedBarrelRow.loops == (Tryz.f5.params.toList ++ Rows.topChainedBarrelSpec.plain.varTypes Tryz.prog).any (Tryz.prog.loopsFrom ·))) = true := by kernel_rfl
theorem topChainedBarrel_jf17 : ((Rows.topChainedBarrelRow.wideKeys == (Tryz.f5.params.toList ++ Rows.topChainedBarrelSpec.plain.varTypes Tryz.prog ++ Tryz.f5.resultTypes.toList).any (Tryz.prog.wideKeysFrom ·))) = true := by kernel_rfl
theorem topChainedBarrel_jf18 : (Rows.topChainedBarrelSpec.vars.all (Tryz.prog.varReadable ·)) = true := by kernel_rfl
theorem topChainedBarrel_jf19 : (Tryz.f5.resultTypes.all (fun t => Tryz.prog.readableRec t && decide (t < Tryz.prog.types.size))) = true := by kernel_rfl
theorem topChainedBarrel_jf20 : ((Rows.topChainedBarrelRow.ifacesOut == Tryz.f5.resultTypes.toList.any (Tryz.prog.ifacesRec ·))) = true := by kernel_rfl
theorem topChainedBarrel_jf21 : ((Rows.topChainedBarrelRow.loopsOut == Tryz.f5.resultTypes.toList.any (Tryz.prog.loopsFrom ·))) = true := by kernel_rfl
theorem topChainedBarrel_jf22 : ((Rows.topChainedBarrelRow.plainKeys == Tryz.prog.plainKeys)) = true := by kernel_rfl
theorem topChainedBarrel_jf23 : (Rows.topChainedBarrelRow.shortTexts.isNone) = true := by kernel_rfl
theorem topChainedBarrel_jf24 : (Tryz.prog.stopsHeard) = true := by kernel_rfl
theorem topChainedBarrel_jf25 : (Tryz.prog.mayEnter) = true := by kernel_rfl
theorem topChainedBarrel_jf26 : ((Rows.topChainedBarrelRow.lifted == Tryz.prog.liftsFinal)) = true := by kernel_rfl
theorem topChainedBarrel_jf27 : ((Tryz.prog.make == some Rows.topChainedBarrelRow.make)) = true := by kernel_rfl
theorem topChainedBarrel_jf28 : ((Rows.topChainedBarrelRow.kinds == (if Rows.topChainedBarrelRow.domain.isEmpty then [] else Tryz.f5.params.toList.map fun t => match Tryz.prog.underlying t with | some (.int k) => some k | _ => none))) = true := by kernel_rfl
theorem topChainedBarrel_jf29 : ((Rows.topChainedBarrelRow.pinned == Rows.topChainedBarrelRow.pinnedBy)) = true := by kernel_rfl
theorem topChainedBarrel_jf30 : ((Rows.topChainedBarrelRow.veiled == (Tryz.f5.params.toList ++ Rows.topChainedBarrelSpec.plain.varTypes Tryz.prog ++ Tryz.f5.resultTypes.toList).any (Tryz.prog.veiledRec ·))) = true := by kernel_rfl
theorem topChainedBarrel_jf31 : (Rows.topChainedBarrelRow.veiledFits Tryz.prog Tryz.f5.params.toList (Tryz.f5.params.toList ++ Rows.topChainedBarrelSpec.plain.varTypes Tryz.prog ++ Tryz.f5.resultTypes.toList)) = true := by kernel_rfl
theorem topChainedBarrel_joined : joinedFacts Tryz.prog 5 Tryz.f5 Rows.topChainedBarrelSpec Rows.topChainedBarrelRow = true := by
 unfold joinedFacts
 exact topChainedBarrel_and (topChainedBarrel_and (topChainedBarrel_and (topChainedBarrel_and (topChainedBarrel_and (topChainedBarrel_and (topChainedBarrel_and (topChainedBarrel_and (topChainedBarrel_and (topChainedBarrel_and (topChainedBarrel_and (topChainedBarrel_and (topChainedBarrel_and (topChainedBarrel_and (topChainedBarrel_and (topChainedBarrel_and (topChainedBarrel_and (topChainedBarrel_and (topChainedBarrel_and (topChainedBarrel_and (topChainedBarrel_and (topChainedBarrel_and (topChainedBarrel_and (topChainedBarrel_and (topChainedBarrel_and (topChainedBarrel_and (topChainedBarrel_and (topChainedBarrel_and (topChainedBarrel_and (topChainedBarrel_and (topChainedBarrel_and (topChainedBarrel_jf0) topChainedBarrel_jf1) topChainedBarrel_jf2) topChainedBarrel_jf3) topChainedBarrel_jf4) topChainedBarrel_jf5) topChainedBarrel_jf6) topChainedBarrel_jf7) topChainedBarrel_jf8) topChainedBarrel_jf9) topChainedBarrel_jf10) topChainedBarrel_jf11) topChainedBarrel_jf12) topChainedBarrel_jf13) topChainedBarrel_jf14) topChainedBarrel_jf15) topChainedBarrel_jf16) topChainedBarrel_jf17) topChainedBarrel_jf18) topChainedBarrel_jf19) topChainedBarrel_jf20) topChainedBarrel_jf21) topChainedBarrel_jf22) topChainedBarrel_jf23) topChainedBarrel_jf24) topChainedBarrel_jf25) topChainedBarrel_jf26) topChainedBarrel_jf27) topChainedBarrel_jf28) topChainedBarrel_jf29) topChainedBarrel_jf30) topChainedBarrel_jf31
end Go.Proofs.YtgehhippjhealaaGreat
