/- The closed facts of the row of TopSteppedLate, each by itself. No condition but those that stand in each. -/
import Derived.Test.YtgehhippjhealaaGreatRows
import Derived.Test.YtgehhippjhealaaGreatProg
import Derived.WalkKit
import Derived.JoinedOf
import Derived.KernelRfl
set_option linter.unusedSimpArgs false
set_option linter.unusedVariables false
set_option maxRecDepth 100000
namespace Go.Proofs.YtgehhippjhealaaGreat
open Go
theorem topSteppedLate_and {a b : Bool} (h1 : a = true) (h2 : b = true) : (a && b) = true := by rw [h1, h2]; rfl
theorem topSteppedLate_jf0 : (Rows.topSteppedLateRow.wf (OpenSpec.ofChange Rows.topSteppedLateSpec)) = true := by kernel_rfl
theorem topSteppedLate_jf1 : (laidOutB Tryz.prog) = true := by kernel_rfl
theorem topSteppedLate_jf2 : (mapsRowed Tryz.prog) = true := by kernel_rfl
theorem topSteppedLate_jf3 : (Tryz.f4.params.all (Tryz.prog.readableRec ·)) = true := by kernel_rfl
theorem topSteppedLate_jf4 : (namedTie Tryz.prog Rows.topSteppedLateRow.named Rows.topSteppedLateSpec.vars) = true := by kernel_rfl
theorem topSteppedLate_jf5 : ((Rows.topSteppedLateRow.stops == [])) = true := by kernel_rfl
theorem topSteppedLate_jf6 : ((Tryz.prog.stops == [])) = true := by kernel_rfl
theorem topSteppedLate_jf7 : ((Rows.topSteppedLateRow.knobs == [])) = true := by kernel_rfl
theorem topSteppedLate_jf8 : ((Tryz.prog.stopKnobs == [])) = true := by kernel_rfl
theorem topSteppedLate_jf9 : ((Rows.topSteppedLateRow.inPlace == Tryz.prog.inPlace 4)) = true := by kernel_rfl
theorem topSteppedLate_jf10 : ((Rows.topSteppedLateRow.unfollowed == Tryz.prog.unfollowed 4)) = true := by kernel_rfl
theorem topSteppedLate_jf11 : ((Rows.topSteppedLateRow.recurses == Tryz.prog.recurses 4)) = true := by kernel_rfl
theorem topSteppedLate_jf12 : ((Rows.topSteppedLateRow.named == Tryz.prog.varsNamed 4)) = true := by kernel_rfl
theorem topSteppedLate_jf13 : ((Rows.topSteppedLateRow.maps == (Tryz.f4.params.toList ++ Rows.topSteppedLateSpec.plain.varTypes Tryz.prog).any (Tryz.prog.mapsRec ·))) = true := by kernel_rfl
theorem topSteppedLate_jf14 : ((Rows.topSteppedLateRow.ifaces == (Tryz.f4.params.toList ++ Rows.topSteppedLateSpec.plain.varTypes Tryz.prog).any (Tryz.prog.ifacesRec ·))) = true := by kernel_rfl
theorem topSteppedLate_jf15 : ((Rows.topSteppedLateRow.mapsOut == Tryz.prog.mapsAmong Tryz.f4.resultTypes.toList)) = true := by kernel_rfl
theorem topSteppedLate_jf16 : ((Rows.topSteppedLateRow.loops == (Tryz.f4.params.toList ++ Rows.topSteppedLateSpec.plain.varTypes Tryz.prog).any (Tryz.prog.loopsFrom ·))) = true := by kernel_rfl
theorem topSteppedLate_jf17 : ((Rows.topSteppedLateRow.wideKeys == (Tryz.f4.params.toList ++ Rows.topSteppedLateSpec.plain.varTypes Tryz.prog ++ Tryz.f4.resultTypes.toList).any (Tryz.prog.wideKeysFrom ·))) = true := by kernel_rfl
theorem topSteppedLate_jf18 : (Rows.topSteppedLateSpec.vars.all (Tryz.prog.varReadable ·)) = true := by kernel_rfl
theorem topSteppedLate_jf19 : (Tryz.f4.resultTypes.all (fun t => Tryz.prog.readableRec t && decide (t < Tryz.prog.types.size))) = true := by kernel_rfl
theorem topSteppedLate_jf20 : ((Rows.topSteppedLateRow.ifacesOut == Tryz.f4.resultTypes.toList.any (Tryz.prog.ifacesRec ·))) = true := by kernel_rfl
theorem topSteppedLate_jf21 : ((Rows.topSteppedLateRow.loopsOut == Tryz.f4.resultTypes.toList.any (Tryz.prog.loopsFrom ·))) = true := by kernel_rfl
theorem topSteppedLate_jf22 : ((Rows.topSteppedLateRow.plainKeys == Tryz.prog.plainKeys)) = true := by kernel_rfl
theorem topSteppedLate_jf23 : (Rows.topSteppedLateRow.shortTexts.isNone) = true := by kernel_rfl
theorem topSteppedLate_jf24 : (Tryz.prog.stopsHeard) = true := by kernel_rfl
theorem topSteppedLate_jf25 : (Tryz.prog.mayEnter) = true := by kernel_rfl
theorem topSteppedLate_jf26 : ((Rows.topSteppedLateRow.lifted == Tryz.prog.liftsFinal)) = true := by kernel_rfl
theorem topSteppedLate_jf27 : ((Tryz.prog.make == some Rows.topSteppedLateRow.make)) = true := by kernel_rfl
theorem topSteppedLate_jf28 : ((Rows.topSteppedLateRow.kinds == (if Rows.topSteppedLateRow.domain.isEmpty then [] else Tryz.f4.params.toList.map fun t => match Tryz.prog.underlying t with | some (.int k) => some k | _ => none))) = true := by kernel_rfl
theorem topSteppedLate_jf29 : ((Rows.topSteppedLateRow.pinned == Rows.topSteppedLateRow.pinnedBy)) = true := by kernel_rfl
theorem topSteppedLate_jf30 : ((Rows.topSteppedLateRow.veiled == (Tryz.f4.params.toList ++ Rows.topSteppedLateSpec.plain.varTypes Tryz.prog ++ Tryz.f4.resultTypes.toList).any (Tryz.prog.veiledRec ·))) = true := by kernel_rfl
theorem topSteppedLate_jf31 : (Rows.topSteppedLateRow.veiledFits Tryz.prog Tryz.f4.params.toList (Tryz.f4.params.toList ++ Rows.topSteppedLateSpec.plain.varTypes Tryz.prog ++ Tryz.f4.resultTypes.toList)) = true := by kernel_rfl
theorem topSteppedLate_joined : joinedFacts Tryz.prog 4 Tryz.f4 Rows.topSteppedLateSpec Rows.topSteppedLateRow = true := by
 unfold joinedFacts
 exact topSteppedLate_and (topSteppedLate_and (topSteppedLate_and (topSteppedLate_and (topSteppedLate_and (topSteppedLate_and (topSteppedLate_and (topSteppedLate_and (topSteppedLate_and (topSteppedLate_and (topSteppedLate_and (topSteppedLate_and (topSteppedLate_and (topSteppedLate_and (topSteppedLate_and (topSteppedLate_and (topSteppedLate_and (topSteppedLate_and (topSteppedLate_and (topSteppedLate_and (topSteppedLate_and (topSteppedLate_and (topSteppedLate_and (topSteppedLate_and (topSteppedLate_and (topSteppedLate_and (topSteppedLate_and (topSteppedLate_and (topSteppedLate_and (topSteppedLate_and (topSteppedLate_and (topSteppedLate_jf0) topSteppedLate_jf1) topSteppedLate_jf2) topSteppedLate_jf3) topSteppedLate_jf4) topSteppedLate_jf5) topSteppedLate_jf6) topSteppedLate_jf7) topSteppedLate_jf8) topSteppedLate_jf9) topSteppedLate_jf10) topSteppedLate_jf11) topSteppedLate_jf12) topSteppedLate_jf13) topSteppedLate_jf14) topSteppedLate_jf15) topSteppedLate_jf16) topSteppedLate_jf17) topSteppedLate_jf18) topSteppedLate_jf19) topSteppedLate_jf20) topSteppedLate_jf21) topSteppedLate_jf22) topSteppedLate_jf23) topSteppedLate_jf24) topSteppedLate_jf25) topSteppedLate_jf26) topSteppedLate_jf27) topSteppedLate_jf28) topSteppedLate_jf29) topSteppedLate_jf30) topSteppedLate_jf31
end Go.Proofs.YtgehhippjhealaaGreat
