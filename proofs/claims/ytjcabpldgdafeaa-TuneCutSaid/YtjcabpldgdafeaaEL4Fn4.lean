/- The code of a law's function, compiled for the evaluator, as text. No condition but those that stand in each. -/
import Derived.Test.YtjcabpldgdafeaaEL4Code
set_option linter.unusedSimpArgs false
set_option linter.unusedVariables false
set_option maxRecDepth 100000
namespace Go.Ev.YtjcabpldgdafeaaC
open Go.Proofs
def c4 : IFunc := ⟨79, [.tmp 2], .seq (.ops [oZ 1 0, dO 2 (.mv (cB false))]) (.seq (.seq (.ops [oG 15 2 1, dO 16 (.callF false 21 [tM 15])]) (.cond (tM 16) (.seq (.ops [dO 17 (.callF false 16 []), oM 2 17]) .ret) .skip)) (.seq (.ops [oG 19 2 1, dO 20 (.callF false 22 [tM 19]), oM 18 20, oX 21 18 0, oX 22 18 1, oM 3 21, oM 4 22]) (.seq (.ops [oG 24 2 1, dO 25 (.callF false 23 [tM 24]), oM 23 25, oX 26 23 0, oX 27 23 1, oM 5 26, oM 6 27]) (.seq (.ops [oG 29 2 1, dO 30 (.callF false 24 [tM 29]), oM 28 30, oX 31 28 0, oX 32 28 1, oM 7 31, oM 8 32]) (.seq (.ops [oG 34 2 1, dO 35 (.callF false 25 [tM 34]), oM 33 35, oX 36 33 0, oX 37 33 1, oM 9 36, oM 10 37]) (.seq (.ops [oG 39 2 1, dO 40 (.callF false 26 [tM 39]), oM 38 40, oX 41 38 0, oX 42 38 1, oM 11 41, oM 12 42]) (.seq (.ops [oG 44 2 1, dO 45 (.callF false 27 [tM 44]), oM 43 45, oX 46 43 0, oX 47 43 1, oM 13 46, oM 14 47]) (.seq (.ops [oM 48 3, oM 49 5, dO 50 (.callF false 28 [tM 48, tM 49]), oM 51 50, gM 52 4 51 true, gM 53 6 51 true, gO 54 (.bin .eql (tM 52) (tM 53)) 51 true, oQ 55 51 54, oM 56 55, gM 57 7 56 true, gM 58 9 56 true, gO 59 (.callF false 28 [tM 57, tM 58]) 56 true, oQ 60 56 59, oM 61 60, gM 62 8 61 true, gM 63 10 61 true, gO 64 (.bin .eql (tM 62) (tM 63)) 61 true, oQ 65 61 64, oM 66 65, gM 67 11 66 true, gM 68 13 66 true, gO 69 (.bin .eql (tM 67) (tM 68)) 66 true, oQ 70 66 69, oM 71 70, gM 72 12 71 true, gM 73 14 71 true, gO 74 (.bin .eql (tM 72) (tM 73)) 71 true, oQ 75 71 74, oM 76 75, gO 77 (.callF false 16 []) 76 true, oQ 78 76 77, oM 2 78]) .ret))))))))⟩
theorem k4 : (cfgOf Try.prog byr).fns 4 = some c4 := by kernel_rfl
end Go.Ev.YtjcabpldgdafeaaC
