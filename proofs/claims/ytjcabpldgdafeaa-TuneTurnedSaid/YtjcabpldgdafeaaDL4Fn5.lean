/- The code of a law's function, compiled for the evaluator, as text. No condition but those that stand in each. -/
import Derived.Test.YtjcabpldgdafeaaDL4Code
set_option linter.unusedSimpArgs false
set_option linter.unusedVariables false
set_option maxRecDepth 100000
namespace Go.Ev.YtjcabpldgdafeaaC
open Go.Proofs
def c5 : IFunc := ⟨61, [.tmp 6], .seq (.ops [oZ 3 0, dO 6 (.mv (cB false))]) (.seq (.seq (.ops [oG 11 2 3, dO 12 (.callF false 21 [tM 11]), oM 13 12, gM 14 2 13 false, gO 15 (.len (tM 14)) 13 false, gK 16 .gtr 15 20 13 false, oP 17 13 16]) (.cond (tM 17) (.seq (.ops [dO 18 (.callF false 16 []), oM 6 18]) .ret) .skip)) (.seq (.ops [oG 20 2 3, dO 21 (.callF false 29 [tM 20]), oM 19 21, oX 22 19 0, oX 23 19 1, oX 24 19 2, oM 7 22, oM 8 23, oM 9 24]) (.seq (.ops [oG 25 2 3, dO 26 (.callF false 30 [tM 25]), oM 10 26]) (.seq (.seq (.ops [oM 27 9, oM 28 10, oB 29 .neq 27 28, oM 30 29, gO 31 (.load (some 2) (tM 3)) 30 false, gM 32 1 30 false, gM 33 2 30 false, gO 34 (.callF false 31 [tM 31, tM 32, tM 33]) 30 false, gO 35 (.load (some 2) (tM 3)) 30 false, gM 36 1 30 false, gM 37 2 30 false, gO 38 (.callF false 32 [tM 35, tM 36, tM 37]) 30 false, gO 39 (.bin .neq (tM 34) (tM 38)) 30 false, oP 40 30 39]) (.cond (tM 40) (.seq (.ops [dO 6 (.mv (cB false))]) .ret) .skip)) (.seq (.seq (.ops [oM 41 10, oK 42 .neq 41 0]) (.cond (tM 42) (.seq (.ops [oM 43 7, oK 44 .eql 43 0, oM 45 44, gM 46 8 45 true, gO 47 (.len (tM 46)) 45 true, gK 48 .eql 47 0 45 true, oQ 49 45 48, oM 50 49, gO 51 (.callF false 16 []) 50 true, oQ 52 50 51, oM 6 52]) .ret) .skip)) (.seq (.ops [oG 53 2 3, oM 54 7, oM 55 8, dO 56 (.callF false 32 [tM 53, tM 54, tM 55]), oK 57 .eql 56 0, oM 58 57, gO 59 (.callF false 16 []) 58 true, oQ 60 58 59, oM 6 60]) .ret))))))⟩
theorem k5 : (cfgOf Try.prog byr).fns 5 = some c5 := by kernel_rfl
end Go.Ev.YtjcabpldgdafeaaC
