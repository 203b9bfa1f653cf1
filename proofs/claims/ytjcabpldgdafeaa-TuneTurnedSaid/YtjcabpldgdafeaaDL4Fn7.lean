/- The code of a law's function, compiled for the evaluator, as text. No condition but those that stand in each. -/
import Derived.Test.YtjcabpldgdafeaaDL4Code
set_option linter.unusedSimpArgs false
set_option linter.unusedVariables false
set_option maxRecDepth 100000
namespace Go.Ev.YtjcabpldgdafeaaC
open Go.Proofs
end Go.Ev.YtjcabpldgdafeaaC
