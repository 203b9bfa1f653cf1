/- Wrong of layer 6. No condition but those that stand in each. -/
import Derived.Test.YtofpilpmiddpgaaGreatRStSteps
set_option linter.unusedSimpArgs false
set_option linter.unusedVariables false
set_option maxRecDepth 100000
namespace Go.Ev.YtofpilpmiddpgaaGreatC
open Go Go.Proofs
attribute [local irreducible] Res.all evC Dd Dg Bo Bf Dl Bg Bi G GO GV GP GC R
end Go.Ev.YtofpilpmiddpgaaGreatC
