/- Wrong of layer 6. No condition but those that stand in each. -/
import Derived.Test.YtbgodhhdojjbmaaGreatPStSteps
set_option linter.unusedSimpArgs false
set_option linter.unusedVariables false
set_option maxRecDepth 100000
namespace Go.Ev.YtbgodhhdojjbmaaGreatC
open Go Go.Proofs
attribute [local irreducible] Res.all evC Dg Di Bq Bg Do Bf Bj G GO GV GP GC R
end Go.Ev.YtbgodhhdojjbmaaGreatC
