/- The law TuneProofs answers true: which notes prove that there is no tune. No condition but those that stand in each. -/
import Derived.Test.YtjcabpldgdafeaaDL4Fn5
import Derived.Test.YtjcabpldgdafeaaDL4LawTunes
set_option linter.unusedSimpArgs false
set_option linter.unusedVariables false
namespace Go.Ev.YtjcabpldgdafeaaC
open Go Go.Proofs
attribute [local irreducible] Res.all evC evLoop evOps evOper evOp evFn evCall freeze G GO GV GP GC R
set_option maxRecDepth 100000
end Go.Ev.YtjcabpldgdafeaaC
