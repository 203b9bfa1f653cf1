/- The slurs that lead from a note and are left, as the program yields them; and collected. The first tune that the program finds is the reference's. No condition but those that stand in each. -/
import Derived.Test.YtjcabpldgdafeaaAL4Prf
import Derived.Test.YtjcabpldgdafeaaAL4Rft
set_option linter.unusedSimpArgs false
set_option linter.unusedVariables false
namespace Go.Ev.YtjcabpldgdafeaaC
open Go Go.Proofs Go.Ev
attribute [local irreducible] Res.all evC evLoop evOps evOper evOp evFn evCall freeze G GO GV GP GC R
set_option maxRecDepth 100000
end Go.Ev.YtjcabpldgdafeaaC
namespace Go.Ev.YtjcabpldgdafeaaC
open Go Go.Proofs Go.Ev
attribute [local irreducible] Res.all evC evLoop evOps evOper evOp evFn evCall freeze G GO GV GP GC R
set_option maxRecDepth 100000
end Go.Ev.YtjcabpldgdafeaaC
set_option linter.unusedSimpArgs false
set_option linter.unusedVariables false
namespace Go.Ev.YtjcabpldgdafeaaC
open Go Go.Ev
end Go.Ev.YtjcabpldgdafeaaC
