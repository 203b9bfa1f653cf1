/- How far notes are, and by which slur each is reached; a slur played once more: the program's. The closing of a book with the fewest plays: the program's, round by round. No condition but those that stand in each. -/
import Derived.Test.YtjcabpldgdafeaaEL4Rch
set_option linter.unusedSimpArgs false
set_option linter.unusedVariables false
namespace Go.Ev.YtjcabpldgdafeaaC
open Go Go.Proofs Go.Ev
attribute [local irreducible] Res.all evC evLoop evOps evOper evOp evFn evCall freeze G GO GV GP GC R
set_option maxRecDepth 100000
end Go.Ev.YtjcabpldgdafeaaC
set_option linter.unusedSimpArgs false
set_option linter.unusedVariables false
namespace Go.Ev.YtjcabpldgdafeaaC
open Go Go.Proofs Go.Ev
attribute [local irreducible] Res.all evC evLoop evOps evOper evOp evFn evCall freeze G GO GV GP GC R
set_option maxRecDepth 100000
end Go.Ev.YtjcabpldgdafeaaC
