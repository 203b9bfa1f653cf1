/- The law TuneAgains answers true: how many plays close a book, and how many heights prove. No condition but those that stand in each. -/
import Derived.Test.YtjcabpldgdafeaaEL4Fn6
import Derived.Test.YtjcabpldgdafeaaEL4LawTunes
import Derived.Test.YtjcabpldgdafeaaEL4Few
set_option linter.unusedSimpArgs false
set_option linter.unusedVariables false
namespace Go.Ev.YtjcabpldgdafeaaC
open Go Go.Proofs
attribute [local irreducible] Res.all evC evLoop evOps evOper evOp evFn evCall freeze G GO GV GP GC R
set_option maxRecDepth 100000
end Go.Ev.YtjcabpldgdafeaaC
