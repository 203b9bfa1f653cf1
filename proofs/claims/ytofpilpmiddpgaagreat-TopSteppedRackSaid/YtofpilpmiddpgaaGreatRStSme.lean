/- Are two lists equal? A contract; its conditions stand in it. Again of layer 6: how often until all is as before. Power of layer 6: a habit done several times. No condition but those that stand in each. -/
import Derived.Test.YtofpilpmiddpgaaGreatRStCol
set_option linter.unusedSimpArgs false
set_option linter.unusedVariables false
set_option maxRecDepth 100000
namespace Go.Ev.YtofpilpmiddpgaaGreatC
open Go Go.Proofs
attribute [local irreducible] Res.all evC Dd Dg Bo Bf Dl Bg Bi G GO GV GP GC R
end Go.Ev.YtofpilpmiddpgaaGreatC
