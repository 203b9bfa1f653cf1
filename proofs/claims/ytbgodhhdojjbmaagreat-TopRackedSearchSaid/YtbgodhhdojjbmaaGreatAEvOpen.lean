/- A struct of numbers, as a law is handed it, opened. No condition but those that stand in each. -/
import Derived.Test.YtbgodhhdojjbmaaGreatAEvFrame
set_option linter.unusedSimpArgs false
set_option linter.unusedVariables false
namespace Go.Ev
open Go Go.ChangeShapes Go.WideShapes
end Go.Ev
