/- The program's reckoning of closed tunes: the numbers of all its steps, and that it answers as many as there are. No condition but those that stand in each. -/
import Derived.Test.YtjcabpldgdafeaaAL4Circ
import Derived.Test.YtjcabpldgdafeaaAL4Mth
set_option linter.unusedSimpArgs false
set_option linter.unusedVariables false
namespace Go.Ev.YtjcabpldgdafeaaC
open Go Go.Ev
theorem sumC_ite {W : List Nat} (hn : W.Nodup) {a : Nat} (ha : a ∈ W) (t : Int) : sumC W (fun v => if a = v then t else 0) = t := by
 have h1 : sumC W (fun v => if a = v then t else 0) = sumC W fun v => t * dl a v := sumC_congr fun v _ => by unfold dl; split <;> omega
 rw [h1, sumC_smul, sumC_dl hn ha]; omega
end Go.Ev.YtjcabpldgdafeaaC
