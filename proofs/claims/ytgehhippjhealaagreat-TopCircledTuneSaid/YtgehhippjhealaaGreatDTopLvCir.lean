/- The works of all layers up to 6. The law TopCircledTune answers true, whatever it is handed. No condition but those that stand in each. -/
import Derived.Test.YtgehhippjhealaaGreatDTopWA
import Derived.Test.YtgehhippjhealaaGreatDTopWB
import Derived.Test.YtgehhippjhealaaGreatDTopWC
import Derived.Test.YtgehhippjhealaaGreatDTopWD
import Derived.Test.YtgehhippjhealaaGreatDTopWE
import Derived.Test.YtgehhippjhealaaGreatDTopWF
import Derived.Test.YtgehhippjhealaaGreatDTopShd
import Derived.Test.YtgehhippjhealaaGreatDStLwC
import Derived.OpenShut
set_option linter.unusedSimpArgs false
set_option linter.unusedVariables false
set_option maxRecDepth 100000
namespace Go.Ev.YtgehhippjhealaaGreatC
open Go Go.Proofs
abbrev wkY (f:Nat):AnsY:=⟨f,[],.bool true,false⟩
theorem wks3:YOk T 4061 (wkY 145):=zC (fM Awj (fM Avn (fM Ayw fN))) (by kernel_rfl)
theorem wks4:YOk T 4161 (wkY 73):=zC (fM wks3 (fM Awa fN)) (by kernel_rfl)
theorem wks5:YOk T 4261 (wkY 34):=zC (fM wks4 (fM Axo fN)) (by kernel_rfl)
theorem wks6:YOk T 4361 (wkY 8):=zC (fM wks5 (fM Aye fN)) (by kernel_rfl)
theorem Afv:Con T 4400 8 [] (.bool true):=Ht (wks6.mono (by decide))
end Go.Ev.YtgehhippjhealaaGreatC
namespace Go.Ev.YtgehhippjhealaaGreatC
open Go Go.Proofs Go.ChangeShapes Go.WideShapes Go.ChangeAt
attribute [local irreducible] Res.all evC Dd Df Br Bh Dj Bd Bi G GO GV GP GC R
def Lg:Nat:=6000
theorem A0x (l:List Int) (w:Int) (_:∀n∈l,(Lit.int .i64 n).wf=true) (_:l.length<=maxLen) (hw:(Lit.int .u8 w).wf=true) :
  (Dj (Bd T Lg) c3 [.slice none (l.map (.int .i64)) false,.int .u8 w] []).all fun p=>p.1 = .bool true:=by
 have h1:=bounds_u8 hw
 obtain ⟨w,rfl⟩:=Int.eq_ofNat_of_zero_le h1.1
 exact A8n 4400 Lg Afv (by decide) (by decide) l w (by omega)
end Go.Ev.YtgehhippjhealaaGreatC
