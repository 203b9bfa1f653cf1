/- The works of all layers up to 7. The law TopChainedBarrel answers true, whatever it is handed. No condition but those that stand in each. -/
import Derived.Test.YtgehhippjhealaaGreatCTopWA
import Derived.Test.YtgehhippjhealaaGreatCTopWB
import Derived.Test.YtgehhippjhealaaGreatCTopWC
import Derived.Test.YtgehhippjhealaaGreatCTopWD
import Derived.Test.YtgehhippjhealaaGreatCTopWE
import Derived.Test.YtgehhippjhealaaGreatCTopWF
import Derived.Test.YtgehhippjhealaaGreatCTopWG
import Derived.Test.YtgehhippjhealaaGreatCTopShd
import Derived.Test.YtgehhippjhealaaGreatCTopLawCha
import Derived.OpenShut
set_option linter.unusedSimpArgs false
set_option linter.unusedVariables false
set_option maxRecDepth 100000
namespace Go.Ev.YtgehhippjhealaaGreatC
open Go Go.Proofs
abbrev wkY (f : Nat) : AnsY := ⟨f, [], .bool true, false⟩
theorem wks3 : YOk T 4061 (wkY 145) := zB_con (k := 4000) (n := 60) (l := [wkY 196, wkY 197, wkY 198])
 (List.forall_mem_cons.2 ⟨wAworks.mono (by decide), List.forall_mem_cons.2 ⟨wBworks.mono (by decide), List.forall_mem_cons.2 ⟨wCworks.mono (by decide), fun _ h => by cases h⟩⟩⟩) (by kernel_rfl)
theorem wks4 : YOk T 4161 (wkY 73) := zB_con (k := 4100) (n := 60) (l := [wkY 145, wkY 146])
 (List.forall_mem_cons.2 ⟨wks3.mono (by decide), List.forall_mem_cons.2 ⟨wDworks.mono (by decide), fun _ h => by cases h⟩⟩) (by kernel_rfl)
theorem wks5 : YOk T 4261 (wkY 34) := zB_con (k := 4200) (n := 60) (l := [wkY 73, wkY 74])
 (List.forall_mem_cons.2 ⟨wks4.mono (by decide), List.forall_mem_cons.2 ⟨wEworks.mono (by decide), fun _ h => by cases h⟩⟩) (by kernel_rfl)
theorem wks6 : YOk T 4361 (wkY 8) := zB_con (k := 4300) (n := 60) (l := [wkY 34, wkY 35])
 (List.forall_mem_cons.2 ⟨wks5.mono (by decide), List.forall_mem_cons.2 ⟨wFworks.mono (by decide), fun _ h => by cases h⟩⟩) (by kernel_rfl)
theorem wks7 : YOk T 4461 (wkY 27) := zB_con (k := 4400) (n := 60) (l := [wkY 8, wkY 68])
 (List.forall_mem_cons.2 ⟨wks6.mono (by decide), List.forall_mem_cons.2 ⟨wGworks.mono (by decide), fun _ h => by cases h⟩⟩) (by kernel_rfl)
theorem con_works07 : Con T 4500 27 [] (.bool true) := con_of (wks7.mono (by decide))
end Go.Ev.YtgehhippjhealaaGreatC
set_option linter.unusedSimpArgs false
set_option linter.unusedVariables false
namespace Go.Ev.YtgehhippjhealaaGreatC
open Go Go.Proofs Go.ChangeShapes Go.WideShapes Go.ChangeAt
attribute [local irreducible] Res.all evC evLoop evOps evOper evOp evFn evCall freeze G GO GV GP GC R
set_option maxRecDepth 100000
def topChainedBarrel_n : Nat := 6000
theorem topChainedBarrel_ev (a b c : Int) (ha : (Lit.int .u8 a).wf = true) (hb : (Lit.int .u8 b).wf = true) (hc : (Lit.int .u8 c).wf = true) :
  (evFn (evCall T topChainedBarrel_n) c5 [.int .u8 a, .int .u8 b, .int .u8 c] []).all fun p => p.1 = .bool true := by
 have h1 := bounds_u8 ha
 have h2 := bounds_u8 hb
 have h3 := bounds_u8 hc
 obtain ⟨a, rfl⟩ := Int.eq_ofNat_of_zero_le h1.1
 obtain ⟨b, rfl⟩ := Int.eq_ofNat_of_zero_le h2.1
 obtain ⟨c, rfl⟩ := Int.eq_ofNat_of_zero_le h3.1
 exact topChained_at 4500 topChainedBarrel_n con_works07 (by decide) (by decide) a b c (by omega) (by omega) (by omega)
end Go.Ev.YtgehhippjhealaaGreatC
