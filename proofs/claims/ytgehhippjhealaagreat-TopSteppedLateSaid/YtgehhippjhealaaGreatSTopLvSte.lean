/- The works of all layers up to 6. The law TopSteppedLate answers true, whatever it is handed. No condition but those that stand in each. -/
import Derived.Test.YtgehhippjhealaaGreatSTopWA
import Derived.Test.YtgehhippjhealaaGreatSTopWB
import Derived.Test.YtgehhippjhealaaGreatSTopWC
import Derived.Test.YtgehhippjhealaaGreatSTopWD
import Derived.Test.YtgehhippjhealaaGreatSTopWE
import Derived.Test.YtgehhippjhealaaGreatSTopWF
import Derived.Test.YtgehhippjhealaaGreatSTopShd
import Derived.Test.YtgehhippjhealaaGreatSStLaw
import Derived.Test.YtgehhippjhealaaGreatSTopOpO
import Derived.OpenShut
set_option linter.unusedSimpArgs false
set_option linter.unusedVariables false
set_option maxRecDepth 100000
namespace Go.Ev.YtgehhippjhealaaGreatC
open Go Go.Proofs
abbrev wkY (f : Nat) : AnsY := ⟨f, [], .bool true, false⟩
theorem wks3 : YOk T 4061 (wkY 145) := zB_con (k := 4000) (n := 60) (l := [wkY 196, wkY 197, wkY 198])
 (List.forall_mem_cons.2 ⟨wAworks.mono (by decide), List.forall_mem_cons.2 ⟨wBworks.mono (by decide), List.forall_mem_cons.2 ⟨wCworks.mono (by decide), fun _ h => by cases h⟩⟩⟩) (by kernel_rfl)
theorem wks4 : YOk T 4161 (wkY 73) := zB_con (k := 4100) (n := 60) (l := [wkY 145, wkY 146])
 (List.forall_mem_cons.2 ⟨wks3.mono (by decide), List.forall_mem_cons.2 ⟨wDworks.mono (by decide), fun _ h => by cases h⟩⟩) (by kernel_rfl)
theorem wks5 : YOk T 4261 (wkY 34) := zB_con (k := 4200) (n := 60) (l := [wkY 73, wkY 74])
 (List.forall_mem_cons.2 ⟨wks4.mono (by decide), List.forall_mem_cons.2 ⟨wEworks.mono (by decide), fun _ h => by cases h⟩⟩) (by kernel_rfl)
theorem wks6 : YOk T 4361 (wkY 8) := zB_con (k := 4300) (n := 60) (l := [wkY 34, wkY 35])
 (List.forall_mem_cons.2 ⟨wks5.mono (by decide), List.forall_mem_cons.2 ⟨wFworks.mono (by decide), fun _ h => by cases h⟩⟩) (by kernel_rfl)
theorem con_works06 : Con T 4400 8 [] (.bool true) := con_of (wks6.mono (by decide))
end Go.Ev.YtgehhippjhealaaGreatC
set_option linter.unusedSimpArgs false
set_option linter.unusedVariables false
namespace Go.Ev.YtgehhippjhealaaGreatC
open Go Go.Proofs Go.ChangeShapes Go.WideShapes Go.ChangeAt
open P5 (Order ocells OWf ords)
attribute [local irreducible] Res.all evC evLoop evOps evOper evOp evFn evCall freeze G GO GV GP GC R
set_option maxRecDepth 100000
def topSteppedLate_n : Nat := 6000
theorem topSteppedLate_ev (l : List Order) (w : List Int) (most : Bool) (_ : ∀ a ∈ l, OWf a) (_ : l.length ≤ maxLen) (hw : ∀ n ∈ w, (Lit.int .u8 n).wf = true) (_ : w.length ≤ maxLen) :
  (evFn (evCall T topSteppedLate_n) c4 [.slice (some 3) (l.map fun a => rowAV (some 3) (ocells a)) false, .slice none (w.map (.int .u8)) false, .bool most] []).all fun p => p.1 = .bool true := by
 have he : (l.map fun a => rowAV (some 3) (ocells a)) = l.map P5.oAV := rfl
 rw [he]
 exact topStepped_at 4400 topSteppedLate_n con_works06 (by decide) (by decide) l w most fun x hx => by
  have := bounds_u8 (hw x hx)
  omega
end Go.Ev.YtgehhippjhealaaGreatC
