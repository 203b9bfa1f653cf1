/- The works of all layers up to 6. The works of all layers up to 7. The law TopStampedBarrel answers true, whatever it is handed. No condition but those that stand in each. -/
import Derived.Test.YtgehhippjhealaaGreatBTopWA
import Derived.Test.YtgehhippjhealaaGreatBTopWB
import Derived.Test.YtgehhippjhealaaGreatBTopWC
import Derived.Test.YtgehhippjhealaaGreatBTopWD
import Derived.Test.YtgehhippjhealaaGreatBTopWE
import Derived.Test.YtgehhippjhealaaGreatBTopWF
import Derived.Test.YtgehhippjhealaaGreatBTopShd
import Derived.Test.YtgehhippjhealaaGreatBTopWG
import Derived.Test.YtgehhippjhealaaGreatBStLwB
import Derived.OpenShut
set_option linter.unusedSimpArgs false
set_option linter.unusedVariables false
set_option maxRecDepth 100000
namespace Go.Ev.YtgehhippjhealaaGreatC
open Go Go.Proofs
abbrev wkY (f:Nat):AnsY:=⟨f,[],.bool true,false⟩
theorem wks3:YOk T 4061 (wkY 145):=Bb (k:=4000) (n:=60) (l:=[wkY 196,wkY 197,wkY 198])
 (List.forall_mem_cons.2 ⟨wAworks.mono (by decide),List.forall_mem_cons.2 ⟨wBworks.mono (by decide),List.forall_mem_cons.2 ⟨wCworks.mono (by decide),fun _ h=>by cases h⟩⟩⟩) (by kernel_rfl)
theorem wks4:YOk T 4161 (wkY 73):=Bb (k:=4100) (n:=60) (l:=[wkY 145,wkY 146])
 (List.forall_mem_cons.2 ⟨wks3.mono (by decide),List.forall_mem_cons.2 ⟨wDworks.mono (by decide),fun _ h=>by cases h⟩⟩) (by kernel_rfl)
theorem wks5:YOk T 4261 (wkY 34):=Bb (k:=4200) (n:=60) (l:=[wkY 73,wkY 74])
 (List.forall_mem_cons.2 ⟨wks4.mono (by decide),List.forall_mem_cons.2 ⟨wEworks.mono (by decide),fun _ h=>by cases h⟩⟩) (by kernel_rfl)
theorem wks6:YOk T 4361 (wkY 8):=Bb (k:=4300) (n:=60) (l:=[wkY 34,wkY 35])
 (List.forall_mem_cons.2 ⟨wks5.mono (by decide),List.forall_mem_cons.2 ⟨wFworks.mono (by decide),fun _ h=>by cases h⟩⟩) (by kernel_rfl)
end Go.Ev.YtgehhippjhealaaGreatC
set_option linter.unusedSimpArgs false
set_option linter.unusedVariables false
set_option maxRecDepth 100000
namespace Go.Ev.YtgehhippjhealaaGreatC
open Go Go.Proofs
theorem wks7:YOk T 4461 (wkY 27):=Bb (k:=4400) (n:=60) (l:=[wkY 8,wkY 68])
 (List.forall_mem_cons.2 ⟨wks6.mono (by decide),List.forall_mem_cons.2 ⟨wGworks.mono (by decide),fun _ h=>by cases h⟩⟩) (by kernel_rfl)
theorem A5d:Con T 4500 27 [] (.bool true):=Gm (wks7.mono (by decide))
end Go.Ev.YtgehhippjhealaaGreatC
set_option linter.unusedSimpArgs false
set_option linter.unusedVariables false
namespace Go.Ev.YtgehhippjhealaaGreatC
open Go Go.Proofs Go.ChangeShapes Go.WideShapes Go.ChangeAt
attribute [local irreducible] Res.all evC Df Dh Bq Bh Dn Bf Bj G GO GV GP GC R
set_option maxRecDepth 100000
def Ic:Nat:=6000
theorem Sn (l:List Int) (a b:Int) (_:∀n∈l,(Lit.int .i64 n).wf=true) (_:l.length<=maxLen) (ha:(Lit.int .u32 a).wf=true) (hb:(Lit.int .u32 b).wf=true) :
  (Dn (Bf T Ic) c6 [.slice none (l.map (.int .i64)) false,.int .u32 a,.int .u32 b] []).all fun p=>p.1 = .bool true:=by
 have h1:=bounds_u32 ha
 have h2:=bounds_u32 hb
 obtain ⟨a,rfl⟩:=Int.eq_ofNat_of_zero_le h1.1
 obtain ⟨b,rfl⟩:=Int.eq_ofNat_of_zero_le h2.1
 exact A1k 4500 Ic A5d (by decide) (by decide) l a b (by omega) (by omega)
end Go.Ev.YtgehhippjhealaaGreatC
