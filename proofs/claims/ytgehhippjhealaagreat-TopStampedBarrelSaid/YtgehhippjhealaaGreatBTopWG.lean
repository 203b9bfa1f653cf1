/- The works of a layer's examples, each call reckoned by the kernel, and joined. No condition but those that stand in each. -/
import Derived.Test.YtgehhippjhealaaGreatBTopW
import Derived.Test.YtgehhippjhealaaGreatBTopBax
set_option linter.unusedSimpArgs false
set_option linter.unusedVariables false
set_option maxRecDepth 100000
namespace Go.Ev.YtgehhippjhealaaGreatC
open Go Go.Proofs
def Ayv:AnsY:=⟨132,[(wI [4,1,6,3,9,0] false)],(.slice (some 2) [(.agg [(wN 4),(wN 1)]),(.agg [(wN 6),(wN 3)]),(.agg [(wN 9),(wN 0)])] false),false⟩
theorem wGz0:YOk T 61 Ayv:=Bb (k:=0) (n:=60) (l:=[]) ((fun _ h=>by cases h)) (by kernel_rfl)
def Ayp:AnsY:=⟨132,[(wI [4,1,6,2] false)],(.slice (some 2) [(.agg [(wN 4),(wN 1)]),(.agg [(wN 6),(wN 2)])] false),false⟩
theorem wGz1:YOk T 61 Ayp:=Bb (k:=0) (n:=60) (l:=[]) ((fun _ h=>by cases h)) (by kernel_rfl)
def Azt:AnsY:=⟨132,[(wI [4,1,6,2,3,0,5,4] false)],(.slice (some 2) [(.agg [(wN 4),(wN 1)]),(.agg [(wN 6),(wN 2)]),(.agg [(wN 3),(wN 0)]),(.agg [(wN 5),(wN 4)])] false),false⟩
theorem wGz2:YOk T 61 Azt:=Bb (k:=0) (n:=60) (l:=[]) ((fun _ h=>by cases h)) (by kernel_rfl)
def B1f:AnsY:=⟨132,[(wI [2,0,2,1] false)],(.slice (some 2) [(.agg [(wN 2),(wN 0)]),(.agg [(wN 2),(wN 1)])] false),false⟩
theorem wGz3:YOk T 61 B1f:=Bb (k:=0) (n:=60) (l:=[]) ((fun _ h=>by cases h)) (by kernel_rfl)
def Ayo:AnsY:=⟨31,[(.slice (some 2) [(.agg [(wN 4),(wN 1)]),(.agg [(wN 6),(wN 3)]),(.agg [(wN 9),(wN 0)])] false),(wN 9)],(.tuple [(wI [0,1,2] false),(wN 0)]),false⟩
theorem wGz5:YOk T 2061 Ayo:=Bb (k:=2000) (n:=60) (l:=[Ahy]) (List.forall_mem_cons.2 ⟨wGz4.mono (by decide),(fun _ h=>by cases h)⟩) (by kernel_rfl)
def A8k:AnsY:=⟨67,[(.ptr [(.slice (some 2) [(.agg [(wN 4),(wN 1)]),(.agg [(wN 6),(wN 3)]),(.agg [(wN 9),(wN 0)])] false),(.fmap [] [])] 0)],(.tuple [(wN 9),(wN 36),(.bool true)]),false⟩
theorem wGz7:YOk T 61 A8k:=Bb (k:=0) (n:=60) (l:=[]) ((fun _ h=>by cases h)) (by kernel_rfl)
def B0u:AnsY:=⟨25,[(.slice (some 2) [(.agg [(wN 4),(wN 1)]),(.agg [(wN 6),(wN 3)]),(.agg [(wN 9),(wN 0)])] false)],(.tuple [(wN 9),(wN 36),(wN 0)]),false⟩
theorem wGz8:YOk T 2061 B0u:=Bb (k:=2000) (n:=60) (l:=[A8f,A8k]) (List.forall_mem_cons.2 ⟨wGz6.mono (by decide),List.forall_mem_cons.2 ⟨wGz7.mono (by decide),(fun _ h=>by cases h)⟩⟩) (by kernel_rfl)
def Aln:AnsY:=⟨25,[(.slice (some 2) [(.agg [(wN 4),(wN 1)]),(.agg [(wN 6),(wN 2)])] false)],(.tuple [(wN 0),(wN 0),(wN 21)]),false⟩
theorem wGz10:YOk T 2061 Aln:=Bb (k:=2000) (n:=60) (l:=[A8v]) (List.forall_mem_cons.2 ⟨wGz9.mono (by decide),(fun _ h=>by cases h)⟩) (by kernel_rfl)
def Arj:AnsY:=⟨133,[(.slice (some 2) [(.agg [(wN 4),(wN 1)]),(.agg [(wN 6),(wN 3)]),(.agg [(wN 9),(wN 0)])] false),(wN 10)],(.tuple [(wN 45),(wN 0)]),false⟩
theorem wGz12:YOk T 2061 Arj:=Bb (k:=2000) (n:=60) (l:=[Abi,A8k]) (List.forall_mem_cons.2 ⟨wGz11.mono (by decide),List.forall_mem_cons.2 ⟨wGz7.mono (by decide),(fun _ h=>by cases h)⟩⟩) (by kernel_rfl)
def Amx:AnsY:=⟨134,[(.slice (some 2) [(.agg [(wN 4),(wN 1)]),(.agg [(wN 6),(wN 3)]),(.agg [(wN 9),(wN 0)])] false),(wN 0),(wN 100)],(.tuple [(wN 3),(wN 0)]),false⟩
theorem wGz14:YOk T 2061 Amx:=Bb (k:=2000) (n:=60) (l:=[A8o,A8k]) (List.forall_mem_cons.2 ⟨wGz13.mono (by decide),List.forall_mem_cons.2 ⟨wGz7.mono (by decide),(fun _ h=>by cases h)⟩⟩) (by kernel_rfl)
def Aov:AnsY:=⟨134,[(.slice (some 2) [(.agg [(wN 4),(wN 1)]),(.agg [(wN 6),(wN 3)]),(.agg [(wN 9),(wN 0)])] false),(wN 5),(wN 4)],(.tuple [(wN 0),(wN 2)]),false⟩
theorem wGz16:YOk T 2061 Aov:=Bb (k:=2000) (n:=60) (l:=[A8a]) (List.forall_mem_cons.2 ⟨wGz15.mono (by decide),(fun _ h=>by cases h)⟩) (by kernel_rfl)
def Aqs:AnsY:=⟨135,[(.slice (some 2) [(.agg [(wN 4),(wN 1)]),(.agg [(wN 6),(wN 2)])] false),(wN 0),(wN 1)],(.tuple [(wN 2),(wN 0)]),false⟩
theorem wGz17:YOk T 2061 Aqs:=Bb (k:=2000) (n:=60) (l:=[A8v]) (List.forall_mem_cons.2 ⟨wGz9.mono (by decide),(fun _ h=>by cases h)⟩) (by kernel_rfl)
def Anq:AnsY:=⟨135,[(.slice (some 2) [(.agg [(wN 4),(wN 1)]),(.agg [(wN 6),(wN 3)]),(.agg [(wN 9),(wN 0)])] false),(wN 0),(wN 1)],(.tuple [(wN 0),(wN 14)]),false⟩
theorem wGz18:YOk T 2061 Anq:=Bb (k:=2000) (n:=60) (l:=[A8f]) (List.forall_mem_cons.2 ⟨wGz6.mono (by decide),(fun _ h=>by cases h)⟩) (by kernel_rfl)
def Ajl:AnsY:=⟨234,[(.slice (some 2) [(.agg [(wN 4),(wN 1)]),(.agg [(wN 6),(wN 2)])] false),(.clo 186 [] [])],(wN (-1)),false⟩
theorem wGz19:YOk T 61 Ajl:=Bb (k:=0) (n:=60) (l:=[]) ((fun _ h=>by cases h)) (by kernel_rfl)
def Amp:AnsY:=⟨136,[(.slice (some 2) [(.agg [(wN 4),(wN 1)]),(.agg [(wN 6),(wN 2)])] false)],(.tuple [(wN 0),(wN 1),(wN 0)]),false⟩
theorem wGz20:YOk T 122 Amp:=Bb (k:=61) (n:=60) (l:=[Ajl]) (List.forall_mem_cons.2 ⟨wGz19.mono (by decide),(fun _ h=>by cases h)⟩) (by kernel_rfl)
def Ajg:AnsY:=⟨192,[(.ptr [(.slice (some 2) [(.agg [(wN 4),(wN 1)]),(.agg [(wN 6),(wN 2)]),(.agg [(wN 3),(wN 0)]),(.agg [(wN 5),(wN 4)])] false),(.fmap [(.agg [(wN 0),(wN 1)]),(.agg [(wN 1),(wN 2)])] [(wN 2),(wN 3)])] 0),(wI [] false),(wN 0)],(wI [0,2,3] false),false⟩
theorem wGz22:YOk T 61 Ajg:=Bb (k:=0) (n:=60) (l:=[]) ((fun _ h=>by cases h)) (by kernel_rfl)
def Ami:AnsY:=⟨137,[(.slice (some 2) [(.agg [(wN 4),(wN 1)]),(.agg [(wN 6),(wN 2)]),(.agg [(wN 3),(wN 0)]),(.agg [(wN 5),(wN 4)])] false)],(.tuple [(wI [0,2,3] false),(wN 0)]),false⟩
theorem wGz23:YOk T 2061 Ami:=Bb (k:=2000) (n:=60) (l:=[A1p,Ajg]) (List.forall_mem_cons.2 ⟨wGz21.mono (by decide),List.forall_mem_cons.2 ⟨wGz22.mono (by decide),(fun _ h=>by cases h)⟩⟩) (by kernel_rfl)
def Aij:AnsY:=⟨139,[(wI [0,1] false)],(wI [0,1] false),false⟩
theorem wGz24:YOk T 61 Aij:=Bb (k:=0) (n:=60) (l:=[]) ((fun _ h=>by cases h)) (by kernel_rfl)
def Aio:AnsY:=⟨138,[(.slice (some 2) [(.agg [(wN 4),(wN 1)]),(.agg [(wN 6),(wN 2)]),(.agg [(wN 3),(wN 0)]),(.agg [(wN 5),(wN 4)])] false),(wI [0,1] false)],(wN 21),false⟩
theorem wGz25:YOk T 2061 Aio:=Bb (k:=2000) (n:=60) (l:=[A1p]) (List.forall_mem_cons.2 ⟨wGz21.mono (by decide),(fun _ h=>by cases h)⟩) (by kernel_rfl)
def Asd:AnsY:=⟨140,[(.slice (some 2) [(.agg [(wN 4),(wN 1)]),(.agg [(wN 6),(wN 3)]),(.agg [(wN 9),(wN 0)])] false),(wN 0)],(.tuple [(wN 2),(wN 0)]),false⟩
theorem wGz27:YOk T 2061 Asd:=Bb (k:=2000) (n:=60) (l:=[Aak]) (List.forall_mem_cons.2 ⟨wGz26.mono (by decide),(fun _ h=>by cases h)⟩) (by kernel_rfl)
def Amu:AnsY:=⟨140,[(.slice (some 2) [(.agg [(wN 2),(wN 0)]),(.agg [(wN 2),(wN 1)])] false),(wN 0)],(.tuple [(wN 0),(wN 21)]),false⟩
theorem wGz29:YOk T 2061 Amu:=Bb (k:=2000) (n:=60) (l:=[A8m]) (List.forall_mem_cons.2 ⟨wGz28.mono (by decide),(fun _ h=>by cases h)⟩) (by kernel_rfl)
def Aad:AnsY:=⟨234,[(.slice (some 2) [(.agg [(wN 4),(wN 1)]),(.agg [(wN 6),(wN 3)]),(.agg [(wN 9),(wN 0)])] false),(.clo 186 [] [])],(wN (-1)),false⟩
theorem wGz30:YOk T 61 Aad:=Bb (k:=0) (n:=60) (l:=[]) ((fun _ h=>by cases h)) (by kernel_rfl)
def Amc:AnsY:=⟨67,[(.ptr [(.slice (some 2) [(.agg [(wN 4),(wN 1)]),(.agg [(wN 6),(wN 3)])] false),(.fmap [] [])] 0)],(.tuple [(wN 9),(wN 12),(.bool true)]),false⟩
theorem wGz31:YOk T 61 Amc:=Bb (k:=0) (n:=60) (l:=[]) ((fun _ h=>by cases h)) (by kernel_rfl)
def Amr:AnsY:=⟨141,[(.slice (some 2) [(.agg [(wN 4),(wN 1)]),(.agg [(wN 6),(wN 3)]),(.agg [(wN 9),(wN 0)])] false),(wN 2)],(.tuple [(wI [0,3,6] false),(wN 0)]),false⟩
theorem wGz32:YOk T 122 Amr:=Bb (k:=61) (n:=60) (l:=[Aad,Amc]) (List.forall_mem_cons.2 ⟨wGz30.mono (by decide),List.forall_mem_cons.2 ⟨wGz31.mono (by decide),(fun _ h=>by cases h)⟩⟩) (by kernel_rfl)
def Ajx:AnsY:=⟨141,[(.slice (some 2) [(.agg [(wN 4),(wN 1)]),(.agg [(wN 6),(wN 3)]),(.agg [(wN 9),(wN 0)])] false),(wN 3)],(.tuple [(wI [] false),(wN 2)]),false⟩
theorem wGz33:YOk T 122 Ajx:=Bb (k:=61) (n:=60) (l:=[Aad]) (List.forall_mem_cons.2 ⟨wGz30.mono (by decide),(fun _ h=>by cases h)⟩) (by kernel_rfl)
def Ato:AnsY:=⟨139,[(wI [0,1,2] false)],(wI [0,1,2] false),false⟩
theorem wGz34:YOk T 61 Ato:=Bb (k:=0) (n:=60) (l:=[]) ((fun _ h=>by cases h)) (by kernel_rfl)
def Apn:AnsY:=⟨142,[(wI [0,1,2] false),(wI [0,1,2] false)],(.bool true),false⟩
theorem wGz35:YOk T 61 Apn:=Bb (k:=0) (n:=60) (l:=[]) ((fun _ h=>by cases h)) (by kernel_rfl)
def Aqx:AnsY:=⟨139,[(wI [0,2,3] false)],(wI [0,2,3] false),false⟩
theorem wGz36:YOk T 61 Aqx:=Bb (k:=0) (n:=60) (l:=[]) ((fun _ h=>by cases h)) (by kernel_rfl)
def Asj:AnsY:=⟨142,[(wI [0,2,3] false),(wI [0,2,3] false)],(.bool true),false⟩
theorem wGz37:YOk T 61 Asj:=Bb (k:=0) (n:=60) (l:=[]) ((fun _ h=>by cases h)) (by kernel_rfl)
def Arg:AnsY:=⟨144,[(wI [0,3,6] false)],(wI [0,3,6] false),false⟩
theorem wGz38:YOk T 61 Arg:=Bb (k:=0) (n:=60) (l:=[]) ((fun _ h=>by cases h)) (by kernel_rfl)
def Ajm:AnsY:=⟨143,[(wI [0,3,6] false),(wI [0,3,6] false)],(.bool true),false⟩
theorem wGz39:YOk T 61 Ajm:=Bb (k:=0) (n:=60) (l:=[]) ((fun _ h=>by cases h)) (by kernel_rfl)
def B5i:AnsY:=⟨68,[],(.bool true),false⟩
theorem B4j:YOk T 2122 B5i:=Bb (k:=2061) (n:=60) (l:=[Ayv,Ayp,Azt,B1f,Ayo,B0u,Aln,Arj,Amx,Aov,Aqs,Anq,Amp,Ami,Aij,Aio,Asd,Amu,Amr,Ajx,Ato,Apn,Aqx,Asj,Arg,Ajm]) (List.forall_mem_cons.2 ⟨wGz0.mono (by decide),List.forall_mem_cons.2 ⟨wGz1.mono (by decide),List.forall_mem_cons.2 ⟨wGz2.mono (by decide),List.forall_mem_cons.2 ⟨wGz3.mono (by decide),List.forall_mem_cons.2 ⟨wGz5.mono (by decide),List.forall_mem_cons.2 ⟨wGz8.mono (by decide),List.forall_mem_cons.2 ⟨wGz10.mono (by decide),List.forall_mem_cons.2 ⟨wGz12.mono (by decide),List.forall_mem_cons.2 ⟨wGz14.mono (by decide),List.forall_mem_cons.2 ⟨wGz16.mono (by decide),List.forall_mem_cons.2 ⟨wGz17.mono (by decide),List.forall_mem_cons.2 ⟨wGz18.mono (by decide),List.forall_mem_cons.2 ⟨wGz20.mono (by decide),List.forall_mem_cons.2 ⟨wGz23.mono (by decide),List.forall_mem_cons.2 ⟨wGz24.mono (by decide),List.forall_mem_cons.2 ⟨wGz25.mono (by decide),List.forall_mem_cons.2 ⟨wGz27.mono (by decide),List.forall_mem_cons.2 ⟨wGz29.mono (by decide),List.forall_mem_cons.2 ⟨wGz32.mono (by decide),List.forall_mem_cons.2 ⟨wGz33.mono (by decide),List.forall_mem_cons.2 ⟨wGz34.mono (by decide),List.forall_mem_cons.2 ⟨wGz35.mono (by decide),List.forall_mem_cons.2 ⟨wGz36.mono (by decide),List.forall_mem_cons.2 ⟨wGz37.mono (by decide),List.forall_mem_cons.2 ⟨wGz38.mono (by decide),List.forall_mem_cons.2 ⟨wGz39.mono (by decide),(fun _ h=>by cases h)⟩⟩⟩⟩⟩⟩⟩⟩⟩⟩⟩⟩⟩⟩⟩⟩⟩⟩⟩⟩⟩⟩⟩⟩⟩⟩) (by kernel_rfl)
theorem wGworks:YOk T 2122 ⟨68,[],.bool true,false⟩:=B4j
end Go.Ev.YtgehhippjhealaaGreatC
