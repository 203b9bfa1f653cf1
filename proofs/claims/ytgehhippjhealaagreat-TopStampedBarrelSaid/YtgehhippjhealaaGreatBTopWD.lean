/- The works of a layer's examples, each call reckoned by the kernel, and joined. No condition but those that stand in each. -/
import Derived.Test.YtgehhippjhealaaGreatBTopW
import Derived.Test.YtgehhippjhealaaGreatBTopCix
set_option linter.unusedSimpArgs false
set_option linter.unusedVariables false
set_option maxRecDepth 100000
namespace Go.Ev.YtgehhippjhealaaGreatC
open Go Go.Proofs
def B0q:AnsY:=⟨199,[],(.agg [(wN 3),(.slice (some 2) [(.agg [(wN 0),(wN 1)]),(.agg [(wN 1),(wN 2)]),(.agg [(wN 2),(wN 0)]),(.agg [(wN 0),(wN 2)])] false)]),false⟩
theorem wDz0:YOk T 61 B0q:=Bb (k:=0) (n:=60) (l:=[]) ((fun _ h=>by cases h)) (by kernel_rfl)
def Azo:AnsY:=⟨200,[],(.agg [(wN 4),(.slice (some 2) [(.agg [(wN 0),(wN 1)]),(.agg [(wN 1),(wN 0)]),(.agg [(wN 2),(wN 3)]),(.agg [(wN 3),(wN 2)])] false)]),false⟩
theorem wDz1:YOk T 61 Azo:=Bb (k:=0) (n:=60) (l:=[]) ((fun _ h=>by cases h)) (by kernel_rfl)
def Aym:AnsY:=⟨201,[],(.agg [(wN 3),(.slice (some 2) [(.agg [(wN 0),(wN 1)]),(.agg [(wN 0),(wN 2)])] false)]),false⟩
theorem wDz2:YOk T 61 Aym:=Bb (k:=0) (n:=60) (l:=[]) ((fun _ h=>by cases h)) (by kernel_rfl)
def Ayx:AnsY:=⟨203,[(wI [3,2,0,1] false)],(wI [3,2,0,1] false),false⟩
theorem wDz3:YOk T 61 Ayx:=Bb (k:=0) (n:=60) (l:=[]) ((fun _ h=>by cases h)) (by kernel_rfl)
def Azk:AnsY:=⟨170,[(.slice (some 2) [(.agg [(wN 0),(wN 1)]),(.agg [(wN 1),(wN 2)]),(.agg [(wN 2),(wN 0)]),(.agg [(wN 0),(wN 2)])] false),(.clo 168 [] [(.ptr [(wN 3),(.slice (some 2) [(.agg [(wN 0),(wN 1)]),(.agg [(wN 1),(wN 2)]),(.agg [(wN 2),(wN 0)]),(.agg [(wN 0),(wN 2)])] false)] 0)])],(wN (-1)),false⟩
theorem wDz4:YOk T 61 Azk:=Bb (k:=0) (n:=60) (l:=[]) ((fun _ h=>by cases h)) (by kernel_rfl)
def Kl:AnsY:=⟨98,[(.agg [(wN 3),(.slice (some 2) [(.agg [(wN 0),(wN 1)]),(.agg [(wN 1),(wN 2)]),(.agg [(wN 2),(wN 0)]),(.agg [(wN 0),(wN 2)])] false)])],(wN 0),false⟩
theorem wDz5:YOk T 122 Kl:=Bb (k:=61) (n:=60) (l:=[Azk]) (List.forall_mem_cons.2 ⟨wDz4.mono (by decide),(fun _ h=>by cases h)⟩) (by kernel_rfl)
def B2r:AnsY:=⟨202,[(.agg [(wN 3),(.slice (some 2) [(.agg [(wN 0),(wN 1)]),(.agg [(wN 1),(wN 2)]),(.agg [(wN 2),(wN 0)]),(.agg [(wN 0),(wN 2)])] false)]),(wI [3,2,0,1] false)],(.tuple [(wN 0),(wN 2),(wN 0)]),false⟩
theorem wDz6:YOk T 183 B2r:=Bb (k:=122) (n:=60) (l:=[Kl]) (List.forall_mem_cons.2 ⟨wDz5.mono (by decide),(fun _ h=>by cases h)⟩) (by kernel_rfl)
def Azb:AnsY:=⟨203,[(wI [0,1,3,2] false)],(wI [0,1,3,2] false),false⟩
theorem wDz7:YOk T 61 Azb:=Bb (k:=0) (n:=60) (l:=[]) ((fun _ h=>by cases h)) (by kernel_rfl)
def B0h:AnsY:=⟨202,[(.agg [(wN 3),(.slice (some 2) [(.agg [(wN 0),(wN 1)]),(.agg [(wN 1),(wN 2)]),(.agg [(wN 2),(wN 0)]),(.agg [(wN 0),(wN 2)])] false)]),(wI [0,1,3,2] false)],(.tuple [(wN 0),(wN 0),(wN 19)]),false⟩
theorem wDz8:YOk T 183 B0h:=Bb (k:=122) (n:=60) (l:=[Kl]) (List.forall_mem_cons.2 ⟨wDz5.mono (by decide),(fun _ h=>by cases h)⟩) (by kernel_rfl)
def A3p:AnsY:=⟨99,[(.ptr [(wN 3),(.slice (some 2) [(.agg [(wN 0),(wN 1)]),(.agg [(wN 1),(wN 2)]),(.agg [(wN 2),(wN 0)]),(.agg [(wN 0),(wN 2)])] false),(wN 1),(wN 0),(wN (-1)),(wN 0),(wN 0),(wN 0),(wN 0),(wN 0),(wI [0,0,0,0] false)] 0),(wN 0)],(wI [0,1,2] false),false⟩
theorem wDz9:YOk T 61 A3p:=Bb (k:=0) (n:=60) (l:=[]) ((fun _ h=>by cases h)) (by kernel_rfl)
def Xv:AnsY:=⟨49,[(.ptr [(wN 3),(.slice (some 2) [(.agg [(wN 0),(wN 1)]),(.agg [(wN 1),(wN 2)]),(.agg [(wN 2),(wN 0)]),(.agg [(wN 0),(wN 2)])] false),(wN 1),(wN 0),(wN (-1)),(wN 0),(wN 0),(wN 0),(wN 0),(wN 0),(wI [0,0,0,0] false)] 0),(wI [0,1,2] false)],(.bool false),false⟩
theorem wDz10:YOk T 61 Xv:=Bb (k:=0) (n:=60) (l:=[]) ((fun _ h=>by cases h)) (by kernel_rfl)
def Ate:AnsY:=⟨104,[(.clo 172 [] [(.ptr [(.ptr [(wN 3),(.slice (some 2) [(.agg [(wN 0),(wN 1)]),(.agg [(wN 1),(wN 2)]),(.agg [(wN 2),(wN 0)]),(.agg [(wN 0),(wN 2)])] false),(wN 1),(wN 0),(wN (-1)),(wN 0),(wN 0),(wN 0),(wN 0),(wN 0),(wI [0,0,0,0] false)] 0)] 0),(.ptr [(wN (-1))] 0),(.ptr [(wI [] false)] 0)])],(wI [0,1,2,3] false),true⟩
theorem wDz11:YOk T 61 Ate:=Zu (k:=0) (n:=60) (l:=[]) ((fun _ h=>by cases h)) (by kernel_rfl)
def Asu:AnsY:=⟨99,[(.ptr [(wN 3),(.slice (some 2) [(.agg [(wN 1),(wN 2)]),(.agg [(wN 2),(wN 0)]),(.agg [(wN 0),(wN 2)])] false),(wN 0),(wN 1),(wN (-1)),(wN 0),(wN 0),(wN 0),(wN 0),(wN 0),(wI [0,0,0] false)] 0),(wN 1)],(wI [0,1,2] false),false⟩
theorem wDz12:YOk T 61 Asu:=Bb (k:=0) (n:=60) (l:=[]) ((fun _ h=>by cases h)) (by kernel_rfl)
def Ake:AnsY:=⟨49,[(.ptr [(wN 3),(.slice (some 2) [(.agg [(wN 1),(wN 2)]),(.agg [(wN 2),(wN 0)]),(.agg [(wN 0),(wN 2)])] false),(wN 0),(wN 1),(wN (-1)),(wN 0),(wN 0),(wN 0),(wN 0),(wN 0),(wI [0,0,0] false)] 0),(wI [0,1,2] false)],(.bool false),false⟩
theorem wDz13:YOk T 61 Ake:=Bb (k:=0) (n:=60) (l:=[]) ((fun _ h=>by cases h)) (by kernel_rfl)
def Amh:AnsY:=⟨107,[(.ptr [(wN 3),(.slice (some 2) [(.agg [(wN 0),(wN 1)]),(.agg [(wN 1),(wN 2)]),(.agg [(wN 2),(wN 0)]),(.agg [(wN 0),(wN 2)])] false),(wN 1),(wN 0),(wN (-1)),(wN 0),(wN 0),(wN 0),(wN 0),(wN 0),(wI [0,0,0,0] false)] 0),(wN 1),(wI [0] false)],(.bool true),false⟩
theorem wDz14:YOk T 122 Amh:=Bb (k:=61) (n:=60) (l:=[Asu,Ake]) (List.forall_mem_cons.2 ⟨wDz12.mono (by decide),List.forall_mem_cons.2 ⟨wDz13.mono (by decide),(fun _ h=>by cases h)⟩⟩) (by kernel_rfl)
def Atn:AnsY:=⟨99,[(.ptr [(wN 3),(.slice (some 2) [(.agg [(wN 2),(wN 0)]),(.agg [(wN 0),(wN 2)])] false),(wN 0),(wN 0),(wN 0),(wN 0),(wN 0),(wN 0),(wN 0),(wN 0),(wI [0,0] false)] 0),(wN 2)],(wI [0,2] false),false⟩
theorem wDz15:YOk T 61 Atn:=Bb (k:=0) (n:=60) (l:=[]) ((fun _ h=>by cases h)) (by kernel_rfl)
def Apr:AnsY:=⟨49,[(.ptr [(wN 3),(.slice (some 2) [(.agg [(wN 2),(wN 0)]),(.agg [(wN 0),(wN 2)])] false),(wN 0),(wN 0),(wN 0),(wN 0),(wN 0),(wN 0),(wN 0),(wN 0),(wI [0,0] false)] 0),(wI [0,2] false)],(.bool false),false⟩
theorem wDz16:YOk T 61 Apr:=Bb (k:=0) (n:=60) (l:=[]) ((fun _ h=>by cases h)) (by kernel_rfl)
def Aqr:AnsY:=⟨41,[(.ptr [(wN 3),(.slice (some 2) [(.agg [(wN 2),(wN 0)]),(.agg [(wN 0),(wN 2)])] false),(wN 0),(wN 0),(wN 0),(wN 0),(wN 0),(wN 0),(wN 0),(wN 0),(wI [0,0] false)] 0)],(wI [0,2] false),true⟩
theorem wDz17:YOk T 122 Aqr:=Zu (k:=61) (n:=60) (l:=[Atn,Apr]) (List.forall_mem_cons.2 ⟨wDz15.mono (by decide),List.forall_mem_cons.2 ⟨wDz16.mono (by decide),(fun _ h=>by cases h)⟩⟩) (by kernel_rfl)
def Aob:AnsY:=⟨107,[(.ptr [(wN 3),(.slice (some 2) [(.agg [(wN 0),(wN 1)]),(.agg [(wN 1),(wN 2)]),(.agg [(wN 2),(wN 0)]),(.agg [(wN 0),(wN 2)])] false),(wN 1),(wN 0),(wN (-1)),(wN 0),(wN 0),(wN 0),(wN 0),(wN 0),(wI [0,0,0,0] false)] 0),(wN 2),(wI [0,1] false)],(.bool true),false⟩
theorem wDz18:YOk T 183 Aob:=Bb (k:=122) (n:=60) (l:=[Aqr]) (List.forall_mem_cons.2 ⟨wDz17.mono (by decide),(fun _ h=>by cases h)⟩) (by kernel_rfl)
def Aiv:AnsY:=⟨99,[(.ptr [(wN 3),(.slice (some 2) [(.agg [(wN 0),(wN 2)])] false),(wN 1),(wN 0),(wN (-1)),(wN 0),(wN 0),(wN 0),(wN 0),(wN 0),(wI [0] false)] 0),(wN 0)],(wI [0,2] false),false⟩
theorem wDz19:YOk T 61 Aiv:=Bb (k:=0) (n:=60) (l:=[]) ((fun _ h=>by cases h)) (by kernel_rfl)
def Alm:AnsY:=⟨41,[(.ptr [(wN 3),(.slice (some 2) [(.agg [(wN 0),(wN 2)])] false),(wN 1),(wN 0),(wN (-1)),(wN 0),(wN 0),(wN 0),(wN 0),(wN 0),(wI [0] false)] 0)],(wI [0] false),true⟩
theorem wDz20:YOk T 122 Alm:=Zu (k:=61) (n:=60) (l:=[Aiv]) (List.forall_mem_cons.2 ⟨wDz19.mono (by decide),(fun _ h=>by cases h)⟩) (by kernel_rfl)
def Aqb:AnsY:=⟨107,[(.ptr [(wN 3),(.slice (some 2) [(.agg [(wN 0),(wN 1)]),(.agg [(wN 1),(wN 2)]),(.agg [(wN 2),(wN 0)]),(.agg [(wN 0),(wN 2)])] false),(wN 1),(wN 0),(wN (-1)),(wN 0),(wN 0),(wN 0),(wN 0),(wN 0),(wI [0,0,0,0] false)] 0),(wN 0),(wI [0,1,2] false)],(.bool true),false⟩
theorem wDz21:YOk T 183 Aqb:=Bb (k:=122) (n:=60) (l:=[Alm]) (List.forall_mem_cons.2 ⟨wDz20.mono (by decide),(fun _ h=>by cases h)⟩) (by kernel_rfl)
def Arf:AnsY:=⟨107,[(.ptr [(wN 3),(.slice (some 2) [(.agg [(wN 0),(wN 1)]),(.agg [(wN 1),(wN 2)]),(.agg [(wN 2),(wN 0)]),(.agg [(wN 0),(wN 2)])] false),(wN 1),(wN 0),(wN (-1)),(wN 0),(wN 0),(wN 0),(wN 0),(wN 0),(wI [0,0,0,0] false)] 0),(wN 2),(wI [0,1,2,3] false)],(.bool true),false⟩
theorem wDz22:YOk T 61 Arf:=Bb (k:=0) (n:=60) (l:=[]) ((fun _ h=>by cases h)) (by kernel_rfl)
def Aps:AnsY:=⟨45,[(.ptr [(wN 3),(.slice (some 2) [(.agg [(wN 0),(wN 1)]),(.agg [(wN 1),(wN 2)]),(.agg [(wN 2),(wN 0)]),(.agg [(wN 0),(wN 2)])] false),(wN 1),(wN 0),(wN (-1)),(wN 0),(wN 0),(wN 0),(wN 0),(wN 0),(wI [0,0,0,0] false)] 0)],(wI [0,1,2,3] false),false⟩
theorem wDz23:YOk T 244 Aps:=Bb (k:=183) (n:=60) (l:=[Ate,Amh,Aob,Aqb,Arf]) (List.forall_mem_cons.2 ⟨wDz11.mono (by decide),List.forall_mem_cons.2 ⟨wDz14.mono (by decide),List.forall_mem_cons.2 ⟨wDz18.mono (by decide),List.forall_mem_cons.2 ⟨wDz21.mono (by decide),List.forall_mem_cons.2 ⟨wDz22.mono (by decide),(fun _ h=>by cases h)⟩⟩⟩⟩⟩) (by kernel_rfl)
def Aty:AnsY:=⟨12,[(.agg [(wN 3),(.slice (some 2) [(.agg [(wN 0),(wN 1)]),(.agg [(wN 1),(wN 2)]),(.agg [(wN 2),(wN 0)]),(.agg [(wN 0),(wN 2)])] false)])],(.tuple [(wI [0,1,2,3] false),(wN 0)]),false⟩
theorem wDz24:YOk T 305 Aty:=Bb (k:=244) (n:=60) (l:=[Kl,A3p,Xv,Aps]) (List.forall_mem_cons.2 ⟨wDz5.mono (by decide),List.forall_mem_cons.2 ⟨wDz9.mono (by decide),List.forall_mem_cons.2 ⟨wDz10.mono (by decide),List.forall_mem_cons.2 ⟨wDz23.mono (by decide),(fun _ h=>by cases h)⟩⟩⟩⟩) (by kernel_rfl)
def Aos:AnsY:=⟨170,[(.slice (some 2) [(.agg [(wN 0),(wN 1)]),(.agg [(wN 1),(wN 0)]),(.agg [(wN 2),(wN 3)]),(.agg [(wN 3),(wN 2)])] false),(.clo 168 [] [(.ptr [(wN 4),(.slice (some 2) [(.agg [(wN 0),(wN 1)]),(.agg [(wN 1),(wN 0)]),(.agg [(wN 2),(wN 3)]),(.agg [(wN 3),(wN 2)])] false)] 0)])],(wN (-1)),false⟩
theorem wDz25:YOk T 61 Aos:=Bb (k:=0) (n:=60) (l:=[]) ((fun _ h=>by cases h)) (by kernel_rfl)
def Vl:AnsY:=⟨98,[(.agg [(wN 4),(.slice (some 2) [(.agg [(wN 0),(wN 1)]),(.agg [(wN 1),(wN 0)]),(.agg [(wN 2),(wN 3)]),(.agg [(wN 3),(wN 2)])] false)])],(wN 0),false⟩
theorem wDz26:YOk T 122 Vl:=Bb (k:=61) (n:=60) (l:=[Aos]) (List.forall_mem_cons.2 ⟨wDz25.mono (by decide),(fun _ h=>by cases h)⟩) (by kernel_rfl)
def A9t:AnsY:=⟨99,[(.ptr [(wN 4),(.slice (some 2) [(.agg [(wN 0),(wN 1)]),(.agg [(wN 1),(wN 0)]),(.agg [(wN 2),(wN 3)]),(.agg [(wN 3),(wN 2)])] false),(wN 0),(wN 0),(wN 0),(wN 0),(wN 0),(wN 0),(wN 0),(wN 0),(wI [0,0,0,0] false)] 0),(wN 0)],(wI [0,1] false),false⟩
theorem wDz27:YOk T 61 A9t:=Bb (k:=0) (n:=60) (l:=[]) ((fun _ h=>by cases h)) (by kernel_rfl)
def A1n:AnsY:=⟨49,[(.ptr [(wN 4),(.slice (some 2) [(.agg [(wN 0),(wN 1)]),(.agg [(wN 1),(wN 0)]),(.agg [(wN 2),(wN 3)]),(.agg [(wN 3),(wN 2)])] false),(wN 0),(wN 0),(wN 0),(wN 0),(wN 0),(wN 0),(wN 0),(wN 0),(wI [0,0,0,0] false)] 0),(wI [0,1] false)],(.bool true),false⟩
theorem wDz28:YOk T 61 A1n:=Bb (k:=0) (n:=60) (l:=[]) ((fun _ h=>by cases h)) (by kernel_rfl)
def Apj:AnsY:=⟨12,[(.agg [(wN 4),(.slice (some 2) [(.agg [(wN 0),(wN 1)]),(.agg [(wN 1),(wN 0)]),(.agg [(wN 2),(wN 3)]),(.agg [(wN 3),(wN 2)])] false)])],(.tuple [(wI [] false),(wN 19)]),false⟩
theorem wDz29:YOk T 183 Apj:=Bb (k:=122) (n:=60) (l:=[Vl,A9t,A1n]) (List.forall_mem_cons.2 ⟨wDz26.mono (by decide),List.forall_mem_cons.2 ⟨wDz27.mono (by decide),List.forall_mem_cons.2 ⟨wDz28.mono (by decide),(fun _ h=>by cases h)⟩⟩⟩) (by kernel_rfl)
def Aja:AnsY:=⟨204,[(.agg [(wN 3),(.slice (some 2) [(.agg [(wN 0),(wN 1)]),(.agg [(wN 1),(wN 2)]),(.agg [(wN 2),(wN 0)]),(.agg [(wN 0),(wN 2)])] false)])],(.tuple [(wI [0] false),(wN 0)]),false⟩
theorem wDz30:YOk T 183 Aja:=Bb (k:=122) (n:=60) (l:=[Kl,A3p,Xv]) (List.forall_mem_cons.2 ⟨wDz5.mono (by decide),List.forall_mem_cons.2 ⟨wDz9.mono (by decide),List.forall_mem_cons.2 ⟨wDz10.mono (by decide),(fun _ h=>by cases h)⟩⟩⟩) (by kernel_rfl)
def Anp:AnsY:=⟨11,[(.agg [(wN 3),(.slice (some 2) [(.agg [(wN 0),(wN 1)]),(.agg [(wN 1),(wN 2)]),(.agg [(wN 2),(wN 0)]),(.agg [(wN 0),(wN 2)])] false)])],(.tuple [(wN 2),(wN 0)]),false⟩
theorem wDz32:YOk T 2061 Anp:=Bb (k:=2000) (n:=60) (l:=[Kl,A3p,Xv,wDy31]) (List.forall_mem_cons.2 ⟨wDz5.mono (by decide),List.forall_mem_cons.2 ⟨wDz9.mono (by decide),List.forall_mem_cons.2 ⟨wDz10.mono (by decide),List.forall_mem_cons.2 ⟨wDz31.mono (by decide),(fun _ h=>by cases h)⟩⟩⟩⟩) (by kernel_rfl)
def Amz:AnsY:=⟨170,[(.slice (some 2) [(.agg [(wN 0),(wN 1)]),(.agg [(wN 0),(wN 2)])] false),(.clo 168 [] [(.ptr [(wN 3),(.slice (some 2) [(.agg [(wN 0),(wN 1)]),(.agg [(wN 0),(wN 2)])] false)] 0)])],(wN (-1)),false⟩
theorem wDz33:YOk T 61 Amz:=Bb (k:=0) (n:=60) (l:=[]) ((fun _ h=>by cases h)) (by kernel_rfl)
def Aan:AnsY:=⟨98,[(.agg [(wN 3),(.slice (some 2) [(.agg [(wN 0),(wN 1)]),(.agg [(wN 0),(wN 2)])] false)])],(wN 0),false⟩
theorem wDz34:YOk T 122 Aan:=Bb (k:=61) (n:=60) (l:=[Amz]) (List.forall_mem_cons.2 ⟨wDz33.mono (by decide),(fun _ h=>by cases h)⟩) (by kernel_rfl)
def Ani:AnsY:=⟨99,[(.ptr [(wN 3),(.slice (some 2) [(.agg [(wN 0),(wN 1)]),(.agg [(wN 0),(wN 2)])] false),(wN 2),(wN (-1)),(wN (-1)),(wN 0),(wN 0),(wN 0),(wN 0),(wN 0),(wI [0,0] false)] 0),(wN 0)],(wI [0,1,2] false),false⟩
theorem wDz35:YOk T 61 Ani:=Bb (k:=0) (n:=60) (l:=[]) ((fun _ h=>by cases h)) (by kernel_rfl)
def Asz:AnsY:=⟨49,[(.ptr [(wN 3),(.slice (some 2) [(.agg [(wN 0),(wN 1)]),(.agg [(wN 0),(wN 2)])] false),(wN 2),(wN (-1)),(wN (-1)),(wN 0),(wN 0),(wN 0),(wN 0),(wN 0),(wI [0,0] false)] 0),(wI [0,1,2] false)],(.bool false),false⟩
theorem wDz36:YOk T 61 Asz:=Bb (k:=0) (n:=60) (l:=[]) ((fun _ h=>by cases h)) (by kernel_rfl)
def Aqc:AnsY:=⟨11,[(.agg [(wN 3),(.slice (some 2) [(.agg [(wN 0),(wN 1)]),(.agg [(wN 0),(wN 2)])] false)])],(.tuple [(wN 0),(wN 0)]),false⟩
theorem wDz37:YOk T 183 Aqc:=Bb (k:=122) (n:=60) (l:=[Aan,Ani,Asz]) (List.forall_mem_cons.2 ⟨wDz34.mono (by decide),List.forall_mem_cons.2 ⟨wDz35.mono (by decide),List.forall_mem_cons.2 ⟨wDz36.mono (by decide),(fun _ h=>by cases h)⟩⟩⟩) (by kernel_rfl)
def Arr:AnsY:=⟨203,[(wI [0,1] false)],(wI [0,1] false),false⟩
theorem wDz38:YOk T 61 Arr:=Bb (k:=0) (n:=60) (l:=[]) ((fun _ h=>by cases h)) (by kernel_rfl)
def Aqy:AnsY:=⟨16,[(.agg [(wN 4),(.slice (some 2) [(.agg [(wN 0),(wN 1)]),(.agg [(wN 1),(wN 0)]),(.agg [(wN 2),(wN 3)]),(.agg [(wN 3),(wN 2)])] false)]),(wN 2),(wI [0,1] false)],(wN 0),false⟩
theorem wDz39:YOk T 183 Aqy:=Bb (k:=122) (n:=60) (l:=[Vl,A1n]) (List.forall_mem_cons.2 ⟨wDz26.mono (by decide),List.forall_mem_cons.2 ⟨wDz28.mono (by decide),(fun _ h=>by cases h)⟩⟩) (by kernel_rfl)
def Akw:AnsY:=⟨203,[(wI [0,2] false)],(wI [0,2] false),false⟩
theorem wDz40:YOk T 61 Akw:=Bb (k:=0) (n:=60) (l:=[]) ((fun _ h=>by cases h)) (by kernel_rfl)
def Akj:AnsY:=⟨16,[(.agg [(wN 4),(.slice (some 2) [(.agg [(wN 0),(wN 1)]),(.agg [(wN 1),(wN 0)]),(.agg [(wN 2),(wN 3)]),(.agg [(wN 3),(wN 2)])] false)]),(wN 2),(wI [0,2] false)],(wN 14),false⟩
theorem wDz41:YOk T 183 Akj:=Bb (k:=122) (n:=60) (l:=[Vl]) (List.forall_mem_cons.2 ⟨wDz26.mono (by decide),(fun _ h=>by cases h)⟩) (by kernel_rfl)
def Aor:AnsY:=⟨203,[(wI [0] false)],(wI [0] false),false⟩
theorem wDz42:YOk T 61 Aor:=Bb (k:=0) (n:=60) (l:=[]) ((fun _ h=>by cases h)) (by kernel_rfl)
def Aik:AnsY:=⟨16,[(.agg [(wN 3),(.slice (some 2) [(.agg [(wN 0),(wN 1)]),(.agg [(wN 0),(wN 2)])] false)]),(wN 1),(wI [0] false)],(wN 0),false⟩
theorem wDz43:YOk T 183 Aik:=Bb (k:=122) (n:=60) (l:=[Aan]) (List.forall_mem_cons.2 ⟨wDz34.mono (by decide),(fun _ h=>by cases h)⟩) (by kernel_rfl)
def Amw:AnsY:=⟨205,[(.agg [(wN 4),(.slice (some 2) [(.agg [(wN 0),(wN 1)]),(.agg [(wN 1),(wN 0)]),(.agg [(wN 2),(wN 3)]),(.agg [(wN 3),(wN 2)])] false)])],(.tuple [(wN 2),(wI [0,1] false),(wN 0)]),false⟩
theorem wDz44:YOk T 183 Amw:=Bb (k:=122) (n:=60) (l:=[Vl,A9t,A1n]) (List.forall_mem_cons.2 ⟨wDz26.mono (by decide),List.forall_mem_cons.2 ⟨wDz27.mono (by decide),List.forall_mem_cons.2 ⟨wDz28.mono (by decide),(fun _ h=>by cases h)⟩⟩⟩) (by kernel_rfl)
def Apg:AnsY:=⟨205,[(.agg [(wN 3),(.slice (some 2) [(.agg [(wN 0),(wN 1)]),(.agg [(wN 1),(wN 2)]),(.agg [(wN 2),(wN 0)]),(.agg [(wN 0),(wN 2)])] false)])],(.tuple [(wN 0),(wI [] false),(wN 5)]),false⟩
theorem wDz45:YOk T 183 Apg:=Bb (k:=122) (n:=60) (l:=[Kl,A3p,Xv]) (List.forall_mem_cons.2 ⟨wDz5.mono (by decide),List.forall_mem_cons.2 ⟨wDz9.mono (by decide),List.forall_mem_cons.2 ⟨wDz10.mono (by decide),(fun _ h=>by cases h)⟩⟩⟩) (by kernel_rfl)
def Asn:AnsY:=⟨203,[(wI [1,1,2,0] false)],(wI [1,1,2,0] false),false⟩
theorem wDz46:YOk T 61 Asn:=Bb (k:=0) (n:=60) (l:=[]) ((fun _ h=>by cases h)) (by kernel_rfl)
def Ain:AnsY:=⟨108,[(.ptr [(wN 3),(.slice (some 2) [(.agg [(wN 0),(wN 1)]),(.agg [(wN 1),(wN 2)]),(.agg [(wN 2),(wN 0)]),(.agg [(wN 0),(wN 2)])] false),(wN 0),(wN 0),(wN 0),(wN 0),(wN 0),(wN 0),(wN 0),(wN 0),(wI [1,1,2,0] false)] 0)],(.bool true),false⟩
theorem wDz47:YOk T 61 Ain:=Bb (k:=0) (n:=60) (l:=[]) ((fun _ h=>by cases h)) (by kernel_rfl)
def Aiz:AnsY:=⟨206,[(.agg [(wN 3),(.slice (some 2) [(.agg [(wN 0),(wN 1)]),(.agg [(wN 1),(wN 2)]),(.agg [(wN 2),(wN 0)]),(.agg [(wN 0),(wN 2)])] false)]),(wI [1,1,2,0] false)],(.tuple [(wN 4),(wN 0)]),false⟩
theorem wDz48:YOk T 183 Aiz:=Bb (k:=122) (n:=60) (l:=[Kl,Ain]) (List.forall_mem_cons.2 ⟨wDz5.mono (by decide),List.forall_mem_cons.2 ⟨wDz47.mono (by decide),(fun _ h=>by cases h)⟩⟩) (by kernel_rfl)
def Asx:AnsY:=⟨203,[(wI [0,0,0,0] false)],(wI [0,0,0,0] false),false⟩
theorem wDz49:YOk T 61 Asx:=Bb (k:=0) (n:=60) (l:=[]) ((fun _ h=>by cases h)) (by kernel_rfl)
def Asm:AnsY:=⟨206,[(.agg [(wN 3),(.slice (some 2) [(.agg [(wN 0),(wN 1)]),(.agg [(wN 1),(wN 2)]),(.agg [(wN 2),(wN 0)]),(.agg [(wN 0),(wN 2)])] false)]),(wI [0,0,0,0] false)],(.tuple [(wN 0),(wN 19)]),false⟩
theorem wDz50:YOk T 183 Asm:=Bb (k:=122) (n:=60) (l:=[Kl]) (List.forall_mem_cons.2 ⟨wDz5.mono (by decide),(fun _ h=>by cases h)⟩) (by kernel_rfl)
def Abl:AnsY:=⟨108,[(.ptr [(wN 3),(.slice (some 2) [(.agg [(wN 0),(wN 1)]),(.agg [(wN 1),(wN 2)]),(.agg [(wN 2),(wN 0)]),(.agg [(wN 0),(wN 2)])] false),(wN 1),(wN 0),(wN (-1)),(wN 0),(wN 0),(wN 0),(wN 0),(wN 0),(wI [0,0,0,0] false)] 0)],(.bool true),false⟩
theorem wDz51:YOk T 61 Abl:=Bb (k:=0) (n:=60) (l:=[]) ((fun _ h=>by cases h)) (by kernel_rfl)
def Ati:AnsY:=⟨13,[(.agg [(wN 3),(.slice (some 2) [(.agg [(wN 0),(wN 1)]),(.agg [(wN 1),(wN 2)]),(.agg [(wN 2),(wN 0)]),(.agg [(wN 0),(wN 2)])] false)])],(.tuple [(wI [0,0,1,0] false),(wN 0)]),false⟩
theorem wDz52:YOk T 183 Ati:=Bb (k:=122) (n:=60) (l:=[Kl,Abl]) (List.forall_mem_cons.2 ⟨wDz5.mono (by decide),List.forall_mem_cons.2 ⟨wDz51.mono (by decide),(fun _ h=>by cases h)⟩⟩) (by kernel_rfl)
def Aky:AnsY:=⟨108,[(.ptr [(wN 4),(.slice (some 2) [(.agg [(wN 0),(wN 1)]),(.agg [(wN 1),(wN 0)]),(.agg [(wN 2),(wN 3)]),(.agg [(wN 3),(wN 2)])] false),(wN 0),(wN 0),(wN 0),(wN 0),(wN 0),(wN 0),(wN 0),(wN 0),(wI [0,0,0,0] false)] 0)],(.bool false),false⟩
theorem wDz53:YOk T 61 Aky:=Bb (k:=0) (n:=60) (l:=[]) ((fun _ h=>by cases h)) (by kernel_rfl)
def Aqm:AnsY:=⟨13,[(.agg [(wN 4),(.slice (some 2) [(.agg [(wN 0),(wN 1)]),(.agg [(wN 1),(wN 0)]),(.agg [(wN 2),(wN 3)]),(.agg [(wN 3),(wN 2)])] false)])],(.tuple [(wI [] false),(wN 19)]),false⟩
theorem wDz54:YOk T 183 Aqm:=Bb (k:=122) (n:=60) (l:=[Vl,Aky]) (List.forall_mem_cons.2 ⟨wDz26.mono (by decide),List.forall_mem_cons.2 ⟨wDz53.mono (by decide),(fun _ h=>by cases h)⟩⟩) (by kernel_rfl)
def Aox:AnsY:=⟨203,[(wI [1,0,0] false)],(wI [1,0,0] false),false⟩
theorem wDz55:YOk T 61 Aox:=Bb (k:=0) (n:=60) (l:=[]) ((fun _ h=>by cases h)) (by kernel_rfl)
def Alq:AnsY:=⟨207,[(.agg [(wN 3),(.slice (some 2) [(.agg [(wN 0),(wN 1)]),(.agg [(wN 1),(wN 2)]),(.agg [(wN 2),(wN 0)]),(.agg [(wN 0),(wN 2)])] false)]),(wI [1,0,0] false)],(.tuple [(wN 1),(wN 0)]),false⟩
theorem wDz56:YOk T 183 Alq:=Bb (k:=122) (n:=60) (l:=[Kl]) (List.forall_mem_cons.2 ⟨wDz5.mono (by decide),(fun _ h=>by cases h)⟩) (by kernel_rfl)
def Ana:AnsY:=⟨203,[(wI [0,2,0] false)],(wI [0,2,0] false),false⟩
theorem wDz57:YOk T 61 Ana:=Bb (k:=0) (n:=60) (l:=[]) ((fun _ h=>by cases h)) (by kernel_rfl)
def Aoh:AnsY:=⟨207,[(.agg [(wN 3),(.slice (some 2) [(.agg [(wN 0),(wN 1)]),(.agg [(wN 1),(wN 2)]),(.agg [(wN 2),(wN 0)]),(.agg [(wN 0),(wN 2)])] false)]),(wI [0,2,0] false)],(.tuple [(wN 0),(wN 14)]),false⟩
theorem wDz58:YOk T 183 Aoh:=Bb (k:=122) (n:=60) (l:=[Kl]) (List.forall_mem_cons.2 ⟨wDz5.mono (by decide),(fun _ h=>by cases h)⟩) (by kernel_rfl)
def Ash:AnsY:=⟨208,[(.agg [(wN 3),(.slice (some 2) [(.agg [(wN 0),(wN 1)]),(.agg [(wN 1),(wN 2)]),(.agg [(wN 2),(wN 0)]),(.agg [(wN 0),(wN 2)])] false)])],(.tuple [(wI [1,1,0] false),(wN 0)]),false⟩
theorem wDz59:YOk T 183 Ash:=Bb (k:=122) (n:=60) (l:=[Kl,Abl]) (List.forall_mem_cons.2 ⟨wDz5.mono (by decide),List.forall_mem_cons.2 ⟨wDz51.mono (by decide),(fun _ h=>by cases h)⟩⟩) (by kernel_rfl)
def Amk:AnsY:=⟨209,[(.agg [(wN 3),(.slice (some 2) [(.agg [(wN 0),(wN 1)]),(.agg [(wN 1),(wN 2)]),(.agg [(wN 2),(wN 0)]),(.agg [(wN 0),(wN 2)])] false)]),(wI [1,1,0] false)],(.tuple [(wN 1),(wN 0)]),false⟩
theorem wDz60:YOk T 61 Amk:=Bb (k:=0) (n:=60) (l:=[]) ((fun _ h=>by cases h)) (by kernel_rfl)
def Aow:AnsY:=⟨203,[(wI [0,1,2,3] false)],(wI [0,1,2,3] false),false⟩
theorem wDz61:YOk T 61 Aow:=Bb (k:=0) (n:=60) (l:=[]) ((fun _ h=>by cases h)) (by kernel_rfl)
def Ath:AnsY:=⟨210,[(wI [0,1,2,3] false),(wI [0,1,2,3] false)],(.bool true),false⟩
theorem wDz62:YOk T 61 Ath:=Bb (k:=0) (n:=60) (l:=[]) ((fun _ h=>by cases h)) (by kernel_rfl)
def Aip:AnsY:=⟨210,[(wI [0] false),(wI [0] false)],(.bool true),false⟩
theorem wDz63:YOk T 61 Aip:=Bb (k:=0) (n:=60) (l:=[]) ((fun _ h=>by cases h)) (by kernel_rfl)
def Arp:AnsY:=⟨211,[(.agg [(wN 4),(.slice (some 2) [(.agg [(wN 0),(wN 1)]),(.agg [(wN 1),(wN 0)]),(.agg [(wN 2),(wN 3)]),(.agg [(wN 3),(wN 2)])] false)]),(wN 2),(wI [0,1] false)],(wN 0),false⟩
theorem wDz64:YOk T 61 Arp:=Bb (k:=0) (n:=60) (l:=[]) ((fun _ h=>by cases h)) (by kernel_rfl)
def Ajh:AnsY:=⟨203,[(wI [0,0,1,0] false)],(wI [0,0,1,0] false),false⟩
theorem wDz65:YOk T 61 Ajh:=Bb (k:=0) (n:=60) (l:=[]) ((fun _ h=>by cases h)) (by kernel_rfl)
def Apf:AnsY:=⟨210,[(wI [0,0,1,0] false),(wI [0,0,1,0] false)],(.bool true),false⟩
theorem wDz66:YOk T 61 Apf:=Bb (k:=0) (n:=60) (l:=[]) ((fun _ h=>by cases h)) (by kernel_rfl)
def B3h:AnsY:=⟨146,[],(.bool true),false⟩
theorem B3x:YOk T 2122 B3h:=Bb (k:=2061) (n:=60) (l:=[B0q,Azo,Aym,Ayx,B2r,Azb,B0h,Aty,Apj,Aja,Anp,Aqc,Arr,Aqy,Akw,Akj,Aor,Aik,Amw,Apg,Asn,Aiz,Asx,Asm,Ati,Aqm,Aox,Alq,Ana,Aoh,Ash,Amk,Aow,Ath,Aip,Arp,Ajh,Apf]) (List.forall_mem_cons.2 ⟨wDz0.mono (by decide),List.forall_mem_cons.2 ⟨wDz1.mono (by decide),List.forall_mem_cons.2 ⟨wDz2.mono (by decide),List.forall_mem_cons.2 ⟨wDz3.mono (by decide),List.forall_mem_cons.2 ⟨wDz6.mono (by decide),List.forall_mem_cons.2 ⟨wDz7.mono (by decide),List.forall_mem_cons.2 ⟨wDz8.mono (by decide),List.forall_mem_cons.2 ⟨wDz24.mono (by decide),List.forall_mem_cons.2 ⟨wDz29.mono (by decide),List.forall_mem_cons.2 ⟨wDz30.mono (by decide),List.forall_mem_cons.2 ⟨wDz32.mono (by decide),List.forall_mem_cons.2 ⟨wDz37.mono (by decide),List.forall_mem_cons.2 ⟨wDz38.mono (by decide),List.forall_mem_cons.2 ⟨wDz39.mono (by decide),List.forall_mem_cons.2 ⟨wDz40.mono (by decide),List.forall_mem_cons.2 ⟨wDz41.mono (by decide),List.forall_mem_cons.2 ⟨wDz42.mono (by decide),List.forall_mem_cons.2 ⟨wDz43.mono (by decide),List.forall_mem_cons.2 ⟨wDz44.mono (by decide),List.forall_mem_cons.2 ⟨wDz45.mono (by decide),List.forall_mem_cons.2 ⟨wDz46.mono (by decide),List.forall_mem_cons.2 ⟨wDz48.mono (by decide),List.forall_mem_cons.2 ⟨wDz49.mono (by decide),List.forall_mem_cons.2 ⟨wDz50.mono (by decide),List.forall_mem_cons.2 ⟨wDz52.mono (by decide),List.forall_mem_cons.2 ⟨wDz54.mono (by decide),List.forall_mem_cons.2 ⟨wDz55.mono (by decide),List.forall_mem_cons.2 ⟨wDz56.mono (by decide),List.forall_mem_cons.2 ⟨wDz57.mono (by decide),List.forall_mem_cons.2 ⟨wDz58.mono (by decide),List.forall_mem_cons.2 ⟨wDz59.mono (by decide),List.forall_mem_cons.2 ⟨wDz60.mono (by decide),List.forall_mem_cons.2 ⟨wDz61.mono (by decide),List.forall_mem_cons.2 ⟨wDz62.mono (by decide),List.forall_mem_cons.2 ⟨wDz63.mono (by decide),List.forall_mem_cons.2 ⟨wDz64.mono (by decide),List.forall_mem_cons.2 ⟨wDz65.mono (by decide),List.forall_mem_cons.2 ⟨wDz66.mono (by decide),(fun _ h=>by cases h)⟩⟩⟩⟩⟩⟩⟩⟩⟩⟩⟩⟩⟩⟩⟩⟩⟩⟩⟩⟩⟩⟩⟩⟩⟩⟩⟩⟩⟩⟩⟩⟩⟩⟩⟩⟩⟩⟩) (by kernel_rfl)
theorem wDworks:YOk T 2122 ⟨146,[],.bool true,false⟩:=B3x
end Go.Ev.YtgehhippjhealaaGreatC
