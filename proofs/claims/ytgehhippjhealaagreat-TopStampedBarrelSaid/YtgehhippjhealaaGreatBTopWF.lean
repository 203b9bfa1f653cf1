/- The works of a layer's examples, each call reckoned by the kernel, and joined. No condition but those that stand in each. -/
import Derived.Test.YtgehhippjhealaaGreatBTopW
set_option linter.unusedSimpArgs false
set_option linter.unusedVariables false
set_option maxRecDepth 100000
namespace Go.Ev.YtgehhippjhealaaGreatC
open Go Go.Proofs
def B2p:AnsY:=⟨75,[],(wI [1,2,0,4,3,5] false),false⟩
theorem wFz0:YOk T 61 B2p:=Bb (k:=0) (n:=60) (l:=[]) ((fun _ h=>by cases h)) (by kernel_rfl)
def B1y:AnsY:=⟨76,[],(wI [1,(-1),(-1),3] false),false⟩
theorem wFz1:YOk T 61 B1y:=Bb (k:=0) (n:=60) (l:=[]) ((fun _ h=>by cases h)) (by kernel_rfl)
def Km:AnsY:=⟨119,[(wI [1,2,0,4,3,5] false),(wN 0)],(wN 0),false⟩
theorem wFz2:YOk T 61 Km:=Bb (k:=0) (n:=60) (l:=[]) ((fun _ h=>by cases h)) (by kernel_rfl)
def Azc:AnsY:=⟨37,[(.clo 94 [] [(.ptr [(.ptr [(wI [1,2,0,4,3,5] false)] 0)] 0)])],(.slice none [(wI [0,1,2] false),(wI [3,4] false),(wI [5] false)] false),false⟩
theorem wFz3:YOk T 61 Azc:=Bb (k:=0) (n:=60) (l:=[]) ((fun _ h=>by cases h)) (by kernel_rfl)
def B2x:AnsY:=⟨9,[(wI [1,2,0,4,3,5] false)],(.tuple [(.slice none [(wI [0,1,2] false),(wI [3,4] false),(wI [5] false)] false),(wN 0)]),false⟩
theorem wFz4:YOk T 122 B2x:=Bb (k:=61) (n:=60) (l:=[Km,Azc]) (List.forall_mem_cons.2 ⟨wFz2.mono (by decide),List.forall_mem_cons.2 ⟨wFz3.mono (by decide),(fun _ h=>by cases h)⟩⟩) (by kernel_rfl)
def B3e:AnsY:=⟨10,[(wI [1,2,0,4,3,5] false)],(.tuple [(.slice (some 2) [(.agg [(wN 0),(wN 1)]),(.agg [(wN 0),(wN 2)]),(.agg [(wN 3),(wN 4)])] false),(wN 0)]),false⟩
theorem wFz5:YOk T 122 B3e:=Bb (k:=61) (n:=60) (l:=[Km]) (List.forall_mem_cons.2 ⟨wFz2.mono (by decide),(fun _ h=>by cases h)⟩) (by kernel_rfl)
def Ayj:AnsY:=⟨78,[(.slice (some 2) [(.agg [(wN 0),(wN 0)])] false)],(.slice (some 2) [(.agg [(wN 0),(wN 0)])] false),false⟩
theorem wFz6:YOk T 61 Ayj:=Bb (k:=0) (n:=60) (l:=[]) ((fun _ h=>by cases h)) (by kernel_rfl)
def B0p:AnsY:=⟨77,[(wI [1,2,0,4,3,5] false),(.slice (some 2) [(.agg [(wN 0),(wN 0)])] false)],(.tuple [(wI [] false),(wN 15)]),false⟩
theorem wFz7:YOk T 122 B0p:=Bb (k:=61) (n:=60) (l:=[Km]) (List.forall_mem_cons.2 ⟨wFz2.mono (by decide),(fun _ h=>by cases h)⟩) (by kernel_rfl)
def Ays:AnsY:=⟨21,[(wI [1,2,0,4,3,5] false)],(.tuple [(.slice (some 2) [(.agg [(wN 0),(wN 2)]),(.agg [(wN 1),(wN 2)]),(.agg [(wN 3),(wN 4)])] false),(wN 0)]),false⟩
theorem wFz8:YOk T 122 Ays:=Bb (k:=61) (n:=60) (l:=[Km]) (List.forall_mem_cons.2 ⟨wFz2.mono (by decide),(fun _ h=>by cases h)⟩) (by kernel_rfl)
def B0e:AnsY:=⟨20,[(wI [1,2,0,4,3,5] false)],(.tuple [(wI [1,0,3] false),(wN 0)]),false⟩
theorem wFz9:YOk T 122 B0e:=Bb (k:=61) (n:=60) (l:=[Km]) (List.forall_mem_cons.2 ⟨wFz2.mono (by decide),(fun _ h=>by cases h)⟩) (by kernel_rfl)
def Apt:AnsY:=⟨71,[(.ptr [(wI [1,2,0,4,3,5] false)] 0)],(wN 6),false⟩
theorem wFz10:YOk T 61 Apt:=Bb (k:=0) (n:=60) (l:=[]) ((fun _ h=>by cases h)) (by kernel_rfl)
def Alg:AnsY:=⟨29,[(wI [1,2,0,4,3,5] false)],(.tuple [(wN 6),(wN 0)]),false⟩
theorem wFz11:YOk T 122 Alg:=Bb (k:=61) (n:=60) (l:=[Km,Apt]) (List.forall_mem_cons.2 ⟨wFz2.mono (by decide),List.forall_mem_cons.2 ⟨wFz10.mono (by decide),(fun _ h=>by cases h)⟩⟩) (by kernel_rfl)
def Ams:AnsY:=⟨30,[(wI [1,2,0,4,3,5] false),(wN 2)],(.tuple [(wI [2,0,1,3,4,5] false),(wN 0)]),false⟩
theorem wFz12:YOk T 122 Ams:=Bb (k:=61) (n:=60) (l:=[Km]) (List.forall_mem_cons.2 ⟨wFz2.mono (by decide),(fun _ h=>by cases h)⟩) (by kernel_rfl)
def Ann:AnsY:=⟨30,[(wI [1,2,0,4,3,5] false),(wN (-1))],(.tuple [(wI [] false),(wN 2)]),false⟩
theorem wFz13:YOk T 122 Ann:=Bb (k:=61) (n:=60) (l:=[Km]) (List.forall_mem_cons.2 ⟨wFz2.mono (by decide),(fun _ h=>by cases h)⟩) (by kernel_rfl)
def Apy:AnsY:=⟨80,[(wI [1,0,2] false)],(wI [1,0,2] false),false⟩
theorem wFz14:YOk T 61 Apy:=Bb (k:=0) (n:=60) (l:=[]) ((fun _ h=>by cases h)) (by kernel_rfl)
def Ait:AnsY:=⟨80,[(wI [0,2,1] false)],(wI [0,2,1] false),false⟩
theorem wFz15:YOk T 61 Ait:=Bb (k:=0) (n:=60) (l:=[]) ((fun _ h=>by cases h)) (by kernel_rfl)
def A9d:AnsY:=⟨119,[(wI [1,0,2] false),(wN 0)],(wN 0),false⟩
theorem wFz16:YOk T 61 A9d:=Bb (k:=0) (n:=60) (l:=[]) ((fun _ h=>by cases h)) (by kernel_rfl)
def Atg:AnsY:=⟨119,[(wI [0,2,1] false),(wN 0)],(wN 0),false⟩
theorem wFz17:YOk T 61 Atg:=Bb (k:=0) (n:=60) (l:=[]) ((fun _ h=>by cases h)) (by kernel_rfl)
def A8l:AnsY:=⟨162,[(wI [1,0,2] false),(wI [0,2,1] false)],(.tuple [(.ptr [(wI [1,0,2] false)] 0),(.ptr [(wI [0,2,1] false)] 0),(wN 0)]),false⟩
theorem wFz18:YOk T 122 A8l:=Bb (k:=61) (n:=60) (l:=[A9d,Atg]) (List.forall_mem_cons.2 ⟨wFz16.mono (by decide),List.forall_mem_cons.2 ⟨wFz17.mono (by decide),(fun _ h=>by cases h)⟩⟩) (by kernel_rfl)
def Aly:AnsY:=⟨79,[(wI [1,0,2] false),(wI [0,2,1] false)],(.tuple [(wI [2,0,1] false),(wN 0)]),false⟩
theorem wFz19:YOk T 183 Aly:=Bb (k:=122) (n:=60) (l:=[A8l]) (List.forall_mem_cons.2 ⟨wFz18.mono (by decide),(fun _ h=>by cases h)⟩) (by kernel_rfl)
def Anz:AnsY:=⟨80,[(wI [0,1] false)],(wI [0,1] false),false⟩
theorem wFz20:YOk T 61 Anz:=Bb (k:=0) (n:=60) (l:=[]) ((fun _ h=>by cases h)) (by kernel_rfl)
def Aph:AnsY:=⟨119,[(wI [0,1] false),(wN 0)],(wN 0),false⟩
theorem wFz21:YOk T 61 Aph:=Bb (k:=0) (n:=60) (l:=[]) ((fun _ h=>by cases h)) (by kernel_rfl)
def Ane:AnsY:=⟨162,[(wI [1,2,0,4,3,5] false),(wI [0,1] false)],(.tuple [.nilptr,.nilptr,(wN 15)]),false⟩
theorem wFz22:YOk T 122 Ane:=Bb (k:=61) (n:=60) (l:=[Km,Aph]) (List.forall_mem_cons.2 ⟨wFz2.mono (by decide),List.forall_mem_cons.2 ⟨wFz21.mono (by decide),(fun _ h=>by cases h)⟩⟩) (by kernel_rfl)
def Alu:AnsY:=⟨79,[(wI [1,2,0,4,3,5] false),(wI [0,1] false)],(.tuple [(wI [] false),(wN 15)]),false⟩
theorem wFz23:YOk T 183 Alu:=Bb (k:=122) (n:=60) (l:=[Ane]) (List.forall_mem_cons.2 ⟨wFz22.mono (by decide),(fun _ h=>by cases h)⟩) (by kernel_rfl)
def Atw:AnsY:=⟨164,[(.ptr [(wI [1,0,2] false)] 0),(.ptr [(wI [0,2,1] false)] 0)],(wI [1,2,0] false),false⟩
theorem wFz24:YOk T 61 Atw:=Bb (k:=0) (n:=60) (l:=[]) ((fun _ h=>by cases h)) (by kernel_rfl)
def Aon:AnsY:=⟨81,[(wI [1,0,2] false),(wI [0,2,1] false)],(.tuple [(wI [1,2,0] false),(wN 0)]),false⟩
theorem wFz25:YOk T 183 Aon:=Bb (k:=122) (n:=60) (l:=[A8l,Atw]) (List.forall_mem_cons.2 ⟨wFz18.mono (by decide),List.forall_mem_cons.2 ⟨wFz24.mono (by decide),(fun _ h=>by cases h)⟩⟩) (by kernel_rfl)
def Air:AnsY:=⟨80,[(wI [1,2,0] false)],(wI [1,2,0] false),false⟩
theorem wFz26:YOk T 61 Air:=Bb (k:=0) (n:=60) (l:=[]) ((fun _ h=>by cases h)) (by kernel_rfl)
def Aiy:AnsY:=⟨119,[(wI [1,2,0] false),(wN 0)],(wN 0),false⟩
theorem wFz27:YOk T 61 Aiy:=Bb (k:=0) (n:=60) (l:=[]) ((fun _ h=>by cases h)) (by kernel_rfl)
def Atb:AnsY:=⟨162,[(wI [1,0,2] false),(wI [1,2,0] false)],(.tuple [(.ptr [(wI [1,0,2] false)] 0),(.ptr [(wI [1,2,0] false)] 0),(wN 0)]),false⟩
theorem wFz28:YOk T 122 Atb:=Bb (k:=61) (n:=60) (l:=[A9d,Aiy]) (List.forall_mem_cons.2 ⟨wFz16.mono (by decide),List.forall_mem_cons.2 ⟨wFz27.mono (by decide),(fun _ h=>by cases h)⟩⟩) (by kernel_rfl)
def Alz:AnsY:=⟨81,[(wI [1,0,2] false),(wI [1,2,0] false)],(.tuple [(wI [] false),(wN 20)]),false⟩
theorem wFz29:YOk T 183 Alz:=Bb (k:=122) (n:=60) (l:=[Atb]) (List.forall_mem_cons.2 ⟨wFz28.mono (by decide),(fun _ h=>by cases h)⟩) (by kernel_rfl)
def Akl:AnsY:=⟨80,[(wI [1,0,3,2] false)],(wI [1,0,3,2] false),false⟩
theorem wFz30:YOk T 61 Akl:=Bb (k:=0) (n:=60) (l:=[]) ((fun _ h=>by cases h)) (by kernel_rfl)
def Ars:AnsY:=⟨119,[(wI [1,0,3,2] false),(wN 0)],(wN 0),false⟩
theorem wFz31:YOk T 61 Ars:=Bb (k:=0) (n:=60) (l:=[]) ((fun _ h=>by cases h)) (by kernel_rfl)
def Alv:AnsY:=⟨163,[(.ptr [(wI [1,0,3,2] false)] 0)],(.agg [(wN 0),(wN 0),(wN 2),(wN 0),(wN 0),(wN 0),(wN 0),(wN 0),(wN 0),(wN 0),(wN 0)]),false⟩
theorem wFz32:YOk T 61 Alv:=Bb (k:=0) (n:=60) (l:=[]) ((fun _ h=>by cases h)) (by kernel_rfl)
def Ajc:AnsY:=⟨55,[(wI [0,1,2,3] false),(.clo 218 [] [(.ptr [(wI [(-1),(-1),(-1),(-1)] false)] 0),(.ptr [(.ptr [(wI [1,0,3,2] false)] 0)] 0),(.ptr [(wI [0,1] false)] 0)])],(.tuple [(wN 2),(.bool true)]),false⟩
theorem wFz33:YOk T 61 Ajc:=Bb (k:=0) (n:=60) (l:=[]) ((fun _ h=>by cases h)) (by kernel_rfl)
def Amd:AnsY:=⟨82,[(wI [1,0,3,2] false)],(.tuple [(wI [2,3,1,0] false),(wN 0)]),false⟩
theorem wFz34:YOk T 122 Amd:=Bb (k:=61) (n:=60) (l:=[Ars,Alv,Ajc]) (List.forall_mem_cons.2 ⟨wFz31.mono (by decide),List.forall_mem_cons.2 ⟨wFz32.mono (by decide),List.forall_mem_cons.2 ⟨wFz33.mono (by decide),(fun _ h=>by cases h)⟩⟩⟩) (by kernel_rfl)
def A9c:AnsY:=⟨163,[(.ptr [(wI [1,2,0,4,3,5] false)] 0)],(.agg [(wN 0),(wN 1),(wN 1),(wN 1),(wN 0),(wN 0),(wN 0),(wN 0),(wN 0),(wN 0),(wN 0)]),false⟩
theorem wFz35:YOk T 61 A9c:=Bb (k:=0) (n:=60) (l:=[]) ((fun _ h=>by cases h)) (by kernel_rfl)
def Ajs:AnsY:=⟨82,[(wI [1,2,0,4,3,5] false)],(.tuple [(wI [] false),(wN 20)]),false⟩
theorem wFz36:YOk T 122 Ajs:=Bb (k:=61) (n:=60) (l:=[Km,A9c]) (List.forall_mem_cons.2 ⟨wFz2.mono (by decide),List.forall_mem_cons.2 ⟨wFz35.mono (by decide),(fun _ h=>by cases h)⟩⟩) (by kernel_rfl)
def Atf:AnsY:=⟨83,[(wI [1,2,0,4,3,5] false)],(.tuple [(wN 2),(wN 0)]),false⟩
theorem wFz37:YOk T 122 Atf:=Bb (k:=61) (n:=60) (l:=[Km,A9c]) (List.forall_mem_cons.2 ⟨wFz2.mono (by decide),List.forall_mem_cons.2 ⟨wFz35.mono (by decide),(fun _ h=>by cases h)⟩⟩) (by kernel_rfl)
def Ajb:AnsY:=⟨84,[(wI [1,2,0,4,3,5] false),(wN 3)],(wN 14),false⟩
theorem wFz38:YOk T 122 Ajb:=Bb (k:=61) (n:=60) (l:=[Km]) (List.forall_mem_cons.2 ⟨wFz2.mono (by decide),(fun _ h=>by cases h)⟩) (by kernel_rfl)
def A1w:AnsY:=⟨119,[(wI [1,(-1),(-1),3] false),(wN (-1))],(wN 0),false⟩
theorem wFz39:YOk T 61 A1w:=Bb (k:=0) (n:=60) (l:=[]) ((fun _ h=>by cases h)) (by kernel_rfl)
def Alc:AnsY:=⟨85,[(wI [1,(-1),(-1),3] false)],(.tuple [(wI [1,0,2,3] false),(wN 0)]),false⟩
theorem wFz40:YOk T 122 Alc:=Bb (k:=61) (n:=60) (l:=[A1w]) (List.forall_mem_cons.2 ⟨wFz39.mono (by decide),(fun _ h=>by cases h)⟩) (by kernel_rfl)
def Atr:AnsY:=⟨86,[(wI [1,(-1),(-1),3] false)],(.tuple [(.agg [(wN 1),(wN 2)]),(wN 0)]),false⟩
theorem wFz41:YOk T 122 Atr:=Bb (k:=61) (n:=60) (l:=[A1w]) (List.forall_mem_cons.2 ⟨wFz39.mono (by decide),(fun _ h=>by cases h)⟩) (by kernel_rfl)
def Atm:AnsY:=⟨87,[(wI [1,(-1),(-1),3] false)],(.tuple [(wN 2),(wN 0)]),false⟩
theorem wFz42:YOk T 122 Atm:=Bb (k:=61) (n:=60) (l:=[A1w]) (List.forall_mem_cons.2 ⟨wFz39.mono (by decide),(fun _ h=>by cases h)⟩) (by kernel_rfl)
def Ale:AnsY:=⟨80,[(wI [1,(-1),1] false)],(wI [1,(-1),1] false),false⟩
theorem wFz43:YOk T 61 Ale:=Bb (k:=0) (n:=60) (l:=[]) ((fun _ h=>by cases h)) (by kernel_rfl)
def Arb:AnsY:=⟨119,[(wI [1,(-1),1] false),(wN (-1))],(wN 11),false⟩
theorem wFz44:YOk T 61 Arb:=Bb (k:=0) (n:=60) (l:=[]) ((fun _ h=>by cases h)) (by kernel_rfl)
def Anb:AnsY:=⟨88,[(wI [1,(-1),1] false)],(wN 11),false⟩
theorem wFz45:YOk T 122 Anb:=Bb (k:=61) (n:=60) (l:=[Arb]) (List.forall_mem_cons.2 ⟨wFz44.mono (by decide),(fun _ h=>by cases h)⟩) (by kernel_rfl)
def Ajp:AnsY:=⟨80,[(wI [0,1,2] false)],(wI [0,1,2] false),false⟩
theorem wFz46:YOk T 61 Ajp:=Bb (k:=0) (n:=60) (l:=[]) ((fun _ h=>by cases h)) (by kernel_rfl)
def Aks:AnsY:=⟨80,[(wI [3,4] false)],(wI [3,4] false),false⟩
theorem wFz47:YOk T 61 Aks:=Bb (k:=0) (n:=60) (l:=[]) ((fun _ h=>by cases h)) (by kernel_rfl)
def Asb:AnsY:=⟨80,[(wI [5] false)],(wI [5] false),false⟩
theorem wFz48:YOk T 61 Asb:=Bb (k:=0) (n:=60) (l:=[]) ((fun _ h=>by cases h)) (by kernel_rfl)
def Atx:AnsY:=⟨89,[(.slice none [(wI [0,1,2] false),(wI [3,4] false),(wI [5] false)] false),(.slice none [(wI [0,1,2] false),(wI [3,4] false),(wI [5] false)] false)],(.bool true),false⟩
theorem wFz49:YOk T 61 Atx:=Bb (k:=0) (n:=60) (l:=[]) ((fun _ h=>by cases h)) (by kernel_rfl)
def Akr:AnsY:=⟨78,[(.slice (some 2) [(.agg [(wN 0),(wN 1)]),(.agg [(wN 0),(wN 2)]),(.agg [(wN 3),(wN 4)])] false)],(.slice (some 2) [(.agg [(wN 0),(wN 1)]),(.agg [(wN 0),(wN 2)]),(.agg [(wN 3),(wN 4)])] false),false⟩
theorem wFz50:YOk T 61 Akr:=Bb (k:=0) (n:=60) (l:=[]) ((fun _ h=>by cases h)) (by kernel_rfl)
def Aim:AnsY:=⟨91,[(.slice (some 2) [(.agg [(wN 0),(wN 1)]),(.agg [(wN 0),(wN 2)]),(.agg [(wN 3),(wN 4)])] false),(.slice (some 2) [(.agg [(wN 0),(wN 1)]),(.agg [(wN 0),(wN 2)]),(.agg [(wN 3),(wN 4)])] false)],(.bool true),false⟩
theorem wFz51:YOk T 61 Aim:=Bb (k:=0) (n:=60) (l:=[]) ((fun _ h=>by cases h)) (by kernel_rfl)
def Ako:AnsY:=⟨78,[(.slice (some 2) [(.agg [(wN 0),(wN 2)]),(.agg [(wN 1),(wN 2)]),(.agg [(wN 3),(wN 4)])] false)],(.slice (some 2) [(.agg [(wN 0),(wN 2)]),(.agg [(wN 1),(wN 2)]),(.agg [(wN 3),(wN 4)])] false),false⟩
theorem wFz52:YOk T 61 Ako:=Bb (k:=0) (n:=60) (l:=[]) ((fun _ h=>by cases h)) (by kernel_rfl)
def Aje:AnsY:=⟨91,[(.slice (some 2) [(.agg [(wN 0),(wN 2)]),(.agg [(wN 1),(wN 2)]),(.agg [(wN 3),(wN 4)])] false),(.slice (some 2) [(.agg [(wN 0),(wN 2)]),(.agg [(wN 1),(wN 2)]),(.agg [(wN 3),(wN 4)])] false)],(.bool true),false⟩
theorem wFz53:YOk T 61 Aje:=Bb (k:=0) (n:=60) (l:=[]) ((fun _ h=>by cases h)) (by kernel_rfl)
def Ajk:AnsY:=⟨80,[(wI [1,0,3] false)],(wI [1,0,3] false),false⟩
theorem wFz54:YOk T 61 Ajk:=Bb (k:=0) (n:=60) (l:=[]) ((fun _ h=>by cases h)) (by kernel_rfl)
def Anu:AnsY:=⟨14,[(wI [1,0,3] false),(wI [1,0,3] false)],(.bool true),false⟩
theorem wFz55:YOk T 61 Anu:=Bb (k:=0) (n:=60) (l:=[]) ((fun _ h=>by cases h)) (by kernel_rfl)
def Ari:AnsY:=⟨80,[(wI [2,0,1,3,4,5] false)],(wI [2,0,1,3,4,5] false),false⟩
theorem wFz56:YOk T 61 Ari:=Bb (k:=0) (n:=60) (l:=[]) ((fun _ h=>by cases h)) (by kernel_rfl)
def Aqo:AnsY:=⟨14,[(wI [2,0,1,3,4,5] false),(wI [2,0,1,3,4,5] false)],(.bool true),false⟩
theorem wFz57:YOk T 61 Aqo:=Bb (k:=0) (n:=60) (l:=[]) ((fun _ h=>by cases h)) (by kernel_rfl)
def Api:AnsY:=⟨80,[(wI [2,0,1] false)],(wI [2,0,1] false),false⟩
theorem wFz58:YOk T 61 Api:=Bb (k:=0) (n:=60) (l:=[]) ((fun _ h=>by cases h)) (by kernel_rfl)
def Alx:AnsY:=⟨14,[(wI [2,0,1] false),(wI [2,0,1] false)],(.bool true),false⟩
theorem wFz59:YOk T 61 Alx:=Bb (k:=0) (n:=60) (l:=[]) ((fun _ h=>by cases h)) (by kernel_rfl)
def Arw:AnsY:=⟨14,[(wI [1,2,0] false),(wI [1,2,0] false)],(.bool true),false⟩
theorem wFz60:YOk T 61 Arw:=Bb (k:=0) (n:=60) (l:=[]) ((fun _ h=>by cases h)) (by kernel_rfl)
def Aix:AnsY:=⟨80,[(wI [2,3,1,0] false)],(wI [2,3,1,0] false),false⟩
theorem wFz61:YOk T 61 Aix:=Bb (k:=0) (n:=60) (l:=[]) ((fun _ h=>by cases h)) (by kernel_rfl)
def Aoa:AnsY:=⟨14,[(wI [2,3,1,0] false),(wI [2,3,1,0] false)],(.bool true),false⟩
theorem wFz62:YOk T 61 Aoa:=Bb (k:=0) (n:=60) (l:=[]) ((fun _ h=>by cases h)) (by kernel_rfl)
def Amm:AnsY:=⟨80,[(wI [1,0,2,3] false)],(wI [1,0,2,3] false),false⟩
theorem wFz63:YOk T 61 Amm:=Bb (k:=0) (n:=60) (l:=[]) ((fun _ h=>by cases h)) (by kernel_rfl)
def Amf:AnsY:=⟨14,[(wI [1,0,2,3] false),(wI [1,0,2,3] false)],(.bool true),false⟩
theorem wFz64:YOk T 61 Amf:=Bb (k:=0) (n:=60) (l:=[]) ((fun _ h=>by cases h)) (by kernel_rfl)
def B3l:AnsY:=⟨35,[],(.bool true),false⟩
theorem B5z:YOk T 244 B3l:=Bb (k:=183) (n:=60) (l:=[B2p,B1y,B2x,B3e,Ayj,B0p,Ays,B0e,Alg,Ams,Ann,Apy,Ait,Aly,Anz,Alu,Aon,Air,Alz,Akl,Amd,Ajs,Atf,Ajb,Alc,Atr,Atm,Ale,Anb,Ajp,Aks,Asb,Atx,Akr,Aim,Ako,Aje,Ajk,Anu,Ari,Aqo,Api,Alx,Arw,Aix,Aoa,Amm,Amf]) (List.forall_mem_cons.2 ⟨wFz0.mono (by decide),List.forall_mem_cons.2 ⟨wFz1.mono (by decide),List.forall_mem_cons.2 ⟨wFz4.mono (by decide),List.forall_mem_cons.2 ⟨wFz5.mono (by decide),List.forall_mem_cons.2 ⟨wFz6.mono (by decide),List.forall_mem_cons.2 ⟨wFz7.mono (by decide),List.forall_mem_cons.2 ⟨wFz8.mono (by decide),List.forall_mem_cons.2 ⟨wFz9.mono (by decide),List.forall_mem_cons.2 ⟨wFz11.mono (by decide),List.forall_mem_cons.2 ⟨wFz12.mono (by decide),List.forall_mem_cons.2 ⟨wFz13.mono (by decide),List.forall_mem_cons.2 ⟨wFz14.mono (by decide),List.forall_mem_cons.2 ⟨wFz15.mono (by decide),List.forall_mem_cons.2 ⟨wFz19.mono (by decide),List.forall_mem_cons.2 ⟨wFz20.mono (by decide),List.forall_mem_cons.2 ⟨wFz23.mono (by decide),List.forall_mem_cons.2 ⟨wFz25.mono (by decide),List.forall_mem_cons.2 ⟨wFz26.mono (by decide),List.forall_mem_cons.2 ⟨wFz29.mono (by decide),List.forall_mem_cons.2 ⟨wFz30.mono (by decide),List.forall_mem_cons.2 ⟨wFz34.mono (by decide),List.forall_mem_cons.2 ⟨wFz36.mono (by decide),List.forall_mem_cons.2 ⟨wFz37.mono (by decide),List.forall_mem_cons.2 ⟨wFz38.mono (by decide),List.forall_mem_cons.2 ⟨wFz40.mono (by decide),List.forall_mem_cons.2 ⟨wFz41.mono (by decide),List.forall_mem_cons.2 ⟨wFz42.mono (by decide),List.forall_mem_cons.2 ⟨wFz43.mono (by decide),List.forall_mem_cons.2 ⟨wFz45.mono (by decide),List.forall_mem_cons.2 ⟨wFz46.mono (by decide),List.forall_mem_cons.2 ⟨wFz47.mono (by decide),List.forall_mem_cons.2 ⟨wFz48.mono (by decide),List.forall_mem_cons.2 ⟨wFz49.mono (by decide),List.forall_mem_cons.2 ⟨wFz50.mono (by decide),List.forall_mem_cons.2 ⟨wFz51.mono (by decide),List.forall_mem_cons.2 ⟨wFz52.mono (by decide),List.forall_mem_cons.2 ⟨wFz53.mono (by decide),List.forall_mem_cons.2 ⟨wFz54.mono (by decide),List.forall_mem_cons.2 ⟨wFz55.mono (by decide),List.forall_mem_cons.2 ⟨wFz56.mono (by decide),List.forall_mem_cons.2 ⟨wFz57.mono (by decide),List.forall_mem_cons.2 ⟨wFz58.mono (by decide),List.forall_mem_cons.2 ⟨wFz59.mono (by decide),List.forall_mem_cons.2 ⟨wFz60.mono (by decide),List.forall_mem_cons.2 ⟨wFz61.mono (by decide),List.forall_mem_cons.2 ⟨wFz62.mono (by decide),List.forall_mem_cons.2 ⟨wFz63.mono (by decide),List.forall_mem_cons.2 ⟨wFz64.mono (by decide),(fun _ h=>by cases h)⟩⟩⟩⟩⟩⟩⟩⟩⟩⟩⟩⟩⟩⟩⟩⟩⟩⟩⟩⟩⟩⟩⟩⟩⟩⟩⟩⟩⟩⟩⟩⟩⟩⟩⟩⟩⟩⟩⟩⟩⟩⟩⟩⟩⟩⟩⟩⟩) (by kernel_rfl)
theorem wFworks:YOk T 244 ⟨35,[],.bool true,false⟩:=B5z
end Go.Ev.YtgehhippjhealaaGreatC
