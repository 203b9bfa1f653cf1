/- The works of a layer's examples, each call reckoned by the kernel, and joined. No condition but those that stand in each. -/
import Derived.Test.YtgehhippjhealaaGreatBTopW
import Derived.Test.YtgehhippjhealaaGreatBTopKex
set_option linter.unusedSimpArgs false
set_option linter.unusedVariables false
set_option maxRecDepth 100000
namespace Go.Ev.YtgehhippjhealaaGreatC
open Go Go.Proofs
def B1j:AnsY:=⟨147,[],(.slice (some 3) [(.agg [(wN 2),(wN 3),(wN 4)]),(.agg [(wN 1),(wN 2),(wN 3)]),(.agg [(wN 4),(wN 4),(wN 7)]),(.agg [(wN 3),(wN 5),(wN 8)])] false),false⟩
theorem wEz0:YOk T 61 B1j:=Bb (k:=0) (n:=60) (l:=[]) ((fun _ h=>by cases h)) (by kernel_rfl)
def Zl:AnsY:=⟨113,[(.agg [(wN 2),(wN 3),(wN 4)])],(.bool false),false⟩
theorem wEz1:YOk T 61 Zl:=Bb (k:=0) (n:=60) (l:=[]) ((fun _ h=>by cases h)) (by kernel_rfl)
def Zh:AnsY:=⟨113,[(.agg [(wN 1),(wN 2),(wN 3)])],(.bool false),false⟩
theorem wEz2:YOk T 61 Zh:=Bb (k:=0) (n:=60) (l:=[]) ((fun _ h=>by cases h)) (by kernel_rfl)
def Zg:AnsY:=⟨113,[(.agg [(wN 4),(wN 4),(wN 7)])],(.bool false),false⟩
theorem wEz3:YOk T 61 Zg:=Bb (k:=0) (n:=60) (l:=[]) ((fun _ h=>by cases h)) (by kernel_rfl)
def Zp:AnsY:=⟨113,[(.agg [(wN 3),(wN 5),(wN 8)])],(.bool false),false⟩
theorem wEz4:YOk T 61 Zp:=Bb (k:=0) (n:=60) (l:=[]) ((fun _ h=>by cases h)) (by kernel_rfl)
def Us:AnsY:=⟨53,[(.agg [(.slice (some 3) [(.agg [(wN 2),(wN 3),(wN 4)]),(.agg [(wN 1),(wN 2),(wN 3)]),(.agg [(wN 4),(wN 4),(wN 7)]),(.agg [(wN 3),(wN 5),(wN 8)])] false)])],(wI [1,0,2,3] false),false⟩
theorem wEz5:YOk T 61 Us:=Bb (k:=0) (n:=60) (l:=[]) ((fun _ h=>by cases h)) (by kernel_rfl)
def B0n:AnsY:=⟨18,[(.slice (some 3) [(.agg [(wN 2),(wN 3),(wN 4)]),(.agg [(wN 1),(wN 2),(wN 3)]),(.agg [(wN 4),(wN 4),(wN 7)]),(.agg [(wN 3),(wN 5),(wN 8)])] false)],(.tuple [(wI [1,0,2,3] false),(wN 0)]),false⟩
theorem wEz6:YOk T 122 B0n:=Bb (k:=61) (n:=60) (l:=[Zl,Zh,Zg,Zp,Us]) (List.forall_mem_cons.2 ⟨wEz1.mono (by decide),List.forall_mem_cons.2 ⟨wEz2.mono (by decide),List.forall_mem_cons.2 ⟨wEz3.mono (by decide),List.forall_mem_cons.2 ⟨wEz4.mono (by decide),List.forall_mem_cons.2 ⟨wEz5.mono (by decide),(fun _ h=>by cases h)⟩⟩⟩⟩⟩) (by kernel_rfl)
def B1c:AnsY:=⟨148,[(wI [1,0,2,3] false)],(wI [1,0,2,3] false),false⟩
theorem wEz7:YOk T 61 B1c:=Bb (k:=0) (n:=60) (l:=[]) ((fun _ h=>by cases h)) (by kernel_rfl)
def Azf:AnsY:=⟨149,[(wI [3,2,4,5] false)],(wI [3,2,4,5] false),false⟩
theorem wEz8:YOk T 61 Azf:=Bb (k:=0) (n:=60) (l:=[]) ((fun _ h=>by cases h)) (by kernel_rfl)
def A9a:AnsY:=⟨120,[(.slice (some 3) [(.agg [(wN 2),(wN 3),(wN 4)]),(.agg [(wN 1),(wN 2),(wN 3)]),(.agg [(wN 4),(wN 4),(wN 7)]),(.agg [(wN 3),(wN 5),(wN 8)])] false),(wI [1,0,2,3] false)],(wN 0),false⟩
theorem wEz9:YOk T 122 A9a:=Bb (k:=61) (n:=60) (l:=[Zl,Zh,Zg,Zp]) (List.forall_mem_cons.2 ⟨wEz1.mono (by decide),List.forall_mem_cons.2 ⟨wEz2.mono (by decide),List.forall_mem_cons.2 ⟨wEz3.mono (by decide),List.forall_mem_cons.2 ⟨wEz4.mono (by decide),(fun _ h=>by cases h)⟩⟩⟩⟩) (by kernel_rfl)
def Aju:AnsY:=⟨60,[(.slice (some 3) [(.agg [(wN 2),(wN 3),(wN 4)]),(.agg [(wN 1),(wN 2),(wN 3)]),(.agg [(wN 4),(wN 4),(wN 7)]),(.agg [(wN 3),(wN 5),(wN 8)])] false),(wI [1,0,2,3] false),(wI [3,2,4,5] false)],(.tuple [(wI [5,2,9,14] false),(wN 0)]),false⟩
theorem wEz10:YOk T 183 Aju:=Bb (k:=122) (n:=60) (l:=[A9a]) (List.forall_mem_cons.2 ⟨wEz9.mono (by decide),(fun _ h=>by cases h)⟩) (by kernel_rfl)
def Amj:AnsY:=⟨149,[(wI [4,1,4,3] false)],(wI [4,1,4,3] false),false⟩
theorem wEz11:YOk T 61 Amj:=Bb (k:=0) (n:=60) (l:=[]) ((fun _ h=>by cases h)) (by kernel_rfl)
def Aqn:AnsY:=⟨60,[(.slice (some 3) [(.agg [(wN 2),(wN 3),(wN 4)]),(.agg [(wN 1),(wN 2),(wN 3)]),(.agg [(wN 4),(wN 4),(wN 7)]),(.agg [(wN 3),(wN 5),(wN 8)])] false),(wI [1,0,2,3] false),(wI [4,1,4,3] false)],(.tuple [(wI [] false),(wN 3)]),false⟩
theorem wEz12:YOk T 183 Aqn:=Bb (k:=122) (n:=60) (l:=[A9a]) (List.forall_mem_cons.2 ⟨wEz9.mono (by decide),(fun _ h=>by cases h)⟩) (by kernel_rfl)
def Ajz:AnsY:=⟨148,[(wI [0,1,2,3] false)],(wI [0,1,2,3] false),false⟩
theorem wEz13:YOk T 61 Ajz:=Bb (k:=0) (n:=60) (l:=[]) ((fun _ h=>by cases h)) (by kernel_rfl)
def Ast:AnsY:=⟨120,[(.slice (some 3) [(.agg [(wN 2),(wN 3),(wN 4)]),(.agg [(wN 1),(wN 2),(wN 3)]),(.agg [(wN 4),(wN 4),(wN 7)]),(.agg [(wN 3),(wN 5),(wN 8)])] false),(wI [0,1,2,3] false)],(wN 0),false⟩
theorem wEz14:YOk T 122 Ast:=Bb (k:=61) (n:=60) (l:=[Zl,Zh,Zg,Zp]) (List.forall_mem_cons.2 ⟨wEz1.mono (by decide),List.forall_mem_cons.2 ⟨wEz2.mono (by decide),List.forall_mem_cons.2 ⟨wEz3.mono (by decide),List.forall_mem_cons.2 ⟨wEz4.mono (by decide),(fun _ h=>by cases h)⟩⟩⟩⟩) (by kernel_rfl)
def Ali:AnsY:=⟨22,[(.slice (some 3) [(.agg [(wN 2),(wN 3),(wN 4)]),(.agg [(wN 1),(wN 2),(wN 3)]),(.agg [(wN 4),(wN 4),(wN 7)]),(.agg [(wN 3),(wN 5),(wN 8)])] false),(wI [0,1,2,3] false),(wI [3,2,4,5] false)],(.tuple [(wN 6),(wN 0)]),false⟩
theorem wEz15:YOk T 183 Ali:=Bb (k:=122) (n:=60) (l:=[Ast]) (List.forall_mem_cons.2 ⟨wEz14.mono (by decide),(fun _ h=>by cases h)⟩) (by kernel_rfl)
def Arc:AnsY:=⟨150,[(.slice (some 3) [(.agg [(wN 2),(wN 3),(wN 4)]),(.agg [(wN 1),(wN 2),(wN 3)]),(.agg [(wN 4),(wN 4),(wN 7)]),(.agg [(wN 3),(wN 5),(wN 8)])] false),(wI [1,0,2,3] false)],(.tuple [(wI [1,2,1,0] false),(wN 0)]),false⟩
theorem wEz16:YOk T 183 Arc:=Bb (k:=122) (n:=60) (l:=[A9a]) (List.forall_mem_cons.2 ⟨wEz9.mono (by decide),(fun _ h=>by cases h)⟩) (by kernel_rfl)
def Ql:AnsY:=⟨122,[(.slice (some 3) [(.agg [(wN 2),(wN 3),(wN 4)]),(.agg [(wN 1),(wN 2),(wN 3)]),(.agg [(wN 4),(wN 4),(wN 7)]),(.agg [(wN 3),(wN 5),(wN 8)])] false),(wN 0)],(.tuple [(.ptr [(.slice (some 3) [(.agg [(wN 2),(wN 3),(wN 4)]),(.agg [(wN 1),(wN 2),(wN 3)]),(.agg [(wN 4),(wN 4),(wN 7)]),(.agg [(wN 3),(wN 5),(wN 8)])] false),(wI [2,1,4,3] false)] 0),(wN 0)]),false⟩
theorem wEz17:YOk T 122 Ql:=Bb (k:=61) (n:=60) (l:=[Zl,Zh,Zg,Zp]) (List.forall_mem_cons.2 ⟨wEz1.mono (by decide),List.forall_mem_cons.2 ⟨wEz2.mono (by decide),List.forall_mem_cons.2 ⟨wEz3.mono (by decide),List.forall_mem_cons.2 ⟨wEz4.mono (by decide),(fun _ h=>by cases h)⟩⟩⟩⟩) (by kernel_rfl)
def Akp:AnsY:=⟨23,[(.slice (some 3) [(.agg [(wN 2),(wN 3),(wN 4)]),(.agg [(wN 1),(wN 2),(wN 3)]),(.agg [(wN 4),(wN 4),(wN 7)]),(.agg [(wN 3),(wN 5),(wN 8)])] false),(wN 0)],(.tuple [(wN 2),(wN 0)]),false⟩
theorem wEz18:YOk T 183 Akp:=Bb (k:=122) (n:=60) (l:=[Ql,Us]) (List.forall_mem_cons.2 ⟨wEz17.mono (by decide),List.forall_mem_cons.2 ⟨wEz5.mono (by decide),(fun _ h=>by cases h)⟩⟩) (by kernel_rfl)
def Yn:AnsY:=⟨122,[(.slice (some 3) [(.agg [(wN 2),(wN 3),(wN 4)]),(.agg [(wN 1),(wN 2),(wN 3)]),(.agg [(wN 4),(wN 4),(wN 7)]),(.agg [(wN 3),(wN 5),(wN 8)])] false),(wN 1)],(.tuple [(.ptr [(.slice (some 3) [(.agg [(wN 2),(wN 3),(wN 4)]),(.agg [(wN 1),(wN 2),(wN 3)]),(.agg [(wN 4),(wN 4),(wN 7)]),(.agg [(wN 3),(wN 5),(wN 8)])] false),(wI [3,2,4,5] false)] 0),(wN 0)]),false⟩
theorem wEz19:YOk T 122 Yn:=Bb (k:=61) (n:=60) (l:=[Zl,Zh,Zg,Zp]) (List.forall_mem_cons.2 ⟨wEz1.mono (by decide),List.forall_mem_cons.2 ⟨wEz2.mono (by decide),List.forall_mem_cons.2 ⟨wEz3.mono (by decide),List.forall_mem_cons.2 ⟨wEz4.mono (by decide),(fun _ h=>by cases h)⟩⟩⟩⟩) (by kernel_rfl)
def Att:AnsY:=⟨23,[(.slice (some 3) [(.agg [(wN 2),(wN 3),(wN 4)]),(.agg [(wN 1),(wN 2),(wN 3)]),(.agg [(wN 4),(wN 4),(wN 7)]),(.agg [(wN 3),(wN 5),(wN 8)])] false),(wN 1)],(.tuple [(wN 6),(wN 0)]),false⟩
theorem wEz20:YOk T 183 Att:=Bb (k:=122) (n:=60) (l:=[Yn,Us]) (List.forall_mem_cons.2 ⟨wEz19.mono (by decide),List.forall_mem_cons.2 ⟨wEz5.mono (by decide),(fun _ h=>by cases h)⟩⟩) (by kernel_rfl)
def Akq:AnsY:=⟨151,[(.slice (some 3) [(.agg [(wN 2),(wN 3),(wN 4)]),(.agg [(wN 1),(wN 2),(wN 3)]),(.agg [(wN 4),(wN 4),(wN 7)]),(.agg [(wN 3),(wN 5),(wN 8)])] false),(wN 1)],(.tuple [(wN 8),(wN 0)]),false⟩
theorem wEz21:YOk T 183 Akq:=Bb (k:=122) (n:=60) (l:=[Yn,Us]) (List.forall_mem_cons.2 ⟨wEz19.mono (by decide),List.forall_mem_cons.2 ⟨wEz5.mono (by decide),(fun _ h=>by cases h)⟩⟩) (by kernel_rfl)
def Atk:AnsY:=⟨152,[(.slice (some 3) [(.agg [(wN 2),(wN 3),(wN 4)]),(.agg [(wN 1),(wN 2),(wN 3)]),(.agg [(wN 4),(wN 4),(wN 7)]),(.agg [(wN 3),(wN 5),(wN 8)])] false),(wN 0),(wN 7)],(.tuple [(wN 0),(wN 0)]),false⟩
theorem wEz22:YOk T 183 Atk:=Bb (k:=122) (n:=60) (l:=[Ql]) (List.forall_mem_cons.2 ⟨wEz17.mono (by decide),(fun _ h=>by cases h)⟩) (by kernel_rfl)
def Ata:AnsY:=⟨152,[(.slice (some 3) [(.agg [(wN 2),(wN 3),(wN 4)]),(.agg [(wN 1),(wN 2),(wN 3)]),(.agg [(wN 4),(wN 4),(wN 7)]),(.agg [(wN 3),(wN 5),(wN 8)])] false),(wN 0),(wN 2)],(.tuple [(wN 0),(wN 5)]),false⟩
theorem wEz23:YOk T 183 Ata:=Bb (k:=122) (n:=60) (l:=[Ql]) (List.forall_mem_cons.2 ⟨wEz17.mono (by decide),(fun _ h=>by cases h)⟩) (by kernel_rfl)
def Atj:AnsY:=⟨153,[(.slice (some 3) [(.agg [(wN 2),(wN 3),(wN 4)]),(.agg [(wN 1),(wN 2),(wN 3)]),(.agg [(wN 4),(wN 4),(wN 7)]),(.agg [(wN 3),(wN 5),(wN 8)])] false),(wN 0)],(.tuple [(wI [0,1,3] false),(wN 0)]),false⟩
theorem wEz25:YOk T 2061 Atj:=Bb (k:=2000) (n:=60) (l:=[Ql,A8e]) (List.forall_mem_cons.2 ⟨wEz17.mono (by decide),List.forall_mem_cons.2 ⟨wEz24.mono (by decide),(fun _ h=>by cases h)⟩⟩) (by kernel_rfl)
def Ajo:AnsY:=⟨153,[(.slice (some 3) [(.agg [(wN 2),(wN 3),(wN 4)]),(.agg [(wN 1),(wN 2),(wN 3)]),(.agg [(wN 4),(wN 4),(wN 7)]),(.agg [(wN 3),(wN 5),(wN 8)])] false),(wN 1)],(.tuple [(wI [1,2] false),(wN 0)]),false⟩
theorem wEz27:YOk T 2061 Ajo:=Bb (k:=2000) (n:=60) (l:=[Yn,A9i]) (List.forall_mem_cons.2 ⟨wEz19.mono (by decide),List.forall_mem_cons.2 ⟨wEz26.mono (by decide),(fun _ h=>by cases h)⟩⟩) (by kernel_rfl)
def Atp:AnsY:=⟨154,[(.slice (some 3) [(.agg [(wN 2),(wN 3),(wN 4)]),(.agg [(wN 1),(wN 2),(wN 3)]),(.agg [(wN 4),(wN 4),(wN 7)]),(.agg [(wN 3),(wN 5),(wN 8)])] false),(wN 1)],(.tuple [(wN 2),(wN 0)]),false⟩
theorem wEz28:YOk T 183 Atp:=Bb (k:=122) (n:=60) (l:=[Yn,Us]) (List.forall_mem_cons.2 ⟨wEz19.mono (by decide),List.forall_mem_cons.2 ⟨wEz5.mono (by decide),(fun _ h=>by cases h)⟩⟩) (by kernel_rfl)
def Ant:AnsY:=⟨148,[(wI [0,2,3] false)],(wI [0,2,3] false),false⟩
theorem wEz29:YOk T 61 Ant:=Bb (k:=0) (n:=60) (l:=[]) ((fun _ h=>by cases h)) (by kernel_rfl)
def Apw:AnsY:=⟨155,[(.slice (some 3) [(.agg [(wN 2),(wN 3),(wN 4)]),(.agg [(wN 1),(wN 2),(wN 3)]),(.agg [(wN 4),(wN 4),(wN 7)]),(.agg [(wN 3),(wN 5),(wN 8)])] false),(wN 0),(wI [0,2,3] false)],(wN 12),false⟩
theorem wEz30:YOk T 183 Apw:=Bb (k:=122) (n:=60) (l:=[Ql,Us]) (List.forall_mem_cons.2 ⟨wEz17.mono (by decide),List.forall_mem_cons.2 ⟨wEz5.mono (by decide),(fun _ h=>by cases h)⟩⟩) (by kernel_rfl)
def Ajf:AnsY:=⟨156,[(.slice (some 3) [(.agg [(wN 2),(wN 3),(wN 4)]),(.agg [(wN 1),(wN 2),(wN 3)]),(.agg [(wN 4),(wN 4),(wN 7)]),(.agg [(wN 3),(wN 5),(wN 8)])] false),(wN 0),(wN 1)],(.tuple [(wN 2),(wN 0)]),false⟩
theorem wEz31:YOk T 183 Ajf:=Bb (k:=122) (n:=60) (l:=[Ql,Us]) (List.forall_mem_cons.2 ⟨wEz17.mono (by decide),List.forall_mem_cons.2 ⟨wEz5.mono (by decide),(fun _ h=>by cases h)⟩⟩) (by kernel_rfl)
def Aqw:AnsY:=⟨157,[(wI [1,0,2,3] false),(wI [1,0,2,3] false)],(.bool true),false⟩
theorem wEz32:YOk T 61 Aqw:=Bb (k:=0) (n:=60) (l:=[]) ((fun _ h=>by cases h)) (by kernel_rfl)
def Aso:AnsY:=⟨149,[(wI [5,2,9,14] false)],(wI [5,2,9,14] false),false⟩
theorem wEz33:YOk T 61 Aso:=Bb (k:=0) (n:=60) (l:=[]) ((fun _ h=>by cases h)) (by kernel_rfl)
def Ark:AnsY:=⟨158,[(wI [5,2,9,14] false),(wI [5,2,9,14] false)],(.bool true),false⟩
theorem wEz34:YOk T 61 Ark:=Bb (k:=0) (n:=60) (l:=[]) ((fun _ h=>by cases h)) (by kernel_rfl)
def Aqi:AnsY:=⟨148,[(wI [1,2,1,0] false)],(wI [1,2,1,0] false),false⟩
theorem wEz35:YOk T 61 Aqi:=Bb (k:=0) (n:=60) (l:=[]) ((fun _ h=>by cases h)) (by kernel_rfl)
def Aru:AnsY:=⟨157,[(wI [1,2,1,0] false),(wI [1,2,1,0] false)],(.bool true),false⟩
theorem wEz36:YOk T 61 Aru:=Bb (k:=0) (n:=60) (l:=[]) ((fun _ h=>by cases h)) (by kernel_rfl)
def Alf:AnsY:=⟨148,[(wI [0,1,3] false)],(wI [0,1,3] false),false⟩
theorem wEz37:YOk T 61 Alf:=Bb (k:=0) (n:=60) (l:=[]) ((fun _ h=>by cases h)) (by kernel_rfl)
def Apu:AnsY:=⟨157,[(wI [0,1,3] false),(wI [0,1,3] false)],(.bool true),false⟩
theorem wEz38:YOk T 61 Apu:=Bb (k:=0) (n:=60) (l:=[]) ((fun _ h=>by cases h)) (by kernel_rfl)
def Ajr:AnsY:=⟨148,[(wI [1,2] false)],(wI [1,2] false),false⟩
theorem wEz39:YOk T 61 Ajr:=Bb (k:=0) (n:=60) (l:=[]) ((fun _ h=>by cases h)) (by kernel_rfl)
def Amq:AnsY:=⟨157,[(wI [1,2] false),(wI [1,2] false)],(.bool true),false⟩
theorem wEz40:YOk T 61 Amq:=Bb (k:=0) (n:=60) (l:=[]) ((fun _ h=>by cases h)) (by kernel_rfl)
def B3i:AnsY:=⟨74,[],(.bool true),false⟩
theorem B3m:YOk T 2122 B3i:=Bb (k:=2061) (n:=60) (l:=[B1j,B0n,B1c,Azf,Aju,Amj,Aqn,Ajz,Ali,Arc,Akp,Att,Akq,Atk,Ata,Atj,Ajo,Atp,Ant,Apw,Ajf,Aqw,Aso,Ark,Aqi,Aru,Alf,Apu,Ajr,Amq]) (List.forall_mem_cons.2 ⟨wEz0.mono (by decide),List.forall_mem_cons.2 ⟨wEz6.mono (by decide),List.forall_mem_cons.2 ⟨wEz7.mono (by decide),List.forall_mem_cons.2 ⟨wEz8.mono (by decide),List.forall_mem_cons.2 ⟨wEz10.mono (by decide),List.forall_mem_cons.2 ⟨wEz11.mono (by decide),List.forall_mem_cons.2 ⟨wEz12.mono (by decide),List.forall_mem_cons.2 ⟨wEz13.mono (by decide),List.forall_mem_cons.2 ⟨wEz15.mono (by decide),List.forall_mem_cons.2 ⟨wEz16.mono (by decide),List.forall_mem_cons.2 ⟨wEz18.mono (by decide),List.forall_mem_cons.2 ⟨wEz20.mono (by decide),List.forall_mem_cons.2 ⟨wEz21.mono (by decide),List.forall_mem_cons.2 ⟨wEz22.mono (by decide),List.forall_mem_cons.2 ⟨wEz23.mono (by decide),List.forall_mem_cons.2 ⟨wEz25.mono (by decide),List.forall_mem_cons.2 ⟨wEz27.mono (by decide),List.forall_mem_cons.2 ⟨wEz28.mono (by decide),List.forall_mem_cons.2 ⟨wEz29.mono (by decide),List.forall_mem_cons.2 ⟨wEz30.mono (by decide),List.forall_mem_cons.2 ⟨wEz31.mono (by decide),List.forall_mem_cons.2 ⟨wEz32.mono (by decide),List.forall_mem_cons.2 ⟨wEz33.mono (by decide),List.forall_mem_cons.2 ⟨wEz34.mono (by decide),List.forall_mem_cons.2 ⟨wEz35.mono (by decide),List.forall_mem_cons.2 ⟨wEz36.mono (by decide),List.forall_mem_cons.2 ⟨wEz37.mono (by decide),List.forall_mem_cons.2 ⟨wEz38.mono (by decide),List.forall_mem_cons.2 ⟨wEz39.mono (by decide),List.forall_mem_cons.2 ⟨wEz40.mono (by decide),(fun _ h=>by cases h)⟩⟩⟩⟩⟩⟩⟩⟩⟩⟩⟩⟩⟩⟩⟩⟩⟩⟩⟩⟩⟩⟩⟩⟩⟩⟩⟩⟩⟩⟩) (by kernel_rfl)
theorem wEworks:YOk T 2122 ⟨74,[],.bool true,false⟩:=B3m
end Go.Ev.YtgehhippjhealaaGreatC
