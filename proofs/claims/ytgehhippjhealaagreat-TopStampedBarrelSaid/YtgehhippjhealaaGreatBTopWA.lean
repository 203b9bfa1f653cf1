/- The works of a layer's examples, each call reckoned by the kernel, and joined. No condition but those that stand in each. -/
import Derived.Test.YtgehhippjhealaaGreatBTopW
set_option linter.unusedSimpArgs false
set_option linter.unusedVariables false
set_option maxRecDepth 100000
namespace Go.Ev.YtgehhippjhealaaGreatC
open Go Go.Proofs
def B1p:AnsY:=⟨238,[(wN 117),(wN 200)],(.agg [(wN 117),(wN 200)]),false⟩
theorem wAz0:YOk T 61 B1p:=Bb (k:=0) (n:=60) (l:=[]) ((fun _ h=>by cases h)) (by kernel_rfl)
def B1g:AnsY:=⟨238,[(wN 3),(wN 2)],(.agg [(wN 3),(wN 2)]),false⟩
theorem wAz1:YOk T 61 B1g:=Bb (k:=0) (n:=60) (l:=[]) ((fun _ h=>by cases h)) (by kernel_rfl)
def B2t:AnsY:=⟨238,[(wN 8),(wN 5)],(.agg [(wN 8),(wN 5)]),false⟩
theorem wAz2:YOk T 61 B2t:=Bb (k:=0) (n:=60) (l:=[]) ((fun _ h=>by cases h)) (by kernel_rfl)
def B2y:AnsY:=⟨366,[(.agg [(wN 8),(wN 5)])],(wN 0),false⟩
theorem wAz3:YOk T 61 B2y:=Bb (k:=0) (n:=60) (l:=[]) ((fun _ h=>by cases h)) (by kernel_rfl)
def Ayy:AnsY:=⟨307,[(.slice (some 2) [(.agg [(wN 3),(wN 2)]),(.agg [(wN 8),(wN 5)])] false)],(.tuple [(.ptr [(wN 3),(wN 2)] 0),(wN 0)]),false⟩
theorem wAz4:YOk T 122 Ayy:=Bb (k:=61) (n:=60) (l:=[B2y]) (List.forall_mem_cons.2 ⟨wAz3.mono (by decide),(fun _ h=>by cases h)⟩) (by kernel_rfl)
def Azj:AnsY:=⟨239,[(.agg [(wN 3),(wN 2)]),(.agg [(wN 8),(wN 5)])],(.tuple [(wN 1),(wN 0)]),false⟩
theorem wAz5:YOk T 183 Azj:=Bb (k:=122) (n:=60) (l:=[Ayy]) (List.forall_mem_cons.2 ⟨wAz4.mono (by decide),(fun _ h=>by cases h)⟩) (by kernel_rfl)
def Wk:AnsY:=⟨366,[(.agg [(wN 117),(wN 200)])],(wN 0),false⟩
theorem wAz6:YOk T 61 Wk:=Bb (k:=0) (n:=60) (l:=[]) ((fun _ h=>by cases h)) (by kernel_rfl)
def B2o:AnsY:=⟨240,[(.agg [(wN 117),(wN 200)]),(wN 50)],(.tuple [(.agg [(wN 7),(wN 12)]),(.agg [(wN 24),(wN 41)]),(wN 0)]),false⟩
theorem wAz7:YOk T 122 B2o:=Bb (k:=61) (n:=60) (l:=[Wk]) (List.forall_mem_cons.2 ⟨wAz6.mono (by decide),(fun _ h=>by cases h)⟩) (by kernel_rfl)
def B0r:AnsY:=⟨238,[(wN 7),(wN 12)],(.agg [(wN 7),(wN 12)]),false⟩
theorem wAz8:YOk T 61 B0r:=Bb (k:=0) (n:=60) (l:=[]) ((fun _ h=>by cases h)) (by kernel_rfl)
def B2l:AnsY:=⟨238,[(wN 3),(wN 5)],(.agg [(wN 3),(wN 5)]),false⟩
theorem wAz9:YOk T 61 B2l:=Bb (k:=0) (n:=60) (l:=[]) ((fun _ h=>by cases h)) (by kernel_rfl)
def Alt:AnsY:=⟨241,[(.agg [(wN 7),(wN 12)]),(.agg [(wN 3),(wN 5)]),(wN 12)],(wN 0),false⟩
theorem wAz10:YOk T 61 Alt:=Bb (k:=0) (n:=60) (l:=[]) ((fun _ h=>by cases h)) (by kernel_rfl)
def Anw:AnsY:=⟨241,[(.agg [(wN 7),(wN 12)]),(.agg [(wN 3),(wN 5)]),(wN 17)],(wN 14),false⟩
theorem wAz11:YOk T 61 Anw:=Bb (k:=0) (n:=60) (l:=[]) ((fun _ h=>by cases h)) (by kernel_rfl)
def A8p:AnsY:=⟨311,[(.ptr [(wN 117),(wN 200)] 0),(wN 12)],(.agg [(wN 7),(wN 12)]),false⟩
theorem wAz12:YOk T 61 A8p:=Bb (k:=0) (n:=60) (l:=[]) ((fun _ h=>by cases h)) (by kernel_rfl)
def Aop:AnsY:=⟨242,[(.agg [(wN 117),(wN 200)]),(wN 12)],(.tuple [(.agg [(wN 7),(wN 12)]),(wN 0)]),false⟩
theorem wAz13:YOk T 122 Aop:=Bb (k:=61) (n:=60) (l:=[Wk,A8p]) (List.forall_mem_cons.2 ⟨wAz6.mono (by decide),List.forall_mem_cons.2 ⟨wAz12.mono (by decide),(fun _ h=>by cases h)⟩⟩) (by kernel_rfl)
def Aqq:AnsY:=⟨243,[(.agg [(wN 117),(wN 200)]),(.agg [(wN 7),(wN 12)]),(wN 12)],(wN 0),false⟩
theorem wAz14:YOk T 122 Aqq:=Bb (k:=61) (n:=60) (l:=[Wk,A8p]) (List.forall_mem_cons.2 ⟨wAz6.mono (by decide),List.forall_mem_cons.2 ⟨wAz12.mono (by decide),(fun _ h=>by cases h)⟩⟩) (by kernel_rfl)
def Ame:AnsY:=⟨238,[(wN 14),(wN 24)],(.agg [(wN 14),(wN 24)]),false⟩
theorem wAz15:YOk T 61 Ame:=Bb (k:=0) (n:=60) (l:=[]) ((fun _ h=>by cases h)) (by kernel_rfl)
def Aoc:AnsY:=⟨311,[(.ptr [(wN 117),(wN 200)] 0),(wN 50)],(.agg [(wN 24),(wN 41)]),false⟩
theorem wAz16:YOk T 61 Aoc:=Bb (k:=0) (n:=60) (l:=[]) ((fun _ h=>by cases h)) (by kernel_rfl)
def Asc:AnsY:=⟨243,[(.agg [(wN 117),(wN 200)]),(.agg [(wN 14),(wN 24)]),(wN 50)],(wN 17),false⟩
theorem wAz17:YOk T 122 Asc:=Bb (k:=61) (n:=60) (l:=[Wk,Aoc]) (List.forall_mem_cons.2 ⟨wAz6.mono (by decide),List.forall_mem_cons.2 ⟨wAz16.mono (by decide),(fun _ h=>by cases h)⟩⟩) (by kernel_rfl)
def Aiu:AnsY:=⟨238,[(wN 59),(wN 100)],(.agg [(wN 59),(wN 100)]),false⟩
theorem wAz18:YOk T 61 Aiu:=Bb (k:=0) (n:=60) (l:=[]) ((fun _ h=>by cases h)) (by kernel_rfl)
def Asf:AnsY:=⟨366,[(.agg [(wN 59),(wN 100)])],(wN 0),false⟩
theorem wAz19:YOk T 61 Asf:=Bb (k:=0) (n:=60) (l:=[]) ((fun _ h=>by cases h)) (by kernel_rfl)
def Alw:AnsY:=⟨244,[(.agg [(wN 117),(wN 200)]),(.agg [(wN 59),(wN 100)])],(.tuple [(.agg [(wN 10),(wN 17)]),(wN 0)]),false⟩
theorem wAz20:YOk T 122 Alw:=Bb (k:=61) (n:=60) (l:=[Wk,Asf]) (List.forall_mem_cons.2 ⟨wAz6.mono (by decide),List.forall_mem_cons.2 ⟨wAz19.mono (by decide),(fun _ h=>by cases h)⟩⟩) (by kernel_rfl)
def Apk:AnsY:=⟨238,[(wN 1),(wN 2)],(.agg [(wN 1),(wN 2)]),false⟩
theorem wAz21:YOk T 61 Apk:=Bb (k:=0) (n:=60) (l:=[]) ((fun _ h=>by cases h)) (by kernel_rfl)
def Asi:AnsY:=⟨238,[(wN 2),(wN 3)],(.agg [(wN 2),(wN 3)]),false⟩
theorem wAz22:YOk T 61 Asi:=Bb (k:=0) (n:=60) (l:=[]) ((fun _ h=>by cases h)) (by kernel_rfl)
def Arx:AnsY:=⟨366,[(.agg [(wN 2),(wN 3)])],(wN 0),false⟩
theorem wAz23:YOk T 61 Arx:=Bb (k:=0) (n:=60) (l:=[]) ((fun _ h=>by cases h)) (by kernel_rfl)
def Anr:AnsY:=⟨307,[(.slice (some 2) [(.agg [(wN 1),(wN 2)]),(.agg [(wN 2),(wN 3)])] false)],(.tuple [(.ptr [(wN 1),(wN 2)] 0),(wN 0)]),false⟩
theorem wAz24:YOk T 122 Anr:=Bb (k:=61) (n:=60) (l:=[Arx]) (List.forall_mem_cons.2 ⟨wAz23.mono (by decide),(fun _ h=>by cases h)⟩) (by kernel_rfl)
def Aoz:AnsY:=⟨245,[(.agg [(wN 1),(wN 2)]),(.agg [(wN 2),(wN 3)]),(wN 5)],(.tuple [(wN 3),(wN 0)]),false⟩
theorem wAz25:YOk T 183 Aoz:=Bb (k:=122) (n:=60) (l:=[Anr]) (List.forall_mem_cons.2 ⟨wAz24.mono (by decide),(fun _ h=>by cases h)⟩) (by kernel_rfl)
def Apo:AnsY:=⟨246,[(.agg [(wN 117),(wN 200)])],(.tuple [(wI [0,1,1,2,2,3,1,2] false),(wN 0)]),false⟩
theorem wAz26:YOk T 122 Apo:=Bb (k:=61) (n:=60) (l:=[Wk]) (List.forall_mem_cons.2 ⟨wAz6.mono (by decide),(fun _ h=>by cases h)⟩) (by kernel_rfl)
def Alk:AnsY:=⟨248,[(wI [1,3] false)],(wI [1,3] false),false⟩
theorem wAz27:YOk T 61 Alk:=Bb (k:=0) (n:=60) (l:=[]) ((fun _ h=>by cases h)) (by kernel_rfl)
def Aoj:AnsY:=⟨247,[(wI [1,3] false)],(.tuple [(.agg [(wN 5),(wN 4)]),(wN 0)]),false⟩
theorem wAz28:YOk T 61 Aoj:=Bb (k:=0) (n:=60) (l:=[]) ((fun _ h=>by cases h)) (by kernel_rfl)
def Aki:AnsY:=⟨248,[(wI [0] false)],(wI [0] false),false⟩
theorem wAz29:YOk T 61 Aki:=Bb (k:=0) (n:=60) (l:=[]) ((fun _ h=>by cases h)) (by kernel_rfl)
def Aoi:AnsY:=⟨247,[(wI [0] false)],(.tuple [(.agg [(wN 0),(wN 0)]),(wN 3)]),false⟩
theorem wAz30:YOk T 61 Aoi:=Bb (k:=0) (n:=60) (l:=[]) ((fun _ h=>by cases h)) (by kernel_rfl)
def Apx:AnsY:=⟨64,[(wN 12),(wN 7),(wN 5)],(wN 0),false⟩
theorem wAz31:YOk T 61 Apx:=Bb (k:=0) (n:=60) (l:=[]) ((fun _ h=>by cases h)) (by kernel_rfl)
def Akt:AnsY:=⟨24,[(wN 12),(wN 7),(wN 5)],(.tuple [(wI [0,2,4,7,9] false),(wN 0)]),false⟩
theorem wAz32:YOk T 122 Akt:=Bb (k:=61) (n:=60) (l:=[Apx]) (List.forall_mem_cons.2 ⟨wAz31.mono (by decide),(fun _ h=>by cases h)⟩) (by kernel_rfl)
def Aql:AnsY:=⟨64,[(wN 100),(wN 38),(wN 4)],(wN 0),false⟩
theorem wAz33:YOk T 61 Aql:=Bb (k:=0) (n:=60) (l:=[]) ((fun _ h=>by cases h)) (by kernel_rfl)
def Akm:AnsY:=⟨249,[(wN 100),(wN 38),(wN 4)],(.tuple [(wI [14,24,38] false),(wN 0)]),false⟩
theorem wAz34:YOk T 122 Akm:=Bb (k:=61) (n:=60) (l:=[Aql]) (List.forall_mem_cons.2 ⟨wAz33.mono (by decide),(fun _ h=>by cases h)⟩) (by kernel_rfl)
def Ang:AnsY:=⟨64,[(wN 12),(wN 7),(wN 6)],(wN 0),false⟩
theorem wAz35:YOk T 61 Ang:=Bb (k:=0) (n:=60) (l:=[]) ((fun _ h=>by cases h)) (by kernel_rfl)
def Aqp:AnsY:=⟨250,[(wN 12),(wN 7),(wN 6)],(.tuple [(wN 5),(wN 0)]),false⟩
theorem wAz36:YOk T 122 Aqp:=Bb (k:=61) (n:=60) (l:=[Ang]) (List.forall_mem_cons.2 ⟨wAz35.mono (by decide),(fun _ h=>by cases h)⟩) (by kernel_rfl)
def Aqj:AnsY:=⟨238,[(wN 24),(wN 41)],(.agg [(wN 24),(wN 41)]),false⟩
theorem wAz37:YOk T 61 Aqj:=Bb (k:=0) (n:=60) (l:=[]) ((fun _ h=>by cases h)) (by kernel_rfl)
def Ape:AnsY:=⟨238,[(wN 10),(wN 17)],(.agg [(wN 10),(wN 17)]),false⟩
theorem wAz38:YOk T 61 Ape:=Bb (k:=0) (n:=60) (l:=[]) ((fun _ h=>by cases h)) (by kernel_rfl)
def Alp:AnsY:=⟨248,[(wI [0,1,1,2,2,3,1,2] false)],(wI [0,1,1,2,2,3,1,2] false),false⟩
theorem wAz39:YOk T 61 Alp:=Bb (k:=0) (n:=60) (l:=[]) ((fun _ h=>by cases h)) (by kernel_rfl)
def Amb:AnsY:=⟨251,[(wI [0,1,1,2,2,3,1,2] false),(wI [0,1,1,2,2,3,1,2] false)],(.bool true),false⟩
theorem wAz40:YOk T 61 Amb:=Bb (k:=0) (n:=60) (l:=[]) ((fun _ h=>by cases h)) (by kernel_rfl)
def Aqd:AnsY:=⟨238,[(wN 5),(wN 4)],(.agg [(wN 5),(wN 4)]),false⟩
theorem wAz41:YOk T 61 Aqd:=Bb (k:=0) (n:=60) (l:=[]) ((fun _ h=>by cases h)) (by kernel_rfl)
def Aog:AnsY:=⟨248,[(wI [0,2,4,7,9] false)],(wI [0,2,4,7,9] false),false⟩
theorem wAz42:YOk T 61 Aog:=Bb (k:=0) (n:=60) (l:=[]) ((fun _ h=>by cases h)) (by kernel_rfl)
def Ats:AnsY:=⟨251,[(wI [0,2,4,7,9] false),(wI [0,2,4,7,9] false)],(.bool true),false⟩
theorem wAz43:YOk T 61 Ats:=Bb (k:=0) (n:=60) (l:=[]) ((fun _ h=>by cases h)) (by kernel_rfl)
def Ajt:AnsY:=⟨248,[(wI [14,24,38] false)],(wI [14,24,38] false),false⟩
theorem wAz44:YOk T 61 Ajt:=Bb (k:=0) (n:=60) (l:=[]) ((fun _ h=>by cases h)) (by kernel_rfl)
def Ajv:AnsY:=⟨251,[(wI [14,24,38] false),(wI [14,24,38] false)],(.bool true),false⟩
theorem wAz45:YOk T 61 Ajv:=Bb (k:=0) (n:=60) (l:=[]) ((fun _ h=>by cases h)) (by kernel_rfl)
def B3t:AnsY:=⟨196,[],(.bool true),false⟩
theorem B4b:YOk T 244 B3t:=Bb (k:=183) (n:=60) (l:=[B1p,B1g,B2t,Azj,B2o,B0r,B2l,Alt,Anw,Aop,Aqq,Ame,Asc,Aiu,Alw,Apk,Asi,Aoz,Apo,Alk,Aoj,Aki,Aoi,Akt,Akm,Aqp,Aqj,Ape,Alp,Amb,Aqd,Aog,Ats,Ajt,Ajv]) (List.forall_mem_cons.2 ⟨wAz0.mono (by decide),List.forall_mem_cons.2 ⟨wAz1.mono (by decide),List.forall_mem_cons.2 ⟨wAz2.mono (by decide),List.forall_mem_cons.2 ⟨wAz5.mono (by decide),List.forall_mem_cons.2 ⟨wAz7.mono (by decide),List.forall_mem_cons.2 ⟨wAz8.mono (by decide),List.forall_mem_cons.2 ⟨wAz9.mono (by decide),List.forall_mem_cons.2 ⟨wAz10.mono (by decide),List.forall_mem_cons.2 ⟨wAz11.mono (by decide),List.forall_mem_cons.2 ⟨wAz13.mono (by decide),List.forall_mem_cons.2 ⟨wAz14.mono (by decide),List.forall_mem_cons.2 ⟨wAz15.mono (by decide),List.forall_mem_cons.2 ⟨wAz17.mono (by decide),List.forall_mem_cons.2 ⟨wAz18.mono (by decide),List.forall_mem_cons.2 ⟨wAz20.mono (by decide),List.forall_mem_cons.2 ⟨wAz21.mono (by decide),List.forall_mem_cons.2 ⟨wAz22.mono (by decide),List.forall_mem_cons.2 ⟨wAz25.mono (by decide),List.forall_mem_cons.2 ⟨wAz26.mono (by decide),List.forall_mem_cons.2 ⟨wAz27.mono (by decide),List.forall_mem_cons.2 ⟨wAz28.mono (by decide),List.forall_mem_cons.2 ⟨wAz29.mono (by decide),List.forall_mem_cons.2 ⟨wAz30.mono (by decide),List.forall_mem_cons.2 ⟨wAz32.mono (by decide),List.forall_mem_cons.2 ⟨wAz34.mono (by decide),List.forall_mem_cons.2 ⟨wAz36.mono (by decide),List.forall_mem_cons.2 ⟨wAz37.mono (by decide),List.forall_mem_cons.2 ⟨wAz38.mono (by decide),List.forall_mem_cons.2 ⟨wAz39.mono (by decide),List.forall_mem_cons.2 ⟨wAz40.mono (by decide),List.forall_mem_cons.2 ⟨wAz41.mono (by decide),List.forall_mem_cons.2 ⟨wAz42.mono (by decide),List.forall_mem_cons.2 ⟨wAz43.mono (by decide),List.forall_mem_cons.2 ⟨wAz44.mono (by decide),List.forall_mem_cons.2 ⟨wAz45.mono (by decide),(fun _ h=>by cases h)⟩⟩⟩⟩⟩⟩⟩⟩⟩⟩⟩⟩⟩⟩⟩⟩⟩⟩⟩⟩⟩⟩⟩⟩⟩⟩⟩⟩⟩⟩⟩⟩⟩⟩⟩) (by kernel_rfl)
theorem wAworks:YOk T 244 ⟨196,[],.bool true,false⟩:=B4b
end Go.Ev.YtgehhippjhealaaGreatC
