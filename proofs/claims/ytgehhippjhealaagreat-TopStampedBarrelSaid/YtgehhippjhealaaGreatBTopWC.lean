/- The works of a layer's examples, each call reckoned by the kernel, and joined. No condition but those that stand in each. -/
import Derived.Test.YtgehhippjhealaaGreatBTopW
import Derived.Test.YtgehhippjhealaaGreatBTopPlx
set_option linter.unusedSimpArgs false
set_option linter.unusedVariables false
set_option maxRecDepth 100000
namespace Go.Ev.YtgehhippjhealaaGreatC
open Go Go.Proofs
def Azs:AnsY:=⟨264,[(wI [3,4,5,2,4,6] false)],(.slice (some 2) [(.agg [(wN 3),(wN 4)]),(.agg [(wN 5),(wN 2)]),(.agg [(wN 4),(wN 6)])] false),false⟩
theorem wCz0:YOk T 61 Azs:=Bb (k:=0) (n:=60) (l:=[]) ((fun _ h=>by cases h)) (by kernel_rfl)
def B0w:AnsY:=⟨264,[(wI [3,4] false)],(.slice (some 2) [(.agg [(wN 3),(wN 4)])] false),false⟩
theorem wCz1:YOk T 61 B0w:=Bb (k:=0) (n:=60) (l:=[]) ((fun _ h=>by cases h)) (by kernel_rfl)
def B1m:AnsY:=⟨264,[(wI [1,1,1,1] false)],(.slice (some 2) [(.agg [(wN 1),(wN 1)]),(.agg [(wN 1),(wN 1)])] false),false⟩
theorem wCz2:YOk T 61 B1m:=Bb (k:=0) (n:=60) (l:=[]) ((fun _ h=>by cases h)) (by kernel_rfl)
def B1o:AnsY:=⟨265,[(wI [0,6,3,10,8,0] false)],(.slice (some 2) [(.agg [(wN 0),(wN 6)]),(.agg [(wN 3),(wN 10)]),(.agg [(wN 8),(wN 0)])] false),false⟩
theorem wCz3:YOk T 61 B1o:=Bb (k:=0) (n:=60) (l:=[]) ((fun _ h=>by cases h)) (by kernel_rfl)
def Sx:AnsY:=⟨406,[(.slice (some 2) [(.agg [(wN 3),(wN 4)]),(.agg [(wN 5),(wN 2)]),(.agg [(wN 4),(wN 6)])] false),(.clo 388 [] [])],(wN (-1)),false⟩
theorem wCz4:YOk T 61 Sx:=Bb (k:=0) (n:=60) (l:=[]) ((fun _ h=>by cases h)) (by kernel_rfl)
def B1n:AnsY:=⟨267,[(.slice (some 2) [(.agg [(wN 3),(wN 4)]),(.agg [(wN 5),(wN 2)]),(.agg [(wN 4),(wN 6)])] false)],(.tuple [(wN 0),(wN 0),(wN 0)]),false⟩
theorem wCz5:YOk T 122 B1n:=Bb (k:=61) (n:=60) (l:=[Sx]) (List.forall_mem_cons.2 ⟨wCz4.mono (by decide),(fun _ h=>by cases h)⟩) (by kernel_rfl)
def B1v:AnsY:=⟨266,[(.slice (some 2) [(.agg [(wN 3),(wN 4)]),(.agg [(wN 5),(wN 2)]),(.agg [(wN 4),(wN 6)])] false)],(.tuple [(wN 12),(wN 0)]),false⟩
theorem wCz6:YOk T 183 B1v:=Bb (k:=122) (n:=60) (l:=[B1n]) (List.forall_mem_cons.2 ⟨wCz5.mono (by decide),(fun _ h=>by cases h)⟩) (by kernel_rfl)
def Ahd:AnsY:=⟨337,[(.slice (some 2) [(.agg [(wN 3),(wN 4)])] false)],(wN 0),false⟩
theorem wCz7:YOk T 61 Ahd:=Bb (k:=0) (n:=60) (l:=[]) ((fun _ h=>by cases h)) (by kernel_rfl)
def Aev:AnsY:=⟨267,[(.slice (some 2) [(.agg [(wN 3),(wN 4)])] false)],(.tuple [(wN 2),(wN 0),(wN 0)]),false⟩
theorem wCz8:YOk T 122 Aev:=Bb (k:=61) (n:=60) (l:=[Ahd]) (List.forall_mem_cons.2 ⟨wCz7.mono (by decide),(fun _ h=>by cases h)⟩) (by kernel_rfl)
def B0v:AnsY:=⟨266,[(.slice (some 2) [(.agg [(wN 3),(wN 4)])] false)],(.tuple [(wN 7),(wN 0)]),false⟩
theorem wCz9:YOk T 183 B0v:=Bb (k:=122) (n:=60) (l:=[Aev]) (List.forall_mem_cons.2 ⟨wCz8.mono (by decide),(fun _ h=>by cases h)⟩) (by kernel_rfl)
def Ajw:AnsY:=⟨268,[(.slice (some 2) [(.agg [(wN 3),(wN 4)]),(.agg [(wN 5),(wN 2)]),(.agg [(wN 4),(wN 6)])] false),(wN 2),(wN 2)],(.tuple [(wN 10),(wN 0)]),false⟩
theorem wCz10:YOk T 122 Ajw:=Bb (k:=61) (n:=60) (l:=[Sx]) (List.forall_mem_cons.2 ⟨wCz4.mono (by decide),(fun _ h=>by cases h)⟩) (by kernel_rfl)
def Asr:AnsY:=⟨391,[(.slice (some 2) [(.agg [(wN 0),(wN 6)]),(.agg [(wN 3),(wN 10)]),(.agg [(wN 8),(wN 0)])] false),(.clo 342 [] [])],(wN (-1)),false⟩
theorem wCz11:YOk T 61 Asr:=Bb (k:=0) (n:=60) (l:=[]) ((fun _ h=>by cases h)) (by kernel_rfl)
def Atq:AnsY:=⟨269,[(.slice (some 2) [(.agg [(wN 3),(wN 4)]),(.agg [(wN 5),(wN 2)]),(.agg [(wN 4),(wN 6)])] false),(.slice (some 2) [(.agg [(wN 0),(wN 6)]),(.agg [(wN 3),(wN 10)]),(.agg [(wN 8),(wN 0)])] false)],(.tuple [(wN 12),(wN 0)]),false⟩
theorem wCz12:YOk T 122 Atq:=Bb (k:=61) (n:=60) (l:=[Sx,Asr]) (List.forall_mem_cons.2 ⟨wCz4.mono (by decide),List.forall_mem_cons.2 ⟨wCz11.mono (by decide),(fun _ h=>by cases h)⟩⟩) (by kernel_rfl)
def Akh:AnsY:=⟨265,[(wI [0,6,3,10,7,0] false)],(.slice (some 2) [(.agg [(wN 0),(wN 6)]),(.agg [(wN 3),(wN 10)]),(.agg [(wN 7),(wN 0)])] false),false⟩
theorem wCz13:YOk T 61 Akh:=Bb (k:=0) (n:=60) (l:=[]) ((fun _ h=>by cases h)) (by kernel_rfl)
def Arq:AnsY:=⟨391,[(.slice (some 2) [(.agg [(wN 0),(wN 6)]),(.agg [(wN 3),(wN 10)]),(.agg [(wN 7),(wN 0)])] false),(.clo 342 [] [])],(wN (-1)),false⟩
theorem wCz14:YOk T 61 Arq:=Bb (k:=0) (n:=60) (l:=[]) ((fun _ h=>by cases h)) (by kernel_rfl)
def Aqk:AnsY:=⟨269,[(.slice (some 2) [(.agg [(wN 3),(wN 4)]),(.agg [(wN 5),(wN 2)]),(.agg [(wN 4),(wN 6)])] false),(.slice (some 2) [(.agg [(wN 0),(wN 6)]),(.agg [(wN 3),(wN 10)]),(.agg [(wN 7),(wN 0)])] false)],(.tuple [(wN 0),(wN 16)]),false⟩
theorem wCz15:YOk T 122 Aqk:=Bb (k:=61) (n:=60) (l:=[Sx,Arq]) (List.forall_mem_cons.2 ⟨wCz4.mono (by decide),List.forall_mem_cons.2 ⟨wCz14.mono (by decide),(fun _ h=>by cases h)⟩⟩) (by kernel_rfl)
def Anm:AnsY:=⟨265,[(wI [0,5] false)],(.slice (some 2) [(.agg [(wN 0),(wN 5)])] false),false⟩
theorem wCz16:YOk T 61 Anm:=Bb (k:=0) (n:=60) (l:=[]) ((fun _ h=>by cases h)) (by kernel_rfl)
def Ajd:AnsY:=⟨269,[(.slice (some 2) [(.agg [(wN 3),(wN 4)])] false),(.slice (some 2) [(.agg [(wN 0),(wN 5)])] false)],(.tuple [(wN 9),(wN 0)]),false⟩
theorem wCz17:YOk T 122 Ajd:=Bb (k:=61) (n:=60) (l:=[Ahd]) (List.forall_mem_cons.2 ⟨wCz7.mono (by decide),(fun _ h=>by cases h)⟩) (by kernel_rfl)
def Amv:AnsY:=⟨270,[(.slice (some 2) [(.agg [(wN 3),(wN 4)])] false),(.slice (some 2) [(.agg [(wN 0),(wN 5)])] false),(wN 1)],(.tuple [(wN 5),(wN 0)]),false⟩
theorem wCz18:YOk T 183 Amv:=Bb (k:=122) (n:=60) (l:=[Ajd]) (List.forall_mem_cons.2 ⟨wCz17.mono (by decide),(fun _ h=>by cases h)⟩) (by kernel_rfl)
def Aom:AnsY:=⟨347,[(.slice (some 2) [(.agg [(wN 3),(wN 4)]),(.agg [(wN 5),(wN 2)]),(.agg [(wN 4),(wN 6)])] false)],(.agg [(wI [0,1,2] false),(wI [2,0,1] false),(wI [0,0,1] false)]),false⟩
theorem wCz19:YOk T 61 Aom:=Bb (k:=0) (n:=60) (l:=[]) ((fun _ h=>by cases h)) (by kernel_rfl)
def Ama:AnsY:=⟨271,[(.slice (some 2) [(.agg [(wN 3),(wN 4)]),(.agg [(wN 5),(wN 2)]),(.agg [(wN 4),(wN 6)])] false)],(.tuple [(.slice (some 2) [(.agg [(wN 0),(wN 6)]),(.agg [(wN 3),(wN 10)]),(.agg [(wN 8),(wN 0)])] false),(wN 0)]),false⟩
theorem wCz21:YOk T 2061 Ama:=Bb (k:=2000) (n:=60) (l:=[Sx,Aom,A1y]) (List.forall_mem_cons.2 ⟨wCz4.mono (by decide),List.forall_mem_cons.2 ⟨wCz19.mono (by decide),List.forall_mem_cons.2 ⟨wCz20.mono (by decide),(fun _ h=>by cases h)⟩⟩⟩) (by kernel_rfl)
def Aji:AnsY:=⟨273,[],(.agg [(wI [0,1,2] false),(wI [2,0,1] false),(wI [0,0,1] false)]),false⟩
theorem wCz22:YOk T 61 Aji:=Bb (k:=0) (n:=60) (l:=[]) ((fun _ h=>by cases h)) (by kernel_rfl)
def Ajj:AnsY:=⟨274,[],(.agg [(wI [0,1] false),(wI [1,0] false),(wI [1,0] false)]),false⟩
theorem wCz23:YOk T 61 Ajj:=Bb (k:=0) (n:=60) (l:=[]) ((fun _ h=>by cases h)) (by kernel_rfl)
def Ano:AnsY:=⟨406,[(.slice (some 2) [(.agg [(wN 1),(wN 1)]),(.agg [(wN 1),(wN 1)])] false),(.clo 388 [] [])],(wN (-1)),false⟩
theorem wCz24:YOk T 61 Ano:=Bb (k:=0) (n:=60) (l:=[]) ((fun _ h=>by cases h)) (by kernel_rfl)
def A8z:AnsY:=⟨397,[(.slice (some 2) [(.agg [(wN 1),(wN 1)]),(.agg [(wN 1),(wN 1)])] false),(.agg [(wI [0,1] false),(wI [1,0] false),(wI [1,0] false)])],(wN 0),false⟩
theorem wCz25:YOk T 122 A8z:=Bb (k:=61) (n:=60) (l:=[Ano]) (List.forall_mem_cons.2 ⟨wCz24.mono (by decide),(fun _ h=>by cases h)⟩) (by kernel_rfl)
def Asa:AnsY:=⟨272,[(.slice (some 2) [(.agg [(wN 1),(wN 1)]),(.agg [(wN 1),(wN 1)])] false),(.agg [(wI [0,1] false),(wI [1,0] false),(wI [1,0] false)])],(.tuple [(.slice (some 2) [] false),(wN 13)]),false⟩
theorem wCz26:YOk T 183 Asa:=Bb (k:=122) (n:=60) (l:=[A8z]) (List.forall_mem_cons.2 ⟨wCz25.mono (by decide),(fun _ h=>by cases h)⟩) (by kernel_rfl)
def Aqg:AnsY:=⟨276,[(wI [0,2,3,1] false)],(wI [0,2,3,1] false),false⟩
theorem wCz27:YOk T 61 Aqg:=Bb (k:=0) (n:=60) (l:=[]) ((fun _ h=>by cases h)) (by kernel_rfl)
def A1q:AnsY:=⟨348,[(.slice (some 2) [(.agg [(wN 1),(wN 1)]),(.agg [(wN 1),(wN 1)])] false),(.agg [(wI [0,1] false),(wI [1,0] false),(wI [1,0] false)])],(.tuple [(.ptr [(wI [0,1] false),(wI [1,0] false),(wI [1,0] false),(.fmap [] [])] 0),(wN 0)]),false⟩
theorem wCz28:YOk T 183 A1q:=Bb (k:=122) (n:=60) (l:=[A8z]) (List.forall_mem_cons.2 ⟨wCz25.mono (by decide),(fun _ h=>by cases h)⟩) (by kernel_rfl)
def Apz:AnsY:=⟨176,[(wI [0,2,3,1] false),(.clo 349 [] [(.ptr [(.slice (some 2) [(.agg [(wN 1),(wN 1)]),(.agg [(wN 1),(wN 1)])] false)] 0)])],(wN (-1)),false⟩
theorem wCz29:YOk T 61 Apz:=Bb (k:=0) (n:=60) (l:=[]) ((fun _ h=>by cases h)) (by kernel_rfl)
def Aof:AnsY:=⟨275,[(.slice (some 2) [(.agg [(wN 1),(wN 1)]),(.agg [(wN 1),(wN 1)])] false),(.agg [(wI [0,1] false),(wI [1,0] false),(wI [1,0] false)]),(wI [0,2,3,1] false)],(wN 0),false⟩
theorem wCz30:YOk T 244 Aof:=Bb (k:=183) (n:=60) (l:=[A1q,Apz]) (List.forall_mem_cons.2 ⟨wCz28.mono (by decide),List.forall_mem_cons.2 ⟨wCz29.mono (by decide),(fun _ h=>by cases h)⟩⟩) (by kernel_rfl)
def Aod:AnsY:=⟨276,[(wI [0,2] false)],(wI [0,2] false),false⟩
theorem wCz31:YOk T 61 Aod:=Bb (k:=0) (n:=60) (l:=[]) ((fun _ h=>by cases h)) (by kernel_rfl)
def Apl:AnsY:=⟨176,[(wI [0,2] false),(.clo 349 [] [(.ptr [(.slice (some 2) [(.agg [(wN 1),(wN 1)]),(.agg [(wN 1),(wN 1)])] false)] 0)])],(wN (-1)),false⟩
theorem wCz32:YOk T 61 Apl:=Bb (k:=0) (n:=60) (l:=[]) ((fun _ h=>by cases h)) (by kernel_rfl)
def Aqv:AnsY:=⟨275,[(.slice (some 2) [(.agg [(wN 1),(wN 1)]),(.agg [(wN 1),(wN 1)])] false),(.agg [(wI [0,1] false),(wI [1,0] false),(wI [1,0] false)]),(wI [0,2] false)],(wN 14),false⟩
theorem wCz33:YOk T 244 Aqv:=Bb (k:=183) (n:=60) (l:=[A1q,Apl]) (List.forall_mem_cons.2 ⟨wCz28.mono (by decide),List.forall_mem_cons.2 ⟨wCz32.mono (by decide),(fun _ h=>by cases h)⟩⟩) (by kernel_rfl)
def Art:AnsY:=⟨351,[(.ptr [(wI [0,1] false),(wI [1,0] false),(wI [1,0] false),(.fmap [] [])] 0)],(wI [2,3,1,0] false),false⟩
theorem wCz34:YOk T 61 Art:=Bb (k:=0) (n:=60) (l:=[]) ((fun _ h=>by cases h)) (by kernel_rfl)
def Alb:AnsY:=⟨277,[(.slice (some 2) [(.agg [(wN 1),(wN 1)]),(.agg [(wN 1),(wN 1)])] false),(.agg [(wI [0,1] false),(wI [1,0] false),(wI [1,0] false)])],(.tuple [(wI [2,3,1,0] false),(wN 0)]),false⟩
theorem wCz35:YOk T 244 Alb:=Bb (k:=183) (n:=60) (l:=[A1q,Art]) (List.forall_mem_cons.2 ⟨wCz28.mono (by decide),List.forall_mem_cons.2 ⟨wCz34.mono (by decide),(fun _ h=>by cases h)⟩⟩) (by kernel_rfl)
def Aqh:AnsY:=⟨397,[(.slice (some 2) [(.agg [(wN 3),(wN 4)]),(.agg [(wN 5),(wN 2)]),(.agg [(wN 4),(wN 6)])] false),(.agg [(wI [0,1,2] false),(wI [2,0,1] false),(wI [0,0,1] false)])],(wN 0),false⟩
theorem wCz36:YOk T 122 Aqh:=Bb (k:=61) (n:=60) (l:=[Sx]) (List.forall_mem_cons.2 ⟨wCz4.mono (by decide),(fun _ h=>by cases h)⟩) (by kernel_rfl)
def Are:AnsY:=⟨348,[(.slice (some 2) [(.agg [(wN 3),(wN 4)]),(.agg [(wN 5),(wN 2)]),(.agg [(wN 4),(wN 6)])] false),(.agg [(wI [0,1,2] false),(wI [2,0,1] false),(wI [0,0,1] false)])],(.tuple [(.ptr [(wI [0,1,2] false),(wI [2,0,1] false),(wI [0,0,1] false),(.fmap [(.agg [(wN 0)]),(.agg [(wN 2)]),(.agg [(wN 5)]),(.agg [(wN 1)]),(.agg [(wN 3)]),(.agg [(wN 4)])] [(wN 3),(wN 8),(wN 6),(wN 10),(wN 12),(wN 12)])] 0),(wN 0)]),false⟩
theorem wCz37:YOk T 183 Are:=Bb (k:=122) (n:=60) (l:=[Aqh]) (List.forall_mem_cons.2 ⟨wCz36.mono (by decide),(fun _ h=>by cases h)⟩) (by kernel_rfl)
def Ajy:AnsY:=⟨277,[(.slice (some 2) [(.agg [(wN 3),(wN 4)]),(.agg [(wN 5),(wN 2)]),(.agg [(wN 4),(wN 6)])] false),(.agg [(wI [0,1,2] false),(wI [2,0,1] false),(wI [0,0,1] false)])],(.tuple [(wI [] false),(wN 5)]),false⟩
theorem wCz38:YOk T 244 Ajy:=Bb (k:=183) (n:=60) (l:=[Are]) (List.forall_mem_cons.2 ⟨wCz37.mono (by decide),(fun _ h=>by cases h)⟩) (by kernel_rfl)
def Ail:AnsY:=⟨268,[(.slice (some 2) [(.agg [(wN 3),(wN 4)]),(.agg [(wN 5),(wN 2)]),(.agg [(wN 4),(wN 6)])] false),(wN 3),(wN 0)],(.tuple [(wN 0),(wN 2)]),false⟩
theorem wCz39:YOk T 122 Ail:=Bb (k:=61) (n:=60) (l:=[Sx]) (List.forall_mem_cons.2 ⟨wCz4.mono (by decide),(fun _ h=>by cases h)⟩) (by kernel_rfl)
def Ase:AnsY:=⟨355,[(.slice (some 2) [(.agg [(wN 3),(wN 4)]),(.agg [(wN 5),(wN 2)]),(.agg [(wN 4),(wN 6)])] false),(.slice (some 2) [(.agg [(wN 0),(wN 6)]),(.agg [(wN 3),(wN 10)]),(.agg [(wN 8),(wN 0)])] false)],(wN 12),false⟩
theorem wCz40:YOk T 61 Ase:=Bb (k:=0) (n:=60) (l:=[]) ((fun _ h=>by cases h)) (by kernel_rfl)
def Akb:AnsY:=⟨278,[(.slice (some 2) [(.agg [(wN 3),(wN 4)]),(.agg [(wN 5),(wN 2)]),(.agg [(wN 4),(wN 6)])] false),(.slice (some 2) [(.agg [(wN 0),(wN 6)]),(.agg [(wN 3),(wN 10)]),(.agg [(wN 8),(wN 0)])] false)],(.tuple [(wN 12),(wN 0)]),false⟩
theorem wCz41:YOk T 122 Akb:=Bb (k:=61) (n:=60) (l:=[Ase]) (List.forall_mem_cons.2 ⟨wCz40.mono (by decide),(fun _ h=>by cases h)⟩) (by kernel_rfl)
def Asv:AnsY:=⟨279,[(.slice (some 2) [(.agg [(wN 0),(wN 6)]),(.agg [(wN 3),(wN 10)]),(.agg [(wN 8),(wN 0)])] false),(.slice (some 2) [(.agg [(wN 0),(wN 6)]),(.agg [(wN 3),(wN 10)]),(.agg [(wN 8),(wN 0)])] false)],(.bool true),false⟩
theorem wCz42:YOk T 61 Asv:=Bb (k:=0) (n:=60) (l:=[]) ((fun _ h=>by cases h)) (by kernel_rfl)
def Anx:AnsY:=⟨280,[(.slice (some 2) [(.agg [(wN 1),(wN 1)]),(.agg [(wN 1),(wN 1)])] false),(.agg [(wI [0,1] false),(wI [1,0] false),(wI [1,0] false)]),(wI [2,3,1,0] false)],(wN 0),false⟩
theorem wCz43:YOk T 61 Anx:=Bb (k:=0) (n:=60) (l:=[]) ((fun _ h=>by cases h)) (by kernel_rfl)
def B5o:AnsY:=⟨198,[],(.bool true),false⟩
theorem B3g:YOk T 2122 B5o:=Bb (k:=2061) (n:=60) (l:=[Azs,B0w,B1m,B1o,B1v,B0v,Aev,Ajw,Atq,Akh,Aqk,Anm,Amv,Ama,Aji,A1y,Ajj,Asa,Aqg,Aof,Aod,Aqv,Alb,Ajy,Ail,Akb,Asv,Anx]) (List.forall_mem_cons.2 ⟨wCz0.mono (by decide),List.forall_mem_cons.2 ⟨wCz1.mono (by decide),List.forall_mem_cons.2 ⟨wCz2.mono (by decide),List.forall_mem_cons.2 ⟨wCz3.mono (by decide),List.forall_mem_cons.2 ⟨wCz6.mono (by decide),List.forall_mem_cons.2 ⟨wCz9.mono (by decide),List.forall_mem_cons.2 ⟨wCz8.mono (by decide),List.forall_mem_cons.2 ⟨wCz10.mono (by decide),List.forall_mem_cons.2 ⟨wCz12.mono (by decide),List.forall_mem_cons.2 ⟨wCz13.mono (by decide),List.forall_mem_cons.2 ⟨wCz15.mono (by decide),List.forall_mem_cons.2 ⟨wCz16.mono (by decide),List.forall_mem_cons.2 ⟨wCz18.mono (by decide),List.forall_mem_cons.2 ⟨wCz21.mono (by decide),List.forall_mem_cons.2 ⟨wCz22.mono (by decide),List.forall_mem_cons.2 ⟨wCz20.mono (by decide),List.forall_mem_cons.2 ⟨wCz23.mono (by decide),List.forall_mem_cons.2 ⟨wCz26.mono (by decide),List.forall_mem_cons.2 ⟨wCz27.mono (by decide),List.forall_mem_cons.2 ⟨wCz30.mono (by decide),List.forall_mem_cons.2 ⟨wCz31.mono (by decide),List.forall_mem_cons.2 ⟨wCz33.mono (by decide),List.forall_mem_cons.2 ⟨wCz35.mono (by decide),List.forall_mem_cons.2 ⟨wCz38.mono (by decide),List.forall_mem_cons.2 ⟨wCz39.mono (by decide),List.forall_mem_cons.2 ⟨wCz41.mono (by decide),List.forall_mem_cons.2 ⟨wCz42.mono (by decide),List.forall_mem_cons.2 ⟨wCz43.mono (by decide),(fun _ h=>by cases h)⟩⟩⟩⟩⟩⟩⟩⟩⟩⟩⟩⟩⟩⟩⟩⟩⟩⟩⟩⟩⟩⟩⟩⟩⟩⟩⟩⟩) (by kernel_rfl)
theorem wCworks:YOk T 2122 ⟨198,[],.bool true,false⟩:=B3g
end Go.Ev.YtgehhippjhealaaGreatC
