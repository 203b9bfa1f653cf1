/- The works of a layer's examples, each call reckoned by the kernel, and joined. No condition but those that stand in each. -/
import Derived.Test.YtgehhippjhealaaGreatBTopW
import Derived.Test.YtgehhippjhealaaGreatBTopShx
set_option linter.unusedSimpArgs false
set_option linter.unusedVariables false
set_option maxRecDepth 100000
namespace Go.Ev.YtgehhippjhealaaGreatC
open Go Go.Proofs
def B1b:AnsY:=⟨252,[(wN 3)],(.agg [(wN 3),(wI [1,2,3,4,1,2,5,1,2,3,4,5] false)]),false⟩
theorem wBz0:YOk T 61 B1b:=Bb (k:=0) (n:=60) (l:=[]) ((fun _ h=>by cases h)) (by kernel_rfl)
def B3a:AnsY:=⟨252,[(wN 4)],(.agg [(wN 4),(wI [1,2,3,4,1,2,5,1,2,3,4,5] false)]),false⟩
theorem wBz1:YOk T 61 B3a:=Bb (k:=0) (n:=60) (l:=[]) ((fun _ h=>by cases h)) (by kernel_rfl)
def Ahs:AnsY:=⟨110,[(wI [1] false),(.clo 383 [] [(.ptr [(wN 1)] 0),(.ptr [(wN 3)] 0)])],(.bool false),false⟩
theorem wBz3:YOk T 61 Ahs:=Bb (k:=0) (n:=60) (l:=[]) ((fun _ h=>by cases h)) (by kernel_rfl)
def B2n:AnsY:=⟨322,[(.agg [(wN 3),(wI [1,2,3,4,1,2,5,1,2,3,4,5] false)]),(wN 1)],(.tuple [(.ptr [(wN 3),(wI [1,2,3,4,1,2,5,1,2,3,4,5] false),(wN 0),(wN 0),(wN 0),(wN 0),(wN 0),(wN 0),(wN 0),(wN 0),(wN 0),(.fmap [(.agg [(wN 0),(wN 4)]),(.agg [(wN 1),(wN 5)]),(.agg [(wN 4),(wN 7)]),(.agg [(wN 5),(wN 8)]),(.agg [(wN 2),(wN 9)]),(.agg [(wN 3),(wN 10)]),(.agg [(wN 6),(wN 11)])] [(wN 1),(wN 2),(wN 1),(wN 2),(wN 3),(wN 4),(wN 5)])] 0),(wN 0)]),false⟩
theorem wBz4:YOk T 2061 B2n:=Bb (k:=2000) (n:=60) (l:=[Mv,Ahs]) (List.forall_mem_cons.2 ⟨wBz2.mono (by decide),List.forall_mem_cons.2 ⟨wBz3.mono (by decide),(fun _ h=>by cases h)⟩⟩) (by kernel_rfl)
def Azh:AnsY:=⟨323,[(.ptr [(wN 3),(wI [1,2,3,4,1,2,5,1,2,3,4,5] false),(wN 0),(wN 0),(wN 0),(wN 0),(wN 0),(wN 0),(wN 0),(wN 0),(wN 0),(.fmap [(.agg [(wN 0),(wN 4)]),(.agg [(wN 1),(wN 5)]),(.agg [(wN 4),(wN 7)]),(.agg [(wN 5),(wN 8)]),(.agg [(wN 2),(wN 9)]),(.agg [(wN 3),(wN 10)]),(.agg [(wN 6),(wN 11)])] [(wN 1),(wN 2),(wN 1),(wN 2),(wN 3),(wN 4),(wN 5)])] 0),(wN 1)],(.tuple [(wI [0,0,0,1,2,3,4,0,0,1,2,0] false),(wI [0,1,2,3,4,5,6,9,10] false)]),false⟩
theorem wBz5:YOk T 61 Azh:=Bb (k:=0) (n:=60) (l:=[]) ((fun _ h=>by cases h)) (by kernel_rfl)
def B0i:AnsY:=⟨253,[(.agg [(wN 3),(wI [1,2,3,4,1,2,5,1,2,3,4,5] false)]),(wN 1)],(.tuple [(wI [0,1,2,3,4,5,6,9,10] false),(wN 0)]),false⟩
theorem wBz6:YOk T 2122 B0i:=Bb (k:=2061) (n:=60) (l:=[B2n,Azh]) (List.forall_mem_cons.2 ⟨wBz4.mono (by decide),List.forall_mem_cons.2 ⟨wBz5.mono (by decide),(fun _ h=>by cases h)⟩⟩) (by kernel_rfl)
def Azz:AnsY:=⟨110,[(wI [2] false),(.clo 383 [] [(.ptr [(wN 1)] 0),(.ptr [(wN 3)] 0)])],(.bool false),false⟩
theorem wBz7:YOk T 61 Azz:=Bb (k:=0) (n:=60) (l:=[]) ((fun _ h=>by cases h)) (by kernel_rfl)
def B3b:AnsY:=⟨322,[(.agg [(wN 3),(wI [1,2,3,4,1,2,5,1,2,3,4,5] false)]),(wN 2)],(.tuple [(.ptr [(wN 3),(wI [1,2,3,4,1,2,5,1,2,3,4,5] false),(wN 0),(wN 0),(wN 0),(wN 0),(wN 0),(wN 0),(wN 0),(wN 0),(wN 0),(.fmap [(.agg [(wN 0),(wN 4)]),(.agg [(wN 1),(wN 5)]),(.agg [(wN 4),(wN 7)]),(.agg [(wN 5),(wN 8)]),(.agg [(wN 2),(wN 9)]),(.agg [(wN 3),(wN 10)]),(.agg [(wN 6),(wN 11)])] [(wN 1),(wN 2),(wN 1),(wN 2),(wN 3),(wN 4),(wN 5)])] 0),(wN 0)]),false⟩
theorem wBz8:YOk T 2061 B3b:=Bb (k:=2000) (n:=60) (l:=[Mv,Azz]) (List.forall_mem_cons.2 ⟨wBz2.mono (by decide),List.forall_mem_cons.2 ⟨wBz7.mono (by decide),(fun _ h=>by cases h)⟩⟩) (by kernel_rfl)
def B0o:AnsY:=⟨323,[(.ptr [(wN 3),(wI [1,2,3,4,1,2,5,1,2,3,4,5] false),(wN 0),(wN 0),(wN 0),(wN 0),(wN 0),(wN 0),(wN 0),(wN 0),(wN 0),(.fmap [(.agg [(wN 0),(wN 4)]),(.agg [(wN 1),(wN 5)]),(.agg [(wN 4),(wN 7)]),(.agg [(wN 5),(wN 8)]),(.agg [(wN 2),(wN 9)]),(.agg [(wN 3),(wN 10)]),(.agg [(wN 6),(wN 11)])] [(wN 1),(wN 2),(wN 1),(wN 2),(wN 3),(wN 4),(wN 5)])] 0),(wN 2)],(.tuple [(wI [0,0,0,1,2,3,4,0,0,5,1,2] false),(wI [0,1,2,3,4,5,6,9,10,11] false)]),false⟩
theorem wBz9:YOk T 61 B0o:=Bb (k:=0) (n:=60) (l:=[]) ((fun _ h=>by cases h)) (by kernel_rfl)
def Ard:AnsY:=⟨253,[(.agg [(wN 3),(wI [1,2,3,4,1,2,5,1,2,3,4,5] false)]),(wN 2)],(.tuple [(wI [0,1,2,3,4,5,6,9,10,11] false),(wN 0)]),false⟩
theorem wBz10:YOk T 2122 Ard:=Bb (k:=2061) (n:=60) (l:=[B3b,B0o]) (List.forall_mem_cons.2 ⟨wBz8.mono (by decide),List.forall_mem_cons.2 ⟨wBz9.mono (by decide),(fun _ h=>by cases h)⟩⟩) (by kernel_rfl)
def A9y:AnsY:=⟨110,[(wI [3] false),(.clo 383 [] [(.ptr [(wN 1)] 0),(.ptr [(wN 3)] 0)])],(.bool false),false⟩
theorem wBz11:YOk T 61 A9y:=Bb (k:=0) (n:=60) (l:=[]) ((fun _ h=>by cases h)) (by kernel_rfl)
def A9g:AnsY:=⟨322,[(.agg [(wN 3),(wI [1,2,3,4,1,2,5,1,2,3,4,5] false)]),(wN 3)],(.tuple [(.ptr [(wN 3),(wI [1,2,3,4,1,2,5,1,2,3,4,5] false),(wN 0),(wN 0),(wN 0),(wN 0),(wN 0),(wN 0),(wN 0),(wN 0),(wN 0),(.fmap [(.agg [(wN 0),(wN 4)]),(.agg [(wN 1),(wN 5)]),(.agg [(wN 4),(wN 7)]),(.agg [(wN 5),(wN 8)]),(.agg [(wN 2),(wN 9)]),(.agg [(wN 3),(wN 10)]),(.agg [(wN 6),(wN 11)])] [(wN 1),(wN 2),(wN 1),(wN 2),(wN 3),(wN 4),(wN 5)])] 0),(wN 0)]),false⟩
theorem wBz12:YOk T 2061 A9g:=Bb (k:=2000) (n:=60) (l:=[Mv,A9y]) (List.forall_mem_cons.2 ⟨wBz2.mono (by decide),List.forall_mem_cons.2 ⟨wBz11.mono (by decide),(fun _ h=>by cases h)⟩⟩) (by kernel_rfl)
def Akk:AnsY:=⟨378,[(wN 2),(wN 1),(.ptr [(.clo 375 [(.ptr [(wN 3),(wI [1,2,3,4,1,2,5,1,2,3,4,5] false),(wN 0),(wN 0),(wN 0),(wN 0),(wN 0),(wN 0),(wN 0),(wN 0),(wN 0),(.fmap [(.agg [(wN 0),(wN 4)]),(.agg [(wN 1),(wN 5)]),(.agg [(wN 4),(wN 7)]),(.agg [(wN 5),(wN 8)]),(.agg [(wN 2),(wN 9)]),(.agg [(wN 3),(wN 10)]),(.agg [(wN 6),(wN 11)])] [(wN 1),(wN 2),(wN 1),(wN 2),(wN 3),(wN 4),(wN 5)])] 0)] [])] 0),(.ptr [(wN 3)] 0)],(.bool true),false⟩
theorem wBz13:YOk T 61 Akk:=Bb (k:=0) (n:=60) (l:=[]) ((fun _ h=>by cases h)) (by kernel_rfl)
def Ald:AnsY:=⟨378,[(wN 3),(wN 2),(.ptr [(.clo 375 [(.ptr [(wN 3),(wI [1,2,3,4,1,2,5,1,2,3,4,5] false),(wN 0),(wN 0),(wN 0),(wN 0),(wN 0),(wN 0),(wN 0),(wN 0),(wN 0),(.fmap [(.agg [(wN 0),(wN 4)]),(.agg [(wN 1),(wN 5)]),(.agg [(wN 4),(wN 7)]),(.agg [(wN 5),(wN 8)]),(.agg [(wN 2),(wN 9)]),(.agg [(wN 3),(wN 10)]),(.agg [(wN 6),(wN 11)])] [(wN 1),(wN 2),(wN 1),(wN 2),(wN 3),(wN 4),(wN 5)])] 0)] [])] 0),(.ptr [(wN 3)] 0)],(.bool true),false⟩
theorem wBz14:YOk T 61 Ald:=Bb (k:=0) (n:=60) (l:=[]) ((fun _ h=>by cases h)) (by kernel_rfl)
def Arv:AnsY:=⟨377,[(wI [1,2,3] false),(.clo 378 [] [(.ptr [(.clo 375 [(.ptr [(wN 3),(wI [1,2,3,4,1,2,5,1,2,3,4,5] false),(wN 0),(wN 0),(wN 0),(wN 0),(wN 0),(wN 0),(wN 0),(wN 0),(wN 0),(.fmap [(.agg [(wN 0),(wN 4)]),(.agg [(wN 1),(wN 5)]),(.agg [(wN 4),(wN 7)]),(.agg [(wN 5),(wN 8)]),(.agg [(wN 2),(wN 9)]),(.agg [(wN 3),(wN 10)]),(.agg [(wN 6),(wN 11)])] [(wN 1),(wN 2),(wN 1),(wN 2),(wN 3),(wN 4),(wN 5)])] 0)] [])] 0),(.ptr [(wN 3)] 0)])],(wN 3),false⟩
theorem wBz15:YOk T 122 Arv:=Bb (k:=61) (n:=60) (l:=[Akk,Ald]) (List.forall_mem_cons.2 ⟨wBz13.mono (by decide),List.forall_mem_cons.2 ⟨wBz14.mono (by decide),(fun _ h=>by cases h)⟩⟩) (by kernel_rfl)
def Aub:AnsY:=⟨176,[(wI [1,2,3] false),(.clo 380 [] [(.ptr [(wN 3)] 0)])],(wN 2),false⟩
theorem wBz16:YOk T 61 Aub:=Bb (k:=0) (n:=60) (l:=[]) ((fun _ h=>by cases h)) (by kernel_rfl)
def Ary:AnsY:=⟨378,[(wN 2),(wN 1),(.ptr [(.clo 375 [(.ptr [(wN 3),(wI [1,2,3,4,1,2,5,1,2,3,4,5] false),(wN 0),(wN 0),(wN 0),(wN 0),(wN 0),(wN 0),(wN 0),(wN 0),(wN 0),(.fmap [(.agg [(wN 0),(wN 4)]),(.agg [(wN 1),(wN 5)]),(.agg [(wN 4),(wN 7)]),(.agg [(wN 5),(wN 8)]),(.agg [(wN 2),(wN 9)]),(.agg [(wN 3),(wN 10)]),(.agg [(wN 6),(wN 11)])] [(wN 1),(wN 2),(wN 1),(wN 2),(wN 3),(wN 4),(wN 5)])] 0)] [])] 0),(.ptr [(wN 6)] 0)],(.bool true),false⟩
theorem wBz17:YOk T 61 Ary:=Bb (k:=0) (n:=60) (l:=[]) ((fun _ h=>by cases h)) (by kernel_rfl)
def Atd:AnsY:=⟨378,[(wN 4),(wN 2),(.ptr [(.clo 375 [(.ptr [(wN 3),(wI [1,2,3,4,1,2,5,1,2,3,4,5] false),(wN 0),(wN 0),(wN 0),(wN 0),(wN 0),(wN 0),(wN 0),(wN 0),(wN 0),(.fmap [(.agg [(wN 0),(wN 4)]),(.agg [(wN 1),(wN 5)]),(.agg [(wN 4),(wN 7)]),(.agg [(wN 5),(wN 8)]),(.agg [(wN 2),(wN 9)]),(.agg [(wN 3),(wN 10)]),(.agg [(wN 6),(wN 11)])] [(wN 1),(wN 2),(wN 1),(wN 2),(wN 3),(wN 4),(wN 5)])] 0)] [])] 0),(.ptr [(wN 6)] 0)],(.bool true),false⟩
theorem wBz18:YOk T 61 Atd:=Bb (k:=0) (n:=60) (l:=[]) ((fun _ h=>by cases h)) (by kernel_rfl)
def Atl:AnsY:=⟨377,[(wI [1,2,4] false),(.clo 378 [] [(.ptr [(.clo 375 [(.ptr [(wN 3),(wI [1,2,3,4,1,2,5,1,2,3,4,5] false),(wN 0),(wN 0),(wN 0),(wN 0),(wN 0),(wN 0),(wN 0),(wN 0),(wN 0),(.fmap [(.agg [(wN 0),(wN 4)]),(.agg [(wN 1),(wN 5)]),(.agg [(wN 4),(wN 7)]),(.agg [(wN 5),(wN 8)]),(.agg [(wN 2),(wN 9)]),(.agg [(wN 3),(wN 10)]),(.agg [(wN 6),(wN 11)])] [(wN 1),(wN 2),(wN 1),(wN 2),(wN 3),(wN 4),(wN 5)])] 0)] [])] 0),(.ptr [(wN 6)] 0)])],(wN 4),false⟩
theorem wBz19:YOk T 122 Atl:=Bb (k:=61) (n:=60) (l:=[Ary,Atd]) (List.forall_mem_cons.2 ⟨wBz17.mono (by decide),List.forall_mem_cons.2 ⟨wBz18.mono (by decide),(fun _ h=>by cases h)⟩⟩) (by kernel_rfl)
def Amo:AnsY:=⟨176,[(wI [1,2,4] false),(.clo 380 [] [(.ptr [(wN 4)] 0)])],(wN 2),false⟩
theorem wBz20:YOk T 61 Amo:=Bb (k:=0) (n:=60) (l:=[]) ((fun _ h=>by cases h)) (by kernel_rfl)
def Akx:AnsY:=⟨378,[(wN 2),(wN 1),(.ptr [(.clo 375 [(.ptr [(wN 3),(wI [1,2,3,4,1,2,5,1,2,3,4,5] false),(wN 0),(wN 0),(wN 0),(wN 0),(wN 0),(wN 0),(wN 0),(wN 0),(wN 0),(.fmap [(.agg [(wN 0),(wN 4)]),(.agg [(wN 1),(wN 5)]),(.agg [(wN 4),(wN 7)]),(.agg [(wN 5),(wN 8)]),(.agg [(wN 2),(wN 9)]),(.agg [(wN 3),(wN 10)]),(.agg [(wN 6),(wN 11)])] [(wN 1),(wN 2),(wN 1),(wN 2),(wN 3),(wN 4),(wN 5)])] 0)] [])] 0),(.ptr [(wN 9)] 0)],(.bool false),false⟩
theorem wBz21:YOk T 61 Akx:=Bb (k:=0) (n:=60) (l:=[]) ((fun _ h=>by cases h)) (by kernel_rfl)
def Anc:AnsY:=⟨378,[(wN 5),(wN 1),(.ptr [(.clo 375 [(.ptr [(wN 3),(wI [1,2,3,4,1,2,5,1,2,3,4,5] false),(wN 0),(wN 0),(wN 0),(wN 0),(wN 0),(wN 0),(wN 0),(wN 0),(wN 0),(.fmap [(.agg [(wN 0),(wN 4)]),(.agg [(wN 1),(wN 5)]),(.agg [(wN 4),(wN 7)]),(.agg [(wN 5),(wN 8)]),(.agg [(wN 2),(wN 9)]),(.agg [(wN 3),(wN 10)]),(.agg [(wN 6),(wN 11)])] [(wN 1),(wN 2),(wN 1),(wN 2),(wN 3),(wN 4),(wN 5)])] 0)] [])] 0),(.ptr [(wN 9)] 0)],(.bool false),false⟩
theorem wBz22:YOk T 61 Anc:=Bb (k:=0) (n:=60) (l:=[]) ((fun _ h=>by cases h)) (by kernel_rfl)
def Asy:AnsY:=⟨377,[(wI [1,2,5] false),(.clo 378 [] [(.ptr [(.clo 375 [(.ptr [(wN 3),(wI [1,2,3,4,1,2,5,1,2,3,4,5] false),(wN 0),(wN 0),(wN 0),(wN 0),(wN 0),(wN 0),(wN 0),(wN 0),(wN 0),(.fmap [(.agg [(wN 0),(wN 4)]),(.agg [(wN 1),(wN 5)]),(.agg [(wN 4),(wN 7)]),(.agg [(wN 5),(wN 8)]),(.agg [(wN 2),(wN 9)]),(.agg [(wN 3),(wN 10)]),(.agg [(wN 6),(wN 11)])] [(wN 1),(wN 2),(wN 1),(wN 2),(wN 3),(wN 4),(wN 5)])] 0)] [])] 0),(.ptr [(wN 9)] 0)])],(wN 1),false⟩
theorem wBz23:YOk T 122 Asy:=Bb (k:=61) (n:=60) (l:=[Akx,Anc]) (List.forall_mem_cons.2 ⟨wBz21.mono (by decide),List.forall_mem_cons.2 ⟨wBz22.mono (by decide),(fun _ h=>by cases h)⟩⟩) (by kernel_rfl)
def Aiw:AnsY:=⟨378,[(wN 3),(wN 2),(.ptr [(.clo 375 [(.ptr [(wN 3),(wI [1,2,3,4,1,2,5,1,2,3,4,5] false),(wN 0),(wN 0),(wN 0),(wN 0),(wN 0),(wN 0),(wN 0),(wN 0),(wN 0),(.fmap [(.agg [(wN 0),(wN 4)]),(.agg [(wN 1),(wN 5)]),(.agg [(wN 4),(wN 7)]),(.agg [(wN 5),(wN 8)]),(.agg [(wN 2),(wN 9)]),(.agg [(wN 3),(wN 10)]),(.agg [(wN 6),(wN 11)])] [(wN 1),(wN 2),(wN 1),(wN 2),(wN 3),(wN 4),(wN 5)])] 0)] [])] 0),(.ptr [(wN 10)] 0)],(.bool false),false⟩
theorem wBz24:YOk T 61 Aiw:=Bb (k:=0) (n:=60) (l:=[]) ((fun _ h=>by cases h)) (by kernel_rfl)
def Apq:AnsY:=⟨378,[(wN 5),(wN 2),(.ptr [(.clo 375 [(.ptr [(wN 3),(wI [1,2,3,4,1,2,5,1,2,3,4,5] false),(wN 0),(wN 0),(wN 0),(wN 0),(wN 0),(wN 0),(wN 0),(wN 0),(wN 0),(.fmap [(.agg [(wN 0),(wN 4)]),(.agg [(wN 1),(wN 5)]),(.agg [(wN 4),(wN 7)]),(.agg [(wN 5),(wN 8)]),(.agg [(wN 2),(wN 9)]),(.agg [(wN 3),(wN 10)]),(.agg [(wN 6),(wN 11)])] [(wN 1),(wN 2),(wN 1),(wN 2),(wN 3),(wN 4),(wN 5)])] 0)] [])] 0),(.ptr [(wN 10)] 0)],(.bool false),false⟩
theorem wBz25:YOk T 61 Apq:=Bb (k:=0) (n:=60) (l:=[]) ((fun _ h=>by cases h)) (by kernel_rfl)
def Amg:AnsY:=⟨377,[(wI [2,3,5] false),(.clo 378 [] [(.ptr [(.clo 375 [(.ptr [(wN 3),(wI [1,2,3,4,1,2,5,1,2,3,4,5] false),(wN 0),(wN 0),(wN 0),(wN 0),(wN 0),(wN 0),(wN 0),(wN 0),(wN 0),(.fmap [(.agg [(wN 0),(wN 4)]),(.agg [(wN 1),(wN 5)]),(.agg [(wN 4),(wN 7)]),(.agg [(wN 5),(wN 8)]),(.agg [(wN 2),(wN 9)]),(.agg [(wN 3),(wN 10)]),(.agg [(wN 6),(wN 11)])] [(wN 1),(wN 2),(wN 1),(wN 2),(wN 3),(wN 4),(wN 5)])] 0)] [])] 0),(.ptr [(wN 10)] 0)])],(wN 2),false⟩
theorem wBz26:YOk T 122 Amg:=Bb (k:=61) (n:=60) (l:=[Aiw,Apq]) (List.forall_mem_cons.2 ⟨wBz24.mono (by decide),List.forall_mem_cons.2 ⟨wBz25.mono (by decide),(fun _ h=>by cases h)⟩⟩) (by kernel_rfl)
def A9q:AnsY:=⟨323,[(.ptr [(wN 3),(wI [1,2,3,4,1,2,5,1,2,3,4,5] false),(wN 0),(wN 0),(wN 0),(wN 0),(wN 0),(wN 0),(wN 0),(wN 0),(wN 0),(.fmap [(.agg [(wN 0),(wN 4)]),(.agg [(wN 1),(wN 5)]),(.agg [(wN 4),(wN 7)]),(.agg [(wN 5),(wN 8)]),(.agg [(wN 2),(wN 9)]),(.agg [(wN 3),(wN 10)]),(.agg [(wN 6),(wN 11)])] [(wN 1),(wN 2),(wN 1),(wN 2),(wN 3),(wN 4),(wN 5)])] 0),(wN 3)],(.tuple [(wI [0,0,0,3,0,0,4,0,0,1,2,0] false),(wI [0,1,2,3,6,9,10] false)]),false⟩
theorem wBz27:YOk T 183 A9q:=Bb (k:=122) (n:=60) (l:=[Arv,Aub,Atl,Amo,Asy,Amg]) (List.forall_mem_cons.2 ⟨wBz15.mono (by decide),List.forall_mem_cons.2 ⟨wBz16.mono (by decide),List.forall_mem_cons.2 ⟨wBz19.mono (by decide),List.forall_mem_cons.2 ⟨wBz20.mono (by decide),List.forall_mem_cons.2 ⟨wBz23.mono (by decide),List.forall_mem_cons.2 ⟨wBz26.mono (by decide),(fun _ h=>by cases h)⟩⟩⟩⟩⟩⟩) (by kernel_rfl)
def Aqz:AnsY:=⟨254,[(.agg [(wN 3),(wI [1,2,3,4,1,2,5,1,2,3,4,5] false)]),(wN 3)],(.tuple [(wI [0,0,0,3,0,0,4,0,0,1,2,0] false),(wN 0)]),false⟩
theorem wBz28:YOk T 2122 Aqz:=Bb (k:=2061) (n:=60) (l:=[A9g,A9q]) (List.forall_mem_cons.2 ⟨wBz12.mono (by decide),List.forall_mem_cons.2 ⟨wBz27.mono (by decide),(fun _ h=>by cases h)⟩⟩) (by kernel_rfl)
def Arl:AnsY:=⟨110,[(wI [4] false),(.clo 383 [] [(.ptr [(wN 1)] 0),(.ptr [(wN 3)] 0)])],(.bool true),false⟩
theorem wBz29:YOk T 61 Arl:=Bb (k:=0) (n:=60) (l:=[]) ((fun _ h=>by cases h)) (by kernel_rfl)
def Aoe:AnsY:=⟨322,[(.agg [(wN 3),(wI [1,2,3,4,1,2,5,1,2,3,4,5] false)]),(wN 4)],(.tuple [.nilptr,(wN 2)]),false⟩
theorem wBz30:YOk T 2061 Aoe:=Bb (k:=2000) (n:=60) (l:=[Mv,Arl]) (List.forall_mem_cons.2 ⟨wBz2.mono (by decide),List.forall_mem_cons.2 ⟨wBz29.mono (by decide),(fun _ h=>by cases h)⟩⟩) (by kernel_rfl)
def Akc:AnsY:=⟨253,[(.agg [(wN 3),(wI [1,2,3,4,1,2,5,1,2,3,4,5] false)]),(wN 4)],(.tuple [(wI [] false),(wN 2)]),false⟩
theorem wBz31:YOk T 2122 Akc:=Bb (k:=2061) (n:=60) (l:=[Aoe]) (List.forall_mem_cons.2 ⟨wBz30.mono (by decide),(fun _ h=>by cases h)⟩) (by kernel_rfl)
def Apv:AnsY:=⟨322,[(.agg [(wN 4),(wI [1,2,3,4,1,2,5,1,2,3,4,5] false)]),(wN 1)],(.tuple [(.ptr [(wN 4),(wI [1,2,3,4,1,2,5,1,2,3,4,5] false),(wN 0),(wN 0),(wN 0),(wN 0),(wN 0),(wN 0),(wN 0),(wN 0),(wN 0),(.fmap [(.agg [(wN 0),(wN 4)]),(.agg [(wN 1),(wN 5)]),(.agg [(wN 4),(wN 7)]),(.agg [(wN 5),(wN 8)]),(.agg [(wN 2),(wN 9)]),(.agg [(wN 3),(wN 10)]),(.agg [(wN 6),(wN 11)])] [(wN 1),(wN 2),(wN 1),(wN 2),(wN 3),(wN 4),(wN 5)])] 0),(wN 0)]),false⟩
theorem wBz33:YOk T 2061 Apv:=Bb (k:=2000) (n:=60) (l:=[A1v,Ahs]) (List.forall_mem_cons.2 ⟨wBz32.mono (by decide),List.forall_mem_cons.2 ⟨wBz3.mono (by decide),(fun _ h=>by cases h)⟩⟩) (by kernel_rfl)
def Ass:AnsY:=⟨323,[(.ptr [(wN 4),(wI [1,2,3,4,1,2,5,1,2,3,4,5] false),(wN 0),(wN 0),(wN 0),(wN 0),(wN 0),(wN 0),(wN 0),(wN 0),(wN 0),(.fmap [(.agg [(wN 0),(wN 4)]),(.agg [(wN 1),(wN 5)]),(.agg [(wN 4),(wN 7)]),(.agg [(wN 5),(wN 8)]),(.agg [(wN 2),(wN 9)]),(.agg [(wN 3),(wN 10)]),(.agg [(wN 6),(wN 11)])] [(wN 1),(wN 2),(wN 1),(wN 2),(wN 3),(wN 4),(wN 5)])] 0),(wN 1)],(.tuple [(wI [0,0,0,0,0,0,1,2,3,4,5,1] false),(wI [0,1,2,3,6,7,8,9,10,11] false)]),false⟩
theorem wBz34:YOk T 61 Ass:=Bb (k:=0) (n:=60) (l:=[]) ((fun _ h=>by cases h)) (by kernel_rfl)
def Apd:AnsY:=⟨253,[(.agg [(wN 4),(wI [1,2,3,4,1,2,5,1,2,3,4,5] false)]),(wN 1)],(.tuple [(wI [0,1,2,3,6,7,8,9,10,11] false),(wN 0)]),false⟩
theorem wBz35:YOk T 2122 Apd:=Bb (k:=2061) (n:=60) (l:=[Apv,Ass]) (List.forall_mem_cons.2 ⟨wBz33.mono (by decide),List.forall_mem_cons.2 ⟨wBz34.mono (by decide),(fun _ h=>by cases h)⟩⟩) (by kernel_rfl)
def Aqe:AnsY:=⟨253,[(.agg [(wN 3),(wI [1,2,3,4,1,2,5,1,2,3,4,5] false)]),(wN 3)],(.tuple [(wI [0,1,2,3,6,9,10] false),(wN 0)]),false⟩
theorem wBz36:YOk T 2122 Aqe:=Bb (k:=2061) (n:=60) (l:=[A9g,A9q]) (List.forall_mem_cons.2 ⟨wBz12.mono (by decide),List.forall_mem_cons.2 ⟨wBz27.mono (by decide),(fun _ h=>by cases h)⟩⟩) (by kernel_rfl)
def Aou:AnsY:=⟨255,[(.agg [(wN 3),(wI [1,2,3,4,1,2,5,1,2,3,4,5] false)])],(.tuple [(wN 7),(wN 0)]),false⟩
theorem wBz37:YOk T 2183 Aou:=Bb (k:=2122) (n:=60) (l:=[Aqe]) (List.forall_mem_cons.2 ⟨wBz36.mono (by decide),(fun _ h=>by cases h)⟩) (by kernel_rfl)
def Akf:AnsY:=⟨322,[(.agg [(wN 4),(wI [1,2,3,4,1,2,5,1,2,3,4,5] false)]),(wN 3)],(.tuple [(.ptr [(wN 4),(wI [1,2,3,4,1,2,5,1,2,3,4,5] false),(wN 0),(wN 0),(wN 0),(wN 0),(wN 0),(wN 0),(wN 0),(wN 0),(wN 0),(.fmap [(.agg [(wN 0),(wN 4)]),(.agg [(wN 1),(wN 5)]),(.agg [(wN 4),(wN 7)]),(.agg [(wN 5),(wN 8)]),(.agg [(wN 2),(wN 9)]),(.agg [(wN 3),(wN 10)]),(.agg [(wN 6),(wN 11)])] [(wN 1),(wN 2),(wN 1),(wN 2),(wN 3),(wN 4),(wN 5)])] 0),(wN 0)]),false⟩
theorem wBz38:YOk T 2061 Akf:=Bb (k:=2000) (n:=60) (l:=[A1v,A9y]) (List.forall_mem_cons.2 ⟨wBz32.mono (by decide),List.forall_mem_cons.2 ⟨wBz11.mono (by decide),(fun _ h=>by cases h)⟩⟩) (by kernel_rfl)
def Apc:AnsY:=⟨378,[(wN 2),(wN 1),(.ptr [(.clo 375 [(.ptr [(wN 4),(wI [1,2,3,4,1,2,5,1,2,3,4,5] false),(wN 0),(wN 0),(wN 0),(wN 0),(wN 0),(wN 0),(wN 0),(wN 0),(wN 0),(.fmap [(.agg [(wN 0),(wN 4)]),(.agg [(wN 1),(wN 5)]),(.agg [(wN 4),(wN 7)]),(.agg [(wN 5),(wN 8)]),(.agg [(wN 2),(wN 9)]),(.agg [(wN 3),(wN 10)]),(.agg [(wN 6),(wN 11)])] [(wN 1),(wN 2),(wN 1),(wN 2),(wN 3),(wN 4),(wN 5)])] 0)] [])] 0),(.ptr [(wN 6)] 0)],(.bool true),false⟩
theorem wBz39:YOk T 61 Apc:=Bb (k:=0) (n:=60) (l:=[]) ((fun _ h=>by cases h)) (by kernel_rfl)
def Asp:AnsY:=⟨378,[(wN 3),(wN 2),(.ptr [(.clo 375 [(.ptr [(wN 4),(wI [1,2,3,4,1,2,5,1,2,3,4,5] false),(wN 0),(wN 0),(wN 0),(wN 0),(wN 0),(wN 0),(wN 0),(wN 0),(wN 0),(.fmap [(.agg [(wN 0),(wN 4)]),(.agg [(wN 1),(wN 5)]),(.agg [(wN 4),(wN 7)]),(.agg [(wN 5),(wN 8)]),(.agg [(wN 2),(wN 9)]),(.agg [(wN 3),(wN 10)]),(.agg [(wN 6),(wN 11)])] [(wN 1),(wN 2),(wN 1),(wN 2),(wN 3),(wN 4),(wN 5)])] 0)] [])] 0),(.ptr [(wN 6)] 0)],(.bool true),false⟩
theorem wBz40:YOk T 61 Asp:=Bb (k:=0) (n:=60) (l:=[]) ((fun _ h=>by cases h)) (by kernel_rfl)
def Arm:AnsY:=⟨378,[(wN 4),(wN 3),(.ptr [(.clo 375 [(.ptr [(wN 4),(wI [1,2,3,4,1,2,5,1,2,3,4,5] false),(wN 0),(wN 0),(wN 0),(wN 0),(wN 0),(wN 0),(wN 0),(wN 0),(wN 0),(.fmap [(.agg [(wN 0),(wN 4)]),(.agg [(wN 1),(wN 5)]),(.agg [(wN 4),(wN 7)]),(.agg [(wN 5),(wN 8)]),(.agg [(wN 2),(wN 9)]),(.agg [(wN 3),(wN 10)]),(.agg [(wN 6),(wN 11)])] [(wN 1),(wN 2),(wN 1),(wN 2),(wN 3),(wN 4),(wN 5)])] 0)] [])] 0),(.ptr [(wN 6)] 0)],(.bool true),false⟩
theorem wBz41:YOk T 61 Arm:=Bb (k:=0) (n:=60) (l:=[]) ((fun _ h=>by cases h)) (by kernel_rfl)
def Aol:AnsY:=⟨377,[(wI [1,2,3,4] false),(.clo 378 [] [(.ptr [(.clo 375 [(.ptr [(wN 4),(wI [1,2,3,4,1,2,5,1,2,3,4,5] false),(wN 0),(wN 0),(wN 0),(wN 0),(wN 0),(wN 0),(wN 0),(wN 0),(wN 0),(.fmap [(.agg [(wN 0),(wN 4)]),(.agg [(wN 1),(wN 5)]),(.agg [(wN 4),(wN 7)]),(.agg [(wN 5),(wN 8)]),(.agg [(wN 2),(wN 9)]),(.agg [(wN 3),(wN 10)]),(.agg [(wN 6),(wN 11)])] [(wN 1),(wN 2),(wN 1),(wN 2),(wN 3),(wN 4),(wN 5)])] 0)] [])] 0),(.ptr [(wN 6)] 0)])],(wN 4),false⟩
theorem wBz42:YOk T 122 Aol:=Bb (k:=61) (n:=60) (l:=[Apc,Asp,Arm]) (List.forall_mem_cons.2 ⟨wBz39.mono (by decide),List.forall_mem_cons.2 ⟨wBz40.mono (by decide),List.forall_mem_cons.2 ⟨wBz41.mono (by decide),(fun _ h=>by cases h)⟩⟩⟩) (by kernel_rfl)
def Atu:AnsY:=⟨176,[(wI [1,2,3,4] false),(.clo 380 [] [(.ptr [(wN 4)] 0)])],(wN 3),false⟩
theorem wBz43:YOk T 61 Atu:=Bb (k:=0) (n:=60) (l:=[]) ((fun _ h=>by cases h)) (by kernel_rfl)
def Aot:AnsY:=⟨378,[(wN 2),(wN 1),(.ptr [(.clo 375 [(.ptr [(wN 4),(wI [1,2,3,4,1,2,5,1,2,3,4,5] false),(wN 0),(wN 0),(wN 0),(wN 0),(wN 0),(wN 0),(wN 0),(wN 0),(wN 0),(.fmap [(.agg [(wN 0),(wN 4)]),(.agg [(wN 1),(wN 5)]),(.agg [(wN 4),(wN 7)]),(.agg [(wN 5),(wN 8)]),(.agg [(wN 2),(wN 9)]),(.agg [(wN 3),(wN 10)]),(.agg [(wN 6),(wN 11)])] [(wN 1),(wN 2),(wN 1),(wN 2),(wN 3),(wN 4),(wN 5)])] 0)] [])] 0),(.ptr [(wN 10)] 0)],(.bool false),false⟩
theorem wBz44:YOk T 61 Aot:=Bb (k:=0) (n:=60) (l:=[]) ((fun _ h=>by cases h)) (by kernel_rfl)
def Aiq:AnsY:=⟨378,[(wN 3),(wN 1),(.ptr [(.clo 375 [(.ptr [(wN 4),(wI [1,2,3,4,1,2,5,1,2,3,4,5] false),(wN 0),(wN 0),(wN 0),(wN 0),(wN 0),(wN 0),(wN 0),(wN 0),(wN 0),(.fmap [(.agg [(wN 0),(wN 4)]),(.agg [(wN 1),(wN 5)]),(.agg [(wN 4),(wN 7)]),(.agg [(wN 5),(wN 8)]),(.agg [(wN 2),(wN 9)]),(.agg [(wN 3),(wN 10)]),(.agg [(wN 6),(wN 11)])] [(wN 1),(wN 2),(wN 1),(wN 2),(wN 3),(wN 4),(wN 5)])] 0)] [])] 0),(.ptr [(wN 10)] 0)],(.bool false),false⟩
theorem wBz45:YOk T 61 Aiq:=Bb (k:=0) (n:=60) (l:=[]) ((fun _ h=>by cases h)) (by kernel_rfl)
def Aqa:AnsY:=⟨378,[(wN 5),(wN 1),(.ptr [(.clo 375 [(.ptr [(wN 4),(wI [1,2,3,4,1,2,5,1,2,3,4,5] false),(wN 0),(wN 0),(wN 0),(wN 0),(wN 0),(wN 0),(wN 0),(wN 0),(wN 0),(.fmap [(.agg [(wN 0),(wN 4)]),(.agg [(wN 1),(wN 5)]),(.agg [(wN 4),(wN 7)]),(.agg [(wN 5),(wN 8)]),(.agg [(wN 2),(wN 9)]),(.agg [(wN 3),(wN 10)]),(.agg [(wN 6),(wN 11)])] [(wN 1),(wN 2),(wN 1),(wN 2),(wN 3),(wN 4),(wN 5)])] 0)] [])] 0),(.ptr [(wN 10)] 0)],(.bool false),false⟩
theorem wBz46:YOk T 61 Aqa:=Bb (k:=0) (n:=60) (l:=[]) ((fun _ h=>by cases h)) (by kernel_rfl)
def Aok:AnsY:=⟨377,[(wI [1,2,3,5] false),(.clo 378 [] [(.ptr [(.clo 375 [(.ptr [(wN 4),(wI [1,2,3,4,1,2,5,1,2,3,4,5] false),(wN 0),(wN 0),(wN 0),(wN 0),(wN 0),(wN 0),(wN 0),(wN 0),(wN 0),(.fmap [(.agg [(wN 0),(wN 4)]),(.agg [(wN 1),(wN 5)]),(.agg [(wN 4),(wN 7)]),(.agg [(wN 5),(wN 8)]),(.agg [(wN 2),(wN 9)]),(.agg [(wN 3),(wN 10)]),(.agg [(wN 6),(wN 11)])] [(wN 1),(wN 2),(wN 1),(wN 2),(wN 3),(wN 4),(wN 5)])] 0)] [])] 0),(.ptr [(wN 10)] 0)])],(wN 1),false⟩
theorem wBz47:YOk T 122 Aok:=Bb (k:=61) (n:=60) (l:=[Aot,Aiq,Aqa]) (List.forall_mem_cons.2 ⟨wBz44.mono (by decide),List.forall_mem_cons.2 ⟨wBz45.mono (by decide),List.forall_mem_cons.2 ⟨wBz46.mono (by decide),(fun _ h=>by cases h)⟩⟩⟩) (by kernel_rfl)
def Arn:AnsY:=⟨323,[(.ptr [(wN 4),(wI [1,2,3,4,1,2,5,1,2,3,4,5] false),(wN 0),(wN 0),(wN 0),(wN 0),(wN 0),(wN 0),(wN 0),(wN 0),(wN 0),(.fmap [(.agg [(wN 0),(wN 4)]),(.agg [(wN 1),(wN 5)]),(.agg [(wN 4),(wN 7)]),(.agg [(wN 5),(wN 8)]),(.agg [(wN 2),(wN 9)]),(.agg [(wN 3),(wN 10)]),(.agg [(wN 6),(wN 11)])] [(wN 1),(wN 2),(wN 1),(wN 2),(wN 3),(wN 4),(wN 5)])] 0),(wN 3)],(.tuple [(wI [0,0,0,0,0,0,4,0,0,0,1,0] false),(wI [0,1,2,3,6,10] false)]),false⟩
theorem wBz48:YOk T 183 Arn:=Bb (k:=122) (n:=60) (l:=[Aol,Atu,Aok]) (List.forall_mem_cons.2 ⟨wBz42.mono (by decide),List.forall_mem_cons.2 ⟨wBz43.mono (by decide),List.forall_mem_cons.2 ⟨wBz47.mono (by decide),(fun _ h=>by cases h)⟩⟩⟩) (by kernel_rfl)
def Ais:AnsY:=⟨253,[(.agg [(wN 4),(wI [1,2,3,4,1,2,5,1,2,3,4,5] false)]),(wN 3)],(.tuple [(wI [0,1,2,3,6,10] false),(wN 0)]),false⟩
theorem wBz49:YOk T 2122 Ais:=Bb (k:=2061) (n:=60) (l:=[Akf,Arn]) (List.forall_mem_cons.2 ⟨wBz38.mono (by decide),List.forall_mem_cons.2 ⟨wBz48.mono (by decide),(fun _ h=>by cases h)⟩⟩) (by kernel_rfl)
def Aoy:AnsY:=⟨255,[(.agg [(wN 4),(wI [1,2,3,4,1,2,5,1,2,3,4,5] false)])],(.tuple [(wN 6),(wN 0)]),false⟩
theorem wBz50:YOk T 2183 Aoy:=Bb (k:=2122) (n:=60) (l:=[Ais]) (List.forall_mem_cons.2 ⟨wBz49.mono (by decide),(fun _ h=>by cases h)⟩) (by kernel_rfl)
def Atz:AnsY:=⟨257,[(wI [0,0,0,3,0,0,4,0,0,2,1,0] false)],(wI [0,0,0,3,0,0,4,0,0,2,1,0] false),false⟩
theorem wBz51:YOk T 61 Atz:=Bb (k:=0) (n:=60) (l:=[]) ((fun _ h=>by cases h)) (by kernel_rfl)
def Ank:AnsY:=⟨257,[(wI [0,0,0,5,0,0,4,0,0,1,2,0] false)],(wI [0,0,0,5,0,0,4,0,0,1,2,0] false),false⟩
theorem wBz53:YOk T 61 Ank:=Bb (k:=0) (n:=60) (l:=[]) ((fun _ h=>by cases h)) (by kernel_rfl)
def Apb:AnsY:=⟨257,[(wI [0,0,0,3,1,0,4,0,0,1,2,0] false)],(wI [0,0,0,3,1,0,4,0,0,1,2,0] false),false⟩
theorem wBz55:YOk T 61 Apb:=Bb (k:=0) (n:=60) (l:=[]) ((fun _ h=>by cases h)) (by kernel_rfl)
def Aml:AnsY:=⟨257,[(wI [6] false)],(wI [6] false),false⟩
theorem wBz57:YOk T 61 Aml:=Bb (k:=0) (n:=60) (l:=[]) ((fun _ h=>by cases h)) (by kernel_rfl)
def A8h:AnsY:=⟨110,[(wI [6] false),(.clo 383 [] [(.ptr [(wN 0)] 0),(.ptr [(wN 11)] 0)])],(.bool false),false⟩
theorem wBz58:YOk T 61 A8h:=Bb (k:=0) (n:=60) (l:=[]) ((fun _ h=>by cases h)) (by kernel_rfl)
def Anj:AnsY:=⟨110,[(wI [6] false),(.clo 385 [] [(.ptr [(wN 0),(wN 4)] 0)])],(.bool false),false⟩
theorem wBz59:YOk T 61 Anj:=Bb (k:=0) (n:=60) (l:=[]) ((fun _ h=>by cases h)) (by kernel_rfl)
def Akz:AnsY:=⟨110,[(wI [6] false),(.clo 385 [] [(.ptr [(wN 1),(wN 5)] 0)])],(.bool false),false⟩
theorem wBz60:YOk T 61 Akz:=Bb (k:=0) (n:=60) (l:=[]) ((fun _ h=>by cases h)) (by kernel_rfl)
def Arh:AnsY:=⟨110,[(wI [6] false),(.clo 385 [] [(.ptr [(wN 4),(wN 7)] 0)])],(.bool true),false⟩
theorem wBz61:YOk T 61 Arh:=Bb (k:=0) (n:=60) (l:=[]) ((fun _ h=>by cases h)) (by kernel_rfl)
def Alr:AnsY:=⟨110,[(wI [6] false),(.clo 385 [] [(.ptr [(wN 5),(wN 8)] 0)])],(.bool true),false⟩
theorem wBz62:YOk T 61 Alr:=Bb (k:=0) (n:=60) (l:=[]) ((fun _ h=>by cases h)) (by kernel_rfl)
def Akd:AnsY:=⟨110,[(wI [6] false),(.clo 385 [] [(.ptr [(wN 2),(wN 9)] 0)])],(.bool true),false⟩
theorem wBz63:YOk T 61 Akd:=Bb (k:=0) (n:=60) (l:=[]) ((fun _ h=>by cases h)) (by kernel_rfl)
def Alj:AnsY:=⟨110,[(wI [6] false),(.clo 385 [] [(.ptr [(wN 3),(wN 10)] 0)])],(.bool true),false⟩
theorem wBz64:YOk T 61 Alj:=Bb (k:=0) (n:=60) (l:=[]) ((fun _ h=>by cases h)) (by kernel_rfl)
def All:AnsY:=⟨110,[(wI [6] false),(.clo 385 [] [(.ptr [(wN 6),(wN 11)] 0)])],(.bool false),false⟩
theorem wBz65:YOk T 61 All:=Bb (k:=0) (n:=60) (l:=[]) ((fun _ h=>by cases h)) (by kernel_rfl)
def Aua:AnsY:=⟨330,[(.ptr [(wN 3),(wI [1,2,3,4,1,2,5,1,2,3,4,5] false),(wN 0),(wN 0),(wN 0),(wN 0),(wN 0),(wN 0),(wN 0),(wN 0),(wN 0),(.fmap [(.agg [(wN 0),(wN 4)]),(.agg [(wN 1),(wN 5)]),(.agg [(wN 4),(wN 7)]),(.agg [(wN 5),(wN 8)]),(.agg [(wN 2),(wN 9)]),(.agg [(wN 3),(wN 10)]),(.agg [(wN 6),(wN 11)])] [(wN 1),(wN 2),(wN 1),(wN 2),(wN 3),(wN 4),(wN 5)])] 0),(wI [6] false)],(wN 7),false⟩
theorem wBz66:YOk T 122 Aua:=Bb (k:=61) (n:=60) (l:=[Anj,Akz,Arh,Alr,Akd,Alj,All]) (List.forall_mem_cons.2 ⟨wBz59.mono (by decide),List.forall_mem_cons.2 ⟨wBz60.mono (by decide),List.forall_mem_cons.2 ⟨wBz61.mono (by decide),List.forall_mem_cons.2 ⟨wBz62.mono (by decide),List.forall_mem_cons.2 ⟨wBz63.mono (by decide),List.forall_mem_cons.2 ⟨wBz64.mono (by decide),List.forall_mem_cons.2 ⟨wBz65.mono (by decide),(fun _ h=>by cases h)⟩⟩⟩⟩⟩⟩⟩) (by kernel_rfl)
def Apa:AnsY:=⟨258,[(.agg [(wN 3),(wI [1,2,3,4,1,2,5,1,2,3,4,5] false)]),(wI [6] false)],(.tuple [(wN 7),(wN 0)]),false⟩
theorem wBz67:YOk T 2061 Apa:=Bb (k:=2000) (n:=60) (l:=[Mv,A8h,Aua]) (List.forall_mem_cons.2 ⟨wBz2.mono (by decide),List.forall_mem_cons.2 ⟨wBz58.mono (by decide),List.forall_mem_cons.2 ⟨wBz66.mono (by decide),(fun _ h=>by cases h)⟩⟩⟩) (by kernel_rfl)
def Aoo:AnsY:=⟨257,[(wI [6,6] false)],(wI [6,6] false),false⟩
theorem wBz68:YOk T 61 Aoo:=Bb (k:=0) (n:=60) (l:=[]) ((fun _ h=>by cases h)) (by kernel_rfl)
def Anf:AnsY:=⟨110,[(wI [6] false),(.clo 383 [] [(.ptr [(wN 7)] 0),(.ptr [(wN 11)] 0)])],(.bool true),false⟩
theorem wBz69:YOk T 61 Anf:=Bb (k:=0) (n:=60) (l:=[]) ((fun _ h=>by cases h)) (by kernel_rfl)
def Asg:AnsY:=⟨258,[(.agg [(wN 3),(wI [1,2,3,4,1,2,5,1,2,3,4,5] false)]),(wI [6,6] false)],(.tuple [(wN 0),(wN 3)]),false⟩
theorem wBz70:YOk T 2061 Asg:=Bb (k:=2000) (n:=60) (l:=[Mv,A8h,Anf]) (List.forall_mem_cons.2 ⟨wBz2.mono (by decide),List.forall_mem_cons.2 ⟨wBz58.mono (by decide),List.forall_mem_cons.2 ⟨wBz69.mono (by decide),(fun _ h=>by cases h)⟩⟩⟩) (by kernel_rfl)
def Asq:AnsY:=⟨259,[(.agg [(wN 3),(wI [1,2,3,4,1,2,5,1,2,3,4,5] false)])],(.tuple [(wI [6] false),(wN 0)]),false⟩
theorem wBz72:YOk T 2061 Asq:=Bb (k:=2000) (n:=60) (l:=[Mv,Aai]) (List.forall_mem_cons.2 ⟨wBz2.mono (by decide),List.forall_mem_cons.2 ⟨wBz71.mono (by decide),(fun _ h=>by cases h)⟩⟩) (by kernel_rfl)
def Arz:AnsY:=⟨110,[(wI [4] false),(.clo 383 [] [(.ptr [(wN 0)] 0),(.ptr [(wN 11)] 0)])],(.bool false),false⟩
theorem wBz73:YOk T 61 Arz:=Bb (k:=0) (n:=60) (l:=[]) ((fun _ h=>by cases h)) (by kernel_rfl)
def Ajq:AnsY:=⟨260,[(.agg [(wN 3),(wI [1,2,3,4,1,2,5,1,2,3,4,5] false)]),(wN 4)],(.tuple [(wN 0),(wN 0)]),false⟩
theorem wBz75:YOk T 2061 Ajq:=Bb (k:=2000) (n:=60) (l:=[Mv,Arz,Aax]) (List.forall_mem_cons.2 ⟨wBz2.mono (by decide),List.forall_mem_cons.2 ⟨wBz73.mono (by decide),List.forall_mem_cons.2 ⟨wBz74.mono (by decide),(fun _ h=>by cases h)⟩⟩⟩) (by kernel_rfl)
def Atc:AnsY:=⟨333,[(.ptr [(wN 3),(wI [1,2,3,4,1,2,5,1,2,3,4,5] false),(wN 0),(wN 0),(wN 0),(wN 0),(wN 0),(wN 0),(wN 0),(wN 0),(wN 0),(.fmap [(.agg [(wN 0),(wN 4)]),(.agg [(wN 1),(wN 5)]),(.agg [(wN 4),(wN 7)]),(.agg [(wN 5),(wN 8)]),(.agg [(wN 2),(wN 9)]),(.agg [(wN 3),(wN 10)]),(.agg [(wN 6),(wN 11)])] [(wN 1),(wN 2),(wN 1),(wN 2),(wN 3),(wN 4),(wN 5)])] 0),(wN 0)],(wN 0),false⟩
theorem wBz76:YOk T 61 Atc:=Bb (k:=0) (n:=60) (l:=[]) ((fun _ h=>by cases h)) (by kernel_rfl)
def Apm:AnsY:=⟨333,[(.ptr [(wN 3),(wI [1,2,3,4,1,2,5,1,2,3,4,5] false),(wN 0),(wN 0),(wN 0),(wN 0),(wN 0),(wN 0),(wN 0),(wN 0),(wN 0),(.fmap [(.agg [(wN 0),(wN 4)]),(.agg [(wN 1),(wN 5)]),(.agg [(wN 4),(wN 7)]),(.agg [(wN 5),(wN 8)]),(.agg [(wN 2),(wN 9)]),(.agg [(wN 3),(wN 10)]),(.agg [(wN 6),(wN 11)])] [(wN 1),(wN 2),(wN 1),(wN 2),(wN 3),(wN 4),(wN 5)])] 0),(wN 1)],(wN 0),false⟩
theorem wBz77:YOk T 61 Apm:=Bb (k:=0) (n:=60) (l:=[]) ((fun _ h=>by cases h)) (by kernel_rfl)
def Alo:AnsY:=⟨333,[(.ptr [(wN 3),(wI [1,2,3,4,1,2,5,1,2,3,4,5] false),(wN 0),(wN 0),(wN 0),(wN 0),(wN 0),(wN 0),(wN 0),(wN 0),(wN 0),(.fmap [(.agg [(wN 0),(wN 4)]),(.agg [(wN 1),(wN 5)]),(.agg [(wN 4),(wN 7)]),(.agg [(wN 5),(wN 8)]),(.agg [(wN 2),(wN 9)]),(.agg [(wN 3),(wN 10)]),(.agg [(wN 6),(wN 11)])] [(wN 1),(wN 2),(wN 1),(wN 2),(wN 3),(wN 4),(wN 5)])] 0),(wN 2)],(wN 0),false⟩
theorem wBz78:YOk T 61 Alo:=Bb (k:=0) (n:=60) (l:=[]) ((fun _ h=>by cases h)) (by kernel_rfl)
def Aro:AnsY:=⟨333,[(.ptr [(wN 3),(wI [1,2,3,4,1,2,5,1,2,3,4,5] false),(wN 0),(wN 0),(wN 0),(wN 0),(wN 0),(wN 0),(wN 0),(wN 0),(wN 0),(.fmap [(.agg [(wN 0),(wN 4)]),(.agg [(wN 1),(wN 5)]),(.agg [(wN 4),(wN 7)]),(.agg [(wN 5),(wN 8)]),(.agg [(wN 2),(wN 9)]),(.agg [(wN 3),(wN 10)]),(.agg [(wN 6),(wN 11)])] [(wN 1),(wN 2),(wN 1),(wN 2),(wN 3),(wN 4),(wN 5)])] 0),(wN 3)],(wN 0),false⟩
theorem wBz79:YOk T 61 Aro:=Bb (k:=0) (n:=60) (l:=[]) ((fun _ h=>by cases h)) (by kernel_rfl)
def Anv:AnsY:=⟨333,[(.ptr [(wN 3),(wI [1,2,3,4,1,2,5,1,2,3,4,5] false),(wN 0),(wN 0),(wN 0),(wN 0),(wN 0),(wN 0),(wN 0),(wN 0),(wN 0),(.fmap [(.agg [(wN 0),(wN 4)]),(.agg [(wN 1),(wN 5)]),(.agg [(wN 4),(wN 7)]),(.agg [(wN 5),(wN 8)]),(.agg [(wN 2),(wN 9)]),(.agg [(wN 3),(wN 10)]),(.agg [(wN 6),(wN 11)])] [(wN 1),(wN 2),(wN 1),(wN 2),(wN 3),(wN 4),(wN 5)])] 0),(wN 4)],(wN 4),false⟩
theorem wBz80:YOk T 61 Anv:=Bb (k:=0) (n:=60) (l:=[]) ((fun _ h=>by cases h)) (by kernel_rfl)
def Aku:AnsY:=⟨333,[(.ptr [(wN 3),(wI [1,2,3,4,1,2,5,1,2,3,4,5] false),(wN 0),(wN 0),(wN 0),(wN 0),(wN 0),(wN 0),(wN 0),(wN 0),(wN 0),(.fmap [(.agg [(wN 0),(wN 4)]),(.agg [(wN 1),(wN 5)]),(.agg [(wN 4),(wN 7)]),(.agg [(wN 5),(wN 8)]),(.agg [(wN 2),(wN 9)]),(.agg [(wN 3),(wN 10)]),(.agg [(wN 6),(wN 11)])] [(wN 1),(wN 2),(wN 1),(wN 2),(wN 3),(wN 4),(wN 5)])] 0),(wN 5)],(wN 4),false⟩
theorem wBz81:YOk T 61 Aku:=Bb (k:=0) (n:=60) (l:=[]) ((fun _ h=>by cases h)) (by kernel_rfl)
def Aqu:AnsY:=⟨333,[(.ptr [(wN 3),(wI [1,2,3,4,1,2,5,1,2,3,4,5] false),(wN 0),(wN 0),(wN 0),(wN 0),(wN 0),(wN 0),(wN 0),(wN 0),(wN 0),(.fmap [(.agg [(wN 0),(wN 4)]),(.agg [(wN 1),(wN 5)]),(.agg [(wN 4),(wN 7)]),(.agg [(wN 5),(wN 8)]),(.agg [(wN 2),(wN 9)]),(.agg [(wN 3),(wN 10)]),(.agg [(wN 6),(wN 11)])] [(wN 1),(wN 2),(wN 1),(wN 2),(wN 3),(wN 4),(wN 5)])] 0),(wN 6)],(wN 0),false⟩
theorem wBz82:YOk T 61 Aqu:=Bb (k:=0) (n:=60) (l:=[]) ((fun _ h=>by cases h)) (by kernel_rfl)
def Amt:AnsY:=⟨333,[(.ptr [(wN 3),(wI [1,2,3,4,1,2,5,1,2,3,4,5] false),(wN 0),(wN 0),(wN 0),(wN 0),(wN 0),(wN 0),(wN 0),(wN 0),(wN 0),(.fmap [(.agg [(wN 0),(wN 4)]),(.agg [(wN 1),(wN 5)]),(.agg [(wN 4),(wN 7)]),(.agg [(wN 5),(wN 8)]),(.agg [(wN 2),(wN 9)]),(.agg [(wN 3),(wN 10)]),(.agg [(wN 6),(wN 11)])] [(wN 1),(wN 2),(wN 1),(wN 2),(wN 3),(wN 4),(wN 5)])] 0),(wN 7)],(wN 3),false⟩
theorem wBz83:YOk T 61 Amt:=Bb (k:=0) (n:=60) (l:=[]) ((fun _ h=>by cases h)) (by kernel_rfl)
def Amy:AnsY:=⟨333,[(.ptr [(wN 3),(wI [1,2,3,4,1,2,5,1,2,3,4,5] false),(wN 0),(wN 0),(wN 0),(wN 0),(wN 0),(wN 0),(wN 0),(wN 0),(wN 0),(.fmap [(.agg [(wN 0),(wN 4)]),(.agg [(wN 1),(wN 5)]),(.agg [(wN 4),(wN 7)]),(.agg [(wN 5),(wN 8)]),(.agg [(wN 2),(wN 9)]),(.agg [(wN 3),(wN 10)]),(.agg [(wN 6),(wN 11)])] [(wN 1),(wN 2),(wN 1),(wN 2),(wN 3),(wN 4),(wN 5)])] 0),(wN 8)],(wN 3),false⟩
theorem wBz84:YOk T 61 Amy:=Bb (k:=0) (n:=60) (l:=[]) ((fun _ h=>by cases h)) (by kernel_rfl)
def Akn:AnsY:=⟨333,[(.ptr [(wN 3),(wI [1,2,3,4,1,2,5,1,2,3,4,5] false),(wN 0),(wN 0),(wN 0),(wN 0),(wN 0),(wN 0),(wN 0),(wN 0),(wN 0),(.fmap [(.agg [(wN 0),(wN 4)]),(.agg [(wN 1),(wN 5)]),(.agg [(wN 4),(wN 7)]),(.agg [(wN 5),(wN 8)]),(.agg [(wN 2),(wN 9)]),(.agg [(wN 3),(wN 10)]),(.agg [(wN 6),(wN 11)])] [(wN 1),(wN 2),(wN 1),(wN 2),(wN 3),(wN 4),(wN 5)])] 0),(wN 9)],(wN 5),false⟩
theorem wBz85:YOk T 61 Akn:=Bb (k:=0) (n:=60) (l:=[]) ((fun _ h=>by cases h)) (by kernel_rfl)
def App:AnsY:=⟨333,[(.ptr [(wN 3),(wI [1,2,3,4,1,2,5,1,2,3,4,5] false),(wN 0),(wN 0),(wN 0),(wN 0),(wN 0),(wN 0),(wN 0),(wN 0),(wN 0),(.fmap [(.agg [(wN 0),(wN 4)]),(.agg [(wN 1),(wN 5)]),(.agg [(wN 4),(wN 7)]),(.agg [(wN 5),(wN 8)]),(.agg [(wN 2),(wN 9)]),(.agg [(wN 3),(wN 10)]),(.agg [(wN 6),(wN 11)])] [(wN 1),(wN 2),(wN 1),(wN 2),(wN 3),(wN 4),(wN 5)])] 0),(wN 10)],(wN 5),false⟩
theorem wBz86:YOk T 61 App:=Bb (k:=0) (n:=60) (l:=[]) ((fun _ h=>by cases h)) (by kernel_rfl)
def Asl:AnsY:=⟨333,[(.ptr [(wN 3),(wI [1,2,3,4,1,2,5,1,2,3,4,5] false),(wN 0),(wN 0),(wN 0),(wN 0),(wN 0),(wN 0),(wN 0),(wN 0),(wN 0),(.fmap [(.agg [(wN 0),(wN 4)]),(.agg [(wN 1),(wN 5)]),(.agg [(wN 4),(wN 7)]),(.agg [(wN 5),(wN 8)]),(.agg [(wN 2),(wN 9)]),(.agg [(wN 3),(wN 10)]),(.agg [(wN 6),(wN 11)])] [(wN 1),(wN 2),(wN 1),(wN 2),(wN 3),(wN 4),(wN 5)])] 0),(wN 11)],(wN 5),false⟩
theorem wBz87:YOk T 61 Asl:=Bb (k:=0) (n:=60) (l:=[]) ((fun _ h=>by cases h)) (by kernel_rfl)
def Alh:AnsY:=⟨261,[(.agg [(wN 3),(wI [1,2,3,4,1,2,5,1,2,3,4,5] false)])],(.tuple [(wI [0,0,0,0,4,4,0,3,3,5,5,5] false),(wN 0)]),false⟩
theorem wBz88:YOk T 2061 Alh:=Bb (k:=2000) (n:=60) (l:=[Mv,Atc,Apm,Alo,Aro,Anv,Aku,Aqu,Amt,Amy,Akn,App,Asl]) (List.forall_mem_cons.2 ⟨wBz2.mono (by decide),List.forall_mem_cons.2 ⟨wBz76.mono (by decide),List.forall_mem_cons.2 ⟨wBz77.mono (by decide),List.forall_mem_cons.2 ⟨wBz78.mono (by decide),List.forall_mem_cons.2 ⟨wBz79.mono (by decide),List.forall_mem_cons.2 ⟨wBz80.mono (by decide),List.forall_mem_cons.2 ⟨wBz81.mono (by decide),List.forall_mem_cons.2 ⟨wBz82.mono (by decide),List.forall_mem_cons.2 ⟨wBz83.mono (by decide),List.forall_mem_cons.2 ⟨wBz84.mono (by decide),List.forall_mem_cons.2 ⟨wBz85.mono (by decide),List.forall_mem_cons.2 ⟨wBz86.mono (by decide),List.forall_mem_cons.2 ⟨wBz87.mono (by decide),(fun _ h=>by cases h)⟩⟩⟩⟩⟩⟩⟩⟩⟩⟩⟩⟩⟩) (by kernel_rfl)
def Amn:AnsY:=⟨262,[(.agg [(wN 3),(wI [1,2,3,4,1,2,5,1,2,3,4,5] false)]),(wI [6] false)],(.tuple [(wN 7),(wN 0)]),false⟩
theorem wBz89:YOk T 61 Amn:=Bb (k:=0) (n:=60) (l:=[]) ((fun _ h=>by cases h)) (by kernel_rfl)
def Anh:AnsY:=⟨257,[(wI [0,1,2,3,4,5,6,9,10] false)],(wI [0,1,2,3,4,5,6,9,10] false),false⟩
theorem wBz90:YOk T 61 Anh:=Bb (k:=0) (n:=60) (l:=[]) ((fun _ h=>by cases h)) (by kernel_rfl)
def Asw:AnsY:=⟨263,[(wI [0,1,2,3,4,5,6,9,10] false),(wI [0,1,2,3,4,5,6,9,10] false)],(.bool true),false⟩
theorem wBz91:YOk T 61 Asw:=Bb (k:=0) (n:=60) (l:=[]) ((fun _ h=>by cases h)) (by kernel_rfl)
def Ala:AnsY:=⟨257,[(wI [0,1,2,3,4,5,6,9,10,11] false)],(wI [0,1,2,3,4,5,6,9,10,11] false),false⟩
theorem wBz92:YOk T 61 Ala:=Bb (k:=0) (n:=60) (l:=[]) ((fun _ h=>by cases h)) (by kernel_rfl)
def Aqf:AnsY:=⟨263,[(wI [0,1,2,3,4,5,6,9,10,11] false),(wI [0,1,2,3,4,5,6,9,10,11] false)],(.bool true),false⟩
theorem wBz93:YOk T 61 Aqf:=Bb (k:=0) (n:=60) (l:=[]) ((fun _ h=>by cases h)) (by kernel_rfl)
def Atv:AnsY:=⟨257,[(wI [0,0,0,3,0,0,4,0,0,1,2,0] false)],(wI [0,0,0,3,0,0,4,0,0,1,2,0] false),false⟩
theorem wBz94:YOk T 61 Atv:=Bb (k:=0) (n:=60) (l:=[]) ((fun _ h=>by cases h)) (by kernel_rfl)
def Aqt:AnsY:=⟨263,[(wI [0,0,0,3,0,0,4,0,0,1,2,0] false),(wI [0,0,0,3,0,0,4,0,0,1,2,0] false)],(.bool true),false⟩
theorem wBz95:YOk T 61 Aqt:=Bb (k:=0) (n:=60) (l:=[]) ((fun _ h=>by cases h)) (by kernel_rfl)
def Ajn:AnsY:=⟨257,[(wI [0,0,0,0,4,4,0,3,3,5,5,5] false)],(wI [0,0,0,0,4,4,0,3,3,5,5,5] false),false⟩
theorem wBz96:YOk T 61 Ajn:=Bb (k:=0) (n:=60) (l:=[]) ((fun _ h=>by cases h)) (by kernel_rfl)
def Akv:AnsY:=⟨263,[(wI [0,0,0,0,4,4,0,3,3,5,5,5] false),(wI [0,0,0,0,4,4,0,3,3,5,5,5] false)],(.bool true),false⟩
theorem wBz97:YOk T 61 Akv:=Bb (k:=0) (n:=60) (l:=[]) ((fun _ h=>by cases h)) (by kernel_rfl)
def B5y:AnsY:=⟨197,[],(.bool true),false⟩
theorem B4m:YOk T 2244 B5y:=Bb (k:=2183) (n:=60) (l:=[B1b,B3a,B0i,Ard,Aqz,Akc,Apd,Aou,Aoy,Atz,Abh,Ank,Abj,Apb,A8n,Aml,Apa,Aoo,Asg,Asq,Ajq,Alh,Amn,Anh,Asw,Ala,Aqf,Atv,Aqt,Ajn,Akv]) (List.forall_mem_cons.2 ⟨wBz0.mono (by decide),List.forall_mem_cons.2 ⟨wBz1.mono (by decide),List.forall_mem_cons.2 ⟨wBz6.mono (by decide),List.forall_mem_cons.2 ⟨wBz10.mono (by decide),List.forall_mem_cons.2 ⟨wBz28.mono (by decide),List.forall_mem_cons.2 ⟨wBz31.mono (by decide),List.forall_mem_cons.2 ⟨wBz35.mono (by decide),List.forall_mem_cons.2 ⟨wBz37.mono (by decide),List.forall_mem_cons.2 ⟨wBz50.mono (by decide),List.forall_mem_cons.2 ⟨wBz51.mono (by decide),List.forall_mem_cons.2 ⟨wBz52.mono (by decide),List.forall_mem_cons.2 ⟨wBz53.mono (by decide),List.forall_mem_cons.2 ⟨wBz54.mono (by decide),List.forall_mem_cons.2 ⟨wBz55.mono (by decide),List.forall_mem_cons.2 ⟨wBz56.mono (by decide),List.forall_mem_cons.2 ⟨wBz57.mono (by decide),List.forall_mem_cons.2 ⟨wBz67.mono (by decide),List.forall_mem_cons.2 ⟨wBz68.mono (by decide),List.forall_mem_cons.2 ⟨wBz70.mono (by decide),List.forall_mem_cons.2 ⟨wBz72.mono (by decide),List.forall_mem_cons.2 ⟨wBz75.mono (by decide),List.forall_mem_cons.2 ⟨wBz88.mono (by decide),List.forall_mem_cons.2 ⟨wBz89.mono (by decide),List.forall_mem_cons.2 ⟨wBz90.mono (by decide),List.forall_mem_cons.2 ⟨wBz91.mono (by decide),List.forall_mem_cons.2 ⟨wBz92.mono (by decide),List.forall_mem_cons.2 ⟨wBz93.mono (by decide),List.forall_mem_cons.2 ⟨wBz94.mono (by decide),List.forall_mem_cons.2 ⟨wBz95.mono (by decide),List.forall_mem_cons.2 ⟨wBz96.mono (by decide),List.forall_mem_cons.2 ⟨wBz97.mono (by decide),(fun _ h=>by cases h)⟩⟩⟩⟩⟩⟩⟩⟩⟩⟩⟩⟩⟩⟩⟩⟩⟩⟩⟩⟩⟩⟩⟩⟩⟩⟩⟩⟩⟩⟩⟩) (by kernel_rfl)
theorem wBworks:YOk T 2244 ⟨197,[],.bool true,false⟩:=B4m
end Go.Ev.YtgehhippjhealaaGreatC
