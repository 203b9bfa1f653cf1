/- The works of a layer's examples, each call reckoned by the kernel, and joined. No condition but those that stand in each. -/
import Derived.Test.YtgehhippjhealaaGreatSTopW
import Derived.Test.YtgehhippjhealaaGreatSTopKex
set_option linter.unusedSimpArgs false
set_option linter.unusedVariables false
set_option maxRecDepth 100000
namespace Go.Ev.YtgehhippjhealaaGreatC
open Go Go.Proofs
def wEy0 : AnsY := ⟨147, [], (.slice (some 3) [(.agg [(wN 2), (wN 3), (wN 4)]), (.agg [(wN 1), (wN 2), (wN 3)]), (.agg [(wN 4), (wN 4), (wN 7)]), (.agg [(wN 3), (wN 5), (wN 8)])] false), false⟩
theorem wEz0 : YOk T 61 wEy0 := zB_con (k := 0) (n := 60) (l := []) ((fun _ h => by cases h)) (by kernel_rfl)
def wEy1 : AnsY := ⟨113, [(.agg [(wN 2), (wN 3), (wN 4)])], (.bool false), false⟩
theorem wEz1 : YOk T 61 wEy1 := zB_con (k := 0) (n := 60) (l := []) ((fun _ h => by cases h)) (by kernel_rfl)
def wEy2 : AnsY := ⟨113, [(.agg [(wN 1), (wN 2), (wN 3)])], (.bool false), false⟩
theorem wEz2 : YOk T 61 wEy2 := zB_con (k := 0) (n := 60) (l := []) ((fun _ h => by cases h)) (by kernel_rfl)
def wEy3 : AnsY := ⟨113, [(.agg [(wN 4), (wN 4), (wN 7)])], (.bool false), false⟩
theorem wEz3 : YOk T 61 wEy3 := zB_con (k := 0) (n := 60) (l := []) ((fun _ h => by cases h)) (by kernel_rfl)
def wEy4 : AnsY := ⟨113, [(.agg [(wN 3), (wN 5), (wN 8)])], (.bool false), false⟩
theorem wEz4 : YOk T 61 wEy4 := zB_con (k := 0) (n := 60) (l := []) ((fun _ h => by cases h)) (by kernel_rfl)
def wEy5 : AnsY := ⟨53, [(.agg [(.slice (some 3) [(.agg [(wN 2), (wN 3), (wN 4)]), (.agg [(wN 1), (wN 2), (wN 3)]), (.agg [(wN 4), (wN 4), (wN 7)]), (.agg [(wN 3), (wN 5), (wN 8)])] false)])], (wI [1, 0, 2, 3] false), false⟩
theorem wEz5 : YOk T 61 wEy5 := zB_con (k := 0) (n := 60) (l := []) ((fun _ h => by cases h)) (by kernel_rfl)
def wEy6 : AnsY := ⟨18, [(.slice (some 3) [(.agg [(wN 2), (wN 3), (wN 4)]), (.agg [(wN 1), (wN 2), (wN 3)]), (.agg [(wN 4), (wN 4), (wN 7)]), (.agg [(wN 3), (wN 5), (wN 8)])] false)], (.tuple [(wI [1, 0, 2, 3] false), (wN 0)]), false⟩
theorem wEz6 : YOk T 122 wEy6 := zB_con (k := 61) (n := 60) (l := [wEy1, wEy2, wEy3, wEy4, wEy5]) (List.forall_mem_cons.2 ⟨wEz1.mono (by decide), List.forall_mem_cons.2 ⟨wEz2.mono (by decide), List.forall_mem_cons.2 ⟨wEz3.mono (by decide), List.forall_mem_cons.2 ⟨wEz4.mono (by decide), List.forall_mem_cons.2 ⟨wEz5.mono (by decide), (fun _ h => by cases h)⟩⟩⟩⟩⟩) (by kernel_rfl)
def wEy7 : AnsY := ⟨148, [(wI [1, 0, 2, 3] false)], (wI [1, 0, 2, 3] false), false⟩
theorem wEz7 : YOk T 61 wEy7 := zB_con (k := 0) (n := 60) (l := []) ((fun _ h => by cases h)) (by kernel_rfl)
def wEy8 : AnsY := ⟨149, [(wI [3, 2, 4, 5] false)], (wI [3, 2, 4, 5] false), false⟩
theorem wEz8 : YOk T 61 wEy8 := zB_con (k := 0) (n := 60) (l := []) ((fun _ h => by cases h)) (by kernel_rfl)
def wEy9 : AnsY := ⟨120, [(.slice (some 3) [(.agg [(wN 2), (wN 3), (wN 4)]), (.agg [(wN 1), (wN 2), (wN 3)]), (.agg [(wN 4), (wN 4), (wN 7)]), (.agg [(wN 3), (wN 5), (wN 8)])] false), (wI [1, 0, 2, 3] false)], (wN 0), false⟩
theorem wEz9 : YOk T 122 wEy9 := zB_con (k := 61) (n := 60) (l := [wEy1, wEy2, wEy3, wEy4]) (List.forall_mem_cons.2 ⟨wEz1.mono (by decide), List.forall_mem_cons.2 ⟨wEz2.mono (by decide), List.forall_mem_cons.2 ⟨wEz3.mono (by decide), List.forall_mem_cons.2 ⟨wEz4.mono (by decide), (fun _ h => by cases h)⟩⟩⟩⟩) (by kernel_rfl)
def wEy10 : AnsY := ⟨60, [(.slice (some 3) [(.agg [(wN 2), (wN 3), (wN 4)]), (.agg [(wN 1), (wN 2), (wN 3)]), (.agg [(wN 4), (wN 4), (wN 7)]), (.agg [(wN 3), (wN 5), (wN 8)])] false), (wI [1, 0, 2, 3] false), (wI [3, 2, 4, 5] false)], (.tuple [(wI [5, 2, 9, 14] false), (wN 0)]), false⟩
theorem wEz10 : YOk T 183 wEy10 := zB_con (k := 122) (n := 60) (l := [wEy9]) (List.forall_mem_cons.2 ⟨wEz9.mono (by decide), (fun _ h => by cases h)⟩) (by kernel_rfl)
def wEy11 : AnsY := ⟨149, [(wI [4, 1, 4, 3] false)], (wI [4, 1, 4, 3] false), false⟩
theorem wEz11 : YOk T 61 wEy11 := zB_con (k := 0) (n := 60) (l := []) ((fun _ h => by cases h)) (by kernel_rfl)
def wEy12 : AnsY := ⟨60, [(.slice (some 3) [(.agg [(wN 2), (wN 3), (wN 4)]), (.agg [(wN 1), (wN 2), (wN 3)]), (.agg [(wN 4), (wN 4), (wN 7)]), (.agg [(wN 3), (wN 5), (wN 8)])] false), (wI [1, 0, 2, 3] false), (wI [4, 1, 4, 3] false)], (.tuple [(wI [] false), (wN 3)]), false⟩
theorem wEz12 : YOk T 183 wEy12 := zB_con (k := 122) (n := 60) (l := [wEy9]) (List.forall_mem_cons.2 ⟨wEz9.mono (by decide), (fun _ h => by cases h)⟩) (by kernel_rfl)
def wEy13 : AnsY := ⟨148, [(wI [0, 1, 2, 3] false)], (wI [0, 1, 2, 3] false), false⟩
theorem wEz13 : YOk T 61 wEy13 := zB_con (k := 0) (n := 60) (l := []) ((fun _ h => by cases h)) (by kernel_rfl)
def wEy14 : AnsY := ⟨120, [(.slice (some 3) [(.agg [(wN 2), (wN 3), (wN 4)]), (.agg [(wN 1), (wN 2), (wN 3)]), (.agg [(wN 4), (wN 4), (wN 7)]), (.agg [(wN 3), (wN 5), (wN 8)])] false), (wI [0, 1, 2, 3] false)], (wN 0), false⟩
theorem wEz14 : YOk T 122 wEy14 := zB_con (k := 61) (n := 60) (l := [wEy1, wEy2, wEy3, wEy4]) (List.forall_mem_cons.2 ⟨wEz1.mono (by decide), List.forall_mem_cons.2 ⟨wEz2.mono (by decide), List.forall_mem_cons.2 ⟨wEz3.mono (by decide), List.forall_mem_cons.2 ⟨wEz4.mono (by decide), (fun _ h => by cases h)⟩⟩⟩⟩) (by kernel_rfl)
def wEy15 : AnsY := ⟨22, [(.slice (some 3) [(.agg [(wN 2), (wN 3), (wN 4)]), (.agg [(wN 1), (wN 2), (wN 3)]), (.agg [(wN 4), (wN 4), (wN 7)]), (.agg [(wN 3), (wN 5), (wN 8)])] false), (wI [0, 1, 2, 3] false), (wI [3, 2, 4, 5] false)], (.tuple [(wN 6), (wN 0)]), false⟩
theorem wEz15 : YOk T 183 wEy15 := zB_con (k := 122) (n := 60) (l := [wEy14]) (List.forall_mem_cons.2 ⟨wEz14.mono (by decide), (fun _ h => by cases h)⟩) (by kernel_rfl)
def wEy16 : AnsY := ⟨150, [(.slice (some 3) [(.agg [(wN 2), (wN 3), (wN 4)]), (.agg [(wN 1), (wN 2), (wN 3)]), (.agg [(wN 4), (wN 4), (wN 7)]), (.agg [(wN 3), (wN 5), (wN 8)])] false), (wI [1, 0, 2, 3] false)], (.tuple [(wI [1, 2, 1, 0] false), (wN 0)]), false⟩
theorem wEz16 : YOk T 183 wEy16 := zB_con (k := 122) (n := 60) (l := [wEy9]) (List.forall_mem_cons.2 ⟨wEz9.mono (by decide), (fun _ h => by cases h)⟩) (by kernel_rfl)
def wEy17 : AnsY := ⟨122, [(.slice (some 3) [(.agg [(wN 2), (wN 3), (wN 4)]), (.agg [(wN 1), (wN 2), (wN 3)]), (.agg [(wN 4), (wN 4), (wN 7)]), (.agg [(wN 3), (wN 5), (wN 8)])] false), (wN 0)], (.tuple [(.ptr [(.slice (some 3) [(.agg [(wN 2), (wN 3), (wN 4)]), (.agg [(wN 1), (wN 2), (wN 3)]), (.agg [(wN 4), (wN 4), (wN 7)]), (.agg [(wN 3), (wN 5), (wN 8)])] false), (wI [2, 1, 4, 3] false)] 0), (wN 0)]), false⟩
theorem wEz17 : YOk T 122 wEy17 := zB_con (k := 61) (n := 60) (l := [wEy1, wEy2, wEy3, wEy4]) (List.forall_mem_cons.2 ⟨wEz1.mono (by decide), List.forall_mem_cons.2 ⟨wEz2.mono (by decide), List.forall_mem_cons.2 ⟨wEz3.mono (by decide), List.forall_mem_cons.2 ⟨wEz4.mono (by decide), (fun _ h => by cases h)⟩⟩⟩⟩) (by kernel_rfl)
def wEy18 : AnsY := ⟨23, [(.slice (some 3) [(.agg [(wN 2), (wN 3), (wN 4)]), (.agg [(wN 1), (wN 2), (wN 3)]), (.agg [(wN 4), (wN 4), (wN 7)]), (.agg [(wN 3), (wN 5), (wN 8)])] false), (wN 0)], (.tuple [(wN 2), (wN 0)]), false⟩
theorem wEz18 : YOk T 183 wEy18 := zB_con (k := 122) (n := 60) (l := [wEy17, wEy5]) (List.forall_mem_cons.2 ⟨wEz17.mono (by decide), List.forall_mem_cons.2 ⟨wEz5.mono (by decide), (fun _ h => by cases h)⟩⟩) (by kernel_rfl)
def wEy19 : AnsY := ⟨122, [(.slice (some 3) [(.agg [(wN 2), (wN 3), (wN 4)]), (.agg [(wN 1), (wN 2), (wN 3)]), (.agg [(wN 4), (wN 4), (wN 7)]), (.agg [(wN 3), (wN 5), (wN 8)])] false), (wN 1)], (.tuple [(.ptr [(.slice (some 3) [(.agg [(wN 2), (wN 3), (wN 4)]), (.agg [(wN 1), (wN 2), (wN 3)]), (.agg [(wN 4), (wN 4), (wN 7)]), (.agg [(wN 3), (wN 5), (wN 8)])] false), (wI [3, 2, 4, 5] false)] 0), (wN 0)]), false⟩
theorem wEz19 : YOk T 122 wEy19 := zB_con (k := 61) (n := 60) (l := [wEy1, wEy2, wEy3, wEy4]) (List.forall_mem_cons.2 ⟨wEz1.mono (by decide), List.forall_mem_cons.2 ⟨wEz2.mono (by decide), List.forall_mem_cons.2 ⟨wEz3.mono (by decide), List.forall_mem_cons.2 ⟨wEz4.mono (by decide), (fun _ h => by cases h)⟩⟩⟩⟩) (by kernel_rfl)
def wEy20 : AnsY := ⟨23, [(.slice (some 3) [(.agg [(wN 2), (wN 3), (wN 4)]), (.agg [(wN 1), (wN 2), (wN 3)]), (.agg [(wN 4), (wN 4), (wN 7)]), (.agg [(wN 3), (wN 5), (wN 8)])] false), (wN 1)], (.tuple [(wN 6), (wN 0)]), false⟩
theorem wEz20 : YOk T 183 wEy20 := zB_con (k := 122) (n := 60) (l := [wEy19, wEy5]) (List.forall_mem_cons.2 ⟨wEz19.mono (by decide), List.forall_mem_cons.2 ⟨wEz5.mono (by decide), (fun _ h => by cases h)⟩⟩) (by kernel_rfl)
def wEy21 : AnsY := ⟨151, [(.slice (some 3) [(.agg [(wN 2), (wN 3), (wN 4)]), (.agg [(wN 1), (wN 2), (wN 3)]), (.agg [(wN 4), (wN 4), (wN 7)]), (.agg [(wN 3), (wN 5), (wN 8)])] false), (wN 1)], (.tuple [(wN 8), (wN 0)]), false⟩
theorem wEz21 : YOk T 183 wEy21 := zB_con (k := 122) (n := 60) (l := [wEy19, wEy5]) (List.forall_mem_cons.2 ⟨wEz19.mono (by decide), List.forall_mem_cons.2 ⟨wEz5.mono (by decide), (fun _ h => by cases h)⟩⟩) (by kernel_rfl)
def wEy22 : AnsY := ⟨152, [(.slice (some 3) [(.agg [(wN 2), (wN 3), (wN 4)]), (.agg [(wN 1), (wN 2), (wN 3)]), (.agg [(wN 4), (wN 4), (wN 7)]), (.agg [(wN 3), (wN 5), (wN 8)])] false), (wN 0), (wN 7)], (.tuple [(wN 0), (wN 0)]), false⟩
theorem wEz22 : YOk T 183 wEy22 := zB_con (k := 122) (n := 60) (l := [wEy17]) (List.forall_mem_cons.2 ⟨wEz17.mono (by decide), (fun _ h => by cases h)⟩) (by kernel_rfl)
def wEy23 : AnsY := ⟨152, [(.slice (some 3) [(.agg [(wN 2), (wN 3), (wN 4)]), (.agg [(wN 1), (wN 2), (wN 3)]), (.agg [(wN 4), (wN 4), (wN 7)]), (.agg [(wN 3), (wN 5), (wN 8)])] false), (wN 0), (wN 2)], (.tuple [(wN 0), (wN 5)]), false⟩
theorem wEz23 : YOk T 183 wEy23 := zB_con (k := 122) (n := 60) (l := [wEy17]) (List.forall_mem_cons.2 ⟨wEz17.mono (by decide), (fun _ h => by cases h)⟩) (by kernel_rfl)
def wEy25 : AnsY := ⟨153, [(.slice (some 3) [(.agg [(wN 2), (wN 3), (wN 4)]), (.agg [(wN 1), (wN 2), (wN 3)]), (.agg [(wN 4), (wN 4), (wN 7)]), (.agg [(wN 3), (wN 5), (wN 8)])] false), (wN 0)], (.tuple [(wI [0, 1, 3] false), (wN 0)]), false⟩
theorem wEz25 : YOk T 2061 wEy25 := zB_con (k := 2000) (n := 60) (l := [wEy17, wEy24]) (List.forall_mem_cons.2 ⟨wEz17.mono (by decide), List.forall_mem_cons.2 ⟨wEz24.mono (by decide), (fun _ h => by cases h)⟩⟩) (by kernel_rfl)
def wEy27 : AnsY := ⟨153, [(.slice (some 3) [(.agg [(wN 2), (wN 3), (wN 4)]), (.agg [(wN 1), (wN 2), (wN 3)]), (.agg [(wN 4), (wN 4), (wN 7)]), (.agg [(wN 3), (wN 5), (wN 8)])] false), (wN 1)], (.tuple [(wI [1, 2] false), (wN 0)]), false⟩
theorem wEz27 : YOk T 2061 wEy27 := zB_con (k := 2000) (n := 60) (l := [wEy19, wEy26]) (List.forall_mem_cons.2 ⟨wEz19.mono (by decide), List.forall_mem_cons.2 ⟨wEz26.mono (by decide), (fun _ h => by cases h)⟩⟩) (by kernel_rfl)
def wEy28 : AnsY := ⟨154, [(.slice (some 3) [(.agg [(wN 2), (wN 3), (wN 4)]), (.agg [(wN 1), (wN 2), (wN 3)]), (.agg [(wN 4), (wN 4), (wN 7)]), (.agg [(wN 3), (wN 5), (wN 8)])] false), (wN 1)], (.tuple [(wN 2), (wN 0)]), false⟩
theorem wEz28 : YOk T 183 wEy28 := zB_con (k := 122) (n := 60) (l := [wEy19, wEy5]) (List.forall_mem_cons.2 ⟨wEz19.mono (by decide), List.forall_mem_cons.2 ⟨wEz5.mono (by decide), (fun _ h => by cases h)⟩⟩) (by kernel_rfl)
def wEy29 : AnsY := ⟨148, [(wI [0, 2, 3] false)], (wI [0, 2, 3] false), false⟩
theorem wEz29 : YOk T 61 wEy29 := zB_con (k := 0) (n := 60) (l := []) ((fun _ h => by cases h)) (by kernel_rfl)
def wEy30 : AnsY := ⟨155, [(.slice (some 3) [(.agg [(wN 2), (wN 3), (wN 4)]), (.agg [(wN 1), (wN 2), (wN 3)]), (.agg [(wN 4), (wN 4), (wN 7)]), (.agg [(wN 3), (wN 5), (wN 8)])] false), (wN 0), (wI [0, 2, 3] false)], (wN 12), false⟩
theorem wEz30 : YOk T 183 wEy30 := zB_con (k := 122) (n := 60) (l := [wEy17, wEy5]) (List.forall_mem_cons.2 ⟨wEz17.mono (by decide), List.forall_mem_cons.2 ⟨wEz5.mono (by decide), (fun _ h => by cases h)⟩⟩) (by kernel_rfl)
def wEy31 : AnsY := ⟨156, [(.slice (some 3) [(.agg [(wN 2), (wN 3), (wN 4)]), (.agg [(wN 1), (wN 2), (wN 3)]), (.agg [(wN 4), (wN 4), (wN 7)]), (.agg [(wN 3), (wN 5), (wN 8)])] false), (wN 0), (wN 1)], (.tuple [(wN 2), (wN 0)]), false⟩
theorem wEz31 : YOk T 183 wEy31 := zB_con (k := 122) (n := 60) (l := [wEy17, wEy5]) (List.forall_mem_cons.2 ⟨wEz17.mono (by decide), List.forall_mem_cons.2 ⟨wEz5.mono (by decide), (fun _ h => by cases h)⟩⟩) (by kernel_rfl)
def wEy32 : AnsY := ⟨157, [(wI [1, 0, 2, 3] false), (wI [1, 0, 2, 3] false)], (.bool true), false⟩
theorem wEz32 : YOk T 61 wEy32 := zB_con (k := 0) (n := 60) (l := []) ((fun _ h => by cases h)) (by kernel_rfl)
def wEy33 : AnsY := ⟨149, [(wI [5, 2, 9, 14] false)], (wI [5, 2, 9, 14] false), false⟩
theorem wEz33 : YOk T 61 wEy33 := zB_con (k := 0) (n := 60) (l := []) ((fun _ h => by cases h)) (by kernel_rfl)
def wEy34 : AnsY := ⟨158, [(wI [5, 2, 9, 14] false), (wI [5, 2, 9, 14] false)], (.bool true), false⟩
theorem wEz34 : YOk T 61 wEy34 := zB_con (k := 0) (n := 60) (l := []) ((fun _ h => by cases h)) (by kernel_rfl)
def wEy35 : AnsY := ⟨148, [(wI [1, 2, 1, 0] false)], (wI [1, 2, 1, 0] false), false⟩
theorem wEz35 : YOk T 61 wEy35 := zB_con (k := 0) (n := 60) (l := []) ((fun _ h => by cases h)) (by kernel_rfl)
def wEy36 : AnsY := ⟨157, [(wI [1, 2, 1, 0] false), (wI [1, 2, 1, 0] false)], (.bool true), false⟩
theorem wEz36 : YOk T 61 wEy36 := zB_con (k := 0) (n := 60) (l := []) ((fun _ h => by cases h)) (by kernel_rfl)
def wEy37 : AnsY := ⟨148, [(wI [0, 1, 3] false)], (wI [0, 1, 3] false), false⟩
theorem wEz37 : YOk T 61 wEy37 := zB_con (k := 0) (n := 60) (l := []) ((fun _ h => by cases h)) (by kernel_rfl)
def wEy38 : AnsY := ⟨157, [(wI [0, 1, 3] false), (wI [0, 1, 3] false)], (.bool true), false⟩
theorem wEz38 : YOk T 61 wEy38 := zB_con (k := 0) (n := 60) (l := []) ((fun _ h => by cases h)) (by kernel_rfl)
def wEy39 : AnsY := ⟨148, [(wI [1, 2] false)], (wI [1, 2] false), false⟩
theorem wEz39 : YOk T 61 wEy39 := zB_con (k := 0) (n := 60) (l := []) ((fun _ h => by cases h)) (by kernel_rfl)
def wEy40 : AnsY := ⟨157, [(wI [1, 2] false), (wI [1, 2] false)], (.bool true), false⟩
theorem wEz40 : YOk T 61 wEy40 := zB_con (k := 0) (n := 60) (l := []) ((fun _ h => by cases h)) (by kernel_rfl)
def wEy41 : AnsY := ⟨74, [], (.bool true), false⟩
theorem wEz41 : YOk T 2122 wEy41 := zB_con (k := 2061) (n := 60) (l := [wEy0, wEy6, wEy7, wEy8, wEy10, wEy11, wEy12, wEy13, wEy15, wEy16, wEy18, wEy20, wEy21, wEy22, wEy23, wEy25, wEy27, wEy28, wEy29, wEy30, wEy31, wEy32, wEy33, wEy34, wEy35, wEy36, wEy37, wEy38, wEy39, wEy40]) (List.forall_mem_cons.2 ⟨wEz0.mono (by decide), List.forall_mem_cons.2 ⟨wEz6.mono (by decide), List.forall_mem_cons.2 ⟨wEz7.mono (by decide), List.forall_mem_cons.2 ⟨wEz8.mono (by decide), List.forall_mem_cons.2 ⟨wEz10.mono (by decide), List.forall_mem_cons.2 ⟨wEz11.mono (by decide), List.forall_mem_cons.2 ⟨wEz12.mono (by decide), List.forall_mem_cons.2 ⟨wEz13.mono (by decide), List.forall_mem_cons.2 ⟨wEz15.mono (by decide), List.forall_mem_cons.2 ⟨wEz16.mono (by decide), List.forall_mem_cons.2 ⟨wEz18.mono (by decide), List.forall_mem_cons.2 ⟨wEz20.mono (by decide), List.forall_mem_cons.2 ⟨wEz21.mono (by decide), List.forall_mem_cons.2 ⟨wEz22.mono (by decide), List.forall_mem_cons.2 ⟨wEz23.mono (by decide), List.forall_mem_cons.2 ⟨wEz25.mono (by decide), List.forall_mem_cons.2 ⟨wEz27.mono (by decide), List.forall_mem_cons.2 ⟨wEz28.mono (by decide), List.forall_mem_cons.2 ⟨wEz29.mono (by decide), List.forall_mem_cons.2 ⟨wEz30.mono (by decide), List.forall_mem_cons.2 ⟨wEz31.mono (by decide), List.forall_mem_cons.2 ⟨wEz32.mono (by decide), List.forall_mem_cons.2 ⟨wEz33.mono (by decide), List.forall_mem_cons.2 ⟨wEz34.mono (by decide), List.forall_mem_cons.2 ⟨wEz35.mono (by decide), List.forall_mem_cons.2 ⟨wEz36.mono (by decide), List.forall_mem_cons.2 ⟨wEz37.mono (by decide), List.forall_mem_cons.2 ⟨wEz38.mono (by decide), List.forall_mem_cons.2 ⟨wEz39.mono (by decide), List.forall_mem_cons.2 ⟨wEz40.mono (by decide), (fun _ h => by cases h)⟩⟩⟩⟩⟩⟩⟩⟩⟩⟩⟩⟩⟩⟩⟩⟩⟩⟩⟩⟩⟩⟩⟩⟩⟩⟩⟩⟩⟩⟩) (by kernel_rfl)
theorem wEworks : YOk T 2122 ⟨74, [], .bool true, false⟩ := wEz41
end Go.Ev.YtgehhippjhealaaGreatC
