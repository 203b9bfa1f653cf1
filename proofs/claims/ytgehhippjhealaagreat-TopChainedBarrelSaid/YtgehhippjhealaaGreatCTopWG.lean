/- The works of a layer's examples, each call reckoned by the kernel, and joined. No condition but those that stand in each. -/
import Derived.Test.YtgehhippjhealaaGreatCTopW
import Derived.Test.YtgehhippjhealaaGreatCTopBax
set_option linter.unusedSimpArgs false
set_option linter.unusedVariables false
set_option maxRecDepth 100000
namespace Go.Ev.YtgehhippjhealaaGreatC
open Go Go.Proofs
def wGy0 : AnsY := ⟨132, [(wI [4, 1, 6, 3, 9, 0] false)], (.slice (some 2) [(.agg [(wN 4), (wN 1)]), (.agg [(wN 6), (wN 3)]), (.agg [(wN 9), (wN 0)])] false), false⟩
theorem wGz0 : YOk T 61 wGy0 := zB_con (k := 0) (n := 60) (l := []) ((fun _ h => by cases h)) (by kernel_rfl)
def wGy1 : AnsY := ⟨132, [(wI [4, 1, 6, 2] false)], (.slice (some 2) [(.agg [(wN 4), (wN 1)]), (.agg [(wN 6), (wN 2)])] false), false⟩
theorem wGz1 : YOk T 61 wGy1 := zB_con (k := 0) (n := 60) (l := []) ((fun _ h => by cases h)) (by kernel_rfl)
def wGy2 : AnsY := ⟨132, [(wI [4, 1, 6, 2, 3, 0, 5, 4] false)], (.slice (some 2) [(.agg [(wN 4), (wN 1)]), (.agg [(wN 6), (wN 2)]), (.agg [(wN 3), (wN 0)]), (.agg [(wN 5), (wN 4)])] false), false⟩
theorem wGz2 : YOk T 61 wGy2 := zB_con (k := 0) (n := 60) (l := []) ((fun _ h => by cases h)) (by kernel_rfl)
def wGy3 : AnsY := ⟨132, [(wI [2, 0, 2, 1] false)], (.slice (some 2) [(.agg [(wN 2), (wN 0)]), (.agg [(wN 2), (wN 1)])] false), false⟩
theorem wGz3 : YOk T 61 wGy3 := zB_con (k := 0) (n := 60) (l := []) ((fun _ h => by cases h)) (by kernel_rfl)
def wGy5 : AnsY := ⟨31, [(.slice (some 2) [(.agg [(wN 4), (wN 1)]), (.agg [(wN 6), (wN 3)]), (.agg [(wN 9), (wN 0)])] false), (wN 9)], (.tuple [(wI [0, 1, 2] false), (wN 0)]), false⟩
theorem wGz5 : YOk T 2061 wGy5 := zB_con (k := 2000) (n := 60) (l := [wGy4]) (List.forall_mem_cons.2 ⟨wGz4.mono (by decide), (fun _ h => by cases h)⟩) (by kernel_rfl)
def wGy7 : AnsY := ⟨67, [(.ptr [(.slice (some 2) [(.agg [(wN 4), (wN 1)]), (.agg [(wN 6), (wN 3)]), (.agg [(wN 9), (wN 0)])] false), (.fmap [] [])] 0)], (.tuple [(wN 9), (wN 36), (.bool true)]), false⟩
theorem wGz7 : YOk T 61 wGy7 := zB_con (k := 0) (n := 60) (l := []) ((fun _ h => by cases h)) (by kernel_rfl)
def wGy8 : AnsY := ⟨25, [(.slice (some 2) [(.agg [(wN 4), (wN 1)]), (.agg [(wN 6), (wN 3)]), (.agg [(wN 9), (wN 0)])] false)], (.tuple [(wN 9), (wN 36), (wN 0)]), false⟩
theorem wGz8 : YOk T 2061 wGy8 := zB_con (k := 2000) (n := 60) (l := [wGy6, wGy7]) (List.forall_mem_cons.2 ⟨wGz6.mono (by decide), List.forall_mem_cons.2 ⟨wGz7.mono (by decide), (fun _ h => by cases h)⟩⟩) (by kernel_rfl)
def wGy10 : AnsY := ⟨25, [(.slice (some 2) [(.agg [(wN 4), (wN 1)]), (.agg [(wN 6), (wN 2)])] false)], (.tuple [(wN 0), (wN 0), (wN 21)]), false⟩
theorem wGz10 : YOk T 2061 wGy10 := zB_con (k := 2000) (n := 60) (l := [wGy9]) (List.forall_mem_cons.2 ⟨wGz9.mono (by decide), (fun _ h => by cases h)⟩) (by kernel_rfl)
def wGy12 : AnsY := ⟨133, [(.slice (some 2) [(.agg [(wN 4), (wN 1)]), (.agg [(wN 6), (wN 3)]), (.agg [(wN 9), (wN 0)])] false), (wN 10)], (.tuple [(wN 45), (wN 0)]), false⟩
theorem wGz12 : YOk T 2061 wGy12 := zB_con (k := 2000) (n := 60) (l := [wGy11, wGy7]) (List.forall_mem_cons.2 ⟨wGz11.mono (by decide), List.forall_mem_cons.2 ⟨wGz7.mono (by decide), (fun _ h => by cases h)⟩⟩) (by kernel_rfl)
def wGy14 : AnsY := ⟨134, [(.slice (some 2) [(.agg [(wN 4), (wN 1)]), (.agg [(wN 6), (wN 3)]), (.agg [(wN 9), (wN 0)])] false), (wN 0), (wN 100)], (.tuple [(wN 3), (wN 0)]), false⟩
theorem wGz14 : YOk T 2061 wGy14 := zB_con (k := 2000) (n := 60) (l := [wGy13, wGy7]) (List.forall_mem_cons.2 ⟨wGz13.mono (by decide), List.forall_mem_cons.2 ⟨wGz7.mono (by decide), (fun _ h => by cases h)⟩⟩) (by kernel_rfl)
def wGy16 : AnsY := ⟨134, [(.slice (some 2) [(.agg [(wN 4), (wN 1)]), (.agg [(wN 6), (wN 3)]), (.agg [(wN 9), (wN 0)])] false), (wN 5), (wN 4)], (.tuple [(wN 0), (wN 2)]), false⟩
theorem wGz16 : YOk T 2061 wGy16 := zB_con (k := 2000) (n := 60) (l := [wGy15]) (List.forall_mem_cons.2 ⟨wGz15.mono (by decide), (fun _ h => by cases h)⟩) (by kernel_rfl)
def wGy17 : AnsY := ⟨135, [(.slice (some 2) [(.agg [(wN 4), (wN 1)]), (.agg [(wN 6), (wN 2)])] false), (wN 0), (wN 1)], (.tuple [(wN 2), (wN 0)]), false⟩
theorem wGz17 : YOk T 2061 wGy17 := zB_con (k := 2000) (n := 60) (l := [wGy9]) (List.forall_mem_cons.2 ⟨wGz9.mono (by decide), (fun _ h => by cases h)⟩) (by kernel_rfl)
def wGy18 : AnsY := ⟨135, [(.slice (some 2) [(.agg [(wN 4), (wN 1)]), (.agg [(wN 6), (wN 3)]), (.agg [(wN 9), (wN 0)])] false), (wN 0), (wN 1)], (.tuple [(wN 0), (wN 14)]), false⟩
theorem wGz18 : YOk T 2061 wGy18 := zB_con (k := 2000) (n := 60) (l := [wGy6]) (List.forall_mem_cons.2 ⟨wGz6.mono (by decide), (fun _ h => by cases h)⟩) (by kernel_rfl)
def wGy19 : AnsY := ⟨234, [(.slice (some 2) [(.agg [(wN 4), (wN 1)]), (.agg [(wN 6), (wN 2)])] false), (.clo 186 [] [])], (wN (-1)), false⟩
theorem wGz19 : YOk T 61 wGy19 := zB_con (k := 0) (n := 60) (l := []) ((fun _ h => by cases h)) (by kernel_rfl)
def wGy20 : AnsY := ⟨136, [(.slice (some 2) [(.agg [(wN 4), (wN 1)]), (.agg [(wN 6), (wN 2)])] false)], (.tuple [(wN 0), (wN 1), (wN 0)]), false⟩
theorem wGz20 : YOk T 122 wGy20 := zB_con (k := 61) (n := 60) (l := [wGy19]) (List.forall_mem_cons.2 ⟨wGz19.mono (by decide), (fun _ h => by cases h)⟩) (by kernel_rfl)
def wGy22 : AnsY := ⟨192, [(.ptr [(.slice (some 2) [(.agg [(wN 4), (wN 1)]), (.agg [(wN 6), (wN 2)]), (.agg [(wN 3), (wN 0)]), (.agg [(wN 5), (wN 4)])] false), (.fmap [(.agg [(wN 0), (wN 1)]), (.agg [(wN 1), (wN 2)])] [(wN 2), (wN 3)])] 0), (wI [] false), (wN 0)], (wI [0, 2, 3] false), false⟩
theorem wGz22 : YOk T 61 wGy22 := zB_con (k := 0) (n := 60) (l := []) ((fun _ h => by cases h)) (by kernel_rfl)
def wGy23 : AnsY := ⟨137, [(.slice (some 2) [(.agg [(wN 4), (wN 1)]), (.agg [(wN 6), (wN 2)]), (.agg [(wN 3), (wN 0)]), (.agg [(wN 5), (wN 4)])] false)], (.tuple [(wI [0, 2, 3] false), (wN 0)]), false⟩
theorem wGz23 : YOk T 2061 wGy23 := zB_con (k := 2000) (n := 60) (l := [wGy21, wGy22]) (List.forall_mem_cons.2 ⟨wGz21.mono (by decide), List.forall_mem_cons.2 ⟨wGz22.mono (by decide), (fun _ h => by cases h)⟩⟩) (by kernel_rfl)
def wGy24 : AnsY := ⟨139, [(wI [0, 1] false)], (wI [0, 1] false), false⟩
theorem wGz24 : YOk T 61 wGy24 := zB_con (k := 0) (n := 60) (l := []) ((fun _ h => by cases h)) (by kernel_rfl)
def wGy25 : AnsY := ⟨138, [(.slice (some 2) [(.agg [(wN 4), (wN 1)]), (.agg [(wN 6), (wN 2)]), (.agg [(wN 3), (wN 0)]), (.agg [(wN 5), (wN 4)])] false), (wI [0, 1] false)], (wN 21), false⟩
theorem wGz25 : YOk T 2061 wGy25 := zB_con (k := 2000) (n := 60) (l := [wGy21]) (List.forall_mem_cons.2 ⟨wGz21.mono (by decide), (fun _ h => by cases h)⟩) (by kernel_rfl)
def wGy27 : AnsY := ⟨140, [(.slice (some 2) [(.agg [(wN 4), (wN 1)]), (.agg [(wN 6), (wN 3)]), (.agg [(wN 9), (wN 0)])] false), (wN 0)], (.tuple [(wN 2), (wN 0)]), false⟩
theorem wGz27 : YOk T 2061 wGy27 := zB_con (k := 2000) (n := 60) (l := [wGy26]) (List.forall_mem_cons.2 ⟨wGz26.mono (by decide), (fun _ h => by cases h)⟩) (by kernel_rfl)
def wGy29 : AnsY := ⟨140, [(.slice (some 2) [(.agg [(wN 2), (wN 0)]), (.agg [(wN 2), (wN 1)])] false), (wN 0)], (.tuple [(wN 0), (wN 21)]), false⟩
theorem wGz29 : YOk T 2061 wGy29 := zB_con (k := 2000) (n := 60) (l := [wGy28]) (List.forall_mem_cons.2 ⟨wGz28.mono (by decide), (fun _ h => by cases h)⟩) (by kernel_rfl)
def wGy30 : AnsY := ⟨234, [(.slice (some 2) [(.agg [(wN 4), (wN 1)]), (.agg [(wN 6), (wN 3)]), (.agg [(wN 9), (wN 0)])] false), (.clo 186 [] [])], (wN (-1)), false⟩
theorem wGz30 : YOk T 61 wGy30 := zB_con (k := 0) (n := 60) (l := []) ((fun _ h => by cases h)) (by kernel_rfl)
def wGy31 : AnsY := ⟨67, [(.ptr [(.slice (some 2) [(.agg [(wN 4), (wN 1)]), (.agg [(wN 6), (wN 3)])] false), (.fmap [] [])] 0)], (.tuple [(wN 9), (wN 12), (.bool true)]), false⟩
theorem wGz31 : YOk T 61 wGy31 := zB_con (k := 0) (n := 60) (l := []) ((fun _ h => by cases h)) (by kernel_rfl)
def wGy32 : AnsY := ⟨141, [(.slice (some 2) [(.agg [(wN 4), (wN 1)]), (.agg [(wN 6), (wN 3)]), (.agg [(wN 9), (wN 0)])] false), (wN 2)], (.tuple [(wI [0, 3, 6] false), (wN 0)]), false⟩
theorem wGz32 : YOk T 122 wGy32 := zB_con (k := 61) (n := 60) (l := [wGy30, wGy31]) (List.forall_mem_cons.2 ⟨wGz30.mono (by decide), List.forall_mem_cons.2 ⟨wGz31.mono (by decide), (fun _ h => by cases h)⟩⟩) (by kernel_rfl)
def wGy33 : AnsY := ⟨141, [(.slice (some 2) [(.agg [(wN 4), (wN 1)]), (.agg [(wN 6), (wN 3)]), (.agg [(wN 9), (wN 0)])] false), (wN 3)], (.tuple [(wI [] false), (wN 2)]), false⟩
theorem wGz33 : YOk T 122 wGy33 := zB_con (k := 61) (n := 60) (l := [wGy30]) (List.forall_mem_cons.2 ⟨wGz30.mono (by decide), (fun _ h => by cases h)⟩) (by kernel_rfl)
def wGy34 : AnsY := ⟨139, [(wI [0, 1, 2] false)], (wI [0, 1, 2] false), false⟩
theorem wGz34 : YOk T 61 wGy34 := zB_con (k := 0) (n := 60) (l := []) ((fun _ h => by cases h)) (by kernel_rfl)
def wGy35 : AnsY := ⟨142, [(wI [0, 1, 2] false), (wI [0, 1, 2] false)], (.bool true), false⟩
theorem wGz35 : YOk T 61 wGy35 := zB_con (k := 0) (n := 60) (l := []) ((fun _ h => by cases h)) (by kernel_rfl)
def wGy36 : AnsY := ⟨139, [(wI [0, 2, 3] false)], (wI [0, 2, 3] false), false⟩
theorem wGz36 : YOk T 61 wGy36 := zB_con (k := 0) (n := 60) (l := []) ((fun _ h => by cases h)) (by kernel_rfl)
def wGy37 : AnsY := ⟨142, [(wI [0, 2, 3] false), (wI [0, 2, 3] false)], (.bool true), false⟩
theorem wGz37 : YOk T 61 wGy37 := zB_con (k := 0) (n := 60) (l := []) ((fun _ h => by cases h)) (by kernel_rfl)
def wGy38 : AnsY := ⟨144, [(wI [0, 3, 6] false)], (wI [0, 3, 6] false), false⟩
theorem wGz38 : YOk T 61 wGy38 := zB_con (k := 0) (n := 60) (l := []) ((fun _ h => by cases h)) (by kernel_rfl)
def wGy39 : AnsY := ⟨143, [(wI [0, 3, 6] false), (wI [0, 3, 6] false)], (.bool true), false⟩
theorem wGz39 : YOk T 61 wGy39 := zB_con (k := 0) (n := 60) (l := []) ((fun _ h => by cases h)) (by kernel_rfl)
def wGy40 : AnsY := ⟨68, [], (.bool true), false⟩
theorem wGz40 : YOk T 2122 wGy40 := zB_con (k := 2061) (n := 60) (l := [wGy0, wGy1, wGy2, wGy3, wGy5, wGy8, wGy10, wGy12, wGy14, wGy16, wGy17, wGy18, wGy20, wGy23, wGy24, wGy25, wGy27, wGy29, wGy32, wGy33, wGy34, wGy35, wGy36, wGy37, wGy38, wGy39]) (List.forall_mem_cons.2 ⟨wGz0.mono (by decide), List.forall_mem_cons.2 ⟨wGz1.mono (by decide), List.forall_mem_cons.2 ⟨wGz2.mono (by decide), List.forall_mem_cons.2 ⟨wGz3.mono (by decide), List.forall_mem_cons.2 ⟨wGz5.mono (by decide), List.forall_mem_cons.2 ⟨wGz8.mono (by decide), List.forall_mem_cons.2 ⟨wGz10.mono (by decide), List.forall_mem_cons.2 ⟨wGz12.mono (by decide), List.forall_mem_cons.2 ⟨wGz14.mono (by decide), List.forall_mem_cons.2 ⟨wGz16.mono (by decide), List.forall_mem_cons.2 ⟨wGz17.mono (by decide), List.forall_mem_cons.2 ⟨wGz18.mono (by decide), List.forall_mem_cons.2 ⟨wGz20.mono (by decide), List.forall_mem_cons.2 ⟨wGz23.mono (by decide), List.forall_mem_cons.2 ⟨wGz24.mono (by decide), List.forall_mem_cons.2 ⟨wGz25.mono (by decide), List.forall_mem_cons.2 ⟨wGz27.mono (by decide), List.forall_mem_cons.2 ⟨wGz29.mono (by decide), List.forall_mem_cons.2 ⟨wGz32.mono (by decide), List.forall_mem_cons.2 ⟨wGz33.mono (by decide), List.forall_mem_cons.2 ⟨wGz34.mono (by decide), List.forall_mem_cons.2 ⟨wGz35.mono (by decide), List.forall_mem_cons.2 ⟨wGz36.mono (by decide), List.forall_mem_cons.2 ⟨wGz37.mono (by decide), List.forall_mem_cons.2 ⟨wGz38.mono (by decide), List.forall_mem_cons.2 ⟨wGz39.mono (by decide), (fun _ h => by cases h)⟩⟩⟩⟩⟩⟩⟩⟩⟩⟩⟩⟩⟩⟩⟩⟩⟩⟩⟩⟩⟩⟩⟩⟩⟩⟩) (by kernel_rfl)
theorem wGworks : YOk T 2122 ⟨68, [], .bool true, false⟩ := wGz40
end Go.Ev.YtgehhippjhealaaGreatC
