/- The works of a layer's examples, each call reckoned by the kernel, and joined. No condition but those that stand in each. -/
import Derived.Test.YtgehhippjhealaaGreatSTopW
import Derived.Test.YtgehhippjhealaaGreatSTopPlx
set_option linter.unusedSimpArgs false
set_option linter.unusedVariables false
set_option maxRecDepth 100000
namespace Go.Ev.YtgehhippjhealaaGreatC
open Go Go.Proofs
def wCy0 : AnsY := ⟨264, [(wI [3, 4, 5, 2, 4, 6] false)], (.slice (some 2) [(.agg [(wN 3), (wN 4)]), (.agg [(wN 5), (wN 2)]), (.agg [(wN 4), (wN 6)])] false), false⟩
theorem wCz0 : YOk T 61 wCy0 := zB_con (k := 0) (n := 60) (l := []) ((fun _ h => by cases h)) (by kernel_rfl)
def wCy1 : AnsY := ⟨264, [(wI [3, 4] false)], (.slice (some 2) [(.agg [(wN 3), (wN 4)])] false), false⟩
theorem wCz1 : YOk T 61 wCy1 := zB_con (k := 0) (n := 60) (l := []) ((fun _ h => by cases h)) (by kernel_rfl)
def wCy2 : AnsY := ⟨264, [(wI [1, 1, 1, 1] false)], (.slice (some 2) [(.agg [(wN 1), (wN 1)]), (.agg [(wN 1), (wN 1)])] false), false⟩
theorem wCz2 : YOk T 61 wCy2 := zB_con (k := 0) (n := 60) (l := []) ((fun _ h => by cases h)) (by kernel_rfl)
def wCy3 : AnsY := ⟨265, [(wI [0, 6, 3, 10, 8, 0] false)], (.slice (some 2) [(.agg [(wN 0), (wN 6)]), (.agg [(wN 3), (wN 10)]), (.agg [(wN 8), (wN 0)])] false), false⟩
theorem wCz3 : YOk T 61 wCy3 := zB_con (k := 0) (n := 60) (l := []) ((fun _ h => by cases h)) (by kernel_rfl)
def wCy4 : AnsY := ⟨406, [(.slice (some 2) [(.agg [(wN 3), (wN 4)]), (.agg [(wN 5), (wN 2)]), (.agg [(wN 4), (wN 6)])] false), (.clo 388 [] [])], (wN (-1)), false⟩
theorem wCz4 : YOk T 61 wCy4 := zB_con (k := 0) (n := 60) (l := []) ((fun _ h => by cases h)) (by kernel_rfl)
def wCy5 : AnsY := ⟨267, [(.slice (some 2) [(.agg [(wN 3), (wN 4)]), (.agg [(wN 5), (wN 2)]), (.agg [(wN 4), (wN 6)])] false)], (.tuple [(wN 0), (wN 0), (wN 0)]), false⟩
theorem wCz5 : YOk T 122 wCy5 := zB_con (k := 61) (n := 60) (l := [wCy4]) (List.forall_mem_cons.2 ⟨wCz4.mono (by decide), (fun _ h => by cases h)⟩) (by kernel_rfl)
def wCy6 : AnsY := ⟨266, [(.slice (some 2) [(.agg [(wN 3), (wN 4)]), (.agg [(wN 5), (wN 2)]), (.agg [(wN 4), (wN 6)])] false)], (.tuple [(wN 12), (wN 0)]), false⟩
theorem wCz6 : YOk T 183 wCy6 := zB_con (k := 122) (n := 60) (l := [wCy5]) (List.forall_mem_cons.2 ⟨wCz5.mono (by decide), (fun _ h => by cases h)⟩) (by kernel_rfl)
def wCy7 : AnsY := ⟨337, [(.slice (some 2) [(.agg [(wN 3), (wN 4)])] false)], (wN 0), false⟩
theorem wCz7 : YOk T 61 wCy7 := zB_con (k := 0) (n := 60) (l := []) ((fun _ h => by cases h)) (by kernel_rfl)
def wCy8 : AnsY := ⟨267, [(.slice (some 2) [(.agg [(wN 3), (wN 4)])] false)], (.tuple [(wN 2), (wN 0), (wN 0)]), false⟩
theorem wCz8 : YOk T 122 wCy8 := zB_con (k := 61) (n := 60) (l := [wCy7]) (List.forall_mem_cons.2 ⟨wCz7.mono (by decide), (fun _ h => by cases h)⟩) (by kernel_rfl)
def wCy9 : AnsY := ⟨266, [(.slice (some 2) [(.agg [(wN 3), (wN 4)])] false)], (.tuple [(wN 7), (wN 0)]), false⟩
theorem wCz9 : YOk T 183 wCy9 := zB_con (k := 122) (n := 60) (l := [wCy8]) (List.forall_mem_cons.2 ⟨wCz8.mono (by decide), (fun _ h => by cases h)⟩) (by kernel_rfl)
def wCy10 : AnsY := ⟨268, [(.slice (some 2) [(.agg [(wN 3), (wN 4)]), (.agg [(wN 5), (wN 2)]), (.agg [(wN 4), (wN 6)])] false), (wN 2), (wN 2)], (.tuple [(wN 10), (wN 0)]), false⟩
theorem wCz10 : YOk T 122 wCy10 := zB_con (k := 61) (n := 60) (l := [wCy4]) (List.forall_mem_cons.2 ⟨wCz4.mono (by decide), (fun _ h => by cases h)⟩) (by kernel_rfl)
def wCy11 : AnsY := ⟨391, [(.slice (some 2) [(.agg [(wN 0), (wN 6)]), (.agg [(wN 3), (wN 10)]), (.agg [(wN 8), (wN 0)])] false), (.clo 342 [] [])], (wN (-1)), false⟩
theorem wCz11 : YOk T 61 wCy11 := zB_con (k := 0) (n := 60) (l := []) ((fun _ h => by cases h)) (by kernel_rfl)
def wCy12 : AnsY := ⟨269, [(.slice (some 2) [(.agg [(wN 3), (wN 4)]), (.agg [(wN 5), (wN 2)]), (.agg [(wN 4), (wN 6)])] false), (.slice (some 2) [(.agg [(wN 0), (wN 6)]), (.agg [(wN 3), (wN 10)]), (.agg [(wN 8), (wN 0)])] false)], (.tuple [(wN 12), (wN 0)]), false⟩
theorem wCz12 : YOk T 122 wCy12 := zB_con (k := 61) (n := 60) (l := [wCy4, wCy11]) (List.forall_mem_cons.2 ⟨wCz4.mono (by decide), List.forall_mem_cons.2 ⟨wCz11.mono (by decide), (fun _ h => by cases h)⟩⟩) (by kernel_rfl)
def wCy13 : AnsY := ⟨265, [(wI [0, 6, 3, 10, 7, 0] false)], (.slice (some 2) [(.agg [(wN 0), (wN 6)]), (.agg [(wN 3), (wN 10)]), (.agg [(wN 7), (wN 0)])] false), false⟩
theorem wCz13 : YOk T 61 wCy13 := zB_con (k := 0) (n := 60) (l := []) ((fun _ h => by cases h)) (by kernel_rfl)
def wCy14 : AnsY := ⟨391, [(.slice (some 2) [(.agg [(wN 0), (wN 6)]), (.agg [(wN 3), (wN 10)]), (.agg [(wN 7), (wN 0)])] false), (.clo 342 [] [])], (wN (-1)), false⟩
theorem wCz14 : YOk T 61 wCy14 := zB_con (k := 0) (n := 60) (l := []) ((fun _ h => by cases h)) (by kernel_rfl)
def wCy15 : AnsY := ⟨269, [(.slice (some 2) [(.agg [(wN 3), (wN 4)]), (.agg [(wN 5), (wN 2)]), (.agg [(wN 4), (wN 6)])] false), (.slice (some 2) [(.agg [(wN 0), (wN 6)]), (.agg [(wN 3), (wN 10)]), (.agg [(wN 7), (wN 0)])] false)], (.tuple [(wN 0), (wN 16)]), false⟩
theorem wCz15 : YOk T 122 wCy15 := zB_con (k := 61) (n := 60) (l := [wCy4, wCy14]) (List.forall_mem_cons.2 ⟨wCz4.mono (by decide), List.forall_mem_cons.2 ⟨wCz14.mono (by decide), (fun _ h => by cases h)⟩⟩) (by kernel_rfl)
def wCy16 : AnsY := ⟨265, [(wI [0, 5] false)], (.slice (some 2) [(.agg [(wN 0), (wN 5)])] false), false⟩
theorem wCz16 : YOk T 61 wCy16 := zB_con (k := 0) (n := 60) (l := []) ((fun _ h => by cases h)) (by kernel_rfl)
def wCy17 : AnsY := ⟨269, [(.slice (some 2) [(.agg [(wN 3), (wN 4)])] false), (.slice (some 2) [(.agg [(wN 0), (wN 5)])] false)], (.tuple [(wN 9), (wN 0)]), false⟩
theorem wCz17 : YOk T 122 wCy17 := zB_con (k := 61) (n := 60) (l := [wCy7]) (List.forall_mem_cons.2 ⟨wCz7.mono (by decide), (fun _ h => by cases h)⟩) (by kernel_rfl)
def wCy18 : AnsY := ⟨270, [(.slice (some 2) [(.agg [(wN 3), (wN 4)])] false), (.slice (some 2) [(.agg [(wN 0), (wN 5)])] false), (wN 1)], (.tuple [(wN 5), (wN 0)]), false⟩
theorem wCz18 : YOk T 183 wCy18 := zB_con (k := 122) (n := 60) (l := [wCy17]) (List.forall_mem_cons.2 ⟨wCz17.mono (by decide), (fun _ h => by cases h)⟩) (by kernel_rfl)
def wCy19 : AnsY := ⟨347, [(.slice (some 2) [(.agg [(wN 3), (wN 4)]), (.agg [(wN 5), (wN 2)]), (.agg [(wN 4), (wN 6)])] false)], (.agg [(wI [0, 1, 2] false), (wI [2, 0, 1] false), (wI [0, 0, 1] false)]), false⟩
theorem wCz19 : YOk T 61 wCy19 := zB_con (k := 0) (n := 60) (l := []) ((fun _ h => by cases h)) (by kernel_rfl)
def wCy21 : AnsY := ⟨271, [(.slice (some 2) [(.agg [(wN 3), (wN 4)]), (.agg [(wN 5), (wN 2)]), (.agg [(wN 4), (wN 6)])] false)], (.tuple [(.slice (some 2) [(.agg [(wN 0), (wN 6)]), (.agg [(wN 3), (wN 10)]), (.agg [(wN 8), (wN 0)])] false), (wN 0)]), false⟩
theorem wCz21 : YOk T 2061 wCy21 := zB_con (k := 2000) (n := 60) (l := [wCy4, wCy19, wCy20]) (List.forall_mem_cons.2 ⟨wCz4.mono (by decide), List.forall_mem_cons.2 ⟨wCz19.mono (by decide), List.forall_mem_cons.2 ⟨wCz20.mono (by decide), (fun _ h => by cases h)⟩⟩⟩) (by kernel_rfl)
def wCy22 : AnsY := ⟨273, [], (.agg [(wI [0, 1, 2] false), (wI [2, 0, 1] false), (wI [0, 0, 1] false)]), false⟩
theorem wCz22 : YOk T 61 wCy22 := zB_con (k := 0) (n := 60) (l := []) ((fun _ h => by cases h)) (by kernel_rfl)
def wCy23 : AnsY := ⟨274, [], (.agg [(wI [0, 1] false), (wI [1, 0] false), (wI [1, 0] false)]), false⟩
theorem wCz23 : YOk T 61 wCy23 := zB_con (k := 0) (n := 60) (l := []) ((fun _ h => by cases h)) (by kernel_rfl)
def wCy24 : AnsY := ⟨406, [(.slice (some 2) [(.agg [(wN 1), (wN 1)]), (.agg [(wN 1), (wN 1)])] false), (.clo 388 [] [])], (wN (-1)), false⟩
theorem wCz24 : YOk T 61 wCy24 := zB_con (k := 0) (n := 60) (l := []) ((fun _ h => by cases h)) (by kernel_rfl)
def wCy25 : AnsY := ⟨397, [(.slice (some 2) [(.agg [(wN 1), (wN 1)]), (.agg [(wN 1), (wN 1)])] false), (.agg [(wI [0, 1] false), (wI [1, 0] false), (wI [1, 0] false)])], (wN 0), false⟩
theorem wCz25 : YOk T 122 wCy25 := zB_con (k := 61) (n := 60) (l := [wCy24]) (List.forall_mem_cons.2 ⟨wCz24.mono (by decide), (fun _ h => by cases h)⟩) (by kernel_rfl)
def wCy26 : AnsY := ⟨272, [(.slice (some 2) [(.agg [(wN 1), (wN 1)]), (.agg [(wN 1), (wN 1)])] false), (.agg [(wI [0, 1] false), (wI [1, 0] false), (wI [1, 0] false)])], (.tuple [(.slice (some 2) [] false), (wN 13)]), false⟩
theorem wCz26 : YOk T 183 wCy26 := zB_con (k := 122) (n := 60) (l := [wCy25]) (List.forall_mem_cons.2 ⟨wCz25.mono (by decide), (fun _ h => by cases h)⟩) (by kernel_rfl)
def wCy27 : AnsY := ⟨276, [(wI [0, 2, 3, 1] false)], (wI [0, 2, 3, 1] false), false⟩
theorem wCz27 : YOk T 61 wCy27 := zB_con (k := 0) (n := 60) (l := []) ((fun _ h => by cases h)) (by kernel_rfl)
def wCy28 : AnsY := ⟨348, [(.slice (some 2) [(.agg [(wN 1), (wN 1)]), (.agg [(wN 1), (wN 1)])] false), (.agg [(wI [0, 1] false), (wI [1, 0] false), (wI [1, 0] false)])], (.tuple [(.ptr [(wI [0, 1] false), (wI [1, 0] false), (wI [1, 0] false), (.fmap [] [])] 0), (wN 0)]), false⟩
theorem wCz28 : YOk T 183 wCy28 := zB_con (k := 122) (n := 60) (l := [wCy25]) (List.forall_mem_cons.2 ⟨wCz25.mono (by decide), (fun _ h => by cases h)⟩) (by kernel_rfl)
def wCy29 : AnsY := ⟨176, [(wI [0, 2, 3, 1] false), (.clo 349 [] [(.ptr [(.slice (some 2) [(.agg [(wN 1), (wN 1)]), (.agg [(wN 1), (wN 1)])] false)] 0)])], (wN (-1)), false⟩
theorem wCz29 : YOk T 61 wCy29 := zB_con (k := 0) (n := 60) (l := []) ((fun _ h => by cases h)) (by kernel_rfl)
def wCy30 : AnsY := ⟨275, [(.slice (some 2) [(.agg [(wN 1), (wN 1)]), (.agg [(wN 1), (wN 1)])] false), (.agg [(wI [0, 1] false), (wI [1, 0] false), (wI [1, 0] false)]), (wI [0, 2, 3, 1] false)], (wN 0), false⟩
theorem wCz30 : YOk T 244 wCy30 := zB_con (k := 183) (n := 60) (l := [wCy28, wCy29]) (List.forall_mem_cons.2 ⟨wCz28.mono (by decide), List.forall_mem_cons.2 ⟨wCz29.mono (by decide), (fun _ h => by cases h)⟩⟩) (by kernel_rfl)
def wCy31 : AnsY := ⟨276, [(wI [0, 2] false)], (wI [0, 2] false), false⟩
theorem wCz31 : YOk T 61 wCy31 := zB_con (k := 0) (n := 60) (l := []) ((fun _ h => by cases h)) (by kernel_rfl)
def wCy32 : AnsY := ⟨176, [(wI [0, 2] false), (.clo 349 [] [(.ptr [(.slice (some 2) [(.agg [(wN 1), (wN 1)]), (.agg [(wN 1), (wN 1)])] false)] 0)])], (wN (-1)), false⟩
theorem wCz32 : YOk T 61 wCy32 := zB_con (k := 0) (n := 60) (l := []) ((fun _ h => by cases h)) (by kernel_rfl)
def wCy33 : AnsY := ⟨275, [(.slice (some 2) [(.agg [(wN 1), (wN 1)]), (.agg [(wN 1), (wN 1)])] false), (.agg [(wI [0, 1] false), (wI [1, 0] false), (wI [1, 0] false)]), (wI [0, 2] false)], (wN 14), false⟩
theorem wCz33 : YOk T 244 wCy33 := zB_con (k := 183) (n := 60) (l := [wCy28, wCy32]) (List.forall_mem_cons.2 ⟨wCz28.mono (by decide), List.forall_mem_cons.2 ⟨wCz32.mono (by decide), (fun _ h => by cases h)⟩⟩) (by kernel_rfl)
def wCy34 : AnsY := ⟨351, [(.ptr [(wI [0, 1] false), (wI [1, 0] false), (wI [1, 0] false), (.fmap [] [])] 0)], (wI [2, 3, 1, 0] false), false⟩
theorem wCz34 : YOk T 61 wCy34 := zB_con (k := 0) (n := 60) (l := []) ((fun _ h => by cases h)) (by kernel_rfl)
def wCy35 : AnsY := ⟨277, [(.slice (some 2) [(.agg [(wN 1), (wN 1)]), (.agg [(wN 1), (wN 1)])] false), (.agg [(wI [0, 1] false), (wI [1, 0] false), (wI [1, 0] false)])], (.tuple [(wI [2, 3, 1, 0] false), (wN 0)]), false⟩
theorem wCz35 : YOk T 244 wCy35 := zB_con (k := 183) (n := 60) (l := [wCy28, wCy34]) (List.forall_mem_cons.2 ⟨wCz28.mono (by decide), List.forall_mem_cons.2 ⟨wCz34.mono (by decide), (fun _ h => by cases h)⟩⟩) (by kernel_rfl)
def wCy36 : AnsY := ⟨397, [(.slice (some 2) [(.agg [(wN 3), (wN 4)]), (.agg [(wN 5), (wN 2)]), (.agg [(wN 4), (wN 6)])] false), (.agg [(wI [0, 1, 2] false), (wI [2, 0, 1] false), (wI [0, 0, 1] false)])], (wN 0), false⟩
theorem wCz36 : YOk T 122 wCy36 := zB_con (k := 61) (n := 60) (l := [wCy4]) (List.forall_mem_cons.2 ⟨wCz4.mono (by decide), (fun _ h => by cases h)⟩) (by kernel_rfl)
def wCy37 : AnsY := ⟨348, [(.slice (some 2) [(.agg [(wN 3), (wN 4)]), (.agg [(wN 5), (wN 2)]), (.agg [(wN 4), (wN 6)])] false), (.agg [(wI [0, 1, 2] false), (wI [2, 0, 1] false), (wI [0, 0, 1] false)])], (.tuple [(.ptr [(wI [0, 1, 2] false), (wI [2, 0, 1] false), (wI [0, 0, 1] false), (.fmap [(.agg [(wN 0)]), (.agg [(wN 2)]), (.agg [(wN 5)]), (.agg [(wN 1)]), (.agg [(wN 3)]), (.agg [(wN 4)])] [(wN 3), (wN 8), (wN 6), (wN 10), (wN 12), (wN 12)])] 0), (wN 0)]), false⟩
theorem wCz37 : YOk T 183 wCy37 := zB_con (k := 122) (n := 60) (l := [wCy36]) (List.forall_mem_cons.2 ⟨wCz36.mono (by decide), (fun _ h => by cases h)⟩) (by kernel_rfl)
def wCy38 : AnsY := ⟨277, [(.slice (some 2) [(.agg [(wN 3), (wN 4)]), (.agg [(wN 5), (wN 2)]), (.agg [(wN 4), (wN 6)])] false), (.agg [(wI [0, 1, 2] false), (wI [2, 0, 1] false), (wI [0, 0, 1] false)])], (.tuple [(wI [] false), (wN 5)]), false⟩
theorem wCz38 : YOk T 244 wCy38 := zB_con (k := 183) (n := 60) (l := [wCy37]) (List.forall_mem_cons.2 ⟨wCz37.mono (by decide), (fun _ h => by cases h)⟩) (by kernel_rfl)
def wCy39 : AnsY := ⟨268, [(.slice (some 2) [(.agg [(wN 3), (wN 4)]), (.agg [(wN 5), (wN 2)]), (.agg [(wN 4), (wN 6)])] false), (wN 3), (wN 0)], (.tuple [(wN 0), (wN 2)]), false⟩
theorem wCz39 : YOk T 122 wCy39 := zB_con (k := 61) (n := 60) (l := [wCy4]) (List.forall_mem_cons.2 ⟨wCz4.mono (by decide), (fun _ h => by cases h)⟩) (by kernel_rfl)
def wCy40 : AnsY := ⟨355, [(.slice (some 2) [(.agg [(wN 3), (wN 4)]), (.agg [(wN 5), (wN 2)]), (.agg [(wN 4), (wN 6)])] false), (.slice (some 2) [(.agg [(wN 0), (wN 6)]), (.agg [(wN 3), (wN 10)]), (.agg [(wN 8), (wN 0)])] false)], (wN 12), false⟩
theorem wCz40 : YOk T 61 wCy40 := zB_con (k := 0) (n := 60) (l := []) ((fun _ h => by cases h)) (by kernel_rfl)
def wCy41 : AnsY := ⟨278, [(.slice (some 2) [(.agg [(wN 3), (wN 4)]), (.agg [(wN 5), (wN 2)]), (.agg [(wN 4), (wN 6)])] false), (.slice (some 2) [(.agg [(wN 0), (wN 6)]), (.agg [(wN 3), (wN 10)]), (.agg [(wN 8), (wN 0)])] false)], (.tuple [(wN 12), (wN 0)]), false⟩
theorem wCz41 : YOk T 122 wCy41 := zB_con (k := 61) (n := 60) (l := [wCy40]) (List.forall_mem_cons.2 ⟨wCz40.mono (by decide), (fun _ h => by cases h)⟩) (by kernel_rfl)
def wCy42 : AnsY := ⟨279, [(.slice (some 2) [(.agg [(wN 0), (wN 6)]), (.agg [(wN 3), (wN 10)]), (.agg [(wN 8), (wN 0)])] false), (.slice (some 2) [(.agg [(wN 0), (wN 6)]), (.agg [(wN 3), (wN 10)]), (.agg [(wN 8), (wN 0)])] false)], (.bool true), false⟩
theorem wCz42 : YOk T 61 wCy42 := zB_con (k := 0) (n := 60) (l := []) ((fun _ h => by cases h)) (by kernel_rfl)
def wCy43 : AnsY := ⟨280, [(.slice (some 2) [(.agg [(wN 1), (wN 1)]), (.agg [(wN 1), (wN 1)])] false), (.agg [(wI [0, 1] false), (wI [1, 0] false), (wI [1, 0] false)]), (wI [2, 3, 1, 0] false)], (wN 0), false⟩
theorem wCz43 : YOk T 61 wCy43 := zB_con (k := 0) (n := 60) (l := []) ((fun _ h => by cases h)) (by kernel_rfl)
def wCy44 : AnsY := ⟨198, [], (.bool true), false⟩
theorem wCz44 : YOk T 2122 wCy44 := zB_con (k := 2061) (n := 60) (l := [wCy0, wCy1, wCy2, wCy3, wCy6, wCy9, wCy8, wCy10, wCy12, wCy13, wCy15, wCy16, wCy18, wCy21, wCy22, wCy20, wCy23, wCy26, wCy27, wCy30, wCy31, wCy33, wCy35, wCy38, wCy39, wCy41, wCy42, wCy43]) (List.forall_mem_cons.2 ⟨wCz0.mono (by decide), List.forall_mem_cons.2 ⟨wCz1.mono (by decide), List.forall_mem_cons.2 ⟨wCz2.mono (by decide), List.forall_mem_cons.2 ⟨wCz3.mono (by decide), List.forall_mem_cons.2 ⟨wCz6.mono (by decide), List.forall_mem_cons.2 ⟨wCz9.mono (by decide), List.forall_mem_cons.2 ⟨wCz8.mono (by decide), List.forall_mem_cons.2 ⟨wCz10.mono (by decide), List.forall_mem_cons.2 ⟨wCz12.mono (by decide), List.forall_mem_cons.2 ⟨wCz13.mono (by decide), List.forall_mem_cons.2 ⟨wCz15.mono (by decide), List.forall_mem_cons.2 ⟨wCz16.mono (by decide), List.forall_mem_cons.2 ⟨wCz18.mono (by decide), List.forall_mem_cons.2 ⟨wCz21.mono (by decide), List.forall_mem_cons.2 ⟨wCz22.mono (by decide), List.forall_mem_cons.2 ⟨wCz20.mono (by decide), List.forall_mem_cons.2 ⟨wCz23.mono (by decide), List.forall_mem_cons.2 ⟨wCz26.mono (by decide), List.forall_mem_cons.2 ⟨wCz27.mono (by decide), List.forall_mem_cons.2 ⟨wCz30.mono (by decide), List.forall_mem_cons.2 ⟨wCz31.mono (by decide), List.forall_mem_cons.2 ⟨wCz33.mono (by decide), List.forall_mem_cons.2 ⟨wCz35.mono (by decide), List.forall_mem_cons.2 ⟨wCz38.mono (by decide), List.forall_mem_cons.2 ⟨wCz39.mono (by decide), List.forall_mem_cons.2 ⟨wCz41.mono (by decide), List.forall_mem_cons.2 ⟨wCz42.mono (by decide), List.forall_mem_cons.2 ⟨wCz43.mono (by decide), (fun _ h => by cases h)⟩⟩⟩⟩⟩⟩⟩⟩⟩⟩⟩⟩⟩⟩⟩⟩⟩⟩⟩⟩⟩⟩⟩⟩⟩⟩⟩⟩) (by kernel_rfl)
theorem wCworks : YOk T 2122 ⟨198, [], .bool true, false⟩ := wCz44
end Go.Ev.YtgehhippjhealaaGreatC
