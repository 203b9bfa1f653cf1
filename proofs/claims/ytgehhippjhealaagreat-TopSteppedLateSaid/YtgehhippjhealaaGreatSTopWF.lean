/- The works of a layer's examples, each call reckoned by the kernel, and joined. No condition but those that stand in each. -/
import Derived.Test.YtgehhippjhealaaGreatSTopW
set_option linter.unusedSimpArgs false
set_option linter.unusedVariables false
set_option maxRecDepth 100000
namespace Go.Ev.YtgehhippjhealaaGreatC
open Go Go.Proofs
def wFy0 : AnsY := ⟨75, [], (wI [1, 2, 0, 4, 3, 5] false), false⟩
theorem wFz0 : YOk T 61 wFy0 := zB_con (k := 0) (n := 60) (l := []) ((fun _ h => by cases h)) (by kernel_rfl)
def wFy1 : AnsY := ⟨76, [], (wI [1, (-1), (-1), 3] false), false⟩
theorem wFz1 : YOk T 61 wFy1 := zB_con (k := 0) (n := 60) (l := []) ((fun _ h => by cases h)) (by kernel_rfl)
def wFy2 : AnsY := ⟨119, [(wI [1, 2, 0, 4, 3, 5] false), (wN 0)], (wN 0), false⟩
theorem wFz2 : YOk T 61 wFy2 := zB_con (k := 0) (n := 60) (l := []) ((fun _ h => by cases h)) (by kernel_rfl)
def wFy3 : AnsY := ⟨37, [(.clo 94 [] [(.ptr [(.ptr [(wI [1, 2, 0, 4, 3, 5] false)] 0)] 0)])], (.slice none [(wI [0, 1, 2] false), (wI [3, 4] false), (wI [5] false)] false), false⟩
theorem wFz3 : YOk T 61 wFy3 := zB_con (k := 0) (n := 60) (l := []) ((fun _ h => by cases h)) (by kernel_rfl)
def wFy4 : AnsY := ⟨9, [(wI [1, 2, 0, 4, 3, 5] false)], (.tuple [(.slice none [(wI [0, 1, 2] false), (wI [3, 4] false), (wI [5] false)] false), (wN 0)]), false⟩
theorem wFz4 : YOk T 122 wFy4 := zB_con (k := 61) (n := 60) (l := [wFy2, wFy3]) (List.forall_mem_cons.2 ⟨wFz2.mono (by decide), List.forall_mem_cons.2 ⟨wFz3.mono (by decide), (fun _ h => by cases h)⟩⟩) (by kernel_rfl)
def wFy5 : AnsY := ⟨10, [(wI [1, 2, 0, 4, 3, 5] false)], (.tuple [(.slice (some 2) [(.agg [(wN 0), (wN 1)]), (.agg [(wN 0), (wN 2)]), (.agg [(wN 3), (wN 4)])] false), (wN 0)]), false⟩
theorem wFz5 : YOk T 122 wFy5 := zB_con (k := 61) (n := 60) (l := [wFy2]) (List.forall_mem_cons.2 ⟨wFz2.mono (by decide), (fun _ h => by cases h)⟩) (by kernel_rfl)
def wFy6 : AnsY := ⟨78, [(.slice (some 2) [(.agg [(wN 0), (wN 0)])] false)], (.slice (some 2) [(.agg [(wN 0), (wN 0)])] false), false⟩
theorem wFz6 : YOk T 61 wFy6 := zB_con (k := 0) (n := 60) (l := []) ((fun _ h => by cases h)) (by kernel_rfl)
def wFy7 : AnsY := ⟨77, [(wI [1, 2, 0, 4, 3, 5] false), (.slice (some 2) [(.agg [(wN 0), (wN 0)])] false)], (.tuple [(wI [] false), (wN 15)]), false⟩
theorem wFz7 : YOk T 122 wFy7 := zB_con (k := 61) (n := 60) (l := [wFy2]) (List.forall_mem_cons.2 ⟨wFz2.mono (by decide), (fun _ h => by cases h)⟩) (by kernel_rfl)
def wFy8 : AnsY := ⟨21, [(wI [1, 2, 0, 4, 3, 5] false)], (.tuple [(.slice (some 2) [(.agg [(wN 0), (wN 2)]), (.agg [(wN 1), (wN 2)]), (.agg [(wN 3), (wN 4)])] false), (wN 0)]), false⟩
theorem wFz8 : YOk T 122 wFy8 := zB_con (k := 61) (n := 60) (l := [wFy2]) (List.forall_mem_cons.2 ⟨wFz2.mono (by decide), (fun _ h => by cases h)⟩) (by kernel_rfl)
def wFy9 : AnsY := ⟨20, [(wI [1, 2, 0, 4, 3, 5] false)], (.tuple [(wI [1, 0, 3] false), (wN 0)]), false⟩
theorem wFz9 : YOk T 122 wFy9 := zB_con (k := 61) (n := 60) (l := [wFy2]) (List.forall_mem_cons.2 ⟨wFz2.mono (by decide), (fun _ h => by cases h)⟩) (by kernel_rfl)
def wFy10 : AnsY := ⟨71, [(.ptr [(wI [1, 2, 0, 4, 3, 5] false)] 0)], (wN 6), false⟩
theorem wFz10 : YOk T 61 wFy10 := zB_con (k := 0) (n := 60) (l := []) ((fun _ h => by cases h)) (by kernel_rfl)
def wFy11 : AnsY := ⟨29, [(wI [1, 2, 0, 4, 3, 5] false)], (.tuple [(wN 6), (wN 0)]), false⟩
theorem wFz11 : YOk T 122 wFy11 := zB_con (k := 61) (n := 60) (l := [wFy2, wFy10]) (List.forall_mem_cons.2 ⟨wFz2.mono (by decide), List.forall_mem_cons.2 ⟨wFz10.mono (by decide), (fun _ h => by cases h)⟩⟩) (by kernel_rfl)
def wFy12 : AnsY := ⟨30, [(wI [1, 2, 0, 4, 3, 5] false), (wN 2)], (.tuple [(wI [2, 0, 1, 3, 4, 5] false), (wN 0)]), false⟩
theorem wFz12 : YOk T 122 wFy12 := zB_con (k := 61) (n := 60) (l := [wFy2]) (List.forall_mem_cons.2 ⟨wFz2.mono (by decide), (fun _ h => by cases h)⟩) (by kernel_rfl)
def wFy13 : AnsY := ⟨30, [(wI [1, 2, 0, 4, 3, 5] false), (wN (-1))], (.tuple [(wI [] false), (wN 2)]), false⟩
theorem wFz13 : YOk T 122 wFy13 := zB_con (k := 61) (n := 60) (l := [wFy2]) (List.forall_mem_cons.2 ⟨wFz2.mono (by decide), (fun _ h => by cases h)⟩) (by kernel_rfl)
def wFy14 : AnsY := ⟨80, [(wI [1, 0, 2] false)], (wI [1, 0, 2] false), false⟩
theorem wFz14 : YOk T 61 wFy14 := zB_con (k := 0) (n := 60) (l := []) ((fun _ h => by cases h)) (by kernel_rfl)
def wFy15 : AnsY := ⟨80, [(wI [0, 2, 1] false)], (wI [0, 2, 1] false), false⟩
theorem wFz15 : YOk T 61 wFy15 := zB_con (k := 0) (n := 60) (l := []) ((fun _ h => by cases h)) (by kernel_rfl)
def wFy16 : AnsY := ⟨119, [(wI [1, 0, 2] false), (wN 0)], (wN 0), false⟩
theorem wFz16 : YOk T 61 wFy16 := zB_con (k := 0) (n := 60) (l := []) ((fun _ h => by cases h)) (by kernel_rfl)
def wFy17 : AnsY := ⟨119, [(wI [0, 2, 1] false), (wN 0)], (wN 0), false⟩
theorem wFz17 : YOk T 61 wFy17 := zB_con (k := 0) (n := 60) (l := []) ((fun _ h => by cases h)) (by kernel_rfl)
def wFy18 : AnsY := ⟨162, [(wI [1, 0, 2] false), (wI [0, 2, 1] false)], (.tuple [(.ptr [(wI [1, 0, 2] false)] 0), (.ptr [(wI [0, 2, 1] false)] 0), (wN 0)]), false⟩
theorem wFz18 : YOk T 122 wFy18 := zB_con (k := 61) (n := 60) (l := [wFy16, wFy17]) (List.forall_mem_cons.2 ⟨wFz16.mono (by decide), List.forall_mem_cons.2 ⟨wFz17.mono (by decide), (fun _ h => by cases h)⟩⟩) (by kernel_rfl)
def wFy19 : AnsY := ⟨79, [(wI [1, 0, 2] false), (wI [0, 2, 1] false)], (.tuple [(wI [2, 0, 1] false), (wN 0)]), false⟩
theorem wFz19 : YOk T 183 wFy19 := zB_con (k := 122) (n := 60) (l := [wFy18]) (List.forall_mem_cons.2 ⟨wFz18.mono (by decide), (fun _ h => by cases h)⟩) (by kernel_rfl)
def wFy20 : AnsY := ⟨80, [(wI [0, 1] false)], (wI [0, 1] false), false⟩
theorem wFz20 : YOk T 61 wFy20 := zB_con (k := 0) (n := 60) (l := []) ((fun _ h => by cases h)) (by kernel_rfl)
def wFy21 : AnsY := ⟨119, [(wI [0, 1] false), (wN 0)], (wN 0), false⟩
theorem wFz21 : YOk T 61 wFy21 := zB_con (k := 0) (n := 60) (l := []) ((fun _ h => by cases h)) (by kernel_rfl)
def wFy22 : AnsY := ⟨162, [(wI [1, 2, 0, 4, 3, 5] false), (wI [0, 1] false)], (.tuple [.nilptr, .nilptr, (wN 15)]), false⟩
theorem wFz22 : YOk T 122 wFy22 := zB_con (k := 61) (n := 60) (l := [wFy2, wFy21]) (List.forall_mem_cons.2 ⟨wFz2.mono (by decide), List.forall_mem_cons.2 ⟨wFz21.mono (by decide), (fun _ h => by cases h)⟩⟩) (by kernel_rfl)
def wFy23 : AnsY := ⟨79, [(wI [1, 2, 0, 4, 3, 5] false), (wI [0, 1] false)], (.tuple [(wI [] false), (wN 15)]), false⟩
theorem wFz23 : YOk T 183 wFy23 := zB_con (k := 122) (n := 60) (l := [wFy22]) (List.forall_mem_cons.2 ⟨wFz22.mono (by decide), (fun _ h => by cases h)⟩) (by kernel_rfl)
def wFy24 : AnsY := ⟨164, [(.ptr [(wI [1, 0, 2] false)] 0), (.ptr [(wI [0, 2, 1] false)] 0)], (wI [1, 2, 0] false), false⟩
theorem wFz24 : YOk T 61 wFy24 := zB_con (k := 0) (n := 60) (l := []) ((fun _ h => by cases h)) (by kernel_rfl)
def wFy25 : AnsY := ⟨81, [(wI [1, 0, 2] false), (wI [0, 2, 1] false)], (.tuple [(wI [1, 2, 0] false), (wN 0)]), false⟩
theorem wFz25 : YOk T 183 wFy25 := zB_con (k := 122) (n := 60) (l := [wFy18, wFy24]) (List.forall_mem_cons.2 ⟨wFz18.mono (by decide), List.forall_mem_cons.2 ⟨wFz24.mono (by decide), (fun _ h => by cases h)⟩⟩) (by kernel_rfl)
def wFy26 : AnsY := ⟨80, [(wI [1, 2, 0] false)], (wI [1, 2, 0] false), false⟩
theorem wFz26 : YOk T 61 wFy26 := zB_con (k := 0) (n := 60) (l := []) ((fun _ h => by cases h)) (by kernel_rfl)
def wFy27 : AnsY := ⟨119, [(wI [1, 2, 0] false), (wN 0)], (wN 0), false⟩
theorem wFz27 : YOk T 61 wFy27 := zB_con (k := 0) (n := 60) (l := []) ((fun _ h => by cases h)) (by kernel_rfl)
def wFy28 : AnsY := ⟨162, [(wI [1, 0, 2] false), (wI [1, 2, 0] false)], (.tuple [(.ptr [(wI [1, 0, 2] false)] 0), (.ptr [(wI [1, 2, 0] false)] 0), (wN 0)]), false⟩
theorem wFz28 : YOk T 122 wFy28 := zB_con (k := 61) (n := 60) (l := [wFy16, wFy27]) (List.forall_mem_cons.2 ⟨wFz16.mono (by decide), List.forall_mem_cons.2 ⟨wFz27.mono (by decide), (fun _ h => by cases h)⟩⟩) (by kernel_rfl)
def wFy29 : AnsY := ⟨81, [(wI [1, 0, 2] false), (wI [1, 2, 0] false)], (.tuple [(wI [] false), (wN 20)]), false⟩
theorem wFz29 : YOk T 183 wFy29 := zB_con (k := 122) (n := 60) (l := [wFy28]) (List.forall_mem_cons.2 ⟨wFz28.mono (by decide), (fun _ h => by cases h)⟩) (by kernel_rfl)
def wFy30 : AnsY := ⟨80, [(wI [1, 0, 3, 2] false)], (wI [1, 0, 3, 2] false), false⟩
theorem wFz30 : YOk T 61 wFy30 := zB_con (k := 0) (n := 60) (l := []) ((fun _ h => by cases h)) (by kernel_rfl)
def wFy31 : AnsY := ⟨119, [(wI [1, 0, 3, 2] false), (wN 0)], (wN 0), false⟩
theorem wFz31 : YOk T 61 wFy31 := zB_con (k := 0) (n := 60) (l := []) ((fun _ h => by cases h)) (by kernel_rfl)
def wFy32 : AnsY := ⟨163, [(.ptr [(wI [1, 0, 3, 2] false)] 0)], (.agg [(wN 0), (wN 0), (wN 2), (wN 0), (wN 0), (wN 0), (wN 0), (wN 0), (wN 0), (wN 0), (wN 0)]), false⟩
theorem wFz32 : YOk T 61 wFy32 := zB_con (k := 0) (n := 60) (l := []) ((fun _ h => by cases h)) (by kernel_rfl)
def wFy33 : AnsY := ⟨55, [(wI [0, 1, 2, 3] false), (.clo 218 [] [(.ptr [(wI [(-1), (-1), (-1), (-1)] false)] 0), (.ptr [(.ptr [(wI [1, 0, 3, 2] false)] 0)] 0), (.ptr [(wI [0, 1] false)] 0)])], (.tuple [(wN 2), (.bool true)]), false⟩
theorem wFz33 : YOk T 61 wFy33 := zB_con (k := 0) (n := 60) (l := []) ((fun _ h => by cases h)) (by kernel_rfl)
def wFy34 : AnsY := ⟨82, [(wI [1, 0, 3, 2] false)], (.tuple [(wI [2, 3, 1, 0] false), (wN 0)]), false⟩
theorem wFz34 : YOk T 122 wFy34 := zB_con (k := 61) (n := 60) (l := [wFy31, wFy32, wFy33]) (List.forall_mem_cons.2 ⟨wFz31.mono (by decide), List.forall_mem_cons.2 ⟨wFz32.mono (by decide), List.forall_mem_cons.2 ⟨wFz33.mono (by decide), (fun _ h => by cases h)⟩⟩⟩) (by kernel_rfl)
def wFy35 : AnsY := ⟨163, [(.ptr [(wI [1, 2, 0, 4, 3, 5] false)] 0)], (.agg [(wN 0), (wN 1), (wN 1), (wN 1), (wN 0), (wN 0), (wN 0), (wN 0), (wN 0), (wN 0), (wN 0)]), false⟩
theorem wFz35 : YOk T 61 wFy35 := zB_con (k := 0) (n := 60) (l := []) ((fun _ h => by cases h)) (by kernel_rfl)
def wFy36 : AnsY := ⟨82, [(wI [1, 2, 0, 4, 3, 5] false)], (.tuple [(wI [] false), (wN 20)]), false⟩
theorem wFz36 : YOk T 122 wFy36 := zB_con (k := 61) (n := 60) (l := [wFy2, wFy35]) (List.forall_mem_cons.2 ⟨wFz2.mono (by decide), List.forall_mem_cons.2 ⟨wFz35.mono (by decide), (fun _ h => by cases h)⟩⟩) (by kernel_rfl)
def wFy37 : AnsY := ⟨83, [(wI [1, 2, 0, 4, 3, 5] false)], (.tuple [(wN 2), (wN 0)]), false⟩
theorem wFz37 : YOk T 122 wFy37 := zB_con (k := 61) (n := 60) (l := [wFy2, wFy35]) (List.forall_mem_cons.2 ⟨wFz2.mono (by decide), List.forall_mem_cons.2 ⟨wFz35.mono (by decide), (fun _ h => by cases h)⟩⟩) (by kernel_rfl)
def wFy38 : AnsY := ⟨84, [(wI [1, 2, 0, 4, 3, 5] false), (wN 3)], (wN 14), false⟩
theorem wFz38 : YOk T 122 wFy38 := zB_con (k := 61) (n := 60) (l := [wFy2]) (List.forall_mem_cons.2 ⟨wFz2.mono (by decide), (fun _ h => by cases h)⟩) (by kernel_rfl)
def wFy39 : AnsY := ⟨119, [(wI [1, (-1), (-1), 3] false), (wN (-1))], (wN 0), false⟩
theorem wFz39 : YOk T 61 wFy39 := zB_con (k := 0) (n := 60) (l := []) ((fun _ h => by cases h)) (by kernel_rfl)
def wFy40 : AnsY := ⟨85, [(wI [1, (-1), (-1), 3] false)], (.tuple [(wI [1, 0, 2, 3] false), (wN 0)]), false⟩
theorem wFz40 : YOk T 122 wFy40 := zB_con (k := 61) (n := 60) (l := [wFy39]) (List.forall_mem_cons.2 ⟨wFz39.mono (by decide), (fun _ h => by cases h)⟩) (by kernel_rfl)
def wFy41 : AnsY := ⟨86, [(wI [1, (-1), (-1), 3] false)], (.tuple [(.agg [(wN 1), (wN 2)]), (wN 0)]), false⟩
theorem wFz41 : YOk T 122 wFy41 := zB_con (k := 61) (n := 60) (l := [wFy39]) (List.forall_mem_cons.2 ⟨wFz39.mono (by decide), (fun _ h => by cases h)⟩) (by kernel_rfl)
def wFy42 : AnsY := ⟨87, [(wI [1, (-1), (-1), 3] false)], (.tuple [(wN 2), (wN 0)]), false⟩
theorem wFz42 : YOk T 122 wFy42 := zB_con (k := 61) (n := 60) (l := [wFy39]) (List.forall_mem_cons.2 ⟨wFz39.mono (by decide), (fun _ h => by cases h)⟩) (by kernel_rfl)
def wFy43 : AnsY := ⟨80, [(wI [1, (-1), 1] false)], (wI [1, (-1), 1] false), false⟩
theorem wFz43 : YOk T 61 wFy43 := zB_con (k := 0) (n := 60) (l := []) ((fun _ h => by cases h)) (by kernel_rfl)
def wFy44 : AnsY := ⟨119, [(wI [1, (-1), 1] false), (wN (-1))], (wN 11), false⟩
theorem wFz44 : YOk T 61 wFy44 := zB_con (k := 0) (n := 60) (l := []) ((fun _ h => by cases h)) (by kernel_rfl)
def wFy45 : AnsY := ⟨88, [(wI [1, (-1), 1] false)], (wN 11), false⟩
theorem wFz45 : YOk T 122 wFy45 := zB_con (k := 61) (n := 60) (l := [wFy44]) (List.forall_mem_cons.2 ⟨wFz44.mono (by decide), (fun _ h => by cases h)⟩) (by kernel_rfl)
def wFy46 : AnsY := ⟨80, [(wI [0, 1, 2] false)], (wI [0, 1, 2] false), false⟩
theorem wFz46 : YOk T 61 wFy46 := zB_con (k := 0) (n := 60) (l := []) ((fun _ h => by cases h)) (by kernel_rfl)
def wFy47 : AnsY := ⟨80, [(wI [3, 4] false)], (wI [3, 4] false), false⟩
theorem wFz47 : YOk T 61 wFy47 := zB_con (k := 0) (n := 60) (l := []) ((fun _ h => by cases h)) (by kernel_rfl)
def wFy48 : AnsY := ⟨80, [(wI [5] false)], (wI [5] false), false⟩
theorem wFz48 : YOk T 61 wFy48 := zB_con (k := 0) (n := 60) (l := []) ((fun _ h => by cases h)) (by kernel_rfl)
def wFy49 : AnsY := ⟨89, [(.slice none [(wI [0, 1, 2] false), (wI [3, 4] false), (wI [5] false)] false), (.slice none [(wI [0, 1, 2] false), (wI [3, 4] false), (wI [5] false)] false)], (.bool true), false⟩
theorem wFz49 : YOk T 61 wFy49 := zB_con (k := 0) (n := 60) (l := []) ((fun _ h => by cases h)) (by kernel_rfl)
def wFy50 : AnsY := ⟨78, [(.slice (some 2) [(.agg [(wN 0), (wN 1)]), (.agg [(wN 0), (wN 2)]), (.agg [(wN 3), (wN 4)])] false)], (.slice (some 2) [(.agg [(wN 0), (wN 1)]), (.agg [(wN 0), (wN 2)]), (.agg [(wN 3), (wN 4)])] false), false⟩
theorem wFz50 : YOk T 61 wFy50 := zB_con (k := 0) (n := 60) (l := []) ((fun _ h => by cases h)) (by kernel_rfl)
def wFy51 : AnsY := ⟨91, [(.slice (some 2) [(.agg [(wN 0), (wN 1)]), (.agg [(wN 0), (wN 2)]), (.agg [(wN 3), (wN 4)])] false), (.slice (some 2) [(.agg [(wN 0), (wN 1)]), (.agg [(wN 0), (wN 2)]), (.agg [(wN 3), (wN 4)])] false)], (.bool true), false⟩
theorem wFz51 : YOk T 61 wFy51 := zB_con (k := 0) (n := 60) (l := []) ((fun _ h => by cases h)) (by kernel_rfl)
def wFy52 : AnsY := ⟨78, [(.slice (some 2) [(.agg [(wN 0), (wN 2)]), (.agg [(wN 1), (wN 2)]), (.agg [(wN 3), (wN 4)])] false)], (.slice (some 2) [(.agg [(wN 0), (wN 2)]), (.agg [(wN 1), (wN 2)]), (.agg [(wN 3), (wN 4)])] false), false⟩
theorem wFz52 : YOk T 61 wFy52 := zB_con (k := 0) (n := 60) (l := []) ((fun _ h => by cases h)) (by kernel_rfl)
def wFy53 : AnsY := ⟨91, [(.slice (some 2) [(.agg [(wN 0), (wN 2)]), (.agg [(wN 1), (wN 2)]), (.agg [(wN 3), (wN 4)])] false), (.slice (some 2) [(.agg [(wN 0), (wN 2)]), (.agg [(wN 1), (wN 2)]), (.agg [(wN 3), (wN 4)])] false)], (.bool true), false⟩
theorem wFz53 : YOk T 61 wFy53 := zB_con (k := 0) (n := 60) (l := []) ((fun _ h => by cases h)) (by kernel_rfl)
def wFy54 : AnsY := ⟨80, [(wI [1, 0, 3] false)], (wI [1, 0, 3] false), false⟩
theorem wFz54 : YOk T 61 wFy54 := zB_con (k := 0) (n := 60) (l := []) ((fun _ h => by cases h)) (by kernel_rfl)
def wFy55 : AnsY := ⟨14, [(wI [1, 0, 3] false), (wI [1, 0, 3] false)], (.bool true), false⟩
theorem wFz55 : YOk T 61 wFy55 := zB_con (k := 0) (n := 60) (l := []) ((fun _ h => by cases h)) (by kernel_rfl)
def wFy56 : AnsY := ⟨80, [(wI [2, 0, 1, 3, 4, 5] false)], (wI [2, 0, 1, 3, 4, 5] false), false⟩
theorem wFz56 : YOk T 61 wFy56 := zB_con (k := 0) (n := 60) (l := []) ((fun _ h => by cases h)) (by kernel_rfl)
def wFy57 : AnsY := ⟨14, [(wI [2, 0, 1, 3, 4, 5] false), (wI [2, 0, 1, 3, 4, 5] false)], (.bool true), false⟩
theorem wFz57 : YOk T 61 wFy57 := zB_con (k := 0) (n := 60) (l := []) ((fun _ h => by cases h)) (by kernel_rfl)
def wFy58 : AnsY := ⟨80, [(wI [2, 0, 1] false)], (wI [2, 0, 1] false), false⟩
theorem wFz58 : YOk T 61 wFy58 := zB_con (k := 0) (n := 60) (l := []) ((fun _ h => by cases h)) (by kernel_rfl)
def wFy59 : AnsY := ⟨14, [(wI [2, 0, 1] false), (wI [2, 0, 1] false)], (.bool true), false⟩
theorem wFz59 : YOk T 61 wFy59 := zB_con (k := 0) (n := 60) (l := []) ((fun _ h => by cases h)) (by kernel_rfl)
def wFy60 : AnsY := ⟨14, [(wI [1, 2, 0] false), (wI [1, 2, 0] false)], (.bool true), false⟩
theorem wFz60 : YOk T 61 wFy60 := zB_con (k := 0) (n := 60) (l := []) ((fun _ h => by cases h)) (by kernel_rfl)
def wFy61 : AnsY := ⟨80, [(wI [2, 3, 1, 0] false)], (wI [2, 3, 1, 0] false), false⟩
theorem wFz61 : YOk T 61 wFy61 := zB_con (k := 0) (n := 60) (l := []) ((fun _ h => by cases h)) (by kernel_rfl)
def wFy62 : AnsY := ⟨14, [(wI [2, 3, 1, 0] false), (wI [2, 3, 1, 0] false)], (.bool true), false⟩
theorem wFz62 : YOk T 61 wFy62 := zB_con (k := 0) (n := 60) (l := []) ((fun _ h => by cases h)) (by kernel_rfl)
def wFy63 : AnsY := ⟨80, [(wI [1, 0, 2, 3] false)], (wI [1, 0, 2, 3] false), false⟩
theorem wFz63 : YOk T 61 wFy63 := zB_con (k := 0) (n := 60) (l := []) ((fun _ h => by cases h)) (by kernel_rfl)
def wFy64 : AnsY := ⟨14, [(wI [1, 0, 2, 3] false), (wI [1, 0, 2, 3] false)], (.bool true), false⟩
theorem wFz64 : YOk T 61 wFy64 := zB_con (k := 0) (n := 60) (l := []) ((fun _ h => by cases h)) (by kernel_rfl)
def wFy65 : AnsY := ⟨35, [], (.bool true), false⟩
theorem wFz65 : YOk T 244 wFy65 := zB_con (k := 183) (n := 60) (l := [wFy0, wFy1, wFy4, wFy5, wFy6, wFy7, wFy8, wFy9, wFy11, wFy12, wFy13, wFy14, wFy15, wFy19, wFy20, wFy23, wFy25, wFy26, wFy29, wFy30, wFy34, wFy36, wFy37, wFy38, wFy40, wFy41, wFy42, wFy43, wFy45, wFy46, wFy47, wFy48, wFy49, wFy50, wFy51, wFy52, wFy53, wFy54, wFy55, wFy56, wFy57, wFy58, wFy59, wFy60, wFy61, wFy62, wFy63, wFy64]) (List.forall_mem_cons.2 ⟨wFz0.mono (by decide), List.forall_mem_cons.2 ⟨wFz1.mono (by decide), List.forall_mem_cons.2 ⟨wFz4.mono (by decide), List.forall_mem_cons.2 ⟨wFz5.mono (by decide), List.forall_mem_cons.2 ⟨wFz6.mono (by decide), List.forall_mem_cons.2 ⟨wFz7.mono (by decide), List.forall_mem_cons.2 ⟨wFz8.mono (by decide), List.forall_mem_cons.2 ⟨wFz9.mono (by decide), List.forall_mem_cons.2 ⟨wFz11.mono (by decide), List.forall_mem_cons.2 ⟨wFz12.mono (by decide), List.forall_mem_cons.2 ⟨wFz13.mono (by decide), List.forall_mem_cons.2 ⟨wFz14.mono (by decide), List.forall_mem_cons.2 ⟨wFz15.mono (by decide), List.forall_mem_cons.2 ⟨wFz19.mono (by decide), List.forall_mem_cons.2 ⟨wFz20.mono (by decide), List.forall_mem_cons.2 ⟨wFz23.mono (by decide), List.forall_mem_cons.2 ⟨wFz25.mono (by decide), List.forall_mem_cons.2 ⟨wFz26.mono (by decide), List.forall_mem_cons.2 ⟨wFz29.mono (by decide), List.forall_mem_cons.2 ⟨wFz30.mono (by decide), List.forall_mem_cons.2 ⟨wFz34.mono (by decide), List.forall_mem_cons.2 ⟨wFz36.mono (by decide), List.forall_mem_cons.2 ⟨wFz37.mono (by decide), List.forall_mem_cons.2 ⟨wFz38.mono (by decide), List.forall_mem_cons.2 ⟨wFz40.mono (by decide), List.forall_mem_cons.2 ⟨wFz41.mono (by decide), List.forall_mem_cons.2 ⟨wFz42.mono (by decide), List.forall_mem_cons.2 ⟨wFz43.mono (by decide), List.forall_mem_cons.2 ⟨wFz45.mono (by decide), List.forall_mem_cons.2 ⟨wFz46.mono (by decide), List.forall_mem_cons.2 ⟨wFz47.mono (by decide), List.forall_mem_cons.2 ⟨wFz48.mono (by decide), List.forall_mem_cons.2 ⟨wFz49.mono (by decide), List.forall_mem_cons.2 ⟨wFz50.mono (by decide), List.forall_mem_cons.2 ⟨wFz51.mono (by decide), List.forall_mem_cons.2 ⟨wFz52.mono (by decide), List.forall_mem_cons.2 ⟨wFz53.mono (by decide), List.forall_mem_cons.2 ⟨wFz54.mono (by decide), List.forall_mem_cons.2 ⟨wFz55.mono (by decide), List.forall_mem_cons.2 ⟨wFz56.mono (by decide), List.forall_mem_cons.2 ⟨wFz57.mono (by decide), List.forall_mem_cons.2 ⟨wFz58.mono (by decide), List.forall_mem_cons.2 ⟨wFz59.mono (by decide), List.forall_mem_cons.2 ⟨wFz60.mono (by decide), List.forall_mem_cons.2 ⟨wFz61.mono (by decide), List.forall_mem_cons.2 ⟨wFz62.mono (by decide), List.forall_mem_cons.2 ⟨wFz63.mono (by decide), List.forall_mem_cons.2 ⟨wFz64.mono (by decide), (fun _ h => by cases h)⟩⟩⟩⟩⟩⟩⟩⟩⟩⟩⟩⟩⟩⟩⟩⟩⟩⟩⟩⟩⟩⟩⟩⟩⟩⟩⟩⟩⟩⟩⟩⟩⟩⟩⟩⟩⟩⟩⟩⟩⟩⟩⟩⟩⟩⟩⟩⟩) (by kernel_rfl)
theorem wFworks : YOk T 244 ⟨35, [], .bool true, false⟩ := wFz65
end Go.Ev.YtgehhippjhealaaGreatC
