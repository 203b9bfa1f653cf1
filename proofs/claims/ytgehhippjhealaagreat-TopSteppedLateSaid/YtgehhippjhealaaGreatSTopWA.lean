/- The works of a layer's examples, each call reckoned by the kernel, and joined. No condition but those that stand in each. -/
import Derived.Test.YtgehhippjhealaaGreatSTopW
set_option linter.unusedSimpArgs false
set_option linter.unusedVariables false
set_option maxRecDepth 100000
namespace Go.Ev.YtgehhippjhealaaGreatC
open Go Go.Proofs
def wAy0 : AnsY := ⟨238, [(wN 117), (wN 200)], (.agg [(wN 117), (wN 200)]), false⟩
theorem wAz0 : YOk T 61 wAy0 := zB_con (k := 0) (n := 60) (l := []) ((fun _ h => by cases h)) (by kernel_rfl)
def wAy1 : AnsY := ⟨238, [(wN 3), (wN 2)], (.agg [(wN 3), (wN 2)]), false⟩
theorem wAz1 : YOk T 61 wAy1 := zB_con (k := 0) (n := 60) (l := []) ((fun _ h => by cases h)) (by kernel_rfl)
def wAy2 : AnsY := ⟨238, [(wN 8), (wN 5)], (.agg [(wN 8), (wN 5)]), false⟩
theorem wAz2 : YOk T 61 wAy2 := zB_con (k := 0) (n := 60) (l := []) ((fun _ h => by cases h)) (by kernel_rfl)
def wAy3 : AnsY := ⟨366, [(.agg [(wN 8), (wN 5)])], (wN 0), false⟩
theorem wAz3 : YOk T 61 wAy3 := zB_con (k := 0) (n := 60) (l := []) ((fun _ h => by cases h)) (by kernel_rfl)
def wAy4 : AnsY := ⟨307, [(.slice (some 2) [(.agg [(wN 3), (wN 2)]), (.agg [(wN 8), (wN 5)])] false)], (.tuple [(.ptr [(wN 3), (wN 2)] 0), (wN 0)]), false⟩
theorem wAz4 : YOk T 122 wAy4 := zB_con (k := 61) (n := 60) (l := [wAy3]) (List.forall_mem_cons.2 ⟨wAz3.mono (by decide), (fun _ h => by cases h)⟩) (by kernel_rfl)
def wAy5 : AnsY := ⟨239, [(.agg [(wN 3), (wN 2)]), (.agg [(wN 8), (wN 5)])], (.tuple [(wN 1), (wN 0)]), false⟩
theorem wAz5 : YOk T 183 wAy5 := zB_con (k := 122) (n := 60) (l := [wAy4]) (List.forall_mem_cons.2 ⟨wAz4.mono (by decide), (fun _ h => by cases h)⟩) (by kernel_rfl)
def wAy6 : AnsY := ⟨366, [(.agg [(wN 117), (wN 200)])], (wN 0), false⟩
theorem wAz6 : YOk T 61 wAy6 := zB_con (k := 0) (n := 60) (l := []) ((fun _ h => by cases h)) (by kernel_rfl)
def wAy7 : AnsY := ⟨240, [(.agg [(wN 117), (wN 200)]), (wN 50)], (.tuple [(.agg [(wN 7), (wN 12)]), (.agg [(wN 24), (wN 41)]), (wN 0)]), false⟩
theorem wAz7 : YOk T 122 wAy7 := zB_con (k := 61) (n := 60) (l := [wAy6]) (List.forall_mem_cons.2 ⟨wAz6.mono (by decide), (fun _ h => by cases h)⟩) (by kernel_rfl)
def wAy8 : AnsY := ⟨238, [(wN 7), (wN 12)], (.agg [(wN 7), (wN 12)]), false⟩
theorem wAz8 : YOk T 61 wAy8 := zB_con (k := 0) (n := 60) (l := []) ((fun _ h => by cases h)) (by kernel_rfl)
def wAy9 : AnsY := ⟨238, [(wN 3), (wN 5)], (.agg [(wN 3), (wN 5)]), false⟩
theorem wAz9 : YOk T 61 wAy9 := zB_con (k := 0) (n := 60) (l := []) ((fun _ h => by cases h)) (by kernel_rfl)
def wAy10 : AnsY := ⟨241, [(.agg [(wN 7), (wN 12)]), (.agg [(wN 3), (wN 5)]), (wN 12)], (wN 0), false⟩
theorem wAz10 : YOk T 61 wAy10 := zB_con (k := 0) (n := 60) (l := []) ((fun _ h => by cases h)) (by kernel_rfl)
def wAy11 : AnsY := ⟨241, [(.agg [(wN 7), (wN 12)]), (.agg [(wN 3), (wN 5)]), (wN 17)], (wN 14), false⟩
theorem wAz11 : YOk T 61 wAy11 := zB_con (k := 0) (n := 60) (l := []) ((fun _ h => by cases h)) (by kernel_rfl)
def wAy12 : AnsY := ⟨311, [(.ptr [(wN 117), (wN 200)] 0), (wN 12)], (.agg [(wN 7), (wN 12)]), false⟩
theorem wAz12 : YOk T 61 wAy12 := zB_con (k := 0) (n := 60) (l := []) ((fun _ h => by cases h)) (by kernel_rfl)
def wAy13 : AnsY := ⟨242, [(.agg [(wN 117), (wN 200)]), (wN 12)], (.tuple [(.agg [(wN 7), (wN 12)]), (wN 0)]), false⟩
theorem wAz13 : YOk T 122 wAy13 := zB_con (k := 61) (n := 60) (l := [wAy6, wAy12]) (List.forall_mem_cons.2 ⟨wAz6.mono (by decide), List.forall_mem_cons.2 ⟨wAz12.mono (by decide), (fun _ h => by cases h)⟩⟩) (by kernel_rfl)
def wAy14 : AnsY := ⟨243, [(.agg [(wN 117), (wN 200)]), (.agg [(wN 7), (wN 12)]), (wN 12)], (wN 0), false⟩
theorem wAz14 : YOk T 122 wAy14 := zB_con (k := 61) (n := 60) (l := [wAy6, wAy12]) (List.forall_mem_cons.2 ⟨wAz6.mono (by decide), List.forall_mem_cons.2 ⟨wAz12.mono (by decide), (fun _ h => by cases h)⟩⟩) (by kernel_rfl)
def wAy15 : AnsY := ⟨238, [(wN 14), (wN 24)], (.agg [(wN 14), (wN 24)]), false⟩
theorem wAz15 : YOk T 61 wAy15 := zB_con (k := 0) (n := 60) (l := []) ((fun _ h => by cases h)) (by kernel_rfl)
def wAy16 : AnsY := ⟨311, [(.ptr [(wN 117), (wN 200)] 0), (wN 50)], (.agg [(wN 24), (wN 41)]), false⟩
theorem wAz16 : YOk T 61 wAy16 := zB_con (k := 0) (n := 60) (l := []) ((fun _ h => by cases h)) (by kernel_rfl)
def wAy17 : AnsY := ⟨243, [(.agg [(wN 117), (wN 200)]), (.agg [(wN 14), (wN 24)]), (wN 50)], (wN 17), false⟩
theorem wAz17 : YOk T 122 wAy17 := zB_con (k := 61) (n := 60) (l := [wAy6, wAy16]) (List.forall_mem_cons.2 ⟨wAz6.mono (by decide), List.forall_mem_cons.2 ⟨wAz16.mono (by decide), (fun _ h => by cases h)⟩⟩) (by kernel_rfl)
def wAy18 : AnsY := ⟨238, [(wN 59), (wN 100)], (.agg [(wN 59), (wN 100)]), false⟩
theorem wAz18 : YOk T 61 wAy18 := zB_con (k := 0) (n := 60) (l := []) ((fun _ h => by cases h)) (by kernel_rfl)
def wAy19 : AnsY := ⟨366, [(.agg [(wN 59), (wN 100)])], (wN 0), false⟩
theorem wAz19 : YOk T 61 wAy19 := zB_con (k := 0) (n := 60) (l := []) ((fun _ h => by cases h)) (by kernel_rfl)
def wAy20 : AnsY := ⟨244, [(.agg [(wN 117), (wN 200)]), (.agg [(wN 59), (wN 100)])], (.tuple [(.agg [(wN 10), (wN 17)]), (wN 0)]), false⟩
theorem wAz20 : YOk T 122 wAy20 := zB_con (k := 61) (n := 60) (l := [wAy6, wAy19]) (List.forall_mem_cons.2 ⟨wAz6.mono (by decide), List.forall_mem_cons.2 ⟨wAz19.mono (by decide), (fun _ h => by cases h)⟩⟩) (by kernel_rfl)
def wAy21 : AnsY := ⟨238, [(wN 1), (wN 2)], (.agg [(wN 1), (wN 2)]), false⟩
theorem wAz21 : YOk T 61 wAy21 := zB_con (k := 0) (n := 60) (l := []) ((fun _ h => by cases h)) (by kernel_rfl)
def wAy22 : AnsY := ⟨238, [(wN 2), (wN 3)], (.agg [(wN 2), (wN 3)]), false⟩
theorem wAz22 : YOk T 61 wAy22 := zB_con (k := 0) (n := 60) (l := []) ((fun _ h => by cases h)) (by kernel_rfl)
def wAy23 : AnsY := ⟨366, [(.agg [(wN 2), (wN 3)])], (wN 0), false⟩
theorem wAz23 : YOk T 61 wAy23 := zB_con (k := 0) (n := 60) (l := []) ((fun _ h => by cases h)) (by kernel_rfl)
def wAy24 : AnsY := ⟨307, [(.slice (some 2) [(.agg [(wN 1), (wN 2)]), (.agg [(wN 2), (wN 3)])] false)], (.tuple [(.ptr [(wN 1), (wN 2)] 0), (wN 0)]), false⟩
theorem wAz24 : YOk T 122 wAy24 := zB_con (k := 61) (n := 60) (l := [wAy23]) (List.forall_mem_cons.2 ⟨wAz23.mono (by decide), (fun _ h => by cases h)⟩) (by kernel_rfl)
def wAy25 : AnsY := ⟨245, [(.agg [(wN 1), (wN 2)]), (.agg [(wN 2), (wN 3)]), (wN 5)], (.tuple [(wN 3), (wN 0)]), false⟩
theorem wAz25 : YOk T 183 wAy25 := zB_con (k := 122) (n := 60) (l := [wAy24]) (List.forall_mem_cons.2 ⟨wAz24.mono (by decide), (fun _ h => by cases h)⟩) (by kernel_rfl)
def wAy26 : AnsY := ⟨246, [(.agg [(wN 117), (wN 200)])], (.tuple [(wI [0, 1, 1, 2, 2, 3, 1, 2] false), (wN 0)]), false⟩
theorem wAz26 : YOk T 122 wAy26 := zB_con (k := 61) (n := 60) (l := [wAy6]) (List.forall_mem_cons.2 ⟨wAz6.mono (by decide), (fun _ h => by cases h)⟩) (by kernel_rfl)
def wAy27 : AnsY := ⟨248, [(wI [1, 3] false)], (wI [1, 3] false), false⟩
theorem wAz27 : YOk T 61 wAy27 := zB_con (k := 0) (n := 60) (l := []) ((fun _ h => by cases h)) (by kernel_rfl)
def wAy28 : AnsY := ⟨247, [(wI [1, 3] false)], (.tuple [(.agg [(wN 5), (wN 4)]), (wN 0)]), false⟩
theorem wAz28 : YOk T 61 wAy28 := zB_con (k := 0) (n := 60) (l := []) ((fun _ h => by cases h)) (by kernel_rfl)
def wAy29 : AnsY := ⟨248, [(wI [0] false)], (wI [0] false), false⟩
theorem wAz29 : YOk T 61 wAy29 := zB_con (k := 0) (n := 60) (l := []) ((fun _ h => by cases h)) (by kernel_rfl)
def wAy30 : AnsY := ⟨247, [(wI [0] false)], (.tuple [(.agg [(wN 0), (wN 0)]), (wN 3)]), false⟩
theorem wAz30 : YOk T 61 wAy30 := zB_con (k := 0) (n := 60) (l := []) ((fun _ h => by cases h)) (by kernel_rfl)
def wAy31 : AnsY := ⟨64, [(wN 12), (wN 7), (wN 5)], (wN 0), false⟩
theorem wAz31 : YOk T 61 wAy31 := zB_con (k := 0) (n := 60) (l := []) ((fun _ h => by cases h)) (by kernel_rfl)
def wAy32 : AnsY := ⟨24, [(wN 12), (wN 7), (wN 5)], (.tuple [(wI [0, 2, 4, 7, 9] false), (wN 0)]), false⟩
theorem wAz32 : YOk T 122 wAy32 := zB_con (k := 61) (n := 60) (l := [wAy31]) (List.forall_mem_cons.2 ⟨wAz31.mono (by decide), (fun _ h => by cases h)⟩) (by kernel_rfl)
def wAy33 : AnsY := ⟨64, [(wN 100), (wN 38), (wN 4)], (wN 0), false⟩
theorem wAz33 : YOk T 61 wAy33 := zB_con (k := 0) (n := 60) (l := []) ((fun _ h => by cases h)) (by kernel_rfl)
def wAy34 : AnsY := ⟨249, [(wN 100), (wN 38), (wN 4)], (.tuple [(wI [14, 24, 38] false), (wN 0)]), false⟩
theorem wAz34 : YOk T 122 wAy34 := zB_con (k := 61) (n := 60) (l := [wAy33]) (List.forall_mem_cons.2 ⟨wAz33.mono (by decide), (fun _ h => by cases h)⟩) (by kernel_rfl)
def wAy35 : AnsY := ⟨64, [(wN 12), (wN 7), (wN 6)], (wN 0), false⟩
theorem wAz35 : YOk T 61 wAy35 := zB_con (k := 0) (n := 60) (l := []) ((fun _ h => by cases h)) (by kernel_rfl)
def wAy36 : AnsY := ⟨250, [(wN 12), (wN 7), (wN 6)], (.tuple [(wN 5), (wN 0)]), false⟩
theorem wAz36 : YOk T 122 wAy36 := zB_con (k := 61) (n := 60) (l := [wAy35]) (List.forall_mem_cons.2 ⟨wAz35.mono (by decide), (fun _ h => by cases h)⟩) (by kernel_rfl)
def wAy37 : AnsY := ⟨238, [(wN 24), (wN 41)], (.agg [(wN 24), (wN 41)]), false⟩
theorem wAz37 : YOk T 61 wAy37 := zB_con (k := 0) (n := 60) (l := []) ((fun _ h => by cases h)) (by kernel_rfl)
def wAy38 : AnsY := ⟨238, [(wN 10), (wN 17)], (.agg [(wN 10), (wN 17)]), false⟩
theorem wAz38 : YOk T 61 wAy38 := zB_con (k := 0) (n := 60) (l := []) ((fun _ h => by cases h)) (by kernel_rfl)
def wAy39 : AnsY := ⟨248, [(wI [0, 1, 1, 2, 2, 3, 1, 2] false)], (wI [0, 1, 1, 2, 2, 3, 1, 2] false), false⟩
theorem wAz39 : YOk T 61 wAy39 := zB_con (k := 0) (n := 60) (l := []) ((fun _ h => by cases h)) (by kernel_rfl)
def wAy40 : AnsY := ⟨251, [(wI [0, 1, 1, 2, 2, 3, 1, 2] false), (wI [0, 1, 1, 2, 2, 3, 1, 2] false)], (.bool true), false⟩
theorem wAz40 : YOk T 61 wAy40 := zB_con (k := 0) (n := 60) (l := []) ((fun _ h => by cases h)) (by kernel_rfl)
def wAy41 : AnsY := ⟨238, [(wN 5), (wN 4)], (.agg [(wN 5), (wN 4)]), false⟩
theorem wAz41 : YOk T 61 wAy41 := zB_con (k := 0) (n := 60) (l := []) ((fun _ h => by cases h)) (by kernel_rfl)
def wAy42 : AnsY := ⟨248, [(wI [0, 2, 4, 7, 9] false)], (wI [0, 2, 4, 7, 9] false), false⟩
theorem wAz42 : YOk T 61 wAy42 := zB_con (k := 0) (n := 60) (l := []) ((fun _ h => by cases h)) (by kernel_rfl)
def wAy43 : AnsY := ⟨251, [(wI [0, 2, 4, 7, 9] false), (wI [0, 2, 4, 7, 9] false)], (.bool true), false⟩
theorem wAz43 : YOk T 61 wAy43 := zB_con (k := 0) (n := 60) (l := []) ((fun _ h => by cases h)) (by kernel_rfl)
def wAy44 : AnsY := ⟨248, [(wI [14, 24, 38] false)], (wI [14, 24, 38] false), false⟩
theorem wAz44 : YOk T 61 wAy44 := zB_con (k := 0) (n := 60) (l := []) ((fun _ h => by cases h)) (by kernel_rfl)
def wAy45 : AnsY := ⟨251, [(wI [14, 24, 38] false), (wI [14, 24, 38] false)], (.bool true), false⟩
theorem wAz45 : YOk T 61 wAy45 := zB_con (k := 0) (n := 60) (l := []) ((fun _ h => by cases h)) (by kernel_rfl)
def wAy46 : AnsY := ⟨196, [], (.bool true), false⟩
theorem wAz46 : YOk T 244 wAy46 := zB_con (k := 183) (n := 60) (l := [wAy0, wAy1, wAy2, wAy5, wAy7, wAy8, wAy9, wAy10, wAy11, wAy13, wAy14, wAy15, wAy17, wAy18, wAy20, wAy21, wAy22, wAy25, wAy26, wAy27, wAy28, wAy29, wAy30, wAy32, wAy34, wAy36, wAy37, wAy38, wAy39, wAy40, wAy41, wAy42, wAy43, wAy44, wAy45]) (List.forall_mem_cons.2 ⟨wAz0.mono (by decide), List.forall_mem_cons.2 ⟨wAz1.mono (by decide), List.forall_mem_cons.2 ⟨wAz2.mono (by decide), List.forall_mem_cons.2 ⟨wAz5.mono (by decide), List.forall_mem_cons.2 ⟨wAz7.mono (by decide), List.forall_mem_cons.2 ⟨wAz8.mono (by decide), List.forall_mem_cons.2 ⟨wAz9.mono (by decide), List.forall_mem_cons.2 ⟨wAz10.mono (by decide), List.forall_mem_cons.2 ⟨wAz11.mono (by decide), List.forall_mem_cons.2 ⟨wAz13.mono (by decide), List.forall_mem_cons.2 ⟨wAz14.mono (by decide), List.forall_mem_cons.2 ⟨wAz15.mono (by decide), List.forall_mem_cons.2 ⟨wAz17.mono (by decide), List.forall_mem_cons.2 ⟨wAz18.mono (by decide), List.forall_mem_cons.2 ⟨wAz20.mono (by decide), List.forall_mem_cons.2 ⟨wAz21.mono (by decide), List.forall_mem_cons.2 ⟨wAz22.mono (by decide), List.forall_mem_cons.2 ⟨wAz25.mono (by decide), List.forall_mem_cons.2 ⟨wAz26.mono (by decide), List.forall_mem_cons.2 ⟨wAz27.mono (by decide), List.forall_mem_cons.2 ⟨wAz28.mono (by decide), List.forall_mem_cons.2 ⟨wAz29.mono (by decide), List.forall_mem_cons.2 ⟨wAz30.mono (by decide), List.forall_mem_cons.2 ⟨wAz32.mono (by decide), List.forall_mem_cons.2 ⟨wAz34.mono (by decide), List.forall_mem_cons.2 ⟨wAz36.mono (by decide), List.forall_mem_cons.2 ⟨wAz37.mono (by decide), List.forall_mem_cons.2 ⟨wAz38.mono (by decide), List.forall_mem_cons.2 ⟨wAz39.mono (by decide), List.forall_mem_cons.2 ⟨wAz40.mono (by decide), List.forall_mem_cons.2 ⟨wAz41.mono (by decide), List.forall_mem_cons.2 ⟨wAz42.mono (by decide), List.forall_mem_cons.2 ⟨wAz43.mono (by decide), List.forall_mem_cons.2 ⟨wAz44.mono (by decide), List.forall_mem_cons.2 ⟨wAz45.mono (by decide), (fun _ h => by cases h)⟩⟩⟩⟩⟩⟩⟩⟩⟩⟩⟩⟩⟩⟩⟩⟩⟩⟩⟩⟩⟩⟩⟩⟩⟩⟩⟩⟩⟩⟩⟩⟩⟩⟩⟩) (by kernel_rfl)
theorem wAworks : YOk T 244 ⟨196, [], .bool true, false⟩ := wAz46
end Go.Ev.YtgehhippjhealaaGreatC
