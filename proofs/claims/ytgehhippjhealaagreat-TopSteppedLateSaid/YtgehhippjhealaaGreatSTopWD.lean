/- The works of a layer's examples, each call reckoned by the kernel, and joined. No condition but those that stand in each. -/
import Derived.Test.YtgehhippjhealaaGreatSTopW
import Derived.Test.YtgehhippjhealaaGreatSTopCix
set_option linter.unusedSimpArgs false
set_option linter.unusedVariables false
set_option maxRecDepth 100000
namespace Go.Ev.YtgehhippjhealaaGreatC
open Go Go.Proofs
def wDy0 : AnsY := ⟨199, [], (.agg [(wN 3), (.slice (some 2) [(.agg [(wN 0), (wN 1)]), (.agg [(wN 1), (wN 2)]), (.agg [(wN 2), (wN 0)]), (.agg [(wN 0), (wN 2)])] false)]), false⟩
theorem wDz0 : YOk T 61 wDy0 := zB_con (k := 0) (n := 60) (l := []) ((fun _ h => by cases h)) (by kernel_rfl)
def wDy1 : AnsY := ⟨200, [], (.agg [(wN 4), (.slice (some 2) [(.agg [(wN 0), (wN 1)]), (.agg [(wN 1), (wN 0)]), (.agg [(wN 2), (wN 3)]), (.agg [(wN 3), (wN 2)])] false)]), false⟩
theorem wDz1 : YOk T 61 wDy1 := zB_con (k := 0) (n := 60) (l := []) ((fun _ h => by cases h)) (by kernel_rfl)
def wDy2 : AnsY := ⟨201, [], (.agg [(wN 3), (.slice (some 2) [(.agg [(wN 0), (wN 1)]), (.agg [(wN 0), (wN 2)])] false)]), false⟩
theorem wDz2 : YOk T 61 wDy2 := zB_con (k := 0) (n := 60) (l := []) ((fun _ h => by cases h)) (by kernel_rfl)
def wDy3 : AnsY := ⟨203, [(wI [3, 2, 0, 1] false)], (wI [3, 2, 0, 1] false), false⟩
theorem wDz3 : YOk T 61 wDy3 := zB_con (k := 0) (n := 60) (l := []) ((fun _ h => by cases h)) (by kernel_rfl)
def wDy4 : AnsY := ⟨170, [(.slice (some 2) [(.agg [(wN 0), (wN 1)]), (.agg [(wN 1), (wN 2)]), (.agg [(wN 2), (wN 0)]), (.agg [(wN 0), (wN 2)])] false), (.clo 168 [] [(.ptr [(wN 3), (.slice (some 2) [(.agg [(wN 0), (wN 1)]), (.agg [(wN 1), (wN 2)]), (.agg [(wN 2), (wN 0)]), (.agg [(wN 0), (wN 2)])] false)] 0)])], (wN (-1)), false⟩
theorem wDz4 : YOk T 61 wDy4 := zB_con (k := 0) (n := 60) (l := []) ((fun _ h => by cases h)) (by kernel_rfl)
def wDy5 : AnsY := ⟨98, [(.agg [(wN 3), (.slice (some 2) [(.agg [(wN 0), (wN 1)]), (.agg [(wN 1), (wN 2)]), (.agg [(wN 2), (wN 0)]), (.agg [(wN 0), (wN 2)])] false)])], (wN 0), false⟩
theorem wDz5 : YOk T 122 wDy5 := zB_con (k := 61) (n := 60) (l := [wDy4]) (List.forall_mem_cons.2 ⟨wDz4.mono (by decide), (fun _ h => by cases h)⟩) (by kernel_rfl)
def wDy6 : AnsY := ⟨202, [(.agg [(wN 3), (.slice (some 2) [(.agg [(wN 0), (wN 1)]), (.agg [(wN 1), (wN 2)]), (.agg [(wN 2), (wN 0)]), (.agg [(wN 0), (wN 2)])] false)]), (wI [3, 2, 0, 1] false)], (.tuple [(wN 0), (wN 2), (wN 0)]), false⟩
theorem wDz6 : YOk T 183 wDy6 := zB_con (k := 122) (n := 60) (l := [wDy5]) (List.forall_mem_cons.2 ⟨wDz5.mono (by decide), (fun _ h => by cases h)⟩) (by kernel_rfl)
def wDy7 : AnsY := ⟨203, [(wI [0, 1, 3, 2] false)], (wI [0, 1, 3, 2] false), false⟩
theorem wDz7 : YOk T 61 wDy7 := zB_con (k := 0) (n := 60) (l := []) ((fun _ h => by cases h)) (by kernel_rfl)
def wDy8 : AnsY := ⟨202, [(.agg [(wN 3), (.slice (some 2) [(.agg [(wN 0), (wN 1)]), (.agg [(wN 1), (wN 2)]), (.agg [(wN 2), (wN 0)]), (.agg [(wN 0), (wN 2)])] false)]), (wI [0, 1, 3, 2] false)], (.tuple [(wN 0), (wN 0), (wN 19)]), false⟩
theorem wDz8 : YOk T 183 wDy8 := zB_con (k := 122) (n := 60) (l := [wDy5]) (List.forall_mem_cons.2 ⟨wDz5.mono (by decide), (fun _ h => by cases h)⟩) (by kernel_rfl)
def wDy9 : AnsY := ⟨99, [(.ptr [(wN 3), (.slice (some 2) [(.agg [(wN 0), (wN 1)]), (.agg [(wN 1), (wN 2)]), (.agg [(wN 2), (wN 0)]), (.agg [(wN 0), (wN 2)])] false), (wN 1), (wN 0), (wN (-1)), (wN 0), (wN 0), (wN 0), (wN 0), (wN 0), (wI [0, 0, 0, 0] false)] 0), (wN 0)], (wI [0, 1, 2] false), false⟩
theorem wDz9 : YOk T 61 wDy9 := zB_con (k := 0) (n := 60) (l := []) ((fun _ h => by cases h)) (by kernel_rfl)
def wDy10 : AnsY := ⟨49, [(.ptr [(wN 3), (.slice (some 2) [(.agg [(wN 0), (wN 1)]), (.agg [(wN 1), (wN 2)]), (.agg [(wN 2), (wN 0)]), (.agg [(wN 0), (wN 2)])] false), (wN 1), (wN 0), (wN (-1)), (wN 0), (wN 0), (wN 0), (wN 0), (wN 0), (wI [0, 0, 0, 0] false)] 0), (wI [0, 1, 2] false)], (.bool false), false⟩
theorem wDz10 : YOk T 61 wDy10 := zB_con (k := 0) (n := 60) (l := []) ((fun _ h => by cases h)) (by kernel_rfl)
def wDy11 : AnsY := ⟨104, [(.clo 172 [] [(.ptr [(.ptr [(wN 3), (.slice (some 2) [(.agg [(wN 0), (wN 1)]), (.agg [(wN 1), (wN 2)]), (.agg [(wN 2), (wN 0)]), (.agg [(wN 0), (wN 2)])] false), (wN 1), (wN 0), (wN (-1)), (wN 0), (wN 0), (wN 0), (wN 0), (wN 0), (wI [0, 0, 0, 0] false)] 0)] 0), (.ptr [(wN (-1))] 0), (.ptr [(wI [] false)] 0)])], (wI [0, 1, 2, 3] false), true⟩
theorem wDz11 : YOk T 61 wDy11 := zBF_con (k := 0) (n := 60) (l := []) ((fun _ h => by cases h)) (by kernel_rfl)
def wDy12 : AnsY := ⟨99, [(.ptr [(wN 3), (.slice (some 2) [(.agg [(wN 1), (wN 2)]), (.agg [(wN 2), (wN 0)]), (.agg [(wN 0), (wN 2)])] false), (wN 0), (wN 1), (wN (-1)), (wN 0), (wN 0), (wN 0), (wN 0), (wN 0), (wI [0, 0, 0] false)] 0), (wN 1)], (wI [0, 1, 2] false), false⟩
theorem wDz12 : YOk T 61 wDy12 := zB_con (k := 0) (n := 60) (l := []) ((fun _ h => by cases h)) (by kernel_rfl)
def wDy13 : AnsY := ⟨49, [(.ptr [(wN 3), (.slice (some 2) [(.agg [(wN 1), (wN 2)]), (.agg [(wN 2), (wN 0)]), (.agg [(wN 0), (wN 2)])] false), (wN 0), (wN 1), (wN (-1)), (wN 0), (wN 0), (wN 0), (wN 0), (wN 0), (wI [0, 0, 0] false)] 0), (wI [0, 1, 2] false)], (.bool false), false⟩
theorem wDz13 : YOk T 61 wDy13 := zB_con (k := 0) (n := 60) (l := []) ((fun _ h => by cases h)) (by kernel_rfl)
def wDy14 : AnsY := ⟨107, [(.ptr [(wN 3), (.slice (some 2) [(.agg [(wN 0), (wN 1)]), (.agg [(wN 1), (wN 2)]), (.agg [(wN 2), (wN 0)]), (.agg [(wN 0), (wN 2)])] false), (wN 1), (wN 0), (wN (-1)), (wN 0), (wN 0), (wN 0), (wN 0), (wN 0), (wI [0, 0, 0, 0] false)] 0), (wN 1), (wI [0] false)], (.bool true), false⟩
theorem wDz14 : YOk T 122 wDy14 := zB_con (k := 61) (n := 60) (l := [wDy12, wDy13]) (List.forall_mem_cons.2 ⟨wDz12.mono (by decide), List.forall_mem_cons.2 ⟨wDz13.mono (by decide), (fun _ h => by cases h)⟩⟩) (by kernel_rfl)
def wDy15 : AnsY := ⟨99, [(.ptr [(wN 3), (.slice (some 2) [(.agg [(wN 2), (wN 0)]), (.agg [(wN 0), (wN 2)])] false), (wN 0), (wN 0), (wN 0), (wN 0), (wN 0), (wN 0), (wN 0), (wN 0), (wI [0, 0] false)] 0), (wN 2)], (wI [0, 2] false), false⟩
theorem wDz15 : YOk T 61 wDy15 := zB_con (k := 0) (n := 60) (l := []) ((fun _ h => by cases h)) (by kernel_rfl)
def wDy16 : AnsY := ⟨49, [(.ptr [(wN 3), (.slice (some 2) [(.agg [(wN 2), (wN 0)]), (.agg [(wN 0), (wN 2)])] false), (wN 0), (wN 0), (wN 0), (wN 0), (wN 0), (wN 0), (wN 0), (wN 0), (wI [0, 0] false)] 0), (wI [0, 2] false)], (.bool false), false⟩
theorem wDz16 : YOk T 61 wDy16 := zB_con (k := 0) (n := 60) (l := []) ((fun _ h => by cases h)) (by kernel_rfl)
def wDy17 : AnsY := ⟨41, [(.ptr [(wN 3), (.slice (some 2) [(.agg [(wN 2), (wN 0)]), (.agg [(wN 0), (wN 2)])] false), (wN 0), (wN 0), (wN 0), (wN 0), (wN 0), (wN 0), (wN 0), (wN 0), (wI [0, 0] false)] 0)], (wI [0, 2] false), true⟩
theorem wDz17 : YOk T 122 wDy17 := zBF_con (k := 61) (n := 60) (l := [wDy15, wDy16]) (List.forall_mem_cons.2 ⟨wDz15.mono (by decide), List.forall_mem_cons.2 ⟨wDz16.mono (by decide), (fun _ h => by cases h)⟩⟩) (by kernel_rfl)
def wDy18 : AnsY := ⟨107, [(.ptr [(wN 3), (.slice (some 2) [(.agg [(wN 0), (wN 1)]), (.agg [(wN 1), (wN 2)]), (.agg [(wN 2), (wN 0)]), (.agg [(wN 0), (wN 2)])] false), (wN 1), (wN 0), (wN (-1)), (wN 0), (wN 0), (wN 0), (wN 0), (wN 0), (wI [0, 0, 0, 0] false)] 0), (wN 2), (wI [0, 1] false)], (.bool true), false⟩
theorem wDz18 : YOk T 183 wDy18 := zB_con (k := 122) (n := 60) (l := [wDy17]) (List.forall_mem_cons.2 ⟨wDz17.mono (by decide), (fun _ h => by cases h)⟩) (by kernel_rfl)
def wDy19 : AnsY := ⟨99, [(.ptr [(wN 3), (.slice (some 2) [(.agg [(wN 0), (wN 2)])] false), (wN 1), (wN 0), (wN (-1)), (wN 0), (wN 0), (wN 0), (wN 0), (wN 0), (wI [0] false)] 0), (wN 0)], (wI [0, 2] false), false⟩
theorem wDz19 : YOk T 61 wDy19 := zB_con (k := 0) (n := 60) (l := []) ((fun _ h => by cases h)) (by kernel_rfl)
def wDy20 : AnsY := ⟨41, [(.ptr [(wN 3), (.slice (some 2) [(.agg [(wN 0), (wN 2)])] false), (wN 1), (wN 0), (wN (-1)), (wN 0), (wN 0), (wN 0), (wN 0), (wN 0), (wI [0] false)] 0)], (wI [0] false), true⟩
theorem wDz20 : YOk T 122 wDy20 := zBF_con (k := 61) (n := 60) (l := [wDy19]) (List.forall_mem_cons.2 ⟨wDz19.mono (by decide), (fun _ h => by cases h)⟩) (by kernel_rfl)
def wDy21 : AnsY := ⟨107, [(.ptr [(wN 3), (.slice (some 2) [(.agg [(wN 0), (wN 1)]), (.agg [(wN 1), (wN 2)]), (.agg [(wN 2), (wN 0)]), (.agg [(wN 0), (wN 2)])] false), (wN 1), (wN 0), (wN (-1)), (wN 0), (wN 0), (wN 0), (wN 0), (wN 0), (wI [0, 0, 0, 0] false)] 0), (wN 0), (wI [0, 1, 2] false)], (.bool true), false⟩
theorem wDz21 : YOk T 183 wDy21 := zB_con (k := 122) (n := 60) (l := [wDy20]) (List.forall_mem_cons.2 ⟨wDz20.mono (by decide), (fun _ h => by cases h)⟩) (by kernel_rfl)
def wDy22 : AnsY := ⟨107, [(.ptr [(wN 3), (.slice (some 2) [(.agg [(wN 0), (wN 1)]), (.agg [(wN 1), (wN 2)]), (.agg [(wN 2), (wN 0)]), (.agg [(wN 0), (wN 2)])] false), (wN 1), (wN 0), (wN (-1)), (wN 0), (wN 0), (wN 0), (wN 0), (wN 0), (wI [0, 0, 0, 0] false)] 0), (wN 2), (wI [0, 1, 2, 3] false)], (.bool true), false⟩
theorem wDz22 : YOk T 61 wDy22 := zB_con (k := 0) (n := 60) (l := []) ((fun _ h => by cases h)) (by kernel_rfl)
def wDy23 : AnsY := ⟨45, [(.ptr [(wN 3), (.slice (some 2) [(.agg [(wN 0), (wN 1)]), (.agg [(wN 1), (wN 2)]), (.agg [(wN 2), (wN 0)]), (.agg [(wN 0), (wN 2)])] false), (wN 1), (wN 0), (wN (-1)), (wN 0), (wN 0), (wN 0), (wN 0), (wN 0), (wI [0, 0, 0, 0] false)] 0)], (wI [0, 1, 2, 3] false), false⟩
theorem wDz23 : YOk T 244 wDy23 := zB_con (k := 183) (n := 60) (l := [wDy11, wDy14, wDy18, wDy21, wDy22]) (List.forall_mem_cons.2 ⟨wDz11.mono (by decide), List.forall_mem_cons.2 ⟨wDz14.mono (by decide), List.forall_mem_cons.2 ⟨wDz18.mono (by decide), List.forall_mem_cons.2 ⟨wDz21.mono (by decide), List.forall_mem_cons.2 ⟨wDz22.mono (by decide), (fun _ h => by cases h)⟩⟩⟩⟩⟩) (by kernel_rfl)
def wDy24 : AnsY := ⟨12, [(.agg [(wN 3), (.slice (some 2) [(.agg [(wN 0), (wN 1)]), (.agg [(wN 1), (wN 2)]), (.agg [(wN 2), (wN 0)]), (.agg [(wN 0), (wN 2)])] false)])], (.tuple [(wI [0, 1, 2, 3] false), (wN 0)]), false⟩
theorem wDz24 : YOk T 305 wDy24 := zB_con (k := 244) (n := 60) (l := [wDy5, wDy9, wDy10, wDy23]) (List.forall_mem_cons.2 ⟨wDz5.mono (by decide), List.forall_mem_cons.2 ⟨wDz9.mono (by decide), List.forall_mem_cons.2 ⟨wDz10.mono (by decide), List.forall_mem_cons.2 ⟨wDz23.mono (by decide), (fun _ h => by cases h)⟩⟩⟩⟩) (by kernel_rfl)
def wDy25 : AnsY := ⟨170, [(.slice (some 2) [(.agg [(wN 0), (wN 1)]), (.agg [(wN 1), (wN 0)]), (.agg [(wN 2), (wN 3)]), (.agg [(wN 3), (wN 2)])] false), (.clo 168 [] [(.ptr [(wN 4), (.slice (some 2) [(.agg [(wN 0), (wN 1)]), (.agg [(wN 1), (wN 0)]), (.agg [(wN 2), (wN 3)]), (.agg [(wN 3), (wN 2)])] false)] 0)])], (wN (-1)), false⟩
theorem wDz25 : YOk T 61 wDy25 := zB_con (k := 0) (n := 60) (l := []) ((fun _ h => by cases h)) (by kernel_rfl)
def wDy26 : AnsY := ⟨98, [(.agg [(wN 4), (.slice (some 2) [(.agg [(wN 0), (wN 1)]), (.agg [(wN 1), (wN 0)]), (.agg [(wN 2), (wN 3)]), (.agg [(wN 3), (wN 2)])] false)])], (wN 0), false⟩
theorem wDz26 : YOk T 122 wDy26 := zB_con (k := 61) (n := 60) (l := [wDy25]) (List.forall_mem_cons.2 ⟨wDz25.mono (by decide), (fun _ h => by cases h)⟩) (by kernel_rfl)
def wDy27 : AnsY := ⟨99, [(.ptr [(wN 4), (.slice (some 2) [(.agg [(wN 0), (wN 1)]), (.agg [(wN 1), (wN 0)]), (.agg [(wN 2), (wN 3)]), (.agg [(wN 3), (wN 2)])] false), (wN 0), (wN 0), (wN 0), (wN 0), (wN 0), (wN 0), (wN 0), (wN 0), (wI [0, 0, 0, 0] false)] 0), (wN 0)], (wI [0, 1] false), false⟩
theorem wDz27 : YOk T 61 wDy27 := zB_con (k := 0) (n := 60) (l := []) ((fun _ h => by cases h)) (by kernel_rfl)
def wDy28 : AnsY := ⟨49, [(.ptr [(wN 4), (.slice (some 2) [(.agg [(wN 0), (wN 1)]), (.agg [(wN 1), (wN 0)]), (.agg [(wN 2), (wN 3)]), (.agg [(wN 3), (wN 2)])] false), (wN 0), (wN 0), (wN 0), (wN 0), (wN 0), (wN 0), (wN 0), (wN 0), (wI [0, 0, 0, 0] false)] 0), (wI [0, 1] false)], (.bool true), false⟩
theorem wDz28 : YOk T 61 wDy28 := zB_con (k := 0) (n := 60) (l := []) ((fun _ h => by cases h)) (by kernel_rfl)
def wDy29 : AnsY := ⟨12, [(.agg [(wN 4), (.slice (some 2) [(.agg [(wN 0), (wN 1)]), (.agg [(wN 1), (wN 0)]), (.agg [(wN 2), (wN 3)]), (.agg [(wN 3), (wN 2)])] false)])], (.tuple [(wI [] false), (wN 19)]), false⟩
theorem wDz29 : YOk T 183 wDy29 := zB_con (k := 122) (n := 60) (l := [wDy26, wDy27, wDy28]) (List.forall_mem_cons.2 ⟨wDz26.mono (by decide), List.forall_mem_cons.2 ⟨wDz27.mono (by decide), List.forall_mem_cons.2 ⟨wDz28.mono (by decide), (fun _ h => by cases h)⟩⟩⟩) (by kernel_rfl)
def wDy30 : AnsY := ⟨204, [(.agg [(wN 3), (.slice (some 2) [(.agg [(wN 0), (wN 1)]), (.agg [(wN 1), (wN 2)]), (.agg [(wN 2), (wN 0)]), (.agg [(wN 0), (wN 2)])] false)])], (.tuple [(wI [0] false), (wN 0)]), false⟩
theorem wDz30 : YOk T 183 wDy30 := zB_con (k := 122) (n := 60) (l := [wDy5, wDy9, wDy10]) (List.forall_mem_cons.2 ⟨wDz5.mono (by decide), List.forall_mem_cons.2 ⟨wDz9.mono (by decide), List.forall_mem_cons.2 ⟨wDz10.mono (by decide), (fun _ h => by cases h)⟩⟩⟩) (by kernel_rfl)
def wDy32 : AnsY := ⟨11, [(.agg [(wN 3), (.slice (some 2) [(.agg [(wN 0), (wN 1)]), (.agg [(wN 1), (wN 2)]), (.agg [(wN 2), (wN 0)]), (.agg [(wN 0), (wN 2)])] false)])], (.tuple [(wN 2), (wN 0)]), false⟩
theorem wDz32 : YOk T 2061 wDy32 := zB_con (k := 2000) (n := 60) (l := [wDy5, wDy9, wDy10, wDy31]) (List.forall_mem_cons.2 ⟨wDz5.mono (by decide), List.forall_mem_cons.2 ⟨wDz9.mono (by decide), List.forall_mem_cons.2 ⟨wDz10.mono (by decide), List.forall_mem_cons.2 ⟨wDz31.mono (by decide), (fun _ h => by cases h)⟩⟩⟩⟩) (by kernel_rfl)
def wDy33 : AnsY := ⟨170, [(.slice (some 2) [(.agg [(wN 0), (wN 1)]), (.agg [(wN 0), (wN 2)])] false), (.clo 168 [] [(.ptr [(wN 3), (.slice (some 2) [(.agg [(wN 0), (wN 1)]), (.agg [(wN 0), (wN 2)])] false)] 0)])], (wN (-1)), false⟩
theorem wDz33 : YOk T 61 wDy33 := zB_con (k := 0) (n := 60) (l := []) ((fun _ h => by cases h)) (by kernel_rfl)
def wDy34 : AnsY := ⟨98, [(.agg [(wN 3), (.slice (some 2) [(.agg [(wN 0), (wN 1)]), (.agg [(wN 0), (wN 2)])] false)])], (wN 0), false⟩
theorem wDz34 : YOk T 122 wDy34 := zB_con (k := 61) (n := 60) (l := [wDy33]) (List.forall_mem_cons.2 ⟨wDz33.mono (by decide), (fun _ h => by cases h)⟩) (by kernel_rfl)
def wDy35 : AnsY := ⟨99, [(.ptr [(wN 3), (.slice (some 2) [(.agg [(wN 0), (wN 1)]), (.agg [(wN 0), (wN 2)])] false), (wN 2), (wN (-1)), (wN (-1)), (wN 0), (wN 0), (wN 0), (wN 0), (wN 0), (wI [0, 0] false)] 0), (wN 0)], (wI [0, 1, 2] false), false⟩
theorem wDz35 : YOk T 61 wDy35 := zB_con (k := 0) (n := 60) (l := []) ((fun _ h => by cases h)) (by kernel_rfl)
def wDy36 : AnsY := ⟨49, [(.ptr [(wN 3), (.slice (some 2) [(.agg [(wN 0), (wN 1)]), (.agg [(wN 0), (wN 2)])] false), (wN 2), (wN (-1)), (wN (-1)), (wN 0), (wN 0), (wN 0), (wN 0), (wN 0), (wI [0, 0] false)] 0), (wI [0, 1, 2] false)], (.bool false), false⟩
theorem wDz36 : YOk T 61 wDy36 := zB_con (k := 0) (n := 60) (l := []) ((fun _ h => by cases h)) (by kernel_rfl)
def wDy37 : AnsY := ⟨11, [(.agg [(wN 3), (.slice (some 2) [(.agg [(wN 0), (wN 1)]), (.agg [(wN 0), (wN 2)])] false)])], (.tuple [(wN 0), (wN 0)]), false⟩
theorem wDz37 : YOk T 183 wDy37 := zB_con (k := 122) (n := 60) (l := [wDy34, wDy35, wDy36]) (List.forall_mem_cons.2 ⟨wDz34.mono (by decide), List.forall_mem_cons.2 ⟨wDz35.mono (by decide), List.forall_mem_cons.2 ⟨wDz36.mono (by decide), (fun _ h => by cases h)⟩⟩⟩) (by kernel_rfl)
def wDy38 : AnsY := ⟨203, [(wI [0, 1] false)], (wI [0, 1] false), false⟩
theorem wDz38 : YOk T 61 wDy38 := zB_con (k := 0) (n := 60) (l := []) ((fun _ h => by cases h)) (by kernel_rfl)
def wDy39 : AnsY := ⟨16, [(.agg [(wN 4), (.slice (some 2) [(.agg [(wN 0), (wN 1)]), (.agg [(wN 1), (wN 0)]), (.agg [(wN 2), (wN 3)]), (.agg [(wN 3), (wN 2)])] false)]), (wN 2), (wI [0, 1] false)], (wN 0), false⟩
theorem wDz39 : YOk T 183 wDy39 := zB_con (k := 122) (n := 60) (l := [wDy26, wDy28]) (List.forall_mem_cons.2 ⟨wDz26.mono (by decide), List.forall_mem_cons.2 ⟨wDz28.mono (by decide), (fun _ h => by cases h)⟩⟩) (by kernel_rfl)
def wDy40 : AnsY := ⟨203, [(wI [0, 2] false)], (wI [0, 2] false), false⟩
theorem wDz40 : YOk T 61 wDy40 := zB_con (k := 0) (n := 60) (l := []) ((fun _ h => by cases h)) (by kernel_rfl)
def wDy41 : AnsY := ⟨16, [(.agg [(wN 4), (.slice (some 2) [(.agg [(wN 0), (wN 1)]), (.agg [(wN 1), (wN 0)]), (.agg [(wN 2), (wN 3)]), (.agg [(wN 3), (wN 2)])] false)]), (wN 2), (wI [0, 2] false)], (wN 14), false⟩
theorem wDz41 : YOk T 183 wDy41 := zB_con (k := 122) (n := 60) (l := [wDy26]) (List.forall_mem_cons.2 ⟨wDz26.mono (by decide), (fun _ h => by cases h)⟩) (by kernel_rfl)
def wDy42 : AnsY := ⟨203, [(wI [0] false)], (wI [0] false), false⟩
theorem wDz42 : YOk T 61 wDy42 := zB_con (k := 0) (n := 60) (l := []) ((fun _ h => by cases h)) (by kernel_rfl)
def wDy43 : AnsY := ⟨16, [(.agg [(wN 3), (.slice (some 2) [(.agg [(wN 0), (wN 1)]), (.agg [(wN 0), (wN 2)])] false)]), (wN 1), (wI [0] false)], (wN 0), false⟩
theorem wDz43 : YOk T 183 wDy43 := zB_con (k := 122) (n := 60) (l := [wDy34]) (List.forall_mem_cons.2 ⟨wDz34.mono (by decide), (fun _ h => by cases h)⟩) (by kernel_rfl)
def wDy44 : AnsY := ⟨205, [(.agg [(wN 4), (.slice (some 2) [(.agg [(wN 0), (wN 1)]), (.agg [(wN 1), (wN 0)]), (.agg [(wN 2), (wN 3)]), (.agg [(wN 3), (wN 2)])] false)])], (.tuple [(wN 2), (wI [0, 1] false), (wN 0)]), false⟩
theorem wDz44 : YOk T 183 wDy44 := zB_con (k := 122) (n := 60) (l := [wDy26, wDy27, wDy28]) (List.forall_mem_cons.2 ⟨wDz26.mono (by decide), List.forall_mem_cons.2 ⟨wDz27.mono (by decide), List.forall_mem_cons.2 ⟨wDz28.mono (by decide), (fun _ h => by cases h)⟩⟩⟩) (by kernel_rfl)
def wDy45 : AnsY := ⟨205, [(.agg [(wN 3), (.slice (some 2) [(.agg [(wN 0), (wN 1)]), (.agg [(wN 1), (wN 2)]), (.agg [(wN 2), (wN 0)]), (.agg [(wN 0), (wN 2)])] false)])], (.tuple [(wN 0), (wI [] false), (wN 5)]), false⟩
theorem wDz45 : YOk T 183 wDy45 := zB_con (k := 122) (n := 60) (l := [wDy5, wDy9, wDy10]) (List.forall_mem_cons.2 ⟨wDz5.mono (by decide), List.forall_mem_cons.2 ⟨wDz9.mono (by decide), List.forall_mem_cons.2 ⟨wDz10.mono (by decide), (fun _ h => by cases h)⟩⟩⟩) (by kernel_rfl)
def wDy46 : AnsY := ⟨203, [(wI [1, 1, 2, 0] false)], (wI [1, 1, 2, 0] false), false⟩
theorem wDz46 : YOk T 61 wDy46 := zB_con (k := 0) (n := 60) (l := []) ((fun _ h => by cases h)) (by kernel_rfl)
def wDy47 : AnsY := ⟨108, [(.ptr [(wN 3), (.slice (some 2) [(.agg [(wN 0), (wN 1)]), (.agg [(wN 1), (wN 2)]), (.agg [(wN 2), (wN 0)]), (.agg [(wN 0), (wN 2)])] false), (wN 0), (wN 0), (wN 0), (wN 0), (wN 0), (wN 0), (wN 0), (wN 0), (wI [1, 1, 2, 0] false)] 0)], (.bool true), false⟩
theorem wDz47 : YOk T 61 wDy47 := zB_con (k := 0) (n := 60) (l := []) ((fun _ h => by cases h)) (by kernel_rfl)
def wDy48 : AnsY := ⟨206, [(.agg [(wN 3), (.slice (some 2) [(.agg [(wN 0), (wN 1)]), (.agg [(wN 1), (wN 2)]), (.agg [(wN 2), (wN 0)]), (.agg [(wN 0), (wN 2)])] false)]), (wI [1, 1, 2, 0] false)], (.tuple [(wN 4), (wN 0)]), false⟩
theorem wDz48 : YOk T 183 wDy48 := zB_con (k := 122) (n := 60) (l := [wDy5, wDy47]) (List.forall_mem_cons.2 ⟨wDz5.mono (by decide), List.forall_mem_cons.2 ⟨wDz47.mono (by decide), (fun _ h => by cases h)⟩⟩) (by kernel_rfl)
def wDy49 : AnsY := ⟨203, [(wI [0, 0, 0, 0] false)], (wI [0, 0, 0, 0] false), false⟩
theorem wDz49 : YOk T 61 wDy49 := zB_con (k := 0) (n := 60) (l := []) ((fun _ h => by cases h)) (by kernel_rfl)
def wDy50 : AnsY := ⟨206, [(.agg [(wN 3), (.slice (some 2) [(.agg [(wN 0), (wN 1)]), (.agg [(wN 1), (wN 2)]), (.agg [(wN 2), (wN 0)]), (.agg [(wN 0), (wN 2)])] false)]), (wI [0, 0, 0, 0] false)], (.tuple [(wN 0), (wN 19)]), false⟩
theorem wDz50 : YOk T 183 wDy50 := zB_con (k := 122) (n := 60) (l := [wDy5]) (List.forall_mem_cons.2 ⟨wDz5.mono (by decide), (fun _ h => by cases h)⟩) (by kernel_rfl)
def wDy51 : AnsY := ⟨108, [(.ptr [(wN 3), (.slice (some 2) [(.agg [(wN 0), (wN 1)]), (.agg [(wN 1), (wN 2)]), (.agg [(wN 2), (wN 0)]), (.agg [(wN 0), (wN 2)])] false), (wN 1), (wN 0), (wN (-1)), (wN 0), (wN 0), (wN 0), (wN 0), (wN 0), (wI [0, 0, 0, 0] false)] 0)], (.bool true), false⟩
theorem wDz51 : YOk T 61 wDy51 := zB_con (k := 0) (n := 60) (l := []) ((fun _ h => by cases h)) (by kernel_rfl)
def wDy52 : AnsY := ⟨13, [(.agg [(wN 3), (.slice (some 2) [(.agg [(wN 0), (wN 1)]), (.agg [(wN 1), (wN 2)]), (.agg [(wN 2), (wN 0)]), (.agg [(wN 0), (wN 2)])] false)])], (.tuple [(wI [0, 0, 1, 0] false), (wN 0)]), false⟩
theorem wDz52 : YOk T 183 wDy52 := zB_con (k := 122) (n := 60) (l := [wDy5, wDy51]) (List.forall_mem_cons.2 ⟨wDz5.mono (by decide), List.forall_mem_cons.2 ⟨wDz51.mono (by decide), (fun _ h => by cases h)⟩⟩) (by kernel_rfl)
def wDy53 : AnsY := ⟨108, [(.ptr [(wN 4), (.slice (some 2) [(.agg [(wN 0), (wN 1)]), (.agg [(wN 1), (wN 0)]), (.agg [(wN 2), (wN 3)]), (.agg [(wN 3), (wN 2)])] false), (wN 0), (wN 0), (wN 0), (wN 0), (wN 0), (wN 0), (wN 0), (wN 0), (wI [0, 0, 0, 0] false)] 0)], (.bool false), false⟩
theorem wDz53 : YOk T 61 wDy53 := zB_con (k := 0) (n := 60) (l := []) ((fun _ h => by cases h)) (by kernel_rfl)
def wDy54 : AnsY := ⟨13, [(.agg [(wN 4), (.slice (some 2) [(.agg [(wN 0), (wN 1)]), (.agg [(wN 1), (wN 0)]), (.agg [(wN 2), (wN 3)]), (.agg [(wN 3), (wN 2)])] false)])], (.tuple [(wI [] false), (wN 19)]), false⟩
theorem wDz54 : YOk T 183 wDy54 := zB_con (k := 122) (n := 60) (l := [wDy26, wDy53]) (List.forall_mem_cons.2 ⟨wDz26.mono (by decide), List.forall_mem_cons.2 ⟨wDz53.mono (by decide), (fun _ h => by cases h)⟩⟩) (by kernel_rfl)
def wDy55 : AnsY := ⟨203, [(wI [1, 0, 0] false)], (wI [1, 0, 0] false), false⟩
theorem wDz55 : YOk T 61 wDy55 := zB_con (k := 0) (n := 60) (l := []) ((fun _ h => by cases h)) (by kernel_rfl)
def wDy56 : AnsY := ⟨207, [(.agg [(wN 3), (.slice (some 2) [(.agg [(wN 0), (wN 1)]), (.agg [(wN 1), (wN 2)]), (.agg [(wN 2), (wN 0)]), (.agg [(wN 0), (wN 2)])] false)]), (wI [1, 0, 0] false)], (.tuple [(wN 1), (wN 0)]), false⟩
theorem wDz56 : YOk T 183 wDy56 := zB_con (k := 122) (n := 60) (l := [wDy5]) (List.forall_mem_cons.2 ⟨wDz5.mono (by decide), (fun _ h => by cases h)⟩) (by kernel_rfl)
def wDy57 : AnsY := ⟨203, [(wI [0, 2, 0] false)], (wI [0, 2, 0] false), false⟩
theorem wDz57 : YOk T 61 wDy57 := zB_con (k := 0) (n := 60) (l := []) ((fun _ h => by cases h)) (by kernel_rfl)
def wDy58 : AnsY := ⟨207, [(.agg [(wN 3), (.slice (some 2) [(.agg [(wN 0), (wN 1)]), (.agg [(wN 1), (wN 2)]), (.agg [(wN 2), (wN 0)]), (.agg [(wN 0), (wN 2)])] false)]), (wI [0, 2, 0] false)], (.tuple [(wN 0), (wN 14)]), false⟩
theorem wDz58 : YOk T 183 wDy58 := zB_con (k := 122) (n := 60) (l := [wDy5]) (List.forall_mem_cons.2 ⟨wDz5.mono (by decide), (fun _ h => by cases h)⟩) (by kernel_rfl)
def wDy59 : AnsY := ⟨208, [(.agg [(wN 3), (.slice (some 2) [(.agg [(wN 0), (wN 1)]), (.agg [(wN 1), (wN 2)]), (.agg [(wN 2), (wN 0)]), (.agg [(wN 0), (wN 2)])] false)])], (.tuple [(wI [1, 1, 0] false), (wN 0)]), false⟩
theorem wDz59 : YOk T 183 wDy59 := zB_con (k := 122) (n := 60) (l := [wDy5, wDy51]) (List.forall_mem_cons.2 ⟨wDz5.mono (by decide), List.forall_mem_cons.2 ⟨wDz51.mono (by decide), (fun _ h => by cases h)⟩⟩) (by kernel_rfl)
def wDy60 : AnsY := ⟨209, [(.agg [(wN 3), (.slice (some 2) [(.agg [(wN 0), (wN 1)]), (.agg [(wN 1), (wN 2)]), (.agg [(wN 2), (wN 0)]), (.agg [(wN 0), (wN 2)])] false)]), (wI [1, 1, 0] false)], (.tuple [(wN 1), (wN 0)]), false⟩
theorem wDz60 : YOk T 61 wDy60 := zB_con (k := 0) (n := 60) (l := []) ((fun _ h => by cases h)) (by kernel_rfl)
def wDy61 : AnsY := ⟨203, [(wI [0, 1, 2, 3] false)], (wI [0, 1, 2, 3] false), false⟩
theorem wDz61 : YOk T 61 wDy61 := zB_con (k := 0) (n := 60) (l := []) ((fun _ h => by cases h)) (by kernel_rfl)
def wDy62 : AnsY := ⟨210, [(wI [0, 1, 2, 3] false), (wI [0, 1, 2, 3] false)], (.bool true), false⟩
theorem wDz62 : YOk T 61 wDy62 := zB_con (k := 0) (n := 60) (l := []) ((fun _ h => by cases h)) (by kernel_rfl)
def wDy63 : AnsY := ⟨210, [(wI [0] false), (wI [0] false)], (.bool true), false⟩
theorem wDz63 : YOk T 61 wDy63 := zB_con (k := 0) (n := 60) (l := []) ((fun _ h => by cases h)) (by kernel_rfl)
def wDy64 : AnsY := ⟨211, [(.agg [(wN 4), (.slice (some 2) [(.agg [(wN 0), (wN 1)]), (.agg [(wN 1), (wN 0)]), (.agg [(wN 2), (wN 3)]), (.agg [(wN 3), (wN 2)])] false)]), (wN 2), (wI [0, 1] false)], (wN 0), false⟩
theorem wDz64 : YOk T 61 wDy64 := zB_con (k := 0) (n := 60) (l := []) ((fun _ h => by cases h)) (by kernel_rfl)
def wDy65 : AnsY := ⟨203, [(wI [0, 0, 1, 0] false)], (wI [0, 0, 1, 0] false), false⟩
theorem wDz65 : YOk T 61 wDy65 := zB_con (k := 0) (n := 60) (l := []) ((fun _ h => by cases h)) (by kernel_rfl)
def wDy66 : AnsY := ⟨210, [(wI [0, 0, 1, 0] false), (wI [0, 0, 1, 0] false)], (.bool true), false⟩
theorem wDz66 : YOk T 61 wDy66 := zB_con (k := 0) (n := 60) (l := []) ((fun _ h => by cases h)) (by kernel_rfl)
def wDy67 : AnsY := ⟨146, [], (.bool true), false⟩
theorem wDz67 : YOk T 2122 wDy67 := zB_con (k := 2061) (n := 60) (l := [wDy0, wDy1, wDy2, wDy3, wDy6, wDy7, wDy8, wDy24, wDy29, wDy30, wDy32, wDy37, wDy38, wDy39, wDy40, wDy41, wDy42, wDy43, wDy44, wDy45, wDy46, wDy48, wDy49, wDy50, wDy52, wDy54, wDy55, wDy56, wDy57, wDy58, wDy59, wDy60, wDy61, wDy62, wDy63, wDy64, wDy65, wDy66]) (List.forall_mem_cons.2 ⟨wDz0.mono (by decide), List.forall_mem_cons.2 ⟨wDz1.mono (by decide), List.forall_mem_cons.2 ⟨wDz2.mono (by decide), List.forall_mem_cons.2 ⟨wDz3.mono (by decide), List.forall_mem_cons.2 ⟨wDz6.mono (by decide), List.forall_mem_cons.2 ⟨wDz7.mono (by decide), List.forall_mem_cons.2 ⟨wDz8.mono (by decide), List.forall_mem_cons.2 ⟨wDz24.mono (by decide), List.forall_mem_cons.2 ⟨wDz29.mono (by decide), List.forall_mem_cons.2 ⟨wDz30.mono (by decide), List.forall_mem_cons.2 ⟨wDz32.mono (by decide), List.forall_mem_cons.2 ⟨wDz37.mono (by decide), List.forall_mem_cons.2 ⟨wDz38.mono (by decide), List.forall_mem_cons.2 ⟨wDz39.mono (by decide), List.forall_mem_cons.2 ⟨wDz40.mono (by decide), List.forall_mem_cons.2 ⟨wDz41.mono (by decide), List.forall_mem_cons.2 ⟨wDz42.mono (by decide), List.forall_mem_cons.2 ⟨wDz43.mono (by decide), List.forall_mem_cons.2 ⟨wDz44.mono (by decide), List.forall_mem_cons.2 ⟨wDz45.mono (by decide), List.forall_mem_cons.2 ⟨wDz46.mono (by decide), List.forall_mem_cons.2 ⟨wDz48.mono (by decide), List.forall_mem_cons.2 ⟨wDz49.mono (by decide), List.forall_mem_cons.2 ⟨wDz50.mono (by decide), List.forall_mem_cons.2 ⟨wDz52.mono (by decide), List.forall_mem_cons.2 ⟨wDz54.mono (by decide), List.forall_mem_cons.2 ⟨wDz55.mono (by decide), List.forall_mem_cons.2 ⟨wDz56.mono (by decide), List.forall_mem_cons.2 ⟨wDz57.mono (by decide), List.forall_mem_cons.2 ⟨wDz58.mono (by decide), List.forall_mem_cons.2 ⟨wDz59.mono (by decide), List.forall_mem_cons.2 ⟨wDz60.mono (by decide), List.forall_mem_cons.2 ⟨wDz61.mono (by decide), List.forall_mem_cons.2 ⟨wDz62.mono (by decide), List.forall_mem_cons.2 ⟨wDz63.mono (by decide), List.forall_mem_cons.2 ⟨wDz64.mono (by decide), List.forall_mem_cons.2 ⟨wDz65.mono (by decide), List.forall_mem_cons.2 ⟨wDz66.mono (by decide), (fun _ h => by cases h)⟩⟩⟩⟩⟩⟩⟩⟩⟩⟩⟩⟩⟩⟩⟩⟩⟩⟩⟩⟩⟩⟩⟩⟩⟩⟩⟩⟩⟩⟩⟩⟩⟩⟩⟩⟩⟩⟩) (by kernel_rfl)
theorem wDworks : YOk T 2122 ⟨146, [], .bool true, false⟩ := wDz67
end Go.Ev.YtgehhippjhealaaGreatC
