/- The works of the layer's examples, each call reckoned by the kernel, and joined. No condition but those that stand in each. -/
import Derived.Test.YtjcabpldgdafeaaEEvKer2
import Derived.Test.YtjcabpldgdafeaaEL4Circ
set_option linter.unusedSimpArgs false
set_option linter.unusedVariables false
namespace Go.Ev.YtjcabpldgdafeaaC
open Go Go.Proofs
set_option maxRecDepth 100000
attribute [local irreducible] Res.all evC evLoop evOps evOper evOp evFn evCall AnsOk ConAt
abbrev wN (n : Int) : AV := .int .i64 n
abbrev wI (l : List Int) (x : Bool) : AV := .slice none (l.map wN) x
abbrev wE (n : Int) (l : List (Int × Int)) : List AV := [wN n, .slice (some 2) (l.map fun p => .agg [wN p.1, wN p.2]) false]
abbrev wS (n : Int) (l : List (Int × Int)) (s p : List Int) : AV := .ptr (wE n l ++ (s.map wN ++ [wI p false])) 0
abbrev w_sb : AV := wS 3 [(0, 1), (1, 2), (2, 0), (0, 2)] [1, 0, -1, 0, 0, 0, 0, 0] [0, 0, 0, 0]
abbrev w_s2 : AV := wS 3 [(0, 1), (1, 2), (2, 0), (0, 2)] [0, 0, 0, 0, 0, 0, 0, 0] [1, 1, 2, 0]
abbrev w_s3 : AV := wS 3 [(0, 1), (1, 2), (2, 0), (0, 2)] [0, 0, 0, 0, 0, 0, 0, 0] [0, 0, 1, 0]
abbrev w_sc : AV := wS 4 [(0, 1), (1, 0), (2, 3), (3, 2)] [0, 0, 0, 0, 0, 0, 0, 0] [0, 0, 0, 0]
abbrev w_sd : AV := wS 3 [(0, 1), (0, 2)] [2, -1, -1, 0, 0, 0, 0, 0] [0, 0]
abbrev w_sm : AV := wS 3 [(0, 1), (1, 2), (2, 0), (0, 2), (2, 0)] [0, 0, 0, 0, 0, 0, 0, 0] [0, 0, 0, 0, 0]
abbrev w_bb : AV := .agg (wE 3 [(0, 1), (1, 2), (2, 0), (0, 2)])
abbrev w_bc : AV := .agg (wE 4 [(0, 1), (1, 0), (2, 3), (3, 2)])
abbrev w_bd : AV := .agg (wE 3 [(0, 1), (0, 2)])
def y0 : AnsY := ⟨47, [], w_bb, false⟩
theorem w0 : ConAt T 60 y0.f y0.args y0.res := ker_conV t47 (by kernel_rfl)
def a0 : Ans := ⟨47, y0.args, y0.res⟩
theorem v0 : AnsOk T 19999 a0 := (ansOk_of w0 (fun _ => rfl) (by rfl)).mono (by decide)
def y1 : AnsY := ⟨48, [], w_bc, false⟩
theorem w1 : ConAt T 60 y1.f y1.args y1.res := ker_conV t48 (by kernel_rfl)
def a1 : Ans := ⟨48, y1.args, y1.res⟩
theorem v1 : AnsOk T 19999 a1 := (ansOk_of w1 (fun _ => rfl) (by rfl)).mono (by decide)
def y2 : AnsY := ⟨49, [], w_bd, false⟩
theorem w2 : ConAt T 60 y2.f y2.args y2.res := ker_conV t49 (by kernel_rfl)
def a2 : Ans := ⟨49, y2.args, y2.res⟩
theorem v2 : AnsOk T 19999 a2 := (ansOk_of w2 (fun _ => rfl) (by rfl)).mono (by decide)
def y3 : AnsY := ⟨19, [w_bb], (wN 0), false⟩
theorem w3 : ConAt T 60 y3.f y3.args y3.res := ker_conV t19 (by kernel_rfl)
theorem yo3 : YOk T 60 y3 := yOk_of w3
def y4 : AnsY := ⟨19, [w_bc], (wN 0), false⟩
theorem w4 : ConAt T 60 y4.f y4.args y4.res := ker_conV t19 (by kernel_rfl)
theorem yo4 : YOk T 60 y4 := yOk_of w4
def y5 : AnsY := ⟨19, [w_bd], (wN 0), false⟩
theorem w5 : ConAt T 60 y5.f y5.args y5.res := ker_conV t19 (by kernel_rfl)
theorem yo5 : YOk T 60 y5 := yOk_of w5
def y6 : AnsY := ⟨17, [w_bb, (wI [3, 2, 0, 1] false)], .tuple [(wN 0), (wN 2), (wN 0)], false⟩
theorem w6 : ConAt T 60 y6.f y6.args y6.res := ker_conV t17 (by kernel_rfl)
def a6 : Ans := ⟨17, y6.args, y6.res⟩
theorem v6 : AnsOk T 19999 a6 := (ansOk_of w6 (fun _ => rfl) (by rfl)).mono (by decide)
def y7 : AnsY := ⟨17, [w_bb, (wI [0, 1, 3, 2] false)], .tuple [(wN 0), (wN 0), (wN 19)], false⟩
theorem w7 : ConAt T 60 y7.f y7.args y7.res := ker_conV t17 (by kernel_rfl)
def a7 : Ans := ⟨17, y7.args, y7.res⟩
theorem v7 : AnsOk T 19999 a7 := (ansOk_of w7 (fun _ => rfl) (by rfl)).mono (by decide)
def y8 : AnsY := ⟨58, [w_sb], (wI [0] false), false⟩
theorem w8 : ConAt T 60 y8.f y8.args y8.res := ker_conV t58 (by kernel_rfl)
theorem yo8 : YOk T 60 y8 := yOk_of w8
def y9 : AnsY := ⟨58, [w_sc], (wI [] false), false⟩
theorem w9 : ConAt T 60 y9.f y9.args y9.res := ker_conV t58 (by kernel_rfl)
theorem yo9 : YOk T 60 y9 := yOk_of w9
def y10 : AnsY := ⟨58, [w_sd], (wI [] false), false⟩
theorem w10 : ConAt T 60 y10.f y10.args y10.res := ker_conV t58 (by kernel_rfl)
theorem yo10 : YOk T 60 y10 := yOk_of w10
def y11 : AnsY := ⟨57, [w_bb], .tuple [w_sb, (wN 0)], false⟩
theorem w11 : ConAt T 80 y11.f y11.args y11.res := listY_con (n := 19) (l := [y3]) (k := 60) t57 (List.forall_mem_cons.2 ⟨yo3.mono (by decide), (fun _ h => by cases h)⟩) (by kernel_rfl)
theorem yo11 : YOk T 80 y11 := yOk_of w11
def y12 : AnsY := ⟨57, [w_bc], .tuple [w_sc, (wN 0)], false⟩
theorem w12 : ConAt T 80 y12.f y12.args y12.res := listY_con (n := 19) (l := [y4]) (k := 60) t57 (List.forall_mem_cons.2 ⟨yo4.mono (by decide), (fun _ h => by cases h)⟩) (by kernel_rfl)
theorem yo12 : YOk T 80 y12 := yOk_of w12
def y13 : AnsY := ⟨57, [w_bd], .tuple [w_sd, (wN 0)], false⟩
theorem w13 : ConAt T 80 y13.f y13.args y13.res := listY_con (n := 19) (l := [y5]) (k := 60) t57 (List.forall_mem_cons.2 ⟨yo5.mono (by decide), (fun _ h => by cases h)⟩) (by kernel_rfl)
theorem yo13 : YOk T 80 y13 := yOk_of w13
def y14 : AnsY := ⟨83, [.clo 94 [] [.ptr [w_sb] 0, .ptr [(wN (-1))] 0, .ptr [(wI [] false)] 0]], (wI [0, 1, 2, 3] false), true⟩
theorem w14 : ConAtF T 60 y14.f y14.args y14.res := ker_conF t83 (by kernel_rfl)
theorem yo14 : YOk T 60 y14 := yOk_fr w14
def y15 : AnsY := ⟨82, [(wI [0, 1, 2, 3] false), .clo 85 [] [.ptr [w_sb] 0, .ptr [(wI [] false)] 0]], .tuple [(wN 0), .bool true], false⟩
theorem w15 : ConAt T 60 y15.f y15.args y15.res := ker_conV t82 (by kernel_rfl)
theorem yo15 : YOk T 60 y15 := yOk_of w15
def y16 : AnsY := ⟨83, [.clo 94 [] [.ptr [w_sb] 0, .ptr [(wN 1)] 0, .ptr [(wI [0] false)] 0]], (wI [1] false), true⟩
theorem w16 : ConAtF T 60 y16.f y16.args y16.res := ker_conF t83 (by kernel_rfl)
theorem yo16 : YOk T 60 y16 := yOk_fr w16
def y17 : AnsY := ⟨82, [(wI [1] false), .clo 85 [] [.ptr [w_sb] 0, .ptr [(wI [0] false)] 0]], .tuple [(wN 1), .bool true], false⟩
theorem w17 : ConAt T 60 y17.f y17.args y17.res := ker_conV t82 (by kernel_rfl)
theorem yo17 : YOk T 60 y17 := yOk_of w17
def y18 : AnsY := ⟨83, [.clo 94 [] [.ptr [w_sb] 0, .ptr [(wN 2)] 0, .ptr [(wI [0, 1] false)] 0]], (wI [2] false), true⟩
theorem w18 : ConAtF T 60 y18.f y18.args y18.res := ker_conF t83 (by kernel_rfl)
theorem yo18 : YOk T 60 y18 := yOk_fr w18
def y19 : AnsY := ⟨82, [(wI [2] false), .clo 85 [] [.ptr [w_sb] 0, .ptr [(wI [0, 1] false)] 0]], .tuple [(wN 2), .bool true], false⟩
theorem w19 : ConAt T 60 y19.f y19.args y19.res := ker_conV t82 (by kernel_rfl)
theorem yo19 : YOk T 60 y19 := yOk_of w19
def y20 : AnsY := ⟨83, [.clo 94 [] [.ptr [w_sb] 0, .ptr [(wN 0)] 0, .ptr [(wI [0, 1, 2] false)] 0]], (wI [3] false), true⟩
theorem w20 : ConAtF T 60 y20.f y20.args y20.res := ker_conF t83 (by kernel_rfl)
theorem yo20 : YOk T 60 y20 := yOk_fr w20
def y21 : AnsY := ⟨82, [(wI [3] false), .clo 85 [] [.ptr [w_sb] 0, .ptr [(wI [0, 1, 2] false)] 0]], .tuple [(wN 3), .bool true], false⟩
theorem w21 : ConAt T 60 y21.f y21.args y21.res := ker_conV t82 (by kernel_rfl)
theorem yo21 : YOk T 60 y21 := yOk_of w21
def y22 : AnsY := ⟨22, [w_bb], .tuple [(wI [0, 1, 2, 3] false), (wN 0)], false⟩
theorem w22 : ConAt T 100 y22.f y22.args y22.res := listY_con (n := 19) (l := [y11, y8, y14, y15, y16, y17, y18, y19, y20, y21]) (k := 80) t22 (List.forall_mem_cons.2 ⟨yo11.mono (by decide), List.forall_mem_cons.2 ⟨yo8.mono (by decide), List.forall_mem_cons.2 ⟨yo14.mono (by decide), List.forall_mem_cons.2 ⟨yo15.mono (by decide), List.forall_mem_cons.2 ⟨yo16.mono (by decide), List.forall_mem_cons.2 ⟨yo17.mono (by decide), List.forall_mem_cons.2 ⟨yo18.mono (by decide), List.forall_mem_cons.2 ⟨yo19.mono (by decide), List.forall_mem_cons.2 ⟨yo20.mono (by decide), List.forall_mem_cons.2 ⟨yo21.mono (by decide), (fun _ h => by cases h)⟩⟩⟩⟩⟩⟩⟩⟩⟩⟩) (by kernel_rfl)
def a22 : Ans := ⟨22, y22.args, y22.res⟩
theorem v22 : AnsOk T 19999 a22 := (ansOk_of w22 (fun _ => rfl) (by rfl)).mono (by decide)
def y23 : AnsY := ⟨22, [w_bc], .tuple [(wI [] false), (wN 19)], false⟩
theorem w23 : ConAt T 100 y23.f y23.args y23.res := listY_con (n := 19) (l := [y12, y9]) (k := 80) t22 (List.forall_mem_cons.2 ⟨yo12.mono (by decide), List.forall_mem_cons.2 ⟨yo9.mono (by decide), (fun _ h => by cases h)⟩⟩) (by kernel_rfl)
def a23 : Ans := ⟨22, y23.args, y23.res⟩
theorem v23 : AnsOk T 19999 a23 := (ansOk_of w23 (fun _ => rfl) (by rfl)).mono (by decide)
def y24 : AnsY := ⟨24, [w_bb], .tuple [(wI [0] false), (wN 0)], false⟩
theorem w24 : ConAt T 100 y24.f y24.args y24.res := listY_con (n := 19) (l := [y11, y8]) (k := 80) t24 (List.forall_mem_cons.2 ⟨yo11.mono (by decide), List.forall_mem_cons.2 ⟨yo8.mono (by decide), (fun _ h => by cases h)⟩⟩) (by kernel_rfl)
def a24 : Ans := ⟨24, y24.args, y24.res⟩
theorem v24 : AnsOk T 19999 a24 := (ansOk_of w24 (fun _ => rfl) (by rfl)).mono (by decide)
def y25 : AnsY := ⟨63, [(wI [1, 0, (-1), 0, 0, 0, 0, 0] false), (wN (-1))], (wN 2), false⟩
theorem w25 : ConAt T 60 y25.f y25.args y25.res := ker_conV t63 (by kernel_rfl)
theorem yo25 : YOk T 60 y25 := yOk_of w25
def y26 : AnsY := ⟨62, [w_sm], (wN 2), false⟩
def wEs : List (Nat × Nat) := [(0, 1), (1, 2), (2, 0), (0, 2), (2, 0)]
def wX (k i j : Nat) : Int := if k = 0 then (if i = 0 then (if j = 0 then 1 else -1) else (if j = 0 then 0 else 2)) else 2
def wL (k : Nat) : Int := if k = 2 then 2 else 1
theorem wBar : Bar (cl wEs).length wX wL where
 l0 := rfl
 ls := fun k hk => by
  have : k = 0 ∨ k = 1 := by have : (cl wEs).length = 2 := by decide
                             omega
  rcases this with rfl | rfl <;> decide
 nz := fun k _ => by unfold wL; split <;> decide
 st := fun k i j h1 h2 h3 h4 => by
  have hm : (cl wEs).length = 2 := by decide
  obtain rfl : k = 0 := by omega
  obtain rfl : i = 1 := by omega
  obtain rfl : j = 1 := by omega
  decide
 lo := fun k i j => by unfold wX; (repeat' split) <;> decide
 hi := fun k i j => by unfold wX; (repeat' split) <;> decide
theorem w26 : ConAt T 3 y26.f y26.args y26.res := conAt_of (circ_run 3 wEs [(wN 0), (wN 0), (wN 0), (wN 0), (wN 0), (wN 0), (wN 0), (wN 0), (wI [0, 0, 0, 0, 0] false)] (by decide) (by decide) (by decide) wBar (fun a b ha hb => by
  have hm : (cl wEs).length = 2 := by decide
  have h1 : a = 0 ∨ a = 1 := by omega
  have h2 : b = 0 ∨ b = 1 := by omega
  rcases h1 with rfl | rfl <;> rcases h2 with rfl | rfl <;> decide) (by decide) (by decide)) (Nat.le_refl _)
theorem yo26 : YOk T 3 y26 := yOk_of w26
def y27 : AnsY := ⟨26, [w_bb], .tuple [(wN 2), (wN 0)], false⟩
theorem w27 : ConAt T 100 y27.f y27.args y27.res := listY_con (n := 19) (l := [y11, y8, y25, y26]) (k := 80) t26 (List.forall_mem_cons.2 ⟨yo11.mono (by decide), List.forall_mem_cons.2 ⟨yo8.mono (by decide), List.forall_mem_cons.2 ⟨yo25.mono (by decide), List.forall_mem_cons.2 ⟨yo26.mono (by decide), (fun _ h => by cases h)⟩⟩⟩⟩) (by kernel_rfl)
def a27 : Ans := ⟨26, y27.args, y27.res⟩
theorem v27 : AnsOk T 19999 a27 := (ansOk_of w27 (fun _ => rfl) (by rfl)).mono (by decide)
def y28 : AnsY := ⟨26, [w_bd], .tuple [(wN 0), (wN 0)], false⟩
theorem w28 : ConAt T 100 y28.f y28.args y28.res := listY_con (n := 19) (l := [y13, y10]) (k := 80) t26 (List.forall_mem_cons.2 ⟨yo13.mono (by decide), List.forall_mem_cons.2 ⟨yo10.mono (by decide), (fun _ h => by cases h)⟩⟩) (by kernel_rfl)
def a28 : Ans := ⟨26, y28.args, y28.res⟩
theorem v28 : AnsOk T 19999 a28 := (ansOk_of w28 (fun _ => rfl) (by rfl)).mono (by decide)
def y32 : AnsY := ⟨65, [w_sc, (wI [] false)], .bool false, false⟩
theorem w32 : ConAt T 60 y32.f y32.args y32.res := ker_conV t65 (by kernel_rfl)
theorem yo32 : YOk T 60 y32 := yOk_of w32
def y33 : AnsY := ⟨31, [w_bc, (wN 2), (wI [0, 1] false)], (wN 0), false⟩
theorem w33 : ConAt T 60 y33.f y33.args y33.res := ker_conV t31 (by kernel_rfl)
def a33 : Ans := ⟨31, y33.args, y33.res⟩
theorem v33 : AnsOk T 19999 a33 := (ansOk_of w33 (fun _ => rfl) (by rfl)).mono (by decide)
def y34 : AnsY := ⟨31, [w_bc, (wN 2), (wI [0, 2] false)], (wN 14), false⟩
theorem w34 : ConAt T 60 y34.f y34.args y34.res := ker_conV t31 (by kernel_rfl)
def a34 : Ans := ⟨31, y34.args, y34.res⟩
theorem v34 : AnsOk T 19999 a34 := (ansOk_of w34 (fun _ => rfl) (by rfl)).mono (by decide)
def y35 : AnsY := ⟨31, [w_bd, (wN 1), (wI [0] false)], (wN 0), false⟩
theorem w35 : ConAt T 60 y35.f y35.args y35.res := ker_conV t31 (by kernel_rfl)
def a35 : Ans := ⟨31, y35.args, y35.res⟩
theorem v35 : AnsOk T 19999 a35 := (ansOk_of w35 (fun _ => rfl) (by rfl)).mono (by decide)
def y36 : AnsY := ⟨53, [(wI [0] false), (wN 0)], .bool true, false⟩
theorem w36 : ConAt T 60 y36.f y36.args y36.res := ker_conV t53 (by kernel_rfl)
theorem yo36 : YOk T 60 y36 := yOk_of w36
def y37 : AnsY := ⟨53, [(wI [0] false), (wN 1)], .bool false, false⟩
theorem w37 : ConAt T 60 y37.f y37.args y37.res := ker_conV t53 (by kernel_rfl)
theorem yo37 : YOk T 60 y37 := yOk_of w37
def y38 : AnsY := ⟨53, [(wI [0, 1] false), (wN 0)], .bool true, false⟩
theorem w38 : ConAt T 60 y38.f y38.args y38.res := ker_conV t53 (by kernel_rfl)
theorem yo38 : YOk T 60 y38 := yOk_of w38
def y39 : AnsY := ⟨53, [(wI [0, 1] false), (wN 1)], .bool true, false⟩
theorem w39 : ConAt T 60 y39.f y39.args y39.res := ker_conV t53 (by kernel_rfl)
theorem yo39 : YOk T 60 y39 := yOk_of w39
def y40 : AnsY := ⟨53, [(wI [0, 1] false), (wN 2)], .bool false, false⟩
theorem w40 : ConAt T 60 y40.f y40.args y40.res := ker_conV t53 (by kernel_rfl)
theorem yo40 : YOk T 60 y40 := yOk_of w40
def y41 : AnsY := ⟨53, [(wI [0, 1] false), (wN 3)], .bool false, false⟩
theorem w41 : ConAt T 60 y41.f y41.args y41.res := ker_conV t53 (by kernel_rfl)
theorem yo41 : YOk T 60 y41 := yOk_of w41
def y42 : AnsY := ⟨29, [w_bc], .tuple [(wN 2), (wI [0, 1] false), (wN 0)], false⟩
theorem w42 : ConAt T 100 y42.f y42.args y42.res := listY_con (n := 19) (l := [y12, y9, y32, y36, y37, y38, y39, y40, y41]) (k := 80) t29 (List.forall_mem_cons.2 ⟨yo12.mono (by decide), List.forall_mem_cons.2 ⟨yo9.mono (by decide), List.forall_mem_cons.2 ⟨yo32.mono (by decide), List.forall_mem_cons.2 ⟨yo36.mono (by decide), List.forall_mem_cons.2 ⟨yo37.mono (by decide), List.forall_mem_cons.2 ⟨yo38.mono (by decide), List.forall_mem_cons.2 ⟨yo39.mono (by decide), List.forall_mem_cons.2 ⟨yo40.mono (by decide), List.forall_mem_cons.2 ⟨yo41.mono (by decide), (fun _ h => by cases h)⟩⟩⟩⟩⟩⟩⟩⟩⟩) (by kernel_rfl)
def a42 : Ans := ⟨29, y42.args, y42.res⟩
theorem v42 : AnsOk T 19999 a42 := (ansOk_of w42 (fun _ => rfl) (by rfl)).mono (by decide)
def y43 : AnsY := ⟨29, [w_bb], .tuple [(wN 0), (wI [] false), (wN 5)], false⟩
theorem w43 : ConAt T 100 y43.f y43.args y43.res := listY_con (n := 19) (l := [y11, y8]) (k := 80) t29 (List.forall_mem_cons.2 ⟨yo11.mono (by decide), List.forall_mem_cons.2 ⟨yo8.mono (by decide), (fun _ h => by cases h)⟩⟩) (by kernel_rfl)
def a43 : Ans := ⟨29, y43.args, y43.res⟩
theorem v43 : AnsOk T 19999 a43 := (ansOk_of w43 (fun _ => rfl) (by rfl)).mono (by decide)
def y44 : AnsY := ⟨52, [(wN 0), (wN 60), (wI [1, 1, 2, 0] false)], .bool true, false⟩
theorem w44 : ConAt T 60 y44.f y44.args y44.res := ker_conV t52 (by kernel_rfl)
theorem yo44 : YOk T 60 y44 := yOk_of w44
def y45 : AnsY := ⟨52, [(wN 0), (wN 60), (wI [0, 0, 0, 0] false)], .bool true, false⟩
theorem w45 : ConAt T 60 y45.f y45.args y45.res := ker_conV t52 (by kernel_rfl)
theorem yo45 : YOk T 60 y45 := yOk_of w45
def y46 : AnsY := ⟨89, [w_s2, (wN 0), (wN 0)], .bool true, false⟩
theorem w46 : ConAt T 60 y46.f y46.args y46.res := ker_conV t89 (by kernel_rfl)
theorem yo46 : YOk T 60 y46 := yOk_of w46
def y47 : AnsY := ⟨89, [w_s2, (wN 0), (wN 1)], .bool true, false⟩
theorem w47 : ConAt T 60 y47.f y47.args y47.res := ker_conV t89 (by kernel_rfl)
theorem yo47 : YOk T 60 y47 := yOk_of w47
def y48 : AnsY := ⟨89, [w_s2, (wN 1), (wN 0)], .bool true, false⟩
theorem w48 : ConAt T 60 y48.f y48.args y48.res := ker_conV t89 (by kernel_rfl)
theorem yo48 : YOk T 60 y48 := yOk_of w48
def y49 : AnsY := ⟨89, [w_s2, (wN 1), (wN 1)], .bool true, false⟩
theorem w49 : ConAt T 60 y49.f y49.args y49.res := ker_conV t89 (by kernel_rfl)
theorem yo49 : YOk T 60 y49 := yOk_of w49
def y50 : AnsY := ⟨89, [w_s2, (wN 0), (wN 2)], .bool true, false⟩
theorem w50 : ConAt T 60 y50.f y50.args y50.res := ker_conV t89 (by kernel_rfl)
theorem yo50 : YOk T 60 y50 := yOk_of w50
def y51 : AnsY := ⟨89, [w_s2, (wN 1), (wN 2)], .bool true, false⟩
theorem w51 : ConAt T 60 y51.f y51.args y51.res := ker_conV t89 (by kernel_rfl)
theorem yo51 : YOk T 60 y51 := yOk_of w51
def y52 : AnsY := ⟨89, [w_s2, (wN 2), (wN 0)], .bool true, false⟩
theorem w52 : ConAt T 60 y52.f y52.args y52.res := ker_conV t89 (by kernel_rfl)
theorem yo52 : YOk T 60 y52 := yOk_of w52
def y53 : AnsY := ⟨89, [w_s2, (wN 2), (wN 1)], .bool true, false⟩
theorem w53 : ConAt T 60 y53.f y53.args y53.res := ker_conV t89 (by kernel_rfl)
theorem yo53 : YOk T 60 y53 := yOk_of w53
def y54 : AnsY := ⟨89, [w_s2, (wN 2), (wN 2)], .bool true, false⟩
theorem w54 : ConAt T 60 y54.f y54.args y54.res := ker_conV t89 (by kernel_rfl)
theorem yo54 : YOk T 60 y54 := yOk_of w54
def y55 : AnsY := ⟨71, [w_s2], .bool true, false⟩
theorem w55 : ConAt T 80 y55.f y55.args y55.res := listY_con (n := 19) (l := [y46, y47, y48, y49, y50, y51, y52, y53, y54]) (k := 60) t71 (List.forall_mem_cons.2 ⟨yo46.mono (by decide), List.forall_mem_cons.2 ⟨yo47.mono (by decide), List.forall_mem_cons.2 ⟨yo48.mono (by decide), List.forall_mem_cons.2 ⟨yo49.mono (by decide), List.forall_mem_cons.2 ⟨yo50.mono (by decide), List.forall_mem_cons.2 ⟨yo51.mono (by decide), List.forall_mem_cons.2 ⟨yo52.mono (by decide), List.forall_mem_cons.2 ⟨yo53.mono (by decide), List.forall_mem_cons.2 ⟨yo54.mono (by decide), (fun _ h => by cases h)⟩⟩⟩⟩⟩⟩⟩⟩⟩) (by kernel_rfl)
theorem yo55 : YOk T 80 y55 := yOk_of w55
def y56 : AnsY := ⟨89, [w_sb, (wN 0), (wN 0)], .bool true, false⟩
theorem w56 : ConAt T 60 y56.f y56.args y56.res := ker_conV t89 (by kernel_rfl)
theorem yo56 : YOk T 60 y56 := yOk_of w56
def y57 : AnsY := ⟨89, [w_sb, (wN 0), (wN 1)], .bool true, false⟩
theorem w57 : ConAt T 60 y57.f y57.args y57.res := ker_conV t89 (by kernel_rfl)
theorem yo57 : YOk T 60 y57 := yOk_of w57
def y58 : AnsY := ⟨89, [w_sb, (wN 1), (wN 0)], .bool true, false⟩
theorem w58 : ConAt T 60 y58.f y58.args y58.res := ker_conV t89 (by kernel_rfl)
theorem yo58 : YOk T 60 y58 := yOk_of w58
def y59 : AnsY := ⟨89, [w_sb, (wN 1), (wN 1)], .bool true, false⟩
theorem w59 : ConAt T 60 y59.f y59.args y59.res := ker_conV t89 (by kernel_rfl)
theorem yo59 : YOk T 60 y59 := yOk_of w59
def y60 : AnsY := ⟨89, [w_sb, (wN 0), (wN 2)], .bool true, false⟩
theorem w60 : ConAt T 60 y60.f y60.args y60.res := ker_conV t89 (by kernel_rfl)
theorem yo60 : YOk T 60 y60 := yOk_of w60
def y61 : AnsY := ⟨89, [w_sb, (wN 1), (wN 2)], .bool true, false⟩
theorem w61 : ConAt T 60 y61.f y61.args y61.res := ker_conV t89 (by kernel_rfl)
theorem yo61 : YOk T 60 y61 := yOk_of w61
def y62 : AnsY := ⟨89, [w_sb, (wN 2), (wN 0)], .bool true, false⟩
theorem w62 : ConAt T 60 y62.f y62.args y62.res := ker_conV t89 (by kernel_rfl)
theorem yo62 : YOk T 60 y62 := yOk_of w62
def y63 : AnsY := ⟨89, [w_sb, (wN 2), (wN 1)], .bool true, false⟩
theorem w63 : ConAt T 60 y63.f y63.args y63.res := ker_conV t89 (by kernel_rfl)
theorem yo63 : YOk T 60 y63 := yOk_of w63
def y64 : AnsY := ⟨89, [w_sb, (wN 2), (wN 2)], .bool true, false⟩
theorem w64 : ConAt T 60 y64.f y64.args y64.res := ker_conV t89 (by kernel_rfl)
theorem yo64 : YOk T 60 y64 := yOk_of w64
def y65 : AnsY := ⟨71, [w_sb], .bool true, false⟩
theorem w65 : ConAt T 80 y65.f y65.args y65.res := listY_con (n := 19) (l := [y56, y57, y58, y59, y60, y61, y62, y63, y64]) (k := 60) t71 (List.forall_mem_cons.2 ⟨yo56.mono (by decide), List.forall_mem_cons.2 ⟨yo57.mono (by decide), List.forall_mem_cons.2 ⟨yo58.mono (by decide), List.forall_mem_cons.2 ⟨yo59.mono (by decide), List.forall_mem_cons.2 ⟨yo60.mono (by decide), List.forall_mem_cons.2 ⟨yo61.mono (by decide), List.forall_mem_cons.2 ⟨yo62.mono (by decide), List.forall_mem_cons.2 ⟨yo63.mono (by decide), List.forall_mem_cons.2 ⟨yo64.mono (by decide), (fun _ h => by cases h)⟩⟩⟩⟩⟩⟩⟩⟩⟩) (by kernel_rfl)
theorem yo65 : YOk T 80 y65 := yOk_of w65
def y66 : AnsY := ⟨89, [w_sc, (wN 0), (wN 0)], .bool true, false⟩
theorem w66 : ConAt T 60 y66.f y66.args y66.res := ker_conV t89 (by kernel_rfl)
theorem yo66 : YOk T 60 y66 := yOk_of w66
def y67 : AnsY := ⟨89, [w_sc, (wN 0), (wN 1)], .bool true, false⟩
theorem w67 : ConAt T 60 y67.f y67.args y67.res := ker_conV t89 (by kernel_rfl)
theorem yo67 : YOk T 60 y67 := yOk_of w67
def y68 : AnsY := ⟨89, [w_sc, (wN 1), (wN 0)], .bool true, false⟩
theorem w68 : ConAt T 60 y68.f y68.args y68.res := ker_conV t89 (by kernel_rfl)
theorem yo68 : YOk T 60 y68 := yOk_of w68
def y69 : AnsY := ⟨89, [w_sc, (wN 1), (wN 1)], .bool true, false⟩
theorem w69 : ConAt T 60 y69.f y69.args y69.res := ker_conV t89 (by kernel_rfl)
theorem yo69 : YOk T 60 y69 := yOk_of w69
def y70 : AnsY := ⟨89, [w_sc, (wN 0), (wN 2)], .bool false, false⟩
theorem w70 : ConAt T 60 y70.f y70.args y70.res := ker_conV t89 (by kernel_rfl)
theorem yo70 : YOk T 60 y70 := yOk_of w70
def y71 : AnsY := ⟨71, [w_sc], .bool false, false⟩
theorem w71 : ConAt T 80 y71.f y71.args y71.res := listY_con (n := 19) (l := [y66, y67, y68, y69, y70]) (k := 60) t71 (List.forall_mem_cons.2 ⟨yo66.mono (by decide), List.forall_mem_cons.2 ⟨yo67.mono (by decide), List.forall_mem_cons.2 ⟨yo68.mono (by decide), List.forall_mem_cons.2 ⟨yo69.mono (by decide), List.forall_mem_cons.2 ⟨yo70.mono (by decide), (fun _ h => by cases h)⟩⟩⟩⟩⟩) (by kernel_rfl)
theorem yo71 : YOk T 80 y71 := yOk_of w71
def y72 : AnsY := ⟨33, [w_bb, (wI [1, 1, 2, 0] false)], .tuple [(wN 4), (wN 0)], false⟩
theorem w72 : ConAt T 100 y72.f y72.args y72.res := listY_con (n := 19) (l := [y3, y44, y55]) (k := 80) t33 (List.forall_mem_cons.2 ⟨yo3.mono (by decide), List.forall_mem_cons.2 ⟨yo44.mono (by decide), List.forall_mem_cons.2 ⟨yo55.mono (by decide), (fun _ h => by cases h)⟩⟩⟩) (by kernel_rfl)
def a72 : Ans := ⟨33, y72.args, y72.res⟩
theorem v72 : AnsOk T 19999 a72 := (ansOk_of w72 (fun _ => rfl) (by rfl)).mono (by decide)
def y73 : AnsY := ⟨33, [w_bb, (wI [0, 0, 0, 0] false)], .tuple [(wN 0), (wN 19)], false⟩
theorem w73 : ConAt T 80 y73.f y73.args y73.res := listY_con (n := 19) (l := [y3, y45]) (k := 60) t33 (List.forall_mem_cons.2 ⟨yo3.mono (by decide), List.forall_mem_cons.2 ⟨yo45.mono (by decide), (fun _ h => by cases h)⟩⟩) (by kernel_rfl)
def a73 : Ans := ⟨33, y73.args, y73.res⟩
theorem v73 : AnsOk T 19999 a73 := (ansOk_of w73 (fun _ => rfl) (by rfl)).mono (by decide)
def y74 : AnsY := ⟨75, [w_sb, (wI [1000, 1000, 0] false)], .tuple [(wI [1, 2, 0] false), (wI [3, 1, 0] false)], true⟩
theorem w74 : ConAtF T 60 y74.f y74.args y74.res := ker_conF t75 (by kernel_rfl)
theorem yo74 : YOk T 60 y74 := yOk_fr w74
def y76 : AnsY := ⟨74, [w_bb], .tuple [w_s3, (wN 0)], false⟩
theorem w76 : ConAt T 100 y76.f y76.args y76.res := listY_con (n := 19) (l := [y3, y65, y74]) (k := 80) t74 (List.forall_mem_cons.2 ⟨yo3.mono (by decide), List.forall_mem_cons.2 ⟨yo65.mono (by decide), List.forall_mem_cons.2 ⟨yo74.mono (by decide), (fun _ h => by cases h)⟩⟩⟩) (by kernel_rfl)
theorem yo76 : YOk T 100 y76 := yOk_of w76
def y77 : AnsY := ⟨74, [w_bc], .tuple [.nilptr, (wN 19)], false⟩
theorem w77 : ConAt T 100 y77.f y77.args y77.res := listY_con (n := 19) (l := [y4, y71]) (k := 80) t74 (List.forall_mem_cons.2 ⟨yo4.mono (by decide), List.forall_mem_cons.2 ⟨yo71.mono (by decide), (fun _ h => by cases h)⟩⟩) (by kernel_rfl)
theorem yo77 : YOk T 100 y77 := yOk_of w77
def y78 : AnsY := ⟨76, [(wI [0, 0, (-1)] false)], (wN (-1)), false⟩
theorem w78 : ConAt T 60 y78.f y78.args y78.res := ker_conV t76 (by kernel_rfl)
theorem yo78 : YOk T 60 y78 := yOk_of w78
def y79 : AnsY := ⟨37, [w_bb], .tuple [(wI [0, 0, 1, 0] false), (wN 0)], false⟩
theorem w79 : ConAt T 120 y79.f y79.args y79.res := listY_con (n := 19) (l := [y76]) (k := 100) t37 (List.forall_mem_cons.2 ⟨yo76.mono (by decide), (fun _ h => by cases h)⟩) (by kernel_rfl)
def a79 : Ans := ⟨37, y79.args, y79.res⟩
theorem v79 : AnsOk T 19999 a79 := (ansOk_of w79 (fun _ => rfl) (by rfl)).mono (by decide)
def y80 : AnsY := ⟨37, [w_bc], .tuple [(wI [] false), (wN 19)], false⟩
theorem w80 : ConAt T 120 y80.f y80.args y80.res := listY_con (n := 19) (l := [y77]) (k := 100) t37 (List.forall_mem_cons.2 ⟨yo77.mono (by decide), (fun _ h => by cases h)⟩) (by kernel_rfl)
def a80 : Ans := ⟨37, y80.args, y80.res⟩
theorem v80 : AnsOk T 19999 a80 := (ansOk_of w80 (fun _ => rfl) (by rfl)).mono (by decide)
def y81 : AnsY := ⟨35, [w_bb, (wI [1, 0, 0] false)], .tuple [(wN 1), (wN 0)], false⟩
theorem w81 : ConAt T 60 y81.f y81.args y81.res := ker_conV t35 (by kernel_rfl)
def a81 : Ans := ⟨35, y81.args, y81.res⟩
theorem v81 : AnsOk T 19999 a81 := (ansOk_of w81 (fun _ => rfl) (by rfl)).mono (by decide)
def y82 : AnsY := ⟨35, [w_bb, (wI [0, 2, 0] false)], .tuple [(wN 0), (wN 14)], false⟩
theorem w82 : ConAt T 60 y82.f y82.args y82.res := ker_conV t35 (by kernel_rfl)
def a82 : Ans := ⟨35, y82.args, y82.res⟩
theorem v82 : AnsOk T 19999 a82 := (ansOk_of w82 (fun _ => rfl) (by rfl)).mono (by decide)
def y83 : AnsY := ⟨38, [w_bb], .tuple [(wI [1, 1, 0] false), (wN 0)], false⟩
theorem w83 : ConAt T 120 y83.f y83.args y83.res := listY_con (n := 19) (l := [y76, y78]) (k := 100) t38 (List.forall_mem_cons.2 ⟨yo76.mono (by decide), List.forall_mem_cons.2 ⟨yo78.mono (by decide), (fun _ h => by cases h)⟩⟩) (by kernel_rfl)
def a83 : Ans := ⟨38, y83.args, y83.res⟩
theorem v83 : AnsOk T 19999 a83 := (ansOk_of w83 (fun _ => rfl) (by rfl)).mono (by decide)
def y84 : AnsY := ⟨36, [w_bb, (wI [1, 1, 0] false)], .tuple [(wN 1), (wN 0)], false⟩
theorem w84 : ConAt T 60 y84.f y84.args y84.res := ker_conV t36 (by kernel_rfl)
def a84 : Ans := ⟨36, y84.args, y84.res⟩
theorem v84 : AnsOk T 19999 a84 := (ansOk_of w84 (fun _ => rfl) (by rfl)).mono (by decide)
def y85 : AnsY := ⟨32, [w_bc, (wN 2), (wI [0, 1] false)], (wN 0), false⟩
theorem w85 : ConAt T 60 y85.f y85.args y85.res := ker_conV t32 (by kernel_rfl)
def a85 : Ans := ⟨32, y85.args, y85.res⟩
theorem v85 : AnsOk T 19999 a85 := (ansOk_of w85 (fun _ => rfl) (by rfl)).mono (by decide)
def y86 : AnsY := ⟨28, [(wI [0, 1, 2, 3] false), (wI [0, 1, 2, 3] false)], .bool true, false⟩
theorem w86 : ConAt T 60 y86.f y86.args y86.res := ker_conV t28 (by kernel_rfl)
def a86 : Ans := ⟨28, y86.args, y86.res⟩
theorem v86 : AnsOk T 19999 a86 := (ansOk_of w86 (fun _ => rfl) (by rfl)).mono (by decide)
def y87 : AnsY := ⟨28, [(wI [0] false), (wI [0] false)], .bool true, false⟩
theorem w87 : ConAt T 60 y87.f y87.args y87.res := ker_conV t28 (by kernel_rfl)
def a87 : Ans := ⟨28, y87.args, y87.res⟩
theorem v87 : AnsOk T 19999 a87 := (ansOk_of w87 (fun _ => rfl) (by rfl)).mono (by decide)
def y88 : AnsY := ⟨28, [(wI [0, 0, 1, 0] false), (wI [0, 0, 1, 0] false)], .bool true, false⟩
theorem w88 : ConAt T 60 y88.f y88.args y88.res := ker_conV t28 (by kernel_rfl)
def a88 : Ans := ⟨28, y88.args, y88.res⟩
theorem v88 : AnsOk T 19999 a88 := (ansOk_of w88 (fun _ => rfl) (by rfl)).mono (by decide)
def y89 : AnsY := ⟨50, [(wI [3, 2, 0, 1] false)], (wI [3, 2, 0, 1] false), false⟩
theorem w89 : ConAt T 60 y89.f y89.args y89.res := ker_conV t50 (by kernel_rfl)
def a89 : Ans := ⟨50, [(wI [3, 2, 0, 1] true)], y89.res⟩
theorem v89 : AnsOk T 19999 a89 := (ansOk_of w89 (fun _ => rfl) (by rfl)).mono (by decide)
def y90 : AnsY := ⟨50, [(wI [0, 1, 3, 2] false)], (wI [0, 1, 3, 2] false), false⟩
theorem w90 : ConAt T 60 y90.f y90.args y90.res := ker_conV t50 (by kernel_rfl)
def a90 : Ans := ⟨50, [(wI [0, 1, 3, 2] true)], y90.res⟩
theorem v90 : AnsOk T 19999 a90 := (ansOk_of w90 (fun _ => rfl) (by rfl)).mono (by decide)
def y91 : AnsY := ⟨50, [(wI [0, 1] false)], (wI [0, 1] false), false⟩
theorem w91 : ConAt T 60 y91.f y91.args y91.res := ker_conV t50 (by kernel_rfl)
def a91 : Ans := ⟨50, [(wI [0, 1] true)], y91.res⟩
theorem v91 : AnsOk T 19999 a91 := (ansOk_of w91 (fun _ => rfl) (by rfl)).mono (by decide)
def y92 : AnsY := ⟨50, [(wI [0, 2] false)], (wI [0, 2] false), false⟩
theorem w92 : ConAt T 60 y92.f y92.args y92.res := ker_conV t50 (by kernel_rfl)
def a92 : Ans := ⟨50, [(wI [0, 2] true)], y92.res⟩
theorem v92 : AnsOk T 19999 a92 := (ansOk_of w92 (fun _ => rfl) (by rfl)).mono (by decide)
def y93 : AnsY := ⟨50, [(wI [0] false)], (wI [0] false), false⟩
theorem w93 : ConAt T 60 y93.f y93.args y93.res := ker_conV t50 (by kernel_rfl)
def a93 : Ans := ⟨50, [(wI [0] true)], y93.res⟩
theorem v93 : AnsOk T 19999 a93 := (ansOk_of w93 (fun _ => rfl) (by rfl)).mono (by decide)
def y94 : AnsY := ⟨50, [(wI [1, 1, 2, 0] false)], (wI [1, 1, 2, 0] false), false⟩
theorem w94 : ConAt T 60 y94.f y94.args y94.res := ker_conV t50 (by kernel_rfl)
def a94 : Ans := ⟨50, [(wI [1, 1, 2, 0] true)], y94.res⟩
theorem v94 : AnsOk T 19999 a94 := (ansOk_of w94 (fun _ => rfl) (by rfl)).mono (by decide)
def y95 : AnsY := ⟨50, [(wI [0, 0, 0, 0] false)], (wI [0, 0, 0, 0] false), false⟩
theorem w95 : ConAt T 60 y95.f y95.args y95.res := ker_conV t50 (by kernel_rfl)
def a95 : Ans := ⟨50, [(wI [0, 0, 0, 0] true)], y95.res⟩
theorem v95 : AnsOk T 19999 a95 := (ansOk_of w95 (fun _ => rfl) (by rfl)).mono (by decide)
def y96 : AnsY := ⟨50, [(wI [1, 0, 0] false)], (wI [1, 0, 0] false), false⟩
theorem w96 : ConAt T 60 y96.f y96.args y96.res := ker_conV t50 (by kernel_rfl)
def a96 : Ans := ⟨50, [(wI [1, 0, 0] true)], y96.res⟩
theorem v96 : AnsOk T 19999 a96 := (ansOk_of w96 (fun _ => rfl) (by rfl)).mono (by decide)
def y97 : AnsY := ⟨50, [(wI [0, 2, 0] false)], (wI [0, 2, 0] false), false⟩
theorem w97 : ConAt T 60 y97.f y97.args y97.res := ker_conV t50 (by kernel_rfl)
def a97 : Ans := ⟨50, [(wI [0, 2, 0] true)], y97.res⟩
theorem v97 : AnsOk T 19999 a97 := (ansOk_of w97 (fun _ => rfl) (by rfl)).mono (by decide)
def y98 : AnsY := ⟨50, [(wI [0, 1, 2, 3] false)], (wI [0, 1, 2, 3] false), false⟩
theorem w98 : ConAt T 60 y98.f y98.args y98.res := ker_conV t50 (by kernel_rfl)
def a98 : Ans := ⟨50, [(wI [0, 1, 2, 3] true)], y98.res⟩
theorem v98 : AnsOk T 19999 a98 := (ansOk_of w98 (fun _ => rfl) (by rfl)).mono (by decide)
def y99 : AnsY := ⟨50, [(wI [0, 0, 1, 0] false)], (wI [0, 0, 1, 0] false), false⟩
theorem w99 : ConAt T 60 y99.f y99.args y99.res := ker_conV t50 (by kernel_rfl)
def a99 : Ans := ⟨50, [(wI [0, 0, 1, 0] true)], y99.res⟩
theorem v99 : AnsOk T 19999 a99 := (ansOk_of w99 (fun _ => rfl) (by rfl)).mono (by decide)
def wl : List Ans := [a0, a1, a2, a6, a7, a22, a23, a24, a27, a28, a33, a34, a35, a42, a43, a72, a73, a79, a80, a81, a82, a83, a84, a85, a86, a87, a88, a89, a90, a91, a92, a93, a94, a95, a96, a97, a98, a99]
theorem wl_ok : ∀ a ∈ wl, AnsOk T 19999 a := List.forall_mem_cons.2 ⟨v0, List.forall_mem_cons.2 ⟨v1, List.forall_mem_cons.2 ⟨v2, List.forall_mem_cons.2 ⟨v6, List.forall_mem_cons.2 ⟨v7, List.forall_mem_cons.2 ⟨v22, List.forall_mem_cons.2 ⟨v23, List.forall_mem_cons.2 ⟨v24, List.forall_mem_cons.2 ⟨v27, List.forall_mem_cons.2 ⟨v28, List.forall_mem_cons.2 ⟨v33, List.forall_mem_cons.2 ⟨v34, List.forall_mem_cons.2 ⟨v35, List.forall_mem_cons.2 ⟨v42, List.forall_mem_cons.2 ⟨v43, List.forall_mem_cons.2 ⟨v72, List.forall_mem_cons.2 ⟨v73, List.forall_mem_cons.2 ⟨v79, List.forall_mem_cons.2 ⟨v80, List.forall_mem_cons.2 ⟨v81, List.forall_mem_cons.2 ⟨v82, List.forall_mem_cons.2 ⟨v83, List.forall_mem_cons.2 ⟨v84, List.forall_mem_cons.2 ⟨v85, List.forall_mem_cons.2 ⟨v86, List.forall_mem_cons.2 ⟨v87, List.forall_mem_cons.2 ⟨v88, List.forall_mem_cons.2 ⟨v89, List.forall_mem_cons.2 ⟨v90, List.forall_mem_cons.2 ⟨v91, List.forall_mem_cons.2 ⟨v92, List.forall_mem_cons.2 ⟨v93, List.forall_mem_cons.2 ⟨v94, List.forall_mem_cons.2 ⟨v95, List.forall_mem_cons.2 ⟨v96, List.forall_mem_cons.2 ⟨v97, List.forall_mem_cons.2 ⟨v98, List.forall_mem_cons.2 ⟨v99, (fun _ h => by cases h)⟩⟩⟩⟩⟩⟩⟩⟩⟩⟩⟩⟩⟩⟩⟩⟩⟩⟩⟩⟩⟩⟩⟩⟩⟩⟩⟩⟩⟩⟩⟩⟩⟩⟩⟩⟩⟩⟩
theorem works : ConAt T 20000 16 [] (.bool true) := list_con t16 wl_ok (by kernel_rfl)
theorem cs_Works {n base : Nat} {Q : EX × St → Prop} {d : Option Nat} {L : List IOper} {ks : List Kont} {e : Env} {h : Heap} (hn : n = 20000) : GP (evCall T n) base Q d L ks e (evCall T n false (.fn 16) [] h) = GO (evCall T n) base Q L ks ⟨setDst e d (.bool true), h⟩ := by
 subst hn; exact gp_at works (fz_nil _) rfl
end Go.Ev.YtjcabpldgdafeaaC
