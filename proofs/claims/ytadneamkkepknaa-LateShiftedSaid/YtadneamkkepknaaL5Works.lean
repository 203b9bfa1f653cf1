/- The works of the layer's examples, each call reckoned by the kernel, and joined. No condition. -/
import Derived.Test.YtadneamkkepknaaL5Kept
import Derived.Test.YtadneamkkepknaaEvMore
set_option linter.unusedSimpArgs false
set_option linter.unusedVariables false
namespace Go.Ev.YtadneamkkepknaaC
open Go Go.Proofs
set_option maxRecDepth 100000
attribute [local irreducible] Res.all evC evLoop evOps evOper evOp evFn evCall AnsOk ConAt

abbrev exO : List Order := [⟨2, 3, 4⟩, ⟨1, 2, 3⟩, ⟨4, 4, 7⟩, ⟨3, 5, 8⟩]

theorem kx0 : refKept exO 0 = ([0, 1, 3], 0) := by decide +kernel
theorem kx1 : refKept exO 1 = ([1, 2], 0) := by decide +kernel

theorem w0 : ConAt T 39 55 [] (.slice (some 3) [.agg [.int .i64 2, .int .i64 3, .int .i64 4], .agg [.int .i64 1, .int .i64 2, .int .i64 3], .agg [.int .i64 4, .int .i64 4, .int .i64 7], .agg [.int .i64 3, .int .i64 5, .int .i64 8]] false) := ker_con t55 (by kernel_rfl)
def a0 : Ans := ⟨55, [], .slice (some 3) [.agg [.int .i64 2, .int .i64 3, .int .i64 4], .agg [.int .i64 1, .int .i64 2, .int .i64 3], .agg [.int .i64 4, .int .i64 4, .int .i64 7], .agg [.int .i64 3, .int .i64 5, .int .i64 8]] false⟩
theorem v0 : AnsOk T 39 a0 := ansOk_of w0 (fun _ => rfl) (by rfl)
theorem w1 : ConAt T 39 26 [.slice (some 3) [.agg [.int .i64 2, .int .i64 3, .int .i64 4], .agg [.int .i64 1, .int .i64 2, .int .i64 3], .agg [.int .i64 4, .int .i64 4, .int .i64 7], .agg [.int .i64 3, .int .i64 5, .int .i64 8]] false] (.tuple [.slice none [.int .i64 1, .int .i64 0, .int .i64 2, .int .i64 3] false, .int .i64 0]) := ker_con t26 (by kernel_rfl)
def a1 : Ans := ⟨26, [.slice (some 3) [.agg [.int .i64 2, .int .i64 3, .int .i64 4], .agg [.int .i64 1, .int .i64 2, .int .i64 3], .agg [.int .i64 4, .int .i64 4, .int .i64 7], .agg [.int .i64 3, .int .i64 5, .int .i64 8]] false], .tuple [.slice none [.int .i64 1, .int .i64 0, .int .i64 2, .int .i64 3] false, .int .i64 0]⟩
theorem v1 : AnsOk T 39 a1 := ansOk_of w1 (fun _ => rfl) (by rfl)
theorem w2 : ConAt T 39 28 [.slice (some 3) [.agg [.int .i64 2, .int .i64 3, .int .i64 4], .agg [.int .i64 1, .int .i64 2, .int .i64 3], .agg [.int .i64 4, .int .i64 4, .int .i64 7], .agg [.int .i64 3, .int .i64 5, .int .i64 8]] false, .slice none [.int .i64 1, .int .i64 0, .int .i64 2, .int .i64 3] false] (.tuple [.slice none [.int .i64 1, .int .i64 2, .int .i64 1, .int .i64 0] false, .int .i64 0]) := ker_con t28 (by kernel_rfl)
def a2 : Ans := ⟨28, [.slice (some 3) [.agg [.int .i64 2, .int .i64 3, .int .i64 4], .agg [.int .i64 1, .int .i64 2, .int .i64 3], .agg [.int .i64 4, .int .i64 4, .int .i64 7], .agg [.int .i64 3, .int .i64 5, .int .i64 8]] false, .slice none [.int .i64 1, .int .i64 0, .int .i64 2, .int .i64 3] false], .tuple [.slice none [.int .i64 1, .int .i64 2, .int .i64 1, .int .i64 0] false, .int .i64 0]⟩
theorem v2 : AnsOk T 39 a2 := ansOk_of w2 (fun _ => rfl) (by rfl)
theorem w3 : ConAt T 39 19 [.slice (some 3) [.agg [.int .i64 2, .int .i64 3, .int .i64 4], .agg [.int .i64 1, .int .i64 2, .int .i64 3], .agg [.int .i64 4, .int .i64 4, .int .i64 7], .agg [.int .i64 3, .int .i64 5, .int .i64 8]] false, .slice none [.int .i64 1, .int .i64 0, .int .i64 2, .int .i64 3] false, .slice none [.int .i64 3, .int .i64 2, .int .i64 4, .int .i64 5] false] (.tuple [.slice none [.int .i64 5, .int .i64 2, .int .i64 9, .int .i64 14] false, .int .i64 0]) := ker_con t19 (by kernel_rfl)
def a3 : Ans := ⟨19, [.slice (some 3) [.agg [.int .i64 2, .int .i64 3, .int .i64 4], .agg [.int .i64 1, .int .i64 2, .int .i64 3], .agg [.int .i64 4, .int .i64 4, .int .i64 7], .agg [.int .i64 3, .int .i64 5, .int .i64 8]] false, .slice none [.int .i64 1, .int .i64 0, .int .i64 2, .int .i64 3] false, .slice none [.int .i64 3, .int .i64 2, .int .i64 4, .int .i64 5] false], .tuple [.slice none [.int .i64 5, .int .i64 2, .int .i64 9, .int .i64 14] false, .int .i64 0]⟩
theorem v3 : AnsOk T 39 a3 := ansOk_of w3 (fun _ => rfl) (by rfl)
theorem w4 : ConAt T 39 19 [.slice (some 3) [.agg [.int .i64 2, .int .i64 3, .int .i64 4], .agg [.int .i64 1, .int .i64 2, .int .i64 3], .agg [.int .i64 4, .int .i64 4, .int .i64 7], .agg [.int .i64 3, .int .i64 5, .int .i64 8]] false, .slice none [.int .i64 1, .int .i64 0, .int .i64 2, .int .i64 3] false, .slice none [.int .i64 4, .int .i64 1, .int .i64 4, .int .i64 3] false] (.tuple [.slice none [] false, .int .i64 3]) := ker_con t19 (by kernel_rfl)
def a4 : Ans := ⟨19, [.slice (some 3) [.agg [.int .i64 2, .int .i64 3, .int .i64 4], .agg [.int .i64 1, .int .i64 2, .int .i64 3], .agg [.int .i64 4, .int .i64 4, .int .i64 7], .agg [.int .i64 3, .int .i64 5, .int .i64 8]] false, .slice none [.int .i64 1, .int .i64 0, .int .i64 2, .int .i64 3] false, .slice none [.int .i64 4, .int .i64 1, .int .i64 4, .int .i64 3] false], .tuple [.slice none [] false, .int .i64 3]⟩
theorem v4 : AnsOk T 39 a4 := ansOk_of w4 (fun _ => rfl) (by rfl)
theorem w5 : ConAt T 39 21 [.slice (some 3) [.agg [.int .i64 2, .int .i64 3, .int .i64 4], .agg [.int .i64 1, .int .i64 2, .int .i64 3], .agg [.int .i64 4, .int .i64 4, .int .i64 7], .agg [.int .i64 3, .int .i64 5, .int .i64 8]] false, .slice none [.int .i64 0, .int .i64 1, .int .i64 2, .int .i64 3] false, .slice none [.int .i64 3, .int .i64 2, .int .i64 4, .int .i64 5] false] (.tuple [.int .i64 6, .int .i64 0]) := ker_con t21 (by kernel_rfl)
def a5 : Ans := ⟨21, [.slice (some 3) [.agg [.int .i64 2, .int .i64 3, .int .i64 4], .agg [.int .i64 1, .int .i64 2, .int .i64 3], .agg [.int .i64 4, .int .i64 4, .int .i64 7], .agg [.int .i64 3, .int .i64 5, .int .i64 8]] false, .slice none [.int .i64 0, .int .i64 1, .int .i64 2, .int .i64 3] false, .slice none [.int .i64 3, .int .i64 2, .int .i64 4, .int .i64 5] false], .tuple [.int .i64 6, .int .i64 0]⟩
theorem v5 : AnsOk T 39 a5 := ansOk_of w5 (fun _ => rfl) (by rfl)
theorem w6 : ConAt T 39 33 [.slice (some 3) [.agg [.int .i64 2, .int .i64 3, .int .i64 4], .agg [.int .i64 1, .int .i64 2, .int .i64 3], .agg [.int .i64 4, .int .i64 4, .int .i64 7], .agg [.int .i64 3, .int .i64 5, .int .i64 8]] false, .int .i64 0] (.tuple [.int .i64 2, .int .i64 0]) := ker_con t33 (by kernel_rfl)
def a6 : Ans := ⟨33, [.slice (some 3) [.agg [.int .i64 2, .int .i64 3, .int .i64 4], .agg [.int .i64 1, .int .i64 2, .int .i64 3], .agg [.int .i64 4, .int .i64 4, .int .i64 7], .agg [.int .i64 3, .int .i64 5, .int .i64 8]] false, .int .i64 0], .tuple [.int .i64 2, .int .i64 0]⟩
theorem v6 : AnsOk T 39 a6 := ansOk_of w6 (fun _ => rfl) (by rfl)
theorem w7 : ConAt T 39 33 [.slice (some 3) [.agg [.int .i64 2, .int .i64 3, .int .i64 4], .agg [.int .i64 1, .int .i64 2, .int .i64 3], .agg [.int .i64 4, .int .i64 4, .int .i64 7], .agg [.int .i64 3, .int .i64 5, .int .i64 8]] false, .int .i64 1] (.tuple [.int .i64 6, .int .i64 0]) := ker_con t33 (by kernel_rfl)
def a7 : Ans := ⟨33, [.slice (some 3) [.agg [.int .i64 2, .int .i64 3, .int .i64 4], .agg [.int .i64 1, .int .i64 2, .int .i64 3], .agg [.int .i64 4, .int .i64 4, .int .i64 7], .agg [.int .i64 3, .int .i64 5, .int .i64 8]] false, .int .i64 1], .tuple [.int .i64 6, .int .i64 0]⟩
theorem v7 : AnsOk T 39 a7 := ansOk_of w7 (fun _ => rfl) (by rfl)
theorem w8 : ConAt T 39 35 [.slice (some 3) [.agg [.int .i64 2, .int .i64 3, .int .i64 4], .agg [.int .i64 1, .int .i64 2, .int .i64 3], .agg [.int .i64 4, .int .i64 4, .int .i64 7], .agg [.int .i64 3, .int .i64 5, .int .i64 8]] false, .int .i64 1] (.tuple [.int .i64 8, .int .i64 0]) := ker_con t35 (by kernel_rfl)
def a8 : Ans := ⟨35, [.slice (some 3) [.agg [.int .i64 2, .int .i64 3, .int .i64 4], .agg [.int .i64 1, .int .i64 2, .int .i64 3], .agg [.int .i64 4, .int .i64 4, .int .i64 7], .agg [.int .i64 3, .int .i64 5, .int .i64 8]] false, .int .i64 1], .tuple [.int .i64 8, .int .i64 0]⟩
theorem v8 : AnsOk T 39 a8 := ansOk_of w8 (fun _ => rfl) (by rfl)
theorem w9 : ConAt T 39 31 [.slice (some 3) [.agg [.int .i64 2, .int .i64 3, .int .i64 4], .agg [.int .i64 1, .int .i64 2, .int .i64 3], .agg [.int .i64 4, .int .i64 4, .int .i64 7], .agg [.int .i64 3, .int .i64 5, .int .i64 8]] false, .int .i64 0, .int .i64 7] (.tuple [.int .i64 0, .int .i64 0]) := ker_con t31 (by kernel_rfl)
def a9 : Ans := ⟨31, [.slice (some 3) [.agg [.int .i64 2, .int .i64 3, .int .i64 4], .agg [.int .i64 1, .int .i64 2, .int .i64 3], .agg [.int .i64 4, .int .i64 4, .int .i64 7], .agg [.int .i64 3, .int .i64 5, .int .i64 8]] false, .int .i64 0, .int .i64 7], .tuple [.int .i64 0, .int .i64 0]⟩
theorem v9 : AnsOk T 39 a9 := ansOk_of w9 (fun _ => rfl) (by rfl)
theorem w10 : ConAt T 39 31 [.slice (some 3) [.agg [.int .i64 2, .int .i64 3, .int .i64 4], .agg [.int .i64 1, .int .i64 2, .int .i64 3], .agg [.int .i64 4, .int .i64 4, .int .i64 7], .agg [.int .i64 3, .int .i64 5, .int .i64 8]] false, .int .i64 0, .int .i64 2] (.tuple [.int .i64 0, .int .i64 5]) := ker_con t31 (by kernel_rfl)
def a10 : Ans := ⟨31, [.slice (some 3) [.agg [.int .i64 2, .int .i64 3, .int .i64 4], .agg [.int .i64 1, .int .i64 2, .int .i64 3], .agg [.int .i64 4, .int .i64 4, .int .i64 7], .agg [.int .i64 3, .int .i64 5, .int .i64 8]] false, .int .i64 0, .int .i64 2], .tuple [.int .i64 0, .int .i64 5]⟩
theorem v10 : AnsOk T 39 a10 := ansOk_of w10 (fun _ => rfl) (by rfl)
theorem w11 : ConAt T 39 37 [.slice (some 3) [.agg [.int .i64 2, .int .i64 3, .int .i64 4], .agg [.int .i64 1, .int .i64 2, .int .i64 3], .agg [.int .i64 4, .int .i64 4, .int .i64 7], .agg [.int .i64 3, .int .i64 5, .int .i64 8]] false, .int .i64 0] (.tuple [.slice none [.int .i64 0, .int .i64 1, .int .i64 3] false, .int .i64 0]) := by
  have := conAt_of (n := 39) (con_37 exO 0 (by decide)) (by omega)
  unfold keptV at this
  rw [kx0] at this
  exact this
def a11 : Ans := ⟨37, [.slice (some 3) [.agg [.int .i64 2, .int .i64 3, .int .i64 4], .agg [.int .i64 1, .int .i64 2, .int .i64 3], .agg [.int .i64 4, .int .i64 4, .int .i64 7], .agg [.int .i64 3, .int .i64 5, .int .i64 8]] false, .int .i64 0], .tuple [.slice none [.int .i64 0, .int .i64 1, .int .i64 3] false, .int .i64 0]⟩
theorem v11 : AnsOk T 39 a11 := ansOk_of w11 (fun _ => rfl) (by rfl)
theorem w12 : ConAt T 39 37 [.slice (some 3) [.agg [.int .i64 2, .int .i64 3, .int .i64 4], .agg [.int .i64 1, .int .i64 2, .int .i64 3], .agg [.int .i64 4, .int .i64 4, .int .i64 7], .agg [.int .i64 3, .int .i64 5, .int .i64 8]] false, .int .i64 1] (.tuple [.slice none [.int .i64 1, .int .i64 2] false, .int .i64 0]) := by
  have := conAt_of (n := 39) (con_37 exO 1 (by decide)) (by omega)
  unfold keptV at this
  rw [kx1] at this
  exact this
def a12 : Ans := ⟨37, [.slice (some 3) [.agg [.int .i64 2, .int .i64 3, .int .i64 4], .agg [.int .i64 1, .int .i64 2, .int .i64 3], .agg [.int .i64 4, .int .i64 4, .int .i64 7], .agg [.int .i64 3, .int .i64 5, .int .i64 8]] false, .int .i64 1], .tuple [.slice none [.int .i64 1, .int .i64 2] false, .int .i64 0]⟩
theorem v12 : AnsOk T 39 a12 := ansOk_of w12 (fun _ => rfl) (by rfl)
theorem w13 : ConAt T 39 42 [.slice (some 3) [.agg [.int .i64 2, .int .i64 3, .int .i64 4], .agg [.int .i64 1, .int .i64 2, .int .i64 3], .agg [.int .i64 4, .int .i64 4, .int .i64 7], .agg [.int .i64 3, .int .i64 5, .int .i64 8]] false, .int .i64 1] (.tuple [.int .i64 2, .int .i64 0]) := ker_con t42 (by kernel_rfl)
def a13 : Ans := ⟨42, [.slice (some 3) [.agg [.int .i64 2, .int .i64 3, .int .i64 4], .agg [.int .i64 1, .int .i64 2, .int .i64 3], .agg [.int .i64 4, .int .i64 4, .int .i64 7], .agg [.int .i64 3, .int .i64 5, .int .i64 8]] false, .int .i64 1], .tuple [.int .i64 2, .int .i64 0]⟩
theorem v13 : AnsOk T 39 a13 := ansOk_of w13 (fun _ => rfl) (by rfl)
theorem w14 : ConAt T 39 39 [.slice (some 3) [.agg [.int .i64 2, .int .i64 3, .int .i64 4], .agg [.int .i64 1, .int .i64 2, .int .i64 3], .agg [.int .i64 4, .int .i64 4, .int .i64 7], .agg [.int .i64 3, .int .i64 5, .int .i64 8]] false, .int .i64 0, .slice none [.int .i64 0, .int .i64 2, .int .i64 3] false] (.int .i64 12) := ker_con t39 (by kernel_rfl)
def a14 : Ans := ⟨39, [.slice (some 3) [.agg [.int .i64 2, .int .i64 3, .int .i64 4], .agg [.int .i64 1, .int .i64 2, .int .i64 3], .agg [.int .i64 4, .int .i64 4, .int .i64 7], .agg [.int .i64 3, .int .i64 5, .int .i64 8]] false, .int .i64 0, .slice none [.int .i64 0, .int .i64 2, .int .i64 3] false], .int .i64 12⟩
theorem v14 : AnsOk T 39 a14 := ansOk_of w14 (fun _ => rfl) (by rfl)
theorem w15 : ConAt T 39 44 [.slice (some 3) [.agg [.int .i64 2, .int .i64 3, .int .i64 4], .agg [.int .i64 1, .int .i64 2, .int .i64 3], .agg [.int .i64 4, .int .i64 4, .int .i64 7], .agg [.int .i64 3, .int .i64 5, .int .i64 8]] false, .int .i64 0, .int .i64 1] (.tuple [.int .i64 2, .int .i64 0]) := ker_con t44 (by kernel_rfl)
def a15 : Ans := ⟨44, [.slice (some 3) [.agg [.int .i64 2, .int .i64 3, .int .i64 4], .agg [.int .i64 1, .int .i64 2, .int .i64 3], .agg [.int .i64 4, .int .i64 4, .int .i64 7], .agg [.int .i64 3, .int .i64 5, .int .i64 8]] false, .int .i64 0, .int .i64 1], .tuple [.int .i64 2, .int .i64 0]⟩
theorem v15 : AnsOk T 39 a15 := ansOk_of w15 (fun _ => rfl) (by rfl)
theorem w16 : ConAt T 39 30 [.slice none [.int .i64 1, .int .i64 0, .int .i64 2, .int .i64 3] false, .slice none [.int .i64 1, .int .i64 0, .int .i64 2, .int .i64 3] false] (.bool true) := ker_con t30 (by kernel_rfl)
def a16 : Ans := ⟨30, [.slice none [.int .i64 1, .int .i64 0, .int .i64 2, .int .i64 3] false, .slice none [.int .i64 1, .int .i64 0, .int .i64 2, .int .i64 3] false], .bool true⟩
theorem v16 : AnsOk T 39 a16 := ansOk_of w16 (fun _ => rfl) (by rfl)
theorem w17 : ConAt T 39 25 [.slice none [.int .i64 5, .int .i64 2, .int .i64 9, .int .i64 14] false, .slice none [.int .i64 5, .int .i64 2, .int .i64 9, .int .i64 14] false] (.bool true) := ker_con t25 (by kernel_rfl)
def a17 : Ans := ⟨25, [.slice none [.int .i64 5, .int .i64 2, .int .i64 9, .int .i64 14] false, .slice none [.int .i64 5, .int .i64 2, .int .i64 9, .int .i64 14] false], .bool true⟩
theorem v17 : AnsOk T 39 a17 := ansOk_of w17 (fun _ => rfl) (by rfl)
theorem w18 : ConAt T 39 30 [.slice none [.int .i64 1, .int .i64 2, .int .i64 1, .int .i64 0] false, .slice none [.int .i64 1, .int .i64 2, .int .i64 1, .int .i64 0] false] (.bool true) := ker_con t30 (by kernel_rfl)
def a18 : Ans := ⟨30, [.slice none [.int .i64 1, .int .i64 2, .int .i64 1, .int .i64 0] false, .slice none [.int .i64 1, .int .i64 2, .int .i64 1, .int .i64 0] false], .bool true⟩
theorem v18 : AnsOk T 39 a18 := ansOk_of w18 (fun _ => rfl) (by rfl)
theorem w19 : ConAt T 39 30 [.slice none [.int .i64 0, .int .i64 1, .int .i64 3] false, .slice none [.int .i64 0, .int .i64 1, .int .i64 3] false] (.bool true) := ker_con t30 (by kernel_rfl)
def a19 : Ans := ⟨30, [.slice none [.int .i64 0, .int .i64 1, .int .i64 3] false, .slice none [.int .i64 0, .int .i64 1, .int .i64 3] false], .bool true⟩
theorem v19 : AnsOk T 39 a19 := ansOk_of w19 (fun _ => rfl) (by rfl)
theorem w20 : ConAt T 39 30 [.slice none [.int .i64 1, .int .i64 2] false, .slice none [.int .i64 1, .int .i64 2] false] (.bool true) := ker_con t30 (by kernel_rfl)
def a20 : Ans := ⟨30, [.slice none [.int .i64 1, .int .i64 2] false, .slice none [.int .i64 1, .int .i64 2] false], .bool true⟩
theorem v20 : AnsOk T 39 a20 := ansOk_of w20 (fun _ => rfl) (by rfl)
theorem w21 : ConAt T 39 54 [.slice none [.int .i64 1, .int .i64 0, .int .i64 2, .int .i64 3] false] (.slice none [.int .i64 1, .int .i64 0, .int .i64 2, .int .i64 3] false) := ker_con t54 (by kernel_rfl)
def a21 : Ans := ⟨54, [.slice none [.int .i64 1, .int .i64 0, .int .i64 2, .int .i64 3] true], .slice none [.int .i64 1, .int .i64 0, .int .i64 2, .int .i64 3] false⟩
theorem v21 : AnsOk T 39 a21 := ansOk_of w21 (fun _ => rfl) (by rfl)
theorem w22 : ConAt T 39 54 [.slice none [.int .i64 0, .int .i64 1, .int .i64 2, .int .i64 3] false] (.slice none [.int .i64 0, .int .i64 1, .int .i64 2, .int .i64 3] false) := ker_con t54 (by kernel_rfl)
def a22 : Ans := ⟨54, [.slice none [.int .i64 0, .int .i64 1, .int .i64 2, .int .i64 3] true], .slice none [.int .i64 0, .int .i64 1, .int .i64 2, .int .i64 3] false⟩
theorem v22 : AnsOk T 39 a22 := ansOk_of w22 (fun _ => rfl) (by rfl)
theorem w23 : ConAt T 39 54 [.slice none [.int .i64 0, .int .i64 2, .int .i64 3] false] (.slice none [.int .i64 0, .int .i64 2, .int .i64 3] false) := ker_con t54 (by kernel_rfl)
def a23 : Ans := ⟨54, [.slice none [.int .i64 0, .int .i64 2, .int .i64 3] true], .slice none [.int .i64 0, .int .i64 2, .int .i64 3] false⟩
theorem v23 : AnsOk T 39 a23 := ansOk_of w23 (fun _ => rfl) (by rfl)
theorem w24 : ConAt T 39 54 [.slice none [.int .i64 1, .int .i64 2, .int .i64 1, .int .i64 0] false] (.slice none [.int .i64 1, .int .i64 2, .int .i64 1, .int .i64 0] false) := ker_con t54 (by kernel_rfl)
def a24 : Ans := ⟨54, [.slice none [.int .i64 1, .int .i64 2, .int .i64 1, .int .i64 0] true], .slice none [.int .i64 1, .int .i64 2, .int .i64 1, .int .i64 0] false⟩
theorem v24 : AnsOk T 39 a24 := ansOk_of w24 (fun _ => rfl) (by rfl)
theorem w25 : ConAt T 39 54 [.slice none [.int .i64 0, .int .i64 1, .int .i64 3] false] (.slice none [.int .i64 0, .int .i64 1, .int .i64 3] false) := ker_con t54 (by kernel_rfl)
def a25 : Ans := ⟨54, [.slice none [.int .i64 0, .int .i64 1, .int .i64 3] true], .slice none [.int .i64 0, .int .i64 1, .int .i64 3] false⟩
theorem v25 : AnsOk T 39 a25 := ansOk_of w25 (fun _ => rfl) (by rfl)
theorem w26 : ConAt T 39 54 [.slice none [.int .i64 1, .int .i64 2] false] (.slice none [.int .i64 1, .int .i64 2] false) := ker_con t54 (by kernel_rfl)
def a26 : Ans := ⟨54, [.slice none [.int .i64 1, .int .i64 2] true], .slice none [.int .i64 1, .int .i64 2] false⟩
theorem v26 : AnsOk T 39 a26 := ansOk_of w26 (fun _ => rfl) (by rfl)
theorem w27 : ConAt T 39 56 [.slice none [.int .i64 3, .int .i64 2, .int .i64 4, .int .i64 5] false] (.slice none [.int .i64 3, .int .i64 2, .int .i64 4, .int .i64 5] false) := ker_con t56 (by kernel_rfl)
def a27 : Ans := ⟨56, [.slice none [.int .i64 3, .int .i64 2, .int .i64 4, .int .i64 5] true], .slice none [.int .i64 3, .int .i64 2, .int .i64 4, .int .i64 5] false⟩
theorem v27 : AnsOk T 39 a27 := ansOk_of w27 (fun _ => rfl) (by rfl)
theorem w28 : ConAt T 39 56 [.slice none [.int .i64 4, .int .i64 1, .int .i64 4, .int .i64 3] false] (.slice none [.int .i64 4, .int .i64 1, .int .i64 4, .int .i64 3] false) := ker_con t56 (by kernel_rfl)
def a28 : Ans := ⟨56, [.slice none [.int .i64 4, .int .i64 1, .int .i64 4, .int .i64 3] true], .slice none [.int .i64 4, .int .i64 1, .int .i64 4, .int .i64 3] false⟩
theorem v28 : AnsOk T 39 a28 := ansOk_of w28 (fun _ => rfl) (by rfl)
theorem w29 : ConAt T 39 56 [.slice none [.int .i64 5, .int .i64 2, .int .i64 9, .int .i64 14] false] (.slice none [.int .i64 5, .int .i64 2, .int .i64 9, .int .i64 14] false) := ker_con t56 (by kernel_rfl)
def a29 : Ans := ⟨56, [.slice none [.int .i64 5, .int .i64 2, .int .i64 9, .int .i64 14] true], .slice none [.int .i64 5, .int .i64 2, .int .i64 9, .int .i64 14] false⟩
theorem v29 : AnsOk T 39 a29 := ansOk_of w29 (fun _ => rfl) (by rfl)
def wl : List Ans := [a0, a1, a2, a3, a4, a5, a6, a7, a8, a9, a10, a11, a12, a13, a14, a15, a16, a17, a18, a19, a20, a21, a22, a23, a24, a25, a26, a27, a28, a29]
theorem wl_ok : ∀ a ∈ wl, AnsOk T 39 a := List.forall_mem_cons.2 ⟨v0, List.forall_mem_cons.2 ⟨v1, List.forall_mem_cons.2 ⟨v2, List.forall_mem_cons.2 ⟨v3, List.forall_mem_cons.2 ⟨v4, List.forall_mem_cons.2 ⟨v5, List.forall_mem_cons.2 ⟨v6, List.forall_mem_cons.2 ⟨v7, List.forall_mem_cons.2 ⟨v8, List.forall_mem_cons.2 ⟨v9, List.forall_mem_cons.2 ⟨v10, List.forall_mem_cons.2 ⟨v11, List.forall_mem_cons.2 ⟨v12, List.forall_mem_cons.2 ⟨v13, List.forall_mem_cons.2 ⟨v14, List.forall_mem_cons.2 ⟨v15, List.forall_mem_cons.2 ⟨v16, List.forall_mem_cons.2 ⟨v17, List.forall_mem_cons.2 ⟨v18, List.forall_mem_cons.2 ⟨v19, List.forall_mem_cons.2 ⟨v20, List.forall_mem_cons.2 ⟨v21, List.forall_mem_cons.2 ⟨v22, List.forall_mem_cons.2 ⟨v23, List.forall_mem_cons.2 ⟨v24, List.forall_mem_cons.2 ⟨v25, List.forall_mem_cons.2 ⟨v26, List.forall_mem_cons.2 ⟨v27, List.forall_mem_cons.2 ⟨v28, List.forall_mem_cons.2 ⟨v29, (fun _ h => nomatch h)⟩⟩⟩⟩⟩⟩⟩⟩⟩⟩⟩⟩⟩⟩⟩⟩⟩⟩⟩⟩⟩⟩⟩⟩⟩⟩⟩⟩⟩⟩

theorem works : ConAt T 40 18 [] (.bool true) := list_con t18 wl_ok (by kernel_rfl)

theorem cs_18 {base : Nat} {Q : EX × St → Prop} {d : Option Nat} {L : List IOper} {ks : List Kont} {e : Env} {h : Heap} : GP (evCall T 40) base Q d L ks e (evCall T 40 false (.fn 18) [] h) = GO (evCall T 40) base Q L ks ⟨setDst e d (.bool true), h⟩ := gp_at works (fz_nil _) rfl

end Go.Ev.YtadneamkkepknaaC
