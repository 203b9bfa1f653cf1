/- The works of the layer's examples, each call reckoned by the kernel, and joined. No condition. -/
import Derived.Test.YtcghegefcgnhbaaEvMore
import Derived.Test.YtcghegefcgnhbaaL1CodeB
set_option linter.unusedSimpArgs false
set_option linter.unusedVariables false
namespace Go.Ev.YtcghegefcgnhbaaC
open Go Go.Proofs
set_option maxRecDepth 100000
attribute [local irreducible] Res.all evC evLoop evOps evOper evOp evFn evCall AnsOk ConAt

theorem w0 : ConAt T 19999 51 [.int .i64 117, .int .i64 200] (.agg [.int .i64 117, .int .i64 200]) := ker_con t51 (by kernel_rfl)
def a0 : Ans := ⟨51, [.int .i64 117, .int .i64 200], .agg [.int .i64 117, .int .i64 200]⟩
theorem v0 : AnsOk T 19999 a0 := ansOk_of w0 (fun _ => rfl) (by rfl)
theorem w1 : ConAt T 19999 51 [.int .i64 3, .int .i64 2] (.agg [.int .i64 3, .int .i64 2]) := ker_con t51 (by kernel_rfl)
def a1 : Ans := ⟨51, [.int .i64 3, .int .i64 2], .agg [.int .i64 3, .int .i64 2]⟩
theorem v1 : AnsOk T 19999 a1 := ansOk_of w1 (fun _ => rfl) (by rfl)
theorem w2 : ConAt T 19999 51 [.int .i64 8, .int .i64 5] (.agg [.int .i64 8, .int .i64 5]) := ker_con t51 (by kernel_rfl)
def a2 : Ans := ⟨51, [.int .i64 8, .int .i64 5], .agg [.int .i64 8, .int .i64 5]⟩
theorem v2 : AnsOk T 19999 a2 := ansOk_of w2 (fun _ => rfl) (by rfl)
theorem w3 : ConAt T 19999 51 [.int .i64 7, .int .i64 12] (.agg [.int .i64 7, .int .i64 12]) := ker_con t51 (by kernel_rfl)
def a3 : Ans := ⟨51, [.int .i64 7, .int .i64 12], .agg [.int .i64 7, .int .i64 12]⟩
theorem v3 : AnsOk T 19999 a3 := ansOk_of w3 (fun _ => rfl) (by rfl)
theorem w4 : ConAt T 19999 51 [.int .i64 3, .int .i64 5] (.agg [.int .i64 3, .int .i64 5]) := ker_con t51 (by kernel_rfl)
def a4 : Ans := ⟨51, [.int .i64 3, .int .i64 5], .agg [.int .i64 3, .int .i64 5]⟩
theorem v4 : AnsOk T 19999 a4 := ansOk_of w4 (fun _ => rfl) (by rfl)
theorem w5 : ConAt T 19999 51 [.int .i64 14, .int .i64 24] (.agg [.int .i64 14, .int .i64 24]) := ker_con t51 (by kernel_rfl)
def a5 : Ans := ⟨51, [.int .i64 14, .int .i64 24], .agg [.int .i64 14, .int .i64 24]⟩
theorem v5 : AnsOk T 19999 a5 := ansOk_of w5 (fun _ => rfl) (by rfl)
theorem w6 : ConAt T 19999 51 [.int .i64 59, .int .i64 100] (.agg [.int .i64 59, .int .i64 100]) := ker_con t51 (by kernel_rfl)
def a6 : Ans := ⟨51, [.int .i64 59, .int .i64 100], .agg [.int .i64 59, .int .i64 100]⟩
theorem v6 : AnsOk T 19999 a6 := ansOk_of w6 (fun _ => rfl) (by rfl)
theorem w7 : ConAt T 19999 51 [.int .i64 1, .int .i64 2] (.agg [.int .i64 1, .int .i64 2]) := ker_con t51 (by kernel_rfl)
def a7 : Ans := ⟨51, [.int .i64 1, .int .i64 2], .agg [.int .i64 1, .int .i64 2]⟩
theorem v7 : AnsOk T 19999 a7 := ansOk_of w7 (fun _ => rfl) (by rfl)
theorem w8 : ConAt T 19999 51 [.int .i64 2, .int .i64 3] (.agg [.int .i64 2, .int .i64 3]) := ker_con t51 (by kernel_rfl)
def a8 : Ans := ⟨51, [.int .i64 2, .int .i64 3], .agg [.int .i64 2, .int .i64 3]⟩
theorem v8 : AnsOk T 19999 a8 := ansOk_of w8 (fun _ => rfl) (by rfl)
theorem w9 : ConAt T 19999 51 [.int .i64 24, .int .i64 41] (.agg [.int .i64 24, .int .i64 41]) := ker_con t51 (by kernel_rfl)
def a9 : Ans := ⟨51, [.int .i64 24, .int .i64 41], .agg [.int .i64 24, .int .i64 41]⟩
theorem v9 : AnsOk T 19999 a9 := ansOk_of w9 (fun _ => rfl) (by rfl)
theorem w10 : ConAt T 19999 51 [.int .i64 10, .int .i64 17] (.agg [.int .i64 10, .int .i64 17]) := ker_con t51 (by kernel_rfl)
def a10 : Ans := ⟨51, [.int .i64 10, .int .i64 17], .agg [.int .i64 10, .int .i64 17]⟩
theorem v10 : AnsOk T 19999 a10 := ansOk_of w10 (fun _ => rfl) (by rfl)
theorem w11 : ConAt T 19999 51 [.int .i64 5, .int .i64 4] (.agg [.int .i64 5, .int .i64 4]) := ker_con t51 (by kernel_rfl)
def a11 : Ans := ⟨51, [.int .i64 5, .int .i64 4], .agg [.int .i64 5, .int .i64 4]⟩
theorem v11 : AnsOk T 19999 a11 := ansOk_of w11 (fun _ => rfl) (by rfl)
theorem w12 : ConAt T 19999 20 [.agg [.int .i64 3, .int .i64 2], .agg [.int .i64 8, .int .i64 5]] (.tuple [.int .i64 1, .int .i64 0]) := ker_con t20 (by kernel_rfl)
def a12 : Ans := ⟨20, [.agg [.int .i64 3, .int .i64 2], .agg [.int .i64 8, .int .i64 5]], .tuple [.int .i64 1, .int .i64 0]⟩
theorem v12 : AnsOk T 19999 a12 := ansOk_of w12 (fun _ => rfl) (by rfl)
theorem w13 : ConAt T 19999 25 [.agg [.int .i64 117, .int .i64 200], .int .i64 50] (.tuple [.agg [.int .i64 7, .int .i64 12], .agg [.int .i64 24, .int .i64 41], .int .i64 0]) := ker_con t25 (by kernel_rfl)
def a13 : Ans := ⟨25, [.agg [.int .i64 117, .int .i64 200], .int .i64 50], .tuple [.agg [.int .i64 7, .int .i64 12], .agg [.int .i64 24, .int .i64 41], .int .i64 0]⟩
theorem v13 : AnsOk T 19999 a13 := ansOk_of w13 (fun _ => rfl) (by rfl)
theorem w14 : ConAt T 19999 27 [.agg [.int .i64 7, .int .i64 12], .agg [.int .i64 3, .int .i64 5], .int .i64 12] (.int .i64 0) := ker_con t27 (by kernel_rfl)
def a14 : Ans := ⟨27, [.agg [.int .i64 7, .int .i64 12], .agg [.int .i64 3, .int .i64 5], .int .i64 12], .int .i64 0⟩
theorem v14 : AnsOk T 19999 a14 := ansOk_of w14 (fun _ => rfl) (by rfl)
theorem w15 : ConAt T 19999 27 [.agg [.int .i64 7, .int .i64 12], .agg [.int .i64 3, .int .i64 5], .int .i64 17] (.int .i64 14) := ker_con t27 (by kernel_rfl)
def a15 : Ans := ⟨27, [.agg [.int .i64 7, .int .i64 12], .agg [.int .i64 3, .int .i64 5], .int .i64 17], .int .i64 14⟩
theorem v15 : AnsOk T 19999 a15 := ansOk_of w15 (fun _ => rfl) (by rfl)
theorem w16 : ConAt T 19999 29 [.agg [.int .i64 117, .int .i64 200], .int .i64 12] (.tuple [.agg [.int .i64 7, .int .i64 12], .int .i64 0]) := ker_con t29 (by kernel_rfl)
def a16 : Ans := ⟨29, [.agg [.int .i64 117, .int .i64 200], .int .i64 12], .tuple [.agg [.int .i64 7, .int .i64 12], .int .i64 0]⟩
theorem v16 : AnsOk T 19999 a16 := ansOk_of w16 (fun _ => rfl) (by rfl)
theorem w17 : ConAt T 19999 31 [.agg [.int .i64 117, .int .i64 200], .agg [.int .i64 7, .int .i64 12], .int .i64 12] (.int .i64 0) := ker_con t31 (by kernel_rfl)
def a17 : Ans := ⟨31, [.agg [.int .i64 117, .int .i64 200], .agg [.int .i64 7, .int .i64 12], .int .i64 12], .int .i64 0⟩
theorem v17 : AnsOk T 19999 a17 := ansOk_of w17 (fun _ => rfl) (by rfl)
theorem w18 : ConAt T 19999 31 [.agg [.int .i64 117, .int .i64 200], .agg [.int .i64 14, .int .i64 24], .int .i64 50] (.int .i64 17) := ker_con t31 (by kernel_rfl)
def a18 : Ans := ⟨31, [.agg [.int .i64 117, .int .i64 200], .agg [.int .i64 14, .int .i64 24], .int .i64 50], .int .i64 17⟩
theorem v18 : AnsOk T 19999 a18 := ansOk_of w18 (fun _ => rfl) (by rfl)
theorem w19 : ConAt T 19999 33 [.agg [.int .i64 117, .int .i64 200], .agg [.int .i64 59, .int .i64 100]] (.tuple [.agg [.int .i64 10, .int .i64 17], .int .i64 0]) := ker_con t33 (by kernel_rfl)
def a19 : Ans := ⟨33, [.agg [.int .i64 117, .int .i64 200], .agg [.int .i64 59, .int .i64 100]], .tuple [.agg [.int .i64 10, .int .i64 17], .int .i64 0]⟩
theorem v19 : AnsOk T 19999 a19 := ansOk_of w19 (fun _ => rfl) (by rfl)
theorem w20 : ConAt T 19999 35 [.agg [.int .i64 1, .int .i64 2], .agg [.int .i64 2, .int .i64 3], .int .i64 5] (.tuple [.int .i64 3, .int .i64 0]) := ker_con t35 (by kernel_rfl)
def a20 : Ans := ⟨35, [.agg [.int .i64 1, .int .i64 2], .agg [.int .i64 2, .int .i64 3], .int .i64 5], .tuple [.int .i64 3, .int .i64 0]⟩
theorem v20 : AnsOk T 19999 a20 := ansOk_of w20 (fun _ => rfl) (by rfl)
theorem w21 : ConAt T 19999 37 [.agg [.int .i64 117, .int .i64 200]] (.tuple [.slice none [.int .i64 0, .int .i64 1, .int .i64 1, .int .i64 2, .int .i64 2, .int .i64 3, .int .i64 1, .int .i64 2] false, .int .i64 0]) := ker_con t37 (by kernel_rfl)
def a21 : Ans := ⟨37, [.agg [.int .i64 117, .int .i64 200]], .tuple [.slice none [.int .i64 0, .int .i64 1, .int .i64 1, .int .i64 2, .int .i64 2, .int .i64 3, .int .i64 1, .int .i64 2] false, .int .i64 0]⟩
theorem v21 : AnsOk T 19999 a21 := ansOk_of w21 (fun _ => rfl) (by rfl)
theorem w22 : ConAt T 19999 39 [.slice none [.int .i64 1, .int .i64 3] false] (.tuple [.agg [.int .i64 5, .int .i64 4], .int .i64 0]) := ker_con t39 (by kernel_rfl)
def a22 : Ans := ⟨39, [.slice none [.int .i64 1, .int .i64 3] false], .tuple [.agg [.int .i64 5, .int .i64 4], .int .i64 0]⟩
theorem v22 : AnsOk T 19999 a22 := ansOk_of w22 (fun _ => rfl) (by rfl)
theorem w23 : ConAt T 19999 39 [.slice none [.int .i64 0] false] (.tuple [.agg [.int .i64 0, .int .i64 0], .int .i64 3]) := ker_con t39 (by kernel_rfl)
def a23 : Ans := ⟨39, [.slice none [.int .i64 0] false], .tuple [.agg [.int .i64 0, .int .i64 0], .int .i64 3]⟩
theorem v23 : AnsOk T 19999 a23 := ansOk_of w23 (fun _ => rfl) (by rfl)
theorem w24 : ConAt T 19999 42 [.int .i64 12, .int .i64 7, .int .i64 5] (.tuple [.slice none [.int .i64 0, .int .i64 2, .int .i64 4, .int .i64 7, .int .i64 9] false, .int .i64 0]) := ker_con t42 (by kernel_rfl)
def a24 : Ans := ⟨42, [.int .i64 12, .int .i64 7, .int .i64 5], .tuple [.slice none [.int .i64 0, .int .i64 2, .int .i64 4, .int .i64 7, .int .i64 9] false, .int .i64 0]⟩
theorem v24 : AnsOk T 19999 a24 := ansOk_of w24 (fun _ => rfl) (by rfl)
theorem w25 : ConAt T 19999 44 [.int .i64 100, .int .i64 38, .int .i64 4] (.tuple [.slice none [.int .i64 14, .int .i64 24, .int .i64 38] false, .int .i64 0]) := ker_con t44 (by kernel_rfl)
def a25 : Ans := ⟨44, [.int .i64 100, .int .i64 38, .int .i64 4], .tuple [.slice none [.int .i64 14, .int .i64 24, .int .i64 38] false, .int .i64 0]⟩
theorem v25 : AnsOk T 19999 a25 := ansOk_of w25 (fun _ => rfl) (by rfl)
theorem w26 : ConAt T 19999 46 [.int .i64 12, .int .i64 7, .int .i64 6] (.tuple [.int .i64 5, .int .i64 0]) := ker_con t46 (by kernel_rfl)
def a26 : Ans := ⟨46, [.int .i64 12, .int .i64 7, .int .i64 6], .tuple [.int .i64 5, .int .i64 0]⟩
theorem v26 : AnsOk T 19999 a26 := ansOk_of w26 (fun _ => rfl) (by rfl)
theorem w27 : ConAt T 19999 41 [.slice none [.int .i64 0, .int .i64 1, .int .i64 1, .int .i64 2, .int .i64 2, .int .i64 3, .int .i64 1, .int .i64 2] false, .slice none [.int .i64 0, .int .i64 1, .int .i64 1, .int .i64 2, .int .i64 2, .int .i64 3, .int .i64 1, .int .i64 2] false] (.bool true) := ker_con t41 (by kernel_rfl)
def a27 : Ans := ⟨41, [.slice none [.int .i64 0, .int .i64 1, .int .i64 1, .int .i64 2, .int .i64 2, .int .i64 3, .int .i64 1, .int .i64 2] false, .slice none [.int .i64 0, .int .i64 1, .int .i64 1, .int .i64 2, .int .i64 2, .int .i64 3, .int .i64 1, .int .i64 2] false], .bool true⟩
theorem v27 : AnsOk T 19999 a27 := ansOk_of w27 (fun _ => rfl) (by rfl)
theorem w28 : ConAt T 19999 41 [.slice none [.int .i64 0, .int .i64 2, .int .i64 4, .int .i64 7, .int .i64 9] false, .slice none [.int .i64 0, .int .i64 2, .int .i64 4, .int .i64 7, .int .i64 9] false] (.bool true) := ker_con t41 (by kernel_rfl)
def a28 : Ans := ⟨41, [.slice none [.int .i64 0, .int .i64 2, .int .i64 4, .int .i64 7, .int .i64 9] false, .slice none [.int .i64 0, .int .i64 2, .int .i64 4, .int .i64 7, .int .i64 9] false], .bool true⟩
theorem v28 : AnsOk T 19999 a28 := ansOk_of w28 (fun _ => rfl) (by rfl)
theorem w29 : ConAt T 19999 41 [.slice none [.int .i64 14, .int .i64 24, .int .i64 38] false, .slice none [.int .i64 14, .int .i64 24, .int .i64 38] false] (.bool true) := ker_con t41 (by kernel_rfl)
def a29 : Ans := ⟨41, [.slice none [.int .i64 14, .int .i64 24, .int .i64 38] false, .slice none [.int .i64 14, .int .i64 24, .int .i64 38] false], .bool true⟩
theorem v29 : AnsOk T 19999 a29 := ansOk_of w29 (fun _ => rfl) (by rfl)
theorem w30 : ConAt T 19999 53 [.slice none [.int .i64 1, .int .i64 3] false] (.slice none [.int .i64 1, .int .i64 3] false) := ker_con t53 (by kernel_rfl)
def a30 : Ans := ⟨53, [.slice none [.int .i64 1, .int .i64 3] true], .slice none [.int .i64 1, .int .i64 3] false⟩
theorem v30 : AnsOk T 19999 a30 := ansOk_of w30 (fun _ => rfl) (by rfl)
theorem w31 : ConAt T 19999 53 [.slice none [.int .i64 0] false] (.slice none [.int .i64 0] false) := ker_con t53 (by kernel_rfl)
def a31 : Ans := ⟨53, [.slice none [.int .i64 0] true], .slice none [.int .i64 0] false⟩
theorem v31 : AnsOk T 19999 a31 := ansOk_of w31 (fun _ => rfl) (by rfl)
theorem w32 : ConAt T 19999 53 [.slice none [.int .i64 0, .int .i64 1, .int .i64 1, .int .i64 2, .int .i64 2, .int .i64 3, .int .i64 1, .int .i64 2] false] (.slice none [.int .i64 0, .int .i64 1, .int .i64 1, .int .i64 2, .int .i64 2, .int .i64 3, .int .i64 1, .int .i64 2] false) := ker_con t53 (by kernel_rfl)
def a32 : Ans := ⟨53, [.slice none [.int .i64 0, .int .i64 1, .int .i64 1, .int .i64 2, .int .i64 2, .int .i64 3, .int .i64 1, .int .i64 2] true], .slice none [.int .i64 0, .int .i64 1, .int .i64 1, .int .i64 2, .int .i64 2, .int .i64 3, .int .i64 1, .int .i64 2] false⟩
theorem v32 : AnsOk T 19999 a32 := ansOk_of w32 (fun _ => rfl) (by rfl)
theorem w33 : ConAt T 19999 53 [.slice none [.int .i64 0, .int .i64 2, .int .i64 4, .int .i64 7, .int .i64 9] false] (.slice none [.int .i64 0, .int .i64 2, .int .i64 4, .int .i64 7, .int .i64 9] false) := ker_con t53 (by kernel_rfl)
def a33 : Ans := ⟨53, [.slice none [.int .i64 0, .int .i64 2, .int .i64 4, .int .i64 7, .int .i64 9] true], .slice none [.int .i64 0, .int .i64 2, .int .i64 4, .int .i64 7, .int .i64 9] false⟩
theorem v33 : AnsOk T 19999 a33 := ansOk_of w33 (fun _ => rfl) (by rfl)
theorem w34 : ConAt T 19999 53 [.slice none [.int .i64 14, .int .i64 24, .int .i64 38] false] (.slice none [.int .i64 14, .int .i64 24, .int .i64 38] false) := ker_con t53 (by kernel_rfl)
def a34 : Ans := ⟨53, [.slice none [.int .i64 14, .int .i64 24, .int .i64 38] true], .slice none [.int .i64 14, .int .i64 24, .int .i64 38] false⟩
theorem v34 : AnsOk T 19999 a34 := ansOk_of w34 (fun _ => rfl) (by rfl)
def wl : List Ans := [a0, a1, a2, a3, a4, a5, a6, a7, a8, a9, a10, a11, a12, a13, a14, a15, a16, a17, a18, a19, a20, a21, a22, a23, a24, a25, a26, a27, a28, a29, a30, a31, a32, a33, a34]
theorem wl_ok : ∀ a ∈ wl, AnsOk T 19999 a := List.forall_mem_cons.2 ⟨v0, List.forall_mem_cons.2 ⟨v1, List.forall_mem_cons.2 ⟨v2, List.forall_mem_cons.2 ⟨v3, List.forall_mem_cons.2 ⟨v4, List.forall_mem_cons.2 ⟨v5, List.forall_mem_cons.2 ⟨v6, List.forall_mem_cons.2 ⟨v7, List.forall_mem_cons.2 ⟨v8, List.forall_mem_cons.2 ⟨v9, List.forall_mem_cons.2 ⟨v10, List.forall_mem_cons.2 ⟨v11, List.forall_mem_cons.2 ⟨v12, List.forall_mem_cons.2 ⟨v13, List.forall_mem_cons.2 ⟨v14, List.forall_mem_cons.2 ⟨v15, List.forall_mem_cons.2 ⟨v16, List.forall_mem_cons.2 ⟨v17, List.forall_mem_cons.2 ⟨v18, List.forall_mem_cons.2 ⟨v19, List.forall_mem_cons.2 ⟨v20, List.forall_mem_cons.2 ⟨v21, List.forall_mem_cons.2 ⟨v22, List.forall_mem_cons.2 ⟨v23, List.forall_mem_cons.2 ⟨v24, List.forall_mem_cons.2 ⟨v25, List.forall_mem_cons.2 ⟨v26, List.forall_mem_cons.2 ⟨v27, List.forall_mem_cons.2 ⟨v28, List.forall_mem_cons.2 ⟨v29, List.forall_mem_cons.2 ⟨v30, List.forall_mem_cons.2 ⟨v31, List.forall_mem_cons.2 ⟨v32, List.forall_mem_cons.2 ⟨v33, List.forall_mem_cons.2 ⟨v34, (fun _ h => nomatch h)⟩⟩⟩⟩⟩⟩⟩⟩⟩⟩⟩⟩⟩⟩⟩⟩⟩⟩⟩⟩⟩⟩⟩⟩⟩⟩⟩⟩⟩⟩⟩⟩⟩⟩⟩

theorem works : ConAt T 20000 24 [] (.bool true) := list_con t24 wl_ok (by kernel_rfl)

theorem cs_Works {n base : Nat} {Q : EX × St → Prop} {d : Option Nat} {L : List IOper} {ks : List Kont} {e : Env} {h : Heap} (hn : n = 20000) : GP (evCall T n) base Q d L ks e (evCall T n false (.fn 24) [] h) = GO (evCall T n) base Q L ks ⟨setDst e d (.bool true), h⟩ := by
  subst hn; exact gp_at works (fz_nil _) rfl

end Go.Ev.YtcghegefcgnhbaaC
