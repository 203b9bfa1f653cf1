/- The law LateKnown answers true: the chapter's examples, each call reckoned by the kernel, and joined. No condition. -/
import Derived.Test.YtadneamkkepknaaL5Works
import Derived.Test.YtadneamkkepknaaL5CodeB
set_option linter.unusedSimpArgs false
set_option linter.unusedVariables false
namespace Go.Ev.YtadneamkkepknaaC
open Go Go.Proofs
set_option maxRecDepth 100000
attribute [local irreducible] Res.all evC evLoop evOps evOper evOp evFn evCall AnsOk ConAt

theorem kw0 : ConAt T 40 55 [] (.slice (some 3) [.agg [.int .i64 2, .int .i64 3, .int .i64 4], .agg [.int .i64 1, .int .i64 2, .int .i64 3], .agg [.int .i64 4, .int .i64 4, .int .i64 7], .agg [.int .i64 3, .int .i64 5, .int .i64 8]] false) := ker_con t55 (by kernel_rfl)
def ka0 : Ans := ⟨55, [], .slice (some 3) [.agg [.int .i64 2, .int .i64 3, .int .i64 4], .agg [.int .i64 1, .int .i64 2, .int .i64 3], .agg [.int .i64 4, .int .i64 4, .int .i64 7], .agg [.int .i64 3, .int .i64 5, .int .i64 8]] false⟩
theorem kv0 : AnsOk T 40 ka0 := ansOk_of kw0 (fun _ => rfl) (by rfl)
theorem kw1 : ConAt T 40 19 [.slice (some 3) [.agg [.int .i64 2, .int .i64 3, .int .i64 4], .agg [.int .i64 1, .int .i64 2, .int .i64 3], .agg [.int .i64 4, .int .i64 4, .int .i64 7], .agg [.int .i64 3, .int .i64 5, .int .i64 8]] false, .slice none [.int .i64 1, .int .i64 0, .int .i64 2, .int .i64 3] false, .slice none [.int .i64 2, .int .i64 1, .int .i64 4, .int .i64 3] false] (.tuple [.slice none [.int .i64 3, .int .i64 1, .int .i64 7, .int .i64 10] false, .int .i64 0]) := ker_con t19 (by kernel_rfl)
def ka1 : Ans := ⟨19, [.slice (some 3) [.agg [.int .i64 2, .int .i64 3, .int .i64 4], .agg [.int .i64 1, .int .i64 2, .int .i64 3], .agg [.int .i64 4, .int .i64 4, .int .i64 7], .agg [.int .i64 3, .int .i64 5, .int .i64 8]] false, .slice none [.int .i64 1, .int .i64 0, .int .i64 2, .int .i64 3] false, .slice none [.int .i64 2, .int .i64 1, .int .i64 4, .int .i64 3] false], .tuple [.slice none [.int .i64 3, .int .i64 1, .int .i64 7, .int .i64 10] false, .int .i64 0]⟩
theorem kv1 : AnsOk T 40 ka1 := ansOk_of kw1 (fun _ => rfl) (by rfl)
theorem kw2 : ConAt T 40 21 [.slice (some 3) [.agg [.int .i64 2, .int .i64 3, .int .i64 4], .agg [.int .i64 1, .int .i64 2, .int .i64 3], .agg [.int .i64 4, .int .i64 4, .int .i64 7], .agg [.int .i64 3, .int .i64 5, .int .i64 8]] false, .slice none [.int .i64 1, .int .i64 0, .int .i64 2, .int .i64 3] false, .slice none [.int .i64 2, .int .i64 1, .int .i64 4, .int .i64 3] false] (.tuple [.int .i64 2, .int .i64 0]) := ker_con t21 (by kernel_rfl)
def ka2 : Ans := ⟨21, [.slice (some 3) [.agg [.int .i64 2, .int .i64 3, .int .i64 4], .agg [.int .i64 1, .int .i64 2, .int .i64 3], .agg [.int .i64 4, .int .i64 4, .int .i64 7], .agg [.int .i64 3, .int .i64 5, .int .i64 8]] false, .slice none [.int .i64 1, .int .i64 0, .int .i64 2, .int .i64 3] false, .slice none [.int .i64 2, .int .i64 1, .int .i64 4, .int .i64 3] false], .tuple [.int .i64 2, .int .i64 0]⟩
theorem kv2 : AnsOk T 40 ka2 := ansOk_of kw2 (fun _ => rfl) (by rfl)
theorem kw3 : ConAt T 40 21 [.slice (some 3) [.agg [.int .i64 2, .int .i64 3, .int .i64 4], .agg [.int .i64 1, .int .i64 2, .int .i64 3], .agg [.int .i64 4, .int .i64 4, .int .i64 7], .agg [.int .i64 3, .int .i64 5, .int .i64 8]] false, .slice none [.int .i64 1, .int .i64 0, .int .i64 2, .int .i64 2] false, .slice none [.int .i64 2, .int .i64 1, .int .i64 4, .int .i64 3] false] (.tuple [.int .i64 0, .int .i64 2]) := ker_con t21 (by kernel_rfl)
def ka3 : Ans := ⟨21, [.slice (some 3) [.agg [.int .i64 2, .int .i64 3, .int .i64 4], .agg [.int .i64 1, .int .i64 2, .int .i64 3], .agg [.int .i64 4, .int .i64 4, .int .i64 7], .agg [.int .i64 3, .int .i64 5, .int .i64 8]] false, .slice none [.int .i64 1, .int .i64 0, .int .i64 2, .int .i64 2] false, .slice none [.int .i64 2, .int .i64 1, .int .i64 4, .int .i64 3] false], .tuple [.int .i64 0, .int .i64 2]⟩
theorem kv3 : AnsOk T 40 ka3 := ansOk_of kw3 (fun _ => rfl) (by rfl)
theorem kw4 : ConAt T 40 28 [.slice (some 3) [.agg [.int .i64 2, .int .i64 3, .int .i64 4], .agg [.int .i64 1, .int .i64 2, .int .i64 3], .agg [.int .i64 4, .int .i64 4, .int .i64 7], .agg [.int .i64 3, .int .i64 5, .int .i64 8]] false, .slice none [.int .i64 3, .int .i64 2, .int .i64 1, .int .i64 0] false] (.tuple [.slice none [.int .i64 0, .int .i64 0, .int .i64 1, .int .i64 2] false, .int .i64 0]) := ker_con t28 (by kernel_rfl)
def ka4 : Ans := ⟨28, [.slice (some 3) [.agg [.int .i64 2, .int .i64 3, .int .i64 4], .agg [.int .i64 1, .int .i64 2, .int .i64 3], .agg [.int .i64 4, .int .i64 4, .int .i64 7], .agg [.int .i64 3, .int .i64 5, .int .i64 8]] false, .slice none [.int .i64 3, .int .i64 2, .int .i64 1, .int .i64 0] false], .tuple [.slice none [.int .i64 0, .int .i64 0, .int .i64 1, .int .i64 2] false, .int .i64 0]⟩
theorem kv4 : AnsOk T 40 ka4 := ansOk_of kw4 (fun _ => rfl) (by rfl)
theorem kw5 : ConAt T 40 33 [.slice (some 3) [.agg [.int .i64 2, .int .i64 3, .int .i64 4], .agg [.int .i64 1, .int .i64 2, .int .i64 3], .agg [.int .i64 4, .int .i64 4, .int .i64 7], .agg [.int .i64 3, .int .i64 5, .int .i64 8]] false, .int .i64 2] (.tuple [.int .i64 0, .int .i64 2]) := ker_con t33 (by kernel_rfl)
def ka5 : Ans := ⟨33, [.slice (some 3) [.agg [.int .i64 2, .int .i64 3, .int .i64 4], .agg [.int .i64 1, .int .i64 2, .int .i64 3], .agg [.int .i64 4, .int .i64 4, .int .i64 7], .agg [.int .i64 3, .int .i64 5, .int .i64 8]] false, .int .i64 2], .tuple [.int .i64 0, .int .i64 2]⟩
theorem kv5 : AnsOk T 40 ka5 := ansOk_of kw5 (fun _ => rfl) (by rfl)
theorem kw6 : ConAt T 40 35 [.slice (some 3) [.agg [.int .i64 2, .int .i64 3, .int .i64 4], .agg [.int .i64 1, .int .i64 2, .int .i64 3], .agg [.int .i64 4, .int .i64 4, .int .i64 7], .agg [.int .i64 3, .int .i64 5, .int .i64 8]] false, .int .i64 0] (.tuple [.int .i64 8, .int .i64 0]) := ker_con t35 (by kernel_rfl)
def ka6 : Ans := ⟨35, [.slice (some 3) [.agg [.int .i64 2, .int .i64 3, .int .i64 4], .agg [.int .i64 1, .int .i64 2, .int .i64 3], .agg [.int .i64 4, .int .i64 4, .int .i64 7], .agg [.int .i64 3, .int .i64 5, .int .i64 8]] false, .int .i64 0], .tuple [.int .i64 8, .int .i64 0]⟩
theorem kv6 : AnsOk T 40 ka6 := ansOk_of kw6 (fun _ => rfl) (by rfl)
theorem kw7 : ConAt T 40 31 [.slice (some 3) [.agg [.int .i64 2, .int .i64 3, .int .i64 4], .agg [.int .i64 1, .int .i64 2, .int .i64 3], .agg [.int .i64 4, .int .i64 4, .int .i64 7], .agg [.int .i64 3, .int .i64 5, .int .i64 8]] false, .int .i64 0, .int .i64 8] (.tuple [.int .i64 2, .int .i64 0]) := ker_con t31 (by kernel_rfl)
def ka7 : Ans := ⟨31, [.slice (some 3) [.agg [.int .i64 2, .int .i64 3, .int .i64 4], .agg [.int .i64 1, .int .i64 2, .int .i64 3], .agg [.int .i64 4, .int .i64 4, .int .i64 7], .agg [.int .i64 3, .int .i64 5, .int .i64 8]] false, .int .i64 0, .int .i64 8], .tuple [.int .i64 2, .int .i64 0]⟩
theorem kv7 : AnsOk T 40 ka7 := ansOk_of kw7 (fun _ => rfl) (by rfl)
theorem kw8 : ConAt T 40 42 [.slice (some 3) [.agg [.int .i64 2, .int .i64 3, .int .i64 4], .agg [.int .i64 1, .int .i64 2, .int .i64 3], .agg [.int .i64 4, .int .i64 4, .int .i64 7], .agg [.int .i64 3, .int .i64 5, .int .i64 8]] false, .int .i64 0] (.tuple [.int .i64 1, .int .i64 0]) := ker_con t42 (by kernel_rfl)
def ka8 : Ans := ⟨42, [.slice (some 3) [.agg [.int .i64 2, .int .i64 3, .int .i64 4], .agg [.int .i64 1, .int .i64 2, .int .i64 3], .agg [.int .i64 4, .int .i64 4, .int .i64 7], .agg [.int .i64 3, .int .i64 5, .int .i64 8]] false, .int .i64 0], .tuple [.int .i64 1, .int .i64 0]⟩
theorem kv8 : AnsOk T 40 ka8 := ansOk_of kw8 (fun _ => rfl) (by rfl)
theorem kw9 : ConAt T 40 39 [.slice (some 3) [.agg [.int .i64 2, .int .i64 3, .int .i64 4], .agg [.int .i64 1, .int .i64 2, .int .i64 3], .agg [.int .i64 4, .int .i64 4, .int .i64 7], .agg [.int .i64 3, .int .i64 5, .int .i64 8]] false, .int .i64 0, .slice none [.int .i64 1, .int .i64 2, .int .i64 3] false] (.int .i64 0) := ker_con t39 (by kernel_rfl)
def ka9 : Ans := ⟨39, [.slice (some 3) [.agg [.int .i64 2, .int .i64 3, .int .i64 4], .agg [.int .i64 1, .int .i64 2, .int .i64 3], .agg [.int .i64 4, .int .i64 4, .int .i64 7], .agg [.int .i64 3, .int .i64 5, .int .i64 8]] false, .int .i64 0, .slice none [.int .i64 1, .int .i64 2, .int .i64 3] false], .int .i64 0⟩
theorem kv9 : AnsOk T 40 ka9 := ansOk_of kw9 (fun _ => rfl) (by rfl)
theorem kw10 : ConAt T 40 39 [.slice (some 3) [.agg [.int .i64 2, .int .i64 3, .int .i64 4], .agg [.int .i64 1, .int .i64 2, .int .i64 3], .agg [.int .i64 4, .int .i64 4, .int .i64 7], .agg [.int .i64 3, .int .i64 5, .int .i64 8]] false, .int .i64 1, .slice none [.int .i64 0, .int .i64 3] false] (.int .i64 0) := ker_con t39 (by kernel_rfl)
def ka10 : Ans := ⟨39, [.slice (some 3) [.agg [.int .i64 2, .int .i64 3, .int .i64 4], .agg [.int .i64 1, .int .i64 2, .int .i64 3], .agg [.int .i64 4, .int .i64 4, .int .i64 7], .agg [.int .i64 3, .int .i64 5, .int .i64 8]] false, .int .i64 1, .slice none [.int .i64 0, .int .i64 3] false], .int .i64 0⟩
theorem kv10 : AnsOk T 40 ka10 := ansOk_of kw10 (fun _ => rfl) (by rfl)
theorem kw11 : ConAt T 40 44 [.slice (some 3) [.agg [.int .i64 2, .int .i64 3, .int .i64 4], .agg [.int .i64 1, .int .i64 2, .int .i64 3], .agg [.int .i64 4, .int .i64 4, .int .i64 7], .agg [.int .i64 3, .int .i64 5, .int .i64 8]] false, .int .i64 0, .int .i64 0] (.tuple [.int .i64 1, .int .i64 0]) := ker_con t44 (by kernel_rfl)
def ka11 : Ans := ⟨44, [.slice (some 3) [.agg [.int .i64 2, .int .i64 3, .int .i64 4], .agg [.int .i64 1, .int .i64 2, .int .i64 3], .agg [.int .i64 4, .int .i64 4, .int .i64 7], .agg [.int .i64 3, .int .i64 5, .int .i64 8]] false, .int .i64 0, .int .i64 0], .tuple [.int .i64 1, .int .i64 0]⟩
theorem kv11 : AnsOk T 40 ka11 := ansOk_of kw11 (fun _ => rfl) (by rfl)
theorem kw12 : ConAt T 40 44 [.slice (some 3) [.agg [.int .i64 2, .int .i64 3, .int .i64 4], .agg [.int .i64 1, .int .i64 2, .int .i64 3], .agg [.int .i64 4, .int .i64 4, .int .i64 7], .agg [.int .i64 3, .int .i64 5, .int .i64 8]] false, .int .i64 1, .int .i64 0] (.tuple [.int .i64 1, .int .i64 0]) := ker_con t44 (by kernel_rfl)
def ka12 : Ans := ⟨44, [.slice (some 3) [.agg [.int .i64 2, .int .i64 3, .int .i64 4], .agg [.int .i64 1, .int .i64 2, .int .i64 3], .agg [.int .i64 4, .int .i64 4, .int .i64 7], .agg [.int .i64 3, .int .i64 5, .int .i64 8]] false, .int .i64 1, .int .i64 0], .tuple [.int .i64 1, .int .i64 0]⟩
theorem kv12 : AnsOk T 40 ka12 := ansOk_of kw12 (fun _ => rfl) (by rfl)
theorem kw13 : ConAt T 40 44 [.slice (some 3) [.agg [.int .i64 2, .int .i64 3, .int .i64 4], .agg [.int .i64 1, .int .i64 2, .int .i64 3], .agg [.int .i64 4, .int .i64 4, .int .i64 7], .agg [.int .i64 3, .int .i64 5, .int .i64 8]] false, .int .i64 1, .int .i64 4] (.tuple [.int .i64 0, .int .i64 2]) := ker_con t44 (by kernel_rfl)
def ka13 : Ans := ⟨44, [.slice (some 3) [.agg [.int .i64 2, .int .i64 3, .int .i64 4], .agg [.int .i64 1, .int .i64 2, .int .i64 3], .agg [.int .i64 4, .int .i64 4, .int .i64 7], .agg [.int .i64 3, .int .i64 5, .int .i64 8]] false, .int .i64 1, .int .i64 4], .tuple [.int .i64 0, .int .i64 2]⟩
theorem kv13 : AnsOk T 40 ka13 := ansOk_of kw13 (fun _ => rfl) (by rfl)
theorem kw14 : ConAt T 40 25 [.slice none [.int .i64 3, .int .i64 1, .int .i64 7, .int .i64 10] false, .slice none [.int .i64 3, .int .i64 1, .int .i64 7, .int .i64 10] false] (.bool true) := ker_con t25 (by kernel_rfl)
def ka14 : Ans := ⟨25, [.slice none [.int .i64 3, .int .i64 1, .int .i64 7, .int .i64 10] false, .slice none [.int .i64 3, .int .i64 1, .int .i64 7, .int .i64 10] false], .bool true⟩
theorem kv14 : AnsOk T 40 ka14 := ansOk_of kw14 (fun _ => rfl) (by rfl)
theorem kw15 : ConAt T 40 30 [.slice none [.int .i64 0, .int .i64 0, .int .i64 1, .int .i64 2] false, .slice none [.int .i64 0, .int .i64 0, .int .i64 1, .int .i64 2] false] (.bool true) := ker_con t30 (by kernel_rfl)
def ka15 : Ans := ⟨30, [.slice none [.int .i64 0, .int .i64 0, .int .i64 1, .int .i64 2] false, .slice none [.int .i64 0, .int .i64 0, .int .i64 1, .int .i64 2] false], .bool true⟩
theorem kv15 : AnsOk T 40 ka15 := ansOk_of kw15 (fun _ => rfl) (by rfl)
theorem kw16 : ConAt T 40 54 [.slice none [.int .i64 1, .int .i64 0, .int .i64 2, .int .i64 3] false] (.slice none [.int .i64 1, .int .i64 0, .int .i64 2, .int .i64 3] false) := ker_con t54 (by kernel_rfl)
def ka16 : Ans := ⟨54, [.slice none [.int .i64 1, .int .i64 0, .int .i64 2, .int .i64 3] true], .slice none [.int .i64 1, .int .i64 0, .int .i64 2, .int .i64 3] false⟩
theorem kv16 : AnsOk T 40 ka16 := ansOk_of kw16 (fun _ => rfl) (by rfl)
theorem kw17 : ConAt T 40 54 [.slice none [.int .i64 1, .int .i64 0, .int .i64 2, .int .i64 2] false] (.slice none [.int .i64 1, .int .i64 0, .int .i64 2, .int .i64 2] false) := ker_con t54 (by kernel_rfl)
def ka17 : Ans := ⟨54, [.slice none [.int .i64 1, .int .i64 0, .int .i64 2, .int .i64 2] true], .slice none [.int .i64 1, .int .i64 0, .int .i64 2, .int .i64 2] false⟩
theorem kv17 : AnsOk T 40 ka17 := ansOk_of kw17 (fun _ => rfl) (by rfl)
theorem kw18 : ConAt T 40 54 [.slice none [.int .i64 3, .int .i64 2, .int .i64 1, .int .i64 0] false] (.slice none [.int .i64 3, .int .i64 2, .int .i64 1, .int .i64 0] false) := ker_con t54 (by kernel_rfl)
def ka18 : Ans := ⟨54, [.slice none [.int .i64 3, .int .i64 2, .int .i64 1, .int .i64 0] true], .slice none [.int .i64 3, .int .i64 2, .int .i64 1, .int .i64 0] false⟩
theorem kv18 : AnsOk T 40 ka18 := ansOk_of kw18 (fun _ => rfl) (by rfl)
theorem kw19 : ConAt T 40 54 [.slice none [.int .i64 1, .int .i64 2, .int .i64 3] false] (.slice none [.int .i64 1, .int .i64 2, .int .i64 3] false) := ker_con t54 (by kernel_rfl)
def ka19 : Ans := ⟨54, [.slice none [.int .i64 1, .int .i64 2, .int .i64 3] true], .slice none [.int .i64 1, .int .i64 2, .int .i64 3] false⟩
theorem kv19 : AnsOk T 40 ka19 := ansOk_of kw19 (fun _ => rfl) (by rfl)
theorem kw20 : ConAt T 40 54 [.slice none [.int .i64 0, .int .i64 3] false] (.slice none [.int .i64 0, .int .i64 3] false) := ker_con t54 (by kernel_rfl)
def ka20 : Ans := ⟨54, [.slice none [.int .i64 0, .int .i64 3] true], .slice none [.int .i64 0, .int .i64 3] false⟩
theorem kv20 : AnsOk T 40 ka20 := ansOk_of kw20 (fun _ => rfl) (by rfl)
theorem kw21 : ConAt T 40 54 [.slice none [.int .i64 0, .int .i64 0, .int .i64 1, .int .i64 2] false] (.slice none [.int .i64 0, .int .i64 0, .int .i64 1, .int .i64 2] false) := ker_con t54 (by kernel_rfl)
def ka21 : Ans := ⟨54, [.slice none [.int .i64 0, .int .i64 0, .int .i64 1, .int .i64 2] true], .slice none [.int .i64 0, .int .i64 0, .int .i64 1, .int .i64 2] false⟩
theorem kv21 : AnsOk T 40 ka21 := ansOk_of kw21 (fun _ => rfl) (by rfl)
theorem kw22 : ConAt T 40 56 [.slice none [.int .i64 2, .int .i64 1, .int .i64 4, .int .i64 3] false] (.slice none [.int .i64 2, .int .i64 1, .int .i64 4, .int .i64 3] false) := ker_con t56 (by kernel_rfl)
def ka22 : Ans := ⟨56, [.slice none [.int .i64 2, .int .i64 1, .int .i64 4, .int .i64 3] true], .slice none [.int .i64 2, .int .i64 1, .int .i64 4, .int .i64 3] false⟩
theorem kv22 : AnsOk T 40 ka22 := ansOk_of kw22 (fun _ => rfl) (by rfl)
theorem kw23 : ConAt T 40 56 [.slice none [.int .i64 3, .int .i64 1, .int .i64 7, .int .i64 10] false] (.slice none [.int .i64 3, .int .i64 1, .int .i64 7, .int .i64 10] false) := ker_con t56 (by kernel_rfl)
def ka23 : Ans := ⟨56, [.slice none [.int .i64 3, .int .i64 1, .int .i64 7, .int .i64 10] true], .slice none [.int .i64 3, .int .i64 1, .int .i64 7, .int .i64 10] false⟩
theorem kv23 : AnsOk T 40 ka23 := ansOk_of kw23 (fun _ => rfl) (by rfl)
def ka24 : Ans := ⟨18, [], .bool true⟩
theorem kv24 : AnsOk T 40 ka24 := ansOk_of works (fun _ => rfl) (by rfl)
def kl : List Ans := [ka0, ka1, ka2, ka3, ka4, ka5, ka6, ka7, ka8, ka9, ka10, ka11, ka12, ka13, ka14, ka15, ka16, ka17, ka18, ka19, ka20, ka21, ka22, ka23, ka24]
theorem kl_ok : ∀ a ∈ kl, AnsOk T 40 a := List.forall_mem_cons.2 ⟨kv0, List.forall_mem_cons.2 ⟨kv1, List.forall_mem_cons.2 ⟨kv2, List.forall_mem_cons.2 ⟨kv3, List.forall_mem_cons.2 ⟨kv4, List.forall_mem_cons.2 ⟨kv5, List.forall_mem_cons.2 ⟨kv6, List.forall_mem_cons.2 ⟨kv7, List.forall_mem_cons.2 ⟨kv8, List.forall_mem_cons.2 ⟨kv9, List.forall_mem_cons.2 ⟨kv10, List.forall_mem_cons.2 ⟨kv11, List.forall_mem_cons.2 ⟨kv12, List.forall_mem_cons.2 ⟨kv13, List.forall_mem_cons.2 ⟨kv14, List.forall_mem_cons.2 ⟨kv15, List.forall_mem_cons.2 ⟨kv16, List.forall_mem_cons.2 ⟨kv17, List.forall_mem_cons.2 ⟨kv18, List.forall_mem_cons.2 ⟨kv19, List.forall_mem_cons.2 ⟨kv20, List.forall_mem_cons.2 ⟨kv21, List.forall_mem_cons.2 ⟨kv22, List.forall_mem_cons.2 ⟨kv23, List.forall_mem_cons.2 ⟨kv24, (fun _ h => nomatch h)⟩⟩⟩⟩⟩⟩⟩⟩⟩⟩⟩⟩⟩⟩⟩⟩⟩⟩⟩⟩⟩⟩⟩⟩⟩

theorem known_run : (evFn (callX kl) c16 [] []).allB (fun p => eqAV 8 p.1 (.bool true)) = true := by kernel_rfl
def lateKnown_n : Nat := 40
theorem lateKnown_ev : (evFn (evCall T lateKnown_n) c16 [] []).all fun p => p.1 = .bool true := by
  unfold lateKnown_n
  refine Res.all_mono _ (evFn_le (callX_le kl_ok) c16 [] [] _ (Res.allB_all _ _ known_run)) ?_
  intro p hp
  exact eqAV_eq _ _ _ hp

end Go.Ev.YtadneamkkepknaaC
