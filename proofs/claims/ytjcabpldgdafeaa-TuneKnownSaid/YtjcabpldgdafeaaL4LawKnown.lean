/- The law TuneKnown answers true: the chapter's examples, each call reckoned by the kernel, and joined. No condition. -/
import Derived.Test.YtjcabpldgdafeaaEvKer2
import Derived.Test.YtjcabpldgdafeaaL4Works
set_option linter.unusedSimpArgs false
set_option linter.unusedVariables false
namespace Go.Ev.YtjcabpldgdafeaaC
open Go Go.Proofs
set_option maxRecDepth 100000
attribute [local irreducible] Res.all evC evLoop evOps evOper evOp evFn evCall AnsOk ConAt

theorem kw0 : ConAt T 60 47 [] (.agg [.int .i64 3, .slice (some 2) [.agg [.int .i64 0, .int .i64 1], .agg [.int .i64 1, .int .i64 2], .agg [.int .i64 2, .int .i64 0], .agg [.int .i64 0, .int .i64 2]] false]) := ker_conV t47 (by kernel_rfl)
def ky0 : AnsY := ⟨47, [], .agg [.int .i64 3, .slice (some 2) [.agg [.int .i64 0, .int .i64 1], .agg [.int .i64 1, .int .i64 2], .agg [.int .i64 2, .int .i64 0], .agg [.int .i64 0, .int .i64 2]] false], false⟩
theorem kyo0 : YOk T 60 ky0 := yOk_of kw0
def ka0 : Ans := ⟨47, [], .agg [.int .i64 3, .slice (some 2) [.agg [.int .i64 0, .int .i64 1], .agg [.int .i64 1, .int .i64 2], .agg [.int .i64 2, .int .i64 0], .agg [.int .i64 0, .int .i64 2]] false]⟩
theorem kv0 : AnsOk T 60 ka0 := ansOk_of kw0 (fun _ => rfl) (by rfl)
theorem kw1 : ConAt T 60 48 [] (.agg [.int .i64 4, .slice (some 2) [.agg [.int .i64 0, .int .i64 1], .agg [.int .i64 1, .int .i64 0], .agg [.int .i64 2, .int .i64 3], .agg [.int .i64 3, .int .i64 2]] false]) := ker_conV t48 (by kernel_rfl)
def ky1 : AnsY := ⟨48, [], .agg [.int .i64 4, .slice (some 2) [.agg [.int .i64 0, .int .i64 1], .agg [.int .i64 1, .int .i64 0], .agg [.int .i64 2, .int .i64 3], .agg [.int .i64 3, .int .i64 2]] false], false⟩
theorem kyo1 : YOk T 60 ky1 := yOk_of kw1
def ka1 : Ans := ⟨48, [], .agg [.int .i64 4, .slice (some 2) [.agg [.int .i64 0, .int .i64 1], .agg [.int .i64 1, .int .i64 0], .agg [.int .i64 2, .int .i64 3], .agg [.int .i64 3, .int .i64 2]] false]⟩
theorem kv1 : AnsOk T 60 ka1 := ansOk_of kw1 (fun _ => rfl) (by rfl)
theorem kw2 : ConAt T 60 49 [] (.agg [.int .i64 3, .slice (some 2) [.agg [.int .i64 0, .int .i64 1], .agg [.int .i64 0, .int .i64 2]] false]) := ker_conV t49 (by kernel_rfl)
def ky2 : AnsY := ⟨49, [], .agg [.int .i64 3, .slice (some 2) [.agg [.int .i64 0, .int .i64 1], .agg [.int .i64 0, .int .i64 2]] false], false⟩
theorem kyo2 : YOk T 60 ky2 := yOk_of kw2
def ka2 : Ans := ⟨49, [], .agg [.int .i64 3, .slice (some 2) [.agg [.int .i64 0, .int .i64 1], .agg [.int .i64 0, .int .i64 2]] false]⟩
theorem kv2 : AnsOk T 60 ka2 := ansOk_of kw2 (fun _ => rfl) (by rfl)
theorem kw3 : ConAt T 60 19 [.agg [.int .i64 3, .slice (some 2) [.agg [.int .i64 0, .int .i64 1], .agg [.int .i64 1, .int .i64 2], .agg [.int .i64 2, .int .i64 0], .agg [.int .i64 0, .int .i64 2]] false]] (.int .i64 0) := ker_conV t19 (by kernel_rfl)
def ky3 : AnsY := ⟨19, [.agg [.int .i64 3, .slice (some 2) [.agg [.int .i64 0, .int .i64 1], .agg [.int .i64 1, .int .i64 2], .agg [.int .i64 2, .int .i64 0], .agg [.int .i64 0, .int .i64 2]] false]], .int .i64 0, false⟩
theorem kyo3 : YOk T 60 ky3 := yOk_of kw3
theorem kw4 : ConAt T 60 19 [.agg [.int .i64 1, .slice (some 2) [.agg [.int .i64 0, .int .i64 0], .agg [.int .i64 0, .int .i64 0], .agg [.int .i64 0, .int .i64 0]] false]] (.int .i64 0) := ker_conV t19 (by kernel_rfl)
def ky4 : AnsY := ⟨19, [.agg [.int .i64 1, .slice (some 2) [.agg [.int .i64 0, .int .i64 0], .agg [.int .i64 0, .int .i64 0], .agg [.int .i64 0, .int .i64 0]] false]], .int .i64 0, false⟩
theorem kyo4 : YOk T 60 ky4 := yOk_of kw4
theorem kw5 : ConAt T 60 19 [.agg [.int .i64 4, .slice (some 2) [.agg [.int .i64 0, .int .i64 1], .agg [.int .i64 1, .int .i64 0], .agg [.int .i64 2, .int .i64 3], .agg [.int .i64 3, .int .i64 2]] false]] (.int .i64 0) := ker_conV t19 (by kernel_rfl)
def ky5 : AnsY := ⟨19, [.agg [.int .i64 4, .slice (some 2) [.agg [.int .i64 0, .int .i64 1], .agg [.int .i64 1, .int .i64 0], .agg [.int .i64 2, .int .i64 3], .agg [.int .i64 3, .int .i64 2]] false]], .int .i64 0, false⟩
theorem kyo5 : YOk T 60 ky5 := yOk_of kw5
theorem kw6 : ConAt T 60 17 [.agg [.int .i64 3, .slice (some 2) [.agg [.int .i64 0, .int .i64 1], .agg [.int .i64 1, .int .i64 2], .agg [.int .i64 2, .int .i64 0], .agg [.int .i64 0, .int .i64 2]] false], .slice none [.int .i64 0, .int .i64 1, .int .i64 2, .int .i64 3] false] (.tuple [.int .i64 0, .int .i64 2, .int .i64 0]) := ker_conV t17 (by kernel_rfl)
def ky6 : AnsY := ⟨17, [.agg [.int .i64 3, .slice (some 2) [.agg [.int .i64 0, .int .i64 1], .agg [.int .i64 1, .int .i64 2], .agg [.int .i64 2, .int .i64 0], .agg [.int .i64 0, .int .i64 2]] false], .slice none [.int .i64 0, .int .i64 1, .int .i64 2, .int .i64 3] false], .tuple [.int .i64 0, .int .i64 2, .int .i64 0], false⟩
theorem kyo6 : YOk T 60 ky6 := yOk_of kw6
def ka6 : Ans := ⟨17, [.agg [.int .i64 3, .slice (some 2) [.agg [.int .i64 0, .int .i64 1], .agg [.int .i64 1, .int .i64 2], .agg [.int .i64 2, .int .i64 0], .agg [.int .i64 0, .int .i64 2]] false], .slice none [.int .i64 0, .int .i64 1, .int .i64 2, .int .i64 3] false], .tuple [.int .i64 0, .int .i64 2, .int .i64 0]⟩
theorem kv6 : AnsOk T 60 ka6 := ansOk_of kw6 (fun _ => rfl) (by rfl)
theorem kw7 : ConAt T 60 17 [.agg [.int .i64 3, .slice (some 2) [.agg [.int .i64 0, .int .i64 1], .agg [.int .i64 1, .int .i64 2], .agg [.int .i64 2, .int .i64 0], .agg [.int .i64 0, .int .i64 2]] false], .slice none [.int .i64 0, .int .i64 1, .int .i64 2] false] (.tuple [.int .i64 0, .int .i64 0, .int .i64 15]) := ker_conV t17 (by kernel_rfl)
def ky7 : AnsY := ⟨17, [.agg [.int .i64 3, .slice (some 2) [.agg [.int .i64 0, .int .i64 1], .agg [.int .i64 1, .int .i64 2], .agg [.int .i64 2, .int .i64 0], .agg [.int .i64 0, .int .i64 2]] false], .slice none [.int .i64 0, .int .i64 1, .int .i64 2] false], .tuple [.int .i64 0, .int .i64 0, .int .i64 15], false⟩
theorem kyo7 : YOk T 60 ky7 := yOk_of kw7
def ka7 : Ans := ⟨17, [.agg [.int .i64 3, .slice (some 2) [.agg [.int .i64 0, .int .i64 1], .agg [.int .i64 1, .int .i64 2], .agg [.int .i64 2, .int .i64 0], .agg [.int .i64 0, .int .i64 2]] false], .slice none [.int .i64 0, .int .i64 1, .int .i64 2] false], .tuple [.int .i64 0, .int .i64 0, .int .i64 15]⟩
theorem kv7 : AnsOk T 60 ka7 := ansOk_of kw7 (fun _ => rfl) (by rfl)
theorem kw8 : ConAt T 60 17 [.agg [.int .i64 3, .slice (some 2) [.agg [.int .i64 0, .int .i64 1], .agg [.int .i64 1, .int .i64 2], .agg [.int .i64 2, .int .i64 0], .agg [.int .i64 0, .int .i64 2]] false], .slice none [.int .i64 0, .int .i64 1, .int .i64 2, .int .i64 2] false] (.tuple [.int .i64 0, .int .i64 0, .int .i64 11]) := ker_conV t17 (by kernel_rfl)
def ky8 : AnsY := ⟨17, [.agg [.int .i64 3, .slice (some 2) [.agg [.int .i64 0, .int .i64 1], .agg [.int .i64 1, .int .i64 2], .agg [.int .i64 2, .int .i64 0], .agg [.int .i64 0, .int .i64 2]] false], .slice none [.int .i64 0, .int .i64 1, .int .i64 2, .int .i64 2] false], .tuple [.int .i64 0, .int .i64 0, .int .i64 11], false⟩
theorem kyo8 : YOk T 60 ky8 := yOk_of kw8
def ka8 : Ans := ⟨17, [.agg [.int .i64 3, .slice (some 2) [.agg [.int .i64 0, .int .i64 1], .agg [.int .i64 1, .int .i64 2], .agg [.int .i64 2, .int .i64 0], .agg [.int .i64 0, .int .i64 2]] false], .slice none [.int .i64 0, .int .i64 1, .int .i64 2, .int .i64 2] false], .tuple [.int .i64 0, .int .i64 0, .int .i64 11]⟩
theorem kv8 : AnsOk T 60 ka8 := ansOk_of kw8 (fun _ => rfl) (by rfl)
theorem kw9 : ConAt T 60 58 [.ptr [.int .i64 4, .slice (some 2) [.agg [.int .i64 0, .int .i64 1], .agg [.int .i64 1, .int .i64 0], .agg [.int .i64 2, .int .i64 3], .agg [.int .i64 3, .int .i64 2]] false, .int .i64 0, .int .i64 0, .int .i64 0, .int .i64 0, .int .i64 0, .int .i64 0, .int .i64 0, .int .i64 0, .slice none [.int .i64 0, .int .i64 0, .int .i64 0, .int .i64 0] false] 0] (.slice none [] false) := ker_conV t58 (by kernel_rfl)
def ky9 : AnsY := ⟨58, [.ptr [.int .i64 4, .slice (some 2) [.agg [.int .i64 0, .int .i64 1], .agg [.int .i64 1, .int .i64 0], .agg [.int .i64 2, .int .i64 3], .agg [.int .i64 3, .int .i64 2]] false, .int .i64 0, .int .i64 0, .int .i64 0, .int .i64 0, .int .i64 0, .int .i64 0, .int .i64 0, .int .i64 0, .slice none [.int .i64 0, .int .i64 0, .int .i64 0, .int .i64 0] false] 0], .slice none [] false, false⟩
theorem kyo9 : YOk T 60 ky9 := yOk_of kw9
def kl10 : List AnsY := [ky5]
theorem kl10_ok : ∀ a ∈ kl10, YOk T 60 a := List.forall_mem_cons.2 ⟨kyo5.mono (by decide), (fun _ h => by cases h)⟩
theorem kw10 : ConAt T 80 57 [.agg [.int .i64 4, .slice (some 2) [.agg [.int .i64 0, .int .i64 1], .agg [.int .i64 1, .int .i64 0], .agg [.int .i64 2, .int .i64 3], .agg [.int .i64 3, .int .i64 2]] false]] (.tuple [.ptr [.int .i64 4, .slice (some 2) [.agg [.int .i64 0, .int .i64 1], .agg [.int .i64 1, .int .i64 0], .agg [.int .i64 2, .int .i64 3], .agg [.int .i64 3, .int .i64 2]] false, .int .i64 0, .int .i64 0, .int .i64 0, .int .i64 0, .int .i64 0, .int .i64 0, .int .i64 0, .int .i64 0, .slice none [.int .i64 0, .int .i64 0, .int .i64 0, .int .i64 0] false] 0, .int .i64 0]) := listY_con (n := 19) t57 kl10_ok (by kernel_rfl)
def ky10 : AnsY := ⟨57, [.agg [.int .i64 4, .slice (some 2) [.agg [.int .i64 0, .int .i64 1], .agg [.int .i64 1, .int .i64 0], .agg [.int .i64 2, .int .i64 3], .agg [.int .i64 3, .int .i64 2]] false]], .tuple [.ptr [.int .i64 4, .slice (some 2) [.agg [.int .i64 0, .int .i64 1], .agg [.int .i64 1, .int .i64 0], .agg [.int .i64 2, .int .i64 3], .agg [.int .i64 3, .int .i64 2]] false, .int .i64 0, .int .i64 0, .int .i64 0, .int .i64 0, .int .i64 0, .int .i64 0, .int .i64 0, .int .i64 0, .slice none [.int .i64 0, .int .i64 0, .int .i64 0, .int .i64 0] false] 0, .int .i64 0], false⟩
theorem kyo10 : YOk T 80 ky10 := yOk_of kw10
def kl11 : List AnsY := [ky10, ky9]
theorem kl11_ok : ∀ a ∈ kl11, YOk T 80 a := List.forall_mem_cons.2 ⟨kyo10.mono (by decide), List.forall_mem_cons.2 ⟨kyo9.mono (by decide), (fun _ h => by cases h)⟩⟩
theorem kw11 : ConAt T 100 24 [.agg [.int .i64 4, .slice (some 2) [.agg [.int .i64 0, .int .i64 1], .agg [.int .i64 1, .int .i64 0], .agg [.int .i64 2, .int .i64 3], .agg [.int .i64 3, .int .i64 2]] false]] (.tuple [.slice none [] false, .int .i64 0]) := listY_con (n := 19) t24 kl11_ok (by kernel_rfl)
def ky11 : AnsY := ⟨24, [.agg [.int .i64 4, .slice (some 2) [.agg [.int .i64 0, .int .i64 1], .agg [.int .i64 1, .int .i64 0], .agg [.int .i64 2, .int .i64 3], .agg [.int .i64 3, .int .i64 2]] false]], .tuple [.slice none [] false, .int .i64 0], false⟩
theorem kyo11 : YOk T 100 ky11 := yOk_of kw11
def ka11 : Ans := ⟨24, [.agg [.int .i64 4, .slice (some 2) [.agg [.int .i64 0, .int .i64 1], .agg [.int .i64 1, .int .i64 0], .agg [.int .i64 2, .int .i64 3], .agg [.int .i64 3, .int .i64 2]] false]], .tuple [.slice none [] false, .int .i64 0]⟩
theorem kv11 : AnsOk T 100 ka11 := ansOk_of kw11 (fun _ => rfl) (by rfl)
def kl12 : List AnsY := [ky4]
theorem kl12_ok : ∀ a ∈ kl12, YOk T 60 a := List.forall_mem_cons.2 ⟨kyo4.mono (by decide), (fun _ h => by cases h)⟩
theorem kw12 : ConAt T 80 57 [.agg [.int .i64 1, .slice (some 2) [.agg [.int .i64 0, .int .i64 0], .agg [.int .i64 0, .int .i64 0], .agg [.int .i64 0, .int .i64 0]] false]] (.tuple [.ptr [.int .i64 1, .slice (some 2) [.agg [.int .i64 0, .int .i64 0], .agg [.int .i64 0, .int .i64 0], .agg [.int .i64 0, .int .i64 0]] false, .int .i64 0, .int .i64 0, .int .i64 0, .int .i64 0, .int .i64 0, .int .i64 0, .int .i64 0, .int .i64 0, .slice none [.int .i64 0, .int .i64 0, .int .i64 0] false] 0, .int .i64 0]) := listY_con (n := 19) t57 kl12_ok (by kernel_rfl)
def ky12 : AnsY := ⟨57, [.agg [.int .i64 1, .slice (some 2) [.agg [.int .i64 0, .int .i64 0], .agg [.int .i64 0, .int .i64 0], .agg [.int .i64 0, .int .i64 0]] false]], .tuple [.ptr [.int .i64 1, .slice (some 2) [.agg [.int .i64 0, .int .i64 0], .agg [.int .i64 0, .int .i64 0], .agg [.int .i64 0, .int .i64 0]] false, .int .i64 0, .int .i64 0, .int .i64 0, .int .i64 0, .int .i64 0, .int .i64 0, .int .i64 0, .int .i64 0, .slice none [.int .i64 0, .int .i64 0, .int .i64 0] false] 0, .int .i64 0], false⟩
theorem kyo12 : YOk T 80 ky12 := yOk_of kw12
theorem kw13 : ConAt T 60 58 [.ptr [.int .i64 1, .slice (some 2) [.agg [.int .i64 0, .int .i64 0], .agg [.int .i64 0, .int .i64 0], .agg [.int .i64 0, .int .i64 0]] false, .int .i64 0, .int .i64 0, .int .i64 0, .int .i64 0, .int .i64 0, .int .i64 0, .int .i64 0, .int .i64 0, .slice none [.int .i64 0, .int .i64 0, .int .i64 0] false] 0] (.slice none [.int .i64 0] false) := ker_conV t58 (by kernel_rfl)
def ky13 : AnsY := ⟨58, [.ptr [.int .i64 1, .slice (some 2) [.agg [.int .i64 0, .int .i64 0], .agg [.int .i64 0, .int .i64 0], .agg [.int .i64 0, .int .i64 0]] false, .int .i64 0, .int .i64 0, .int .i64 0, .int .i64 0, .int .i64 0, .int .i64 0, .int .i64 0, .int .i64 0, .slice none [.int .i64 0, .int .i64 0, .int .i64 0] false] 0], .slice none [.int .i64 0] false, false⟩
theorem kyo13 : YOk T 60 ky13 := yOk_of kw13
theorem kw14 : ConAt T 60 62 [.ptr [.int .i64 1, .slice (some 2) [.agg [.int .i64 0, .int .i64 0], .agg [.int .i64 0, .int .i64 0], .agg [.int .i64 0, .int .i64 0]] false, .int .i64 0, .int .i64 0, .int .i64 0, .int .i64 0, .int .i64 0, .int .i64 0, .int .i64 0, .int .i64 0, .slice none [.int .i64 0, .int .i64 0, .int .i64 0] false] 0] (.int .i64 2) := ker_conV t62 (by kernel_rfl)
def ky14 : AnsY := ⟨62, [.ptr [.int .i64 1, .slice (some 2) [.agg [.int .i64 0, .int .i64 0], .agg [.int .i64 0, .int .i64 0], .agg [.int .i64 0, .int .i64 0]] false, .int .i64 0, .int .i64 0, .int .i64 0, .int .i64 0, .int .i64 0, .int .i64 0, .int .i64 0, .int .i64 0, .slice none [.int .i64 0, .int .i64 0, .int .i64 0] false] 0], .int .i64 2, false⟩
theorem kyo14 : YOk T 60 ky14 := yOk_of kw14
def kl15 : List AnsY := [ky12, ky13, ky14]
theorem kl15_ok : ∀ a ∈ kl15, YOk T 80 a := List.forall_mem_cons.2 ⟨kyo12.mono (by decide), List.forall_mem_cons.2 ⟨kyo13.mono (by decide), List.forall_mem_cons.2 ⟨kyo14.mono (by decide), (fun _ h => by cases h)⟩⟩⟩
theorem kw15 : ConAt T 100 26 [.agg [.int .i64 1, .slice (some 2) [.agg [.int .i64 0, .int .i64 0], .agg [.int .i64 0, .int .i64 0], .agg [.int .i64 0, .int .i64 0]] false]] (.tuple [.int .i64 6, .int .i64 0]) := listY_con (n := 19) t26 kl15_ok (by kernel_rfl)
def ky15 : AnsY := ⟨26, [.agg [.int .i64 1, .slice (some 2) [.agg [.int .i64 0, .int .i64 0], .agg [.int .i64 0, .int .i64 0], .agg [.int .i64 0, .int .i64 0]] false]], .tuple [.int .i64 6, .int .i64 0], false⟩
theorem kyo15 : YOk T 100 ky15 := yOk_of kw15
def ka15 : Ans := ⟨26, [.agg [.int .i64 1, .slice (some 2) [.agg [.int .i64 0, .int .i64 0], .agg [.int .i64 0, .int .i64 0], .agg [.int .i64 0, .int .i64 0]] false]], .tuple [.int .i64 6, .int .i64 0]⟩
theorem kv15 : AnsOk T 100 ka15 := ansOk_of kw15 (fun _ => rfl) (by rfl)
theorem kw16 : ConAt T 60 51 [.int .i64 1, .slice none [.int .i64 0, .int .i64 0, .int .i64 0, .int .i64 0, .int .i64 0, .int .i64 0] false] (.agg [.int .i64 1, .slice (some 2) [.agg [.int .i64 0, .int .i64 0], .agg [.int .i64 0, .int .i64 0], .agg [.int .i64 0, .int .i64 0]] false]) := ker_conV t51 (by kernel_rfl)
def ky16 : AnsY := ⟨51, [.int .i64 1, .slice none [.int .i64 0, .int .i64 0, .int .i64 0, .int .i64 0, .int .i64 0, .int .i64 0] false], .agg [.int .i64 1, .slice (some 2) [.agg [.int .i64 0, .int .i64 0], .agg [.int .i64 0, .int .i64 0], .agg [.int .i64 0, .int .i64 0]] false], false⟩
theorem kyo16 : YOk T 60 ky16 := yOk_of kw16
def ka16 : Ans := ⟨51, [.int .i64 1, .slice none [.int .i64 0, .int .i64 0, .int .i64 0, .int .i64 0, .int .i64 0, .int .i64 0] true], .agg [.int .i64 1, .slice (some 2) [.agg [.int .i64 0, .int .i64 0], .agg [.int .i64 0, .int .i64 0], .agg [.int .i64 0, .int .i64 0]] false]⟩
theorem kv16 : AnsOk T 60 ka16 := ansOk_of kw16 (fun _ => rfl) (by rfl)
theorem kw17 : ConAt T 60 31 [.agg [.int .i64 4, .slice (some 2) [.agg [.int .i64 0, .int .i64 1], .agg [.int .i64 1, .int .i64 0], .agg [.int .i64 2, .int .i64 3], .agg [.int .i64 3, .int .i64 2]] false], .int .i64 1, .slice none [.int .i64 0] false] (.int .i64 14) := ker_conV t31 (by kernel_rfl)
def ky17 : AnsY := ⟨31, [.agg [.int .i64 4, .slice (some 2) [.agg [.int .i64 0, .int .i64 1], .agg [.int .i64 1, .int .i64 0], .agg [.int .i64 2, .int .i64 3], .agg [.int .i64 3, .int .i64 2]] false], .int .i64 1, .slice none [.int .i64 0] false], .int .i64 14, false⟩
theorem kyo17 : YOk T 60 ky17 := yOk_of kw17
def ka17 : Ans := ⟨31, [.agg [.int .i64 4, .slice (some 2) [.agg [.int .i64 0, .int .i64 1], .agg [.int .i64 1, .int .i64 0], .agg [.int .i64 2, .int .i64 3], .agg [.int .i64 3, .int .i64 2]] false], .int .i64 1, .slice none [.int .i64 0] false], .int .i64 14⟩
theorem kv17 : AnsOk T 60 ka17 := ansOk_of kw17 (fun _ => rfl) (by rfl)
theorem kw18 : ConAt T 60 31 [.agg [.int .i64 3, .slice (some 2) [.agg [.int .i64 0, .int .i64 1], .agg [.int .i64 0, .int .i64 2]] false], .int .i64 1, .slice none [.int .i64 1, .int .i64 0] false] (.int .i64 3) := ker_conV t31 (by kernel_rfl)
def ky18 : AnsY := ⟨31, [.agg [.int .i64 3, .slice (some 2) [.agg [.int .i64 0, .int .i64 1], .agg [.int .i64 0, .int .i64 2]] false], .int .i64 1, .slice none [.int .i64 1, .int .i64 0] false], .int .i64 3, false⟩
theorem kyo18 : YOk T 60 ky18 := yOk_of kw18
def ka18 : Ans := ⟨31, [.agg [.int .i64 3, .slice (some 2) [.agg [.int .i64 0, .int .i64 1], .agg [.int .i64 0, .int .i64 2]] false], .int .i64 1, .slice none [.int .i64 1, .int .i64 0] false], .int .i64 3⟩
theorem kv18 : AnsOk T 60 ka18 := ansOk_of kw18 (fun _ => rfl) (by rfl)
theorem kw19 : ConAt T 60 52 [.int .i64 0, .int .i64 60, .slice none [.int .i64 0, .int .i64 0, .int .i64 1, .int .i64 0] false] (.bool true) := ker_conV t52 (by kernel_rfl)
def ky19 : AnsY := ⟨52, [.int .i64 0, .int .i64 60, .slice none [.int .i64 0, .int .i64 0, .int .i64 1, .int .i64 0] false], .bool true, false⟩
theorem kyo19 : YOk T 60 ky19 := yOk_of kw19
theorem kw20 : ConAt T 60 89 [.ptr [.int .i64 3, .slice (some 2) [.agg [.int .i64 0, .int .i64 1], .agg [.int .i64 1, .int .i64 2], .agg [.int .i64 2, .int .i64 0], .agg [.int .i64 0, .int .i64 2]] false, .int .i64 0, .int .i64 0, .int .i64 0, .int .i64 0, .int .i64 0, .int .i64 0, .int .i64 0, .int .i64 0, .slice none [.int .i64 0, .int .i64 0, .int .i64 1, .int .i64 0] false] 0, .int .i64 0, .int .i64 0] (.bool true) := ker_conV t89 (by kernel_rfl)
def ky20 : AnsY := ⟨89, [.ptr [.int .i64 3, .slice (some 2) [.agg [.int .i64 0, .int .i64 1], .agg [.int .i64 1, .int .i64 2], .agg [.int .i64 2, .int .i64 0], .agg [.int .i64 0, .int .i64 2]] false, .int .i64 0, .int .i64 0, .int .i64 0, .int .i64 0, .int .i64 0, .int .i64 0, .int .i64 0, .int .i64 0, .slice none [.int .i64 0, .int .i64 0, .int .i64 1, .int .i64 0] false] 0, .int .i64 0, .int .i64 0], .bool true, false⟩
theorem kyo20 : YOk T 60 ky20 := yOk_of kw20
theorem kw21 : ConAt T 60 89 [.ptr [.int .i64 3, .slice (some 2) [.agg [.int .i64 0, .int .i64 1], .agg [.int .i64 1, .int .i64 2], .agg [.int .i64 2, .int .i64 0], .agg [.int .i64 0, .int .i64 2]] false, .int .i64 0, .int .i64 0, .int .i64 0, .int .i64 0, .int .i64 0, .int .i64 0, .int .i64 0, .int .i64 0, .slice none [.int .i64 0, .int .i64 0, .int .i64 1, .int .i64 0] false] 0, .int .i64 0, .int .i64 1] (.bool true) := ker_conV t89 (by kernel_rfl)
def ky21 : AnsY := ⟨89, [.ptr [.int .i64 3, .slice (some 2) [.agg [.int .i64 0, .int .i64 1], .agg [.int .i64 1, .int .i64 2], .agg [.int .i64 2, .int .i64 0], .agg [.int .i64 0, .int .i64 2]] false, .int .i64 0, .int .i64 0, .int .i64 0, .int .i64 0, .int .i64 0, .int .i64 0, .int .i64 0, .int .i64 0, .slice none [.int .i64 0, .int .i64 0, .int .i64 1, .int .i64 0] false] 0, .int .i64 0, .int .i64 1], .bool true, false⟩
theorem kyo21 : YOk T 60 ky21 := yOk_of kw21
theorem kw22 : ConAt T 60 89 [.ptr [.int .i64 3, .slice (some 2) [.agg [.int .i64 0, .int .i64 1], .agg [.int .i64 1, .int .i64 2], .agg [.int .i64 2, .int .i64 0], .agg [.int .i64 0, .int .i64 2]] false, .int .i64 0, .int .i64 0, .int .i64 0, .int .i64 0, .int .i64 0, .int .i64 0, .int .i64 0, .int .i64 0, .slice none [.int .i64 0, .int .i64 0, .int .i64 1, .int .i64 0] false] 0, .int .i64 1, .int .i64 0] (.bool true) := ker_conV t89 (by kernel_rfl)
def ky22 : AnsY := ⟨89, [.ptr [.int .i64 3, .slice (some 2) [.agg [.int .i64 0, .int .i64 1], .agg [.int .i64 1, .int .i64 2], .agg [.int .i64 2, .int .i64 0], .agg [.int .i64 0, .int .i64 2]] false, .int .i64 0, .int .i64 0, .int .i64 0, .int .i64 0, .int .i64 0, .int .i64 0, .int .i64 0, .int .i64 0, .slice none [.int .i64 0, .int .i64 0, .int .i64 1, .int .i64 0] false] 0, .int .i64 1, .int .i64 0], .bool true, false⟩
theorem kyo22 : YOk T 60 ky22 := yOk_of kw22
theorem kw23 : ConAt T 60 89 [.ptr [.int .i64 3, .slice (some 2) [.agg [.int .i64 0, .int .i64 1], .agg [.int .i64 1, .int .i64 2], .agg [.int .i64 2, .int .i64 0], .agg [.int .i64 0, .int .i64 2]] false, .int .i64 0, .int .i64 0, .int .i64 0, .int .i64 0, .int .i64 0, .int .i64 0, .int .i64 0, .int .i64 0, .slice none [.int .i64 0, .int .i64 0, .int .i64 1, .int .i64 0] false] 0, .int .i64 1, .int .i64 1] (.bool true) := ker_conV t89 (by kernel_rfl)
def ky23 : AnsY := ⟨89, [.ptr [.int .i64 3, .slice (some 2) [.agg [.int .i64 0, .int .i64 1], .agg [.int .i64 1, .int .i64 2], .agg [.int .i64 2, .int .i64 0], .agg [.int .i64 0, .int .i64 2]] false, .int .i64 0, .int .i64 0, .int .i64 0, .int .i64 0, .int .i64 0, .int .i64 0, .int .i64 0, .int .i64 0, .slice none [.int .i64 0, .int .i64 0, .int .i64 1, .int .i64 0] false] 0, .int .i64 1, .int .i64 1], .bool true, false⟩
theorem kyo23 : YOk T 60 ky23 := yOk_of kw23
theorem kw24 : ConAt T 60 89 [.ptr [.int .i64 3, .slice (some 2) [.agg [.int .i64 0, .int .i64 1], .agg [.int .i64 1, .int .i64 2], .agg [.int .i64 2, .int .i64 0], .agg [.int .i64 0, .int .i64 2]] false, .int .i64 0, .int .i64 0, .int .i64 0, .int .i64 0, .int .i64 0, .int .i64 0, .int .i64 0, .int .i64 0, .slice none [.int .i64 0, .int .i64 0, .int .i64 1, .int .i64 0] false] 0, .int .i64 0, .int .i64 2] (.bool true) := ker_conV t89 (by kernel_rfl)
def ky24 : AnsY := ⟨89, [.ptr [.int .i64 3, .slice (some 2) [.agg [.int .i64 0, .int .i64 1], .agg [.int .i64 1, .int .i64 2], .agg [.int .i64 2, .int .i64 0], .agg [.int .i64 0, .int .i64 2]] false, .int .i64 0, .int .i64 0, .int .i64 0, .int .i64 0, .int .i64 0, .int .i64 0, .int .i64 0, .int .i64 0, .slice none [.int .i64 0, .int .i64 0, .int .i64 1, .int .i64 0] false] 0, .int .i64 0, .int .i64 2], .bool true, false⟩
theorem kyo24 : YOk T 60 ky24 := yOk_of kw24
theorem kw25 : ConAt T 60 89 [.ptr [.int .i64 3, .slice (some 2) [.agg [.int .i64 0, .int .i64 1], .agg [.int .i64 1, .int .i64 2], .agg [.int .i64 2, .int .i64 0], .agg [.int .i64 0, .int .i64 2]] false, .int .i64 0, .int .i64 0, .int .i64 0, .int .i64 0, .int .i64 0, .int .i64 0, .int .i64 0, .int .i64 0, .slice none [.int .i64 0, .int .i64 0, .int .i64 1, .int .i64 0] false] 0, .int .i64 1, .int .i64 2] (.bool true) := ker_conV t89 (by kernel_rfl)
def ky25 : AnsY := ⟨89, [.ptr [.int .i64 3, .slice (some 2) [.agg [.int .i64 0, .int .i64 1], .agg [.int .i64 1, .int .i64 2], .agg [.int .i64 2, .int .i64 0], .agg [.int .i64 0, .int .i64 2]] false, .int .i64 0, .int .i64 0, .int .i64 0, .int .i64 0, .int .i64 0, .int .i64 0, .int .i64 0, .int .i64 0, .slice none [.int .i64 0, .int .i64 0, .int .i64 1, .int .i64 0] false] 0, .int .i64 1, .int .i64 2], .bool true, false⟩
theorem kyo25 : YOk T 60 ky25 := yOk_of kw25
theorem kw26 : ConAt T 60 89 [.ptr [.int .i64 3, .slice (some 2) [.agg [.int .i64 0, .int .i64 1], .agg [.int .i64 1, .int .i64 2], .agg [.int .i64 2, .int .i64 0], .agg [.int .i64 0, .int .i64 2]] false, .int .i64 0, .int .i64 0, .int .i64 0, .int .i64 0, .int .i64 0, .int .i64 0, .int .i64 0, .int .i64 0, .slice none [.int .i64 0, .int .i64 0, .int .i64 1, .int .i64 0] false] 0, .int .i64 2, .int .i64 0] (.bool true) := ker_conV t89 (by kernel_rfl)
def ky26 : AnsY := ⟨89, [.ptr [.int .i64 3, .slice (some 2) [.agg [.int .i64 0, .int .i64 1], .agg [.int .i64 1, .int .i64 2], .agg [.int .i64 2, .int .i64 0], .agg [.int .i64 0, .int .i64 2]] false, .int .i64 0, .int .i64 0, .int .i64 0, .int .i64 0, .int .i64 0, .int .i64 0, .int .i64 0, .int .i64 0, .slice none [.int .i64 0, .int .i64 0, .int .i64 1, .int .i64 0] false] 0, .int .i64 2, .int .i64 0], .bool true, false⟩
theorem kyo26 : YOk T 60 ky26 := yOk_of kw26
theorem kw27 : ConAt T 60 89 [.ptr [.int .i64 3, .slice (some 2) [.agg [.int .i64 0, .int .i64 1], .agg [.int .i64 1, .int .i64 2], .agg [.int .i64 2, .int .i64 0], .agg [.int .i64 0, .int .i64 2]] false, .int .i64 0, .int .i64 0, .int .i64 0, .int .i64 0, .int .i64 0, .int .i64 0, .int .i64 0, .int .i64 0, .slice none [.int .i64 0, .int .i64 0, .int .i64 1, .int .i64 0] false] 0, .int .i64 2, .int .i64 1] (.bool true) := ker_conV t89 (by kernel_rfl)
def ky27 : AnsY := ⟨89, [.ptr [.int .i64 3, .slice (some 2) [.agg [.int .i64 0, .int .i64 1], .agg [.int .i64 1, .int .i64 2], .agg [.int .i64 2, .int .i64 0], .agg [.int .i64 0, .int .i64 2]] false, .int .i64 0, .int .i64 0, .int .i64 0, .int .i64 0, .int .i64 0, .int .i64 0, .int .i64 0, .int .i64 0, .slice none [.int .i64 0, .int .i64 0, .int .i64 1, .int .i64 0] false] 0, .int .i64 2, .int .i64 1], .bool true, false⟩
theorem kyo27 : YOk T 60 ky27 := yOk_of kw27
theorem kw28 : ConAt T 60 89 [.ptr [.int .i64 3, .slice (some 2) [.agg [.int .i64 0, .int .i64 1], .agg [.int .i64 1, .int .i64 2], .agg [.int .i64 2, .int .i64 0], .agg [.int .i64 0, .int .i64 2]] false, .int .i64 0, .int .i64 0, .int .i64 0, .int .i64 0, .int .i64 0, .int .i64 0, .int .i64 0, .int .i64 0, .slice none [.int .i64 0, .int .i64 0, .int .i64 1, .int .i64 0] false] 0, .int .i64 2, .int .i64 2] (.bool true) := ker_conV t89 (by kernel_rfl)
def ky28 : AnsY := ⟨89, [.ptr [.int .i64 3, .slice (some 2) [.agg [.int .i64 0, .int .i64 1], .agg [.int .i64 1, .int .i64 2], .agg [.int .i64 2, .int .i64 0], .agg [.int .i64 0, .int .i64 2]] false, .int .i64 0, .int .i64 0, .int .i64 0, .int .i64 0, .int .i64 0, .int .i64 0, .int .i64 0, .int .i64 0, .slice none [.int .i64 0, .int .i64 0, .int .i64 1, .int .i64 0] false] 0, .int .i64 2, .int .i64 2], .bool true, false⟩
theorem kyo28 : YOk T 60 ky28 := yOk_of kw28
def kl29 : List AnsY := [ky20, ky21, ky22, ky23, ky24, ky25, ky26, ky27, ky28]
theorem kl29_ok : ∀ a ∈ kl29, YOk T 60 a := List.forall_mem_cons.2 ⟨kyo20.mono (by decide), List.forall_mem_cons.2 ⟨kyo21.mono (by decide), List.forall_mem_cons.2 ⟨kyo22.mono (by decide), List.forall_mem_cons.2 ⟨kyo23.mono (by decide), List.forall_mem_cons.2 ⟨kyo24.mono (by decide), List.forall_mem_cons.2 ⟨kyo25.mono (by decide), List.forall_mem_cons.2 ⟨kyo26.mono (by decide), List.forall_mem_cons.2 ⟨kyo27.mono (by decide), List.forall_mem_cons.2 ⟨kyo28.mono (by decide), (fun _ h => by cases h)⟩⟩⟩⟩⟩⟩⟩⟩⟩
theorem kw29 : ConAt T 80 71 [.ptr [.int .i64 3, .slice (some 2) [.agg [.int .i64 0, .int .i64 1], .agg [.int .i64 1, .int .i64 2], .agg [.int .i64 2, .int .i64 0], .agg [.int .i64 0, .int .i64 2]] false, .int .i64 0, .int .i64 0, .int .i64 0, .int .i64 0, .int .i64 0, .int .i64 0, .int .i64 0, .int .i64 0, .slice none [.int .i64 0, .int .i64 0, .int .i64 1, .int .i64 0] false] 0] (.bool true) := listY_con (n := 19) t71 kl29_ok (by kernel_rfl)
def ky29 : AnsY := ⟨71, [.ptr [.int .i64 3, .slice (some 2) [.agg [.int .i64 0, .int .i64 1], .agg [.int .i64 1, .int .i64 2], .agg [.int .i64 2, .int .i64 0], .agg [.int .i64 0, .int .i64 2]] false, .int .i64 0, .int .i64 0, .int .i64 0, .int .i64 0, .int .i64 0, .int .i64 0, .int .i64 0, .int .i64 0, .slice none [.int .i64 0, .int .i64 0, .int .i64 1, .int .i64 0] false] 0], .bool true, false⟩
theorem kyo29 : YOk T 80 ky29 := yOk_of kw29
def kl30 : List AnsY := [ky3, ky19, ky29]
theorem kl30_ok : ∀ a ∈ kl30, YOk T 80 a := List.forall_mem_cons.2 ⟨kyo3.mono (by decide), List.forall_mem_cons.2 ⟨kyo19.mono (by decide), List.forall_mem_cons.2 ⟨kyo29.mono (by decide), (fun _ h => by cases h)⟩⟩⟩
theorem kw30 : ConAt T 100 33 [.agg [.int .i64 3, .slice (some 2) [.agg [.int .i64 0, .int .i64 1], .agg [.int .i64 1, .int .i64 2], .agg [.int .i64 2, .int .i64 0], .agg [.int .i64 0, .int .i64 2]] false], .slice none [.int .i64 0, .int .i64 0, .int .i64 1, .int .i64 0] false] (.tuple [.int .i64 1, .int .i64 0]) := listY_con (n := 19) t33 kl30_ok (by kernel_rfl)
def ky30 : AnsY := ⟨33, [.agg [.int .i64 3, .slice (some 2) [.agg [.int .i64 0, .int .i64 1], .agg [.int .i64 1, .int .i64 2], .agg [.int .i64 2, .int .i64 0], .agg [.int .i64 0, .int .i64 2]] false], .slice none [.int .i64 0, .int .i64 0, .int .i64 1, .int .i64 0] false], .tuple [.int .i64 1, .int .i64 0], false⟩
theorem kyo30 : YOk T 100 ky30 := yOk_of kw30
def ka30 : Ans := ⟨33, [.agg [.int .i64 3, .slice (some 2) [.agg [.int .i64 0, .int .i64 1], .agg [.int .i64 1, .int .i64 2], .agg [.int .i64 2, .int .i64 0], .agg [.int .i64 0, .int .i64 2]] false], .slice none [.int .i64 0, .int .i64 0, .int .i64 1, .int .i64 0] false], .tuple [.int .i64 1, .int .i64 0]⟩
theorem kv30 : AnsOk T 100 ka30 := ansOk_of kw30 (fun _ => rfl) (by rfl)
theorem kw31 : ConAt T 60 35 [.agg [.int .i64 3, .slice (some 2) [.agg [.int .i64 0, .int .i64 1], .agg [.int .i64 1, .int .i64 2], .agg [.int .i64 2, .int .i64 0], .agg [.int .i64 0, .int .i64 2]] false], .slice none [.int .i64 1, .int .i64 2, .int .i64 2] false] (.tuple [.int .i64 (-1), .int .i64 0]) := ker_conV t35 (by kernel_rfl)
def ky31 : AnsY := ⟨35, [.agg [.int .i64 3, .slice (some 2) [.agg [.int .i64 0, .int .i64 1], .agg [.int .i64 1, .int .i64 2], .agg [.int .i64 2, .int .i64 0], .agg [.int .i64 0, .int .i64 2]] false], .slice none [.int .i64 1, .int .i64 2, .int .i64 2] false], .tuple [.int .i64 (-1), .int .i64 0], false⟩
theorem kyo31 : YOk T 60 ky31 := yOk_of kw31
def ka31 : Ans := ⟨35, [.agg [.int .i64 3, .slice (some 2) [.agg [.int .i64 0, .int .i64 1], .agg [.int .i64 1, .int .i64 2], .agg [.int .i64 2, .int .i64 0], .agg [.int .i64 0, .int .i64 2]] false], .slice none [.int .i64 1, .int .i64 2, .int .i64 2] false], .tuple [.int .i64 (-1), .int .i64 0]⟩
theorem kv31 : AnsOk T 60 ka31 := ansOk_of kw31 (fun _ => rfl) (by rfl)
theorem kw32 : ConAt T 60 35 [.agg [.int .i64 3, .slice (some 2) [.agg [.int .i64 0, .int .i64 1], .agg [.int .i64 1, .int .i64 2], .agg [.int .i64 2, .int .i64 0], .agg [.int .i64 0, .int .i64 2]] false], .slice none [.int .i64 0, .int .i64 0] false] (.tuple [.int .i64 0, .int .i64 15]) := ker_conV t35 (by kernel_rfl)
def ky32 : AnsY := ⟨35, [.agg [.int .i64 3, .slice (some 2) [.agg [.int .i64 0, .int .i64 1], .agg [.int .i64 1, .int .i64 2], .agg [.int .i64 2, .int .i64 0], .agg [.int .i64 0, .int .i64 2]] false], .slice none [.int .i64 0, .int .i64 0] false], .tuple [.int .i64 0, .int .i64 15], false⟩
theorem kyo32 : YOk T 60 ky32 := yOk_of kw32
def ka32 : Ans := ⟨35, [.agg [.int .i64 3, .slice (some 2) [.agg [.int .i64 0, .int .i64 1], .agg [.int .i64 1, .int .i64 2], .agg [.int .i64 2, .int .i64 0], .agg [.int .i64 0, .int .i64 2]] false], .slice none [.int .i64 0, .int .i64 0] false], .tuple [.int .i64 0, .int .i64 15]⟩
theorem kv32 : AnsOk T 60 ka32 := ansOk_of kw32 (fun _ => rfl) (by rfl)
theorem kw33 : ConAt T 60 50 [.slice none [.int .i64 0, .int .i64 1, .int .i64 2, .int .i64 3] false] (.slice none [.int .i64 0, .int .i64 1, .int .i64 2, .int .i64 3] false) := ker_conV t50 (by kernel_rfl)
def ky33 : AnsY := ⟨50, [.slice none [.int .i64 0, .int .i64 1, .int .i64 2, .int .i64 3] false], .slice none [.int .i64 0, .int .i64 1, .int .i64 2, .int .i64 3] false, false⟩
theorem kyo33 : YOk T 60 ky33 := yOk_of kw33
def ka33 : Ans := ⟨50, [.slice none [.int .i64 0, .int .i64 1, .int .i64 2, .int .i64 3] true], .slice none [.int .i64 0, .int .i64 1, .int .i64 2, .int .i64 3] false⟩
theorem kv33 : AnsOk T 60 ka33 := ansOk_of kw33 (fun _ => rfl) (by rfl)
theorem kw34 : ConAt T 60 50 [.slice none [.int .i64 0, .int .i64 1, .int .i64 2] false] (.slice none [.int .i64 0, .int .i64 1, .int .i64 2] false) := ker_conV t50 (by kernel_rfl)
def ky34 : AnsY := ⟨50, [.slice none [.int .i64 0, .int .i64 1, .int .i64 2] false], .slice none [.int .i64 0, .int .i64 1, .int .i64 2] false, false⟩
theorem kyo34 : YOk T 60 ky34 := yOk_of kw34
def ka34 : Ans := ⟨50, [.slice none [.int .i64 0, .int .i64 1, .int .i64 2] true], .slice none [.int .i64 0, .int .i64 1, .int .i64 2] false⟩
theorem kv34 : AnsOk T 60 ka34 := ansOk_of kw34 (fun _ => rfl) (by rfl)
theorem kw35 : ConAt T 60 50 [.slice none [.int .i64 0, .int .i64 1, .int .i64 2, .int .i64 2] false] (.slice none [.int .i64 0, .int .i64 1, .int .i64 2, .int .i64 2] false) := ker_conV t50 (by kernel_rfl)
def ky35 : AnsY := ⟨50, [.slice none [.int .i64 0, .int .i64 1, .int .i64 2, .int .i64 2] false], .slice none [.int .i64 0, .int .i64 1, .int .i64 2, .int .i64 2] false, false⟩
theorem kyo35 : YOk T 60 ky35 := yOk_of kw35
def ka35 : Ans := ⟨50, [.slice none [.int .i64 0, .int .i64 1, .int .i64 2, .int .i64 2] true], .slice none [.int .i64 0, .int .i64 1, .int .i64 2, .int .i64 2] false⟩
theorem kv35 : AnsOk T 60 ka35 := ansOk_of kw35 (fun _ => rfl) (by rfl)
theorem kw36 : ConAt T 60 50 [.slice none [.int .i64 0] false] (.slice none [.int .i64 0] false) := ker_conV t50 (by kernel_rfl)
def ky36 : AnsY := ⟨50, [.slice none [.int .i64 0] false], .slice none [.int .i64 0] false, false⟩
theorem kyo36 : YOk T 60 ky36 := yOk_of kw36
def ka36 : Ans := ⟨50, [.slice none [.int .i64 0] true], .slice none [.int .i64 0] false⟩
theorem kv36 : AnsOk T 60 ka36 := ansOk_of kw36 (fun _ => rfl) (by rfl)
theorem kw37 : ConAt T 60 50 [.slice none [.int .i64 1, .int .i64 0] false] (.slice none [.int .i64 1, .int .i64 0] false) := ker_conV t50 (by kernel_rfl)
def ky37 : AnsY := ⟨50, [.slice none [.int .i64 1, .int .i64 0] false], .slice none [.int .i64 1, .int .i64 0] false, false⟩
theorem kyo37 : YOk T 60 ky37 := yOk_of kw37
def ka37 : Ans := ⟨50, [.slice none [.int .i64 1, .int .i64 0] true], .slice none [.int .i64 1, .int .i64 0] false⟩
theorem kv37 : AnsOk T 60 ka37 := ansOk_of kw37 (fun _ => rfl) (by rfl)
theorem kw38 : ConAt T 60 50 [.slice none [.int .i64 0, .int .i64 0, .int .i64 1, .int .i64 0] false] (.slice none [.int .i64 0, .int .i64 0, .int .i64 1, .int .i64 0] false) := ker_conV t50 (by kernel_rfl)
def ky38 : AnsY := ⟨50, [.slice none [.int .i64 0, .int .i64 0, .int .i64 1, .int .i64 0] false], .slice none [.int .i64 0, .int .i64 0, .int .i64 1, .int .i64 0] false, false⟩
theorem kyo38 : YOk T 60 ky38 := yOk_of kw38
def ka38 : Ans := ⟨50, [.slice none [.int .i64 0, .int .i64 0, .int .i64 1, .int .i64 0] true], .slice none [.int .i64 0, .int .i64 0, .int .i64 1, .int .i64 0] false⟩
theorem kv38 : AnsOk T 60 ka38 := ansOk_of kw38 (fun _ => rfl) (by rfl)
theorem kw39 : ConAt T 60 50 [.slice none [.int .i64 1, .int .i64 2, .int .i64 2] false] (.slice none [.int .i64 1, .int .i64 2, .int .i64 2] false) := ker_conV t50 (by kernel_rfl)
def ky39 : AnsY := ⟨50, [.slice none [.int .i64 1, .int .i64 2, .int .i64 2] false], .slice none [.int .i64 1, .int .i64 2, .int .i64 2] false, false⟩
theorem kyo39 : YOk T 60 ky39 := yOk_of kw39
def ka39 : Ans := ⟨50, [.slice none [.int .i64 1, .int .i64 2, .int .i64 2] true], .slice none [.int .i64 1, .int .i64 2, .int .i64 2] false⟩
theorem kv39 : AnsOk T 60 ka39 := ansOk_of kw39 (fun _ => rfl) (by rfl)
theorem kw40 : ConAt T 60 50 [.slice none [.int .i64 0, .int .i64 0] false] (.slice none [.int .i64 0, .int .i64 0] false) := ker_conV t50 (by kernel_rfl)
def ky40 : AnsY := ⟨50, [.slice none [.int .i64 0, .int .i64 0] false], .slice none [.int .i64 0, .int .i64 0] false, false⟩
theorem kyo40 : YOk T 60 ky40 := yOk_of kw40
def ka40 : Ans := ⟨50, [.slice none [.int .i64 0, .int .i64 0] true], .slice none [.int .i64 0, .int .i64 0] false⟩
theorem kv40 : AnsOk T 60 ka40 := ansOk_of kw40 (fun _ => rfl) (by rfl)
def aW : Ans := ⟨16, [], .bool true⟩
theorem vW : AnsOk T 20000 aW := ansOk_of works (fun _ => rfl) (by rfl)
def kwl : List Ans := [ka0, ka1, ka2, ka6, ka7, ka8, ka11, ka15, ka16, ka17, ka18, ka30, ka31, ka32, ka33, ka34, ka35, ka36, ka37, ka38, ka39, ka40, aW]
theorem kwl_ok : ∀ a ∈ kwl, AnsOk T 20000 a := List.forall_mem_cons.2 ⟨kv0.mono (by decide), List.forall_mem_cons.2 ⟨kv1.mono (by decide), List.forall_mem_cons.2 ⟨kv2.mono (by decide), List.forall_mem_cons.2 ⟨kv6.mono (by decide), List.forall_mem_cons.2 ⟨kv7.mono (by decide), List.forall_mem_cons.2 ⟨kv8.mono (by decide), List.forall_mem_cons.2 ⟨kv11.mono (by decide), List.forall_mem_cons.2 ⟨kv15.mono (by decide), List.forall_mem_cons.2 ⟨kv16.mono (by decide), List.forall_mem_cons.2 ⟨kv17.mono (by decide), List.forall_mem_cons.2 ⟨kv18.mono (by decide), List.forall_mem_cons.2 ⟨kv30.mono (by decide), List.forall_mem_cons.2 ⟨kv31.mono (by decide), List.forall_mem_cons.2 ⟨kv32.mono (by decide), List.forall_mem_cons.2 ⟨kv33.mono (by decide), List.forall_mem_cons.2 ⟨kv34.mono (by decide), List.forall_mem_cons.2 ⟨kv35.mono (by decide), List.forall_mem_cons.2 ⟨kv36.mono (by decide), List.forall_mem_cons.2 ⟨kv37.mono (by decide), List.forall_mem_cons.2 ⟨kv38.mono (by decide), List.forall_mem_cons.2 ⟨kv39.mono (by decide), List.forall_mem_cons.2 ⟨kv40.mono (by decide), List.forall_mem_cons.2 ⟨vW.mono (by decide), (fun _ h => by cases h)⟩⟩⟩⟩⟩⟩⟩⟩⟩⟩⟩⟩⟩⟩⟩⟩⟩⟩⟩⟩⟩⟩⟩

theorem known_run : (evFn (callX kwl) c14 [] []).allB (fun p => eqAV 8 p.1 (.bool true)) = true := by kernel_rfl
def tuneKnown_n : Nat := 20000
theorem tuneKnown_ev : (evFn (evCall T tuneKnown_n) c14 [] []).all fun p => p.1 = .bool true := by
  unfold tuneKnown_n
  refine Res.all_mono _ (evFn_le (callX_le kwl_ok) c14 [] [] _ (Res.allB_all _ _ known_run)) ?_
  intro p hp
  exact eqAV_eq _ _ _ hp

end Go.Ev.YtjcabpldgdafeaaC
