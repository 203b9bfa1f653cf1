/- How many racks with two rows, and how many trees. No condition but those that stand in each. -/
import Derived.Test.YtbgodhhdojjbmaaGreatATopW
import Derived.Test.YtbgodhhdojjbmaaGreatAStOpen
set_option linter.unusedSimpArgs false
set_option linter.unusedVariables false
set_option maxRecDepth 100000
namespace Go.Ev.YtbgodhhdojjbmaaGreatC
open Go Go.Proofs
theorem rkc1:YOk T 61 ⟨16,[Ff [1,1]],.tuple [.int .i64 1,.int .i64 0],false⟩:=zC (k:=0) fN (by kernel_rfl)
theorem skc1:YOk T 61 ⟨17,[.int .i64 1],.tuple [.int .i64 1,.int .i64 0],false⟩:=zC (k:=0) fN (by kernel_rfl)
theorem rkc2:YOk T 61 ⟨16,[Ff [2,2]],.tuple [.int .i64 2,.int .i64 0],false⟩:=zC (k:=0) fN (by kernel_rfl)
theorem skc2:YOk T 61 ⟨17,[.int .i64 2],.tuple [.int .i64 2,.int .i64 0],false⟩:=zC (k:=0) fN (by kernel_rfl)
theorem rkc3:YOk T 61 ⟨16,[Ff [3,3]],.tuple [.int .i64 5,.int .i64 0],false⟩:=zC (k:=0) fN (by kernel_rfl)
theorem skc3:YOk T 61 ⟨17,[.int .i64 3],.tuple [.int .i64 5,.int .i64 0],false⟩:=zC (k:=0) fN (by kernel_rfl)
theorem rkc4:YOk T 61 ⟨16,[Ff [4,4]],.tuple [.int .i64 14,.int .i64 0],false⟩:=zC (k:=0) fN (by kernel_rfl)
theorem skc4:YOk T 61 ⟨17,[.int .i64 4],.tuple [.int .i64 14,.int .i64 0],false⟩:=zC (k:=0) fN (by kernel_rfl)
theorem rkc5:YOk T 61 ⟨16,[Ff [5,5]],.tuple [.int .i64 42,.int .i64 0],false⟩:=zC (k:=0) fN (by kernel_rfl)
theorem skc5:YOk T 61 ⟨17,[.int .i64 5],.tuple [.int .i64 42,.int .i64 0],false⟩:=zC (k:=0) fN (by kernel_rfl)
theorem rkc6:YOk T 61 ⟨16,[Ff [6,6]],.tuple [.int .i64 132,.int .i64 0],false⟩:=zC (k:=0) fN (by kernel_rfl)
theorem skc6:YOk T 61 ⟨17,[.int .i64 6],.tuple [.int .i64 132,.int .i64 0],false⟩:=zC (k:=0) fN (by kernel_rfl)
end Go.Ev.YtbgodhhdojjbmaaGreatC
