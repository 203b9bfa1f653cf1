/- TopRackedSearch behind Grown, run at trees. TopRackedSearch behind Grown, run at trees. No condition but those that stand in each. -/
import Derived.Test.YtbgodhhdojjbmaaGreatARtLwR
set_option linter.unusedSimpArgs false
set_option linter.unusedVariables false
set_option maxRecDepth 100000
namespace Go.Ev.YtbgodhhdojjbmaaGreatC
open Go Go.Proofs
theorem C5y:PQ 5 42 Em [0,1,2,3,4] [1,3,5,7,9] [2,4,6,8,10]:=⟨by kernel_rfl,fun X=>by kernel_rfl⟩
theorem C5z:PQ 5 42 Em [0,1,2,4,3] [1,3,5,7,8] [2,4,6,9,10]:=⟨by kernel_rfl,fun X=>by kernel_rfl⟩
theorem C6a:PQ 5 42 Em [0,1,3,2,3] [1,3,5,6,9] [2,4,7,8,10]:=⟨by kernel_rfl,fun X=>by kernel_rfl⟩
theorem C6b:PQ 5 42 Em [0,1,3,4,2] [1,3,5,6,8] [2,4,7,9,10]:=⟨by kernel_rfl,fun X=>by kernel_rfl⟩
theorem C6c:PQ 5 42 Em [0,1,4,3,2] [1,3,5,6,7] [2,4,8,9,10]:=⟨by kernel_rfl,fun X=>by kernel_rfl⟩
theorem C6d:PQ 5 42 Em [0,2,1,2,3] [1,3,4,7,9] [2,5,6,8,10]:=⟨by kernel_rfl,fun X=>by kernel_rfl⟩
theorem C6e:PQ 5 42 Em [0,2,1,3,2] [1,3,4,7,8] [2,5,6,9,10]:=⟨by kernel_rfl,fun X=>by kernel_rfl⟩
theorem C6f:PQ 5 42 Em [0,2,3,1,2] [1,3,4,6,9] [2,5,7,8,10]:=⟨by kernel_rfl,fun X=>by kernel_rfl⟩
theorem C6g:PQ 5 42 Em [0,2,3,4,1] [1,3,4,6,8] [2,5,7,9,10]:=⟨by kernel_rfl,fun X=>by kernel_rfl⟩
theorem C6h:PQ 5 42 Em [0,2,4,3,1] [1,3,4,6,7] [2,5,8,9,10]:=⟨by kernel_rfl,fun X=>by kernel_rfl⟩
theorem B3e:PQ 5 42 Em [0,3,2,1,2] [1,3,4,5,9] [2,6,7,8,10]:=⟨by kernel_rfl,fun X=>by kernel_rfl⟩
theorem B3f:PQ 5 42 Em [0,3,2,3,1] [1,3,4,5,8] [2,6,7,9,10]:=⟨by kernel_rfl,fun X=>by kernel_rfl⟩
theorem B3g:PQ 5 42 Em [0,3,4,2,1] [1,3,4,5,7] [2,6,8,9,10]:=⟨by kernel_rfl,fun X=>by kernel_rfl⟩
theorem B3h:PQ 5 42 Em [0,4,3,2,1] [1,3,4,5,6] [2,7,8,9,10]:=⟨by kernel_rfl,fun X=>by kernel_rfl⟩
theorem B3i:PQ 5 42 Em [1,0,1,2,3] [1,2,5,7,9] [3,4,6,8,10]:=⟨by kernel_rfl,fun X=>by kernel_rfl⟩
theorem B3j:PQ 5 42 Em [1,0,1,3,2] [1,2,5,7,8] [3,4,6,9,10]:=⟨by kernel_rfl,fun X=>by kernel_rfl⟩
theorem B3k:PQ 5 42 Em [1,0,2,1,2] [1,2,5,6,9] [3,4,7,8,10]:=⟨by kernel_rfl,fun X=>by kernel_rfl⟩
theorem B3l:PQ 5 42 Em [1,0,2,3,1] [1,2,5,6,8] [3,4,7,9,10]:=⟨by kernel_rfl,fun X=>by kernel_rfl⟩
theorem B3m:PQ 5 42 Em [1,0,3,2,1] [1,2,5,6,7] [3,4,8,9,10]:=⟨by kernel_rfl,fun X=>by kernel_rfl⟩
theorem B3n:PQ 5 42 Em [1,2,0,1,2] [1,2,4,7,9] [3,5,6,8,10]:=⟨by kernel_rfl,fun X=>by kernel_rfl⟩
theorem B3o:PQ 5 42 Em [1,2,0,2,1] [1,2,4,7,8] [3,5,6,9,10]:=⟨by kernel_rfl,fun X=>by kernel_rfl⟩
theorem C6w:∀t∈[[0,1,2,3,4],[0,1,2,4,3],[0,1,3,2,3],[0,1,3,4,2],[0,1,4,3,2],[0,2,1,2,3],[0,2,1,3,2],[0,2,3,1,2],[0,2,3,4,1],[0,2,4,3,1],[0,3,2,1,2],[0,3,2,3,1],[0,3,4,2,1],[0,4,3,2,1],[1,0,1,2,3],[1,0,1,3,2],[1,0,2,1,2],[1,0,2,3,1],[1,0,3,2,1],[1,2,0,1,2],[1,2,0,2,1]],PT 5 42 Em t:=(raM (raQ ck5 C5y) (raM (raQ ck5 C5z) (raM (raQ ck5 C6a) (raM (raQ ck5 C6b) (raM (raQ ck5 C6c) (raM (raQ ck5 C6d) (raM (raQ ck5 C6e) (raM (raQ ck5 C6f) (raM (raQ ck5 C6g) (raM (raQ ck5 C6h) (raM (raQ ck5 B3e) (raM (raQ ck5 B3f) (raM (raQ ck5 B3g) (raM (raQ ck5 B3h) (raM (raQ ck5 B3i) (raM (raQ ck5 B3j) (raM (raQ ck5 B3k) (raM (raQ ck5 B3l) (raM (raQ ck5 B3m) (raM (raQ ck5 B3n) (raM (raQ ck5 B3o) raN)))))))))))))))))))))
theorem B3p:PQ 5 42 Em [1,2,3,0,1] [1,2,4,6,9] [3,5,7,8,10]:=⟨by kernel_rfl,fun X=>by kernel_rfl⟩
theorem B3q:PQ 5 42 Em [1,2,3,4,0] [1,2,4,6,8] [3,5,7,9,10]:=⟨by kernel_rfl,fun X=>by kernel_rfl⟩
theorem B3r:PQ 5 42 Em [1,2,4,3,0] [1,2,4,6,7] [3,5,8,9,10]:=⟨by kernel_rfl,fun X=>by kernel_rfl⟩
theorem B3s:PQ 5 42 Em [1,3,2,0,1] [1,2,4,5,9] [3,6,7,8,10]:=⟨by kernel_rfl,fun X=>by kernel_rfl⟩
theorem B3t:PQ 5 42 Em [1,3,2,3,0] [1,2,4,5,8] [3,6,7,9,10]:=⟨by kernel_rfl,fun X=>by kernel_rfl⟩
theorem B3u:PQ 5 42 Em [1,3,4,2,0] [1,2,4,5,7] [3,6,8,9,10]:=⟨by kernel_rfl,fun X=>by kernel_rfl⟩
theorem B3v:PQ 5 42 Em [1,4,3,2,0] [1,2,4,5,6] [3,7,8,9,10]:=⟨by kernel_rfl,fun X=>by kernel_rfl⟩
theorem B3w:PQ 5 42 Em [2,1,0,1,2] [1,2,3,7,9] [4,5,6,8,10]:=⟨by kernel_rfl,fun X=>by kernel_rfl⟩
theorem B3x:PQ 5 42 Em [2,1,0,2,1] [1,2,3,7,8] [4,5,6,9,10]:=⟨by kernel_rfl,fun X=>by kernel_rfl⟩
theorem B3y:PQ 5 42 Em [2,1,2,0,1] [1,2,3,6,9] [4,5,7,8,10]:=⟨by kernel_rfl,fun X=>by kernel_rfl⟩
theorem B3z:PQ 5 42 Em [2,1,2,3,0] [1,2,3,6,8] [4,5,7,9,10]:=⟨by kernel_rfl,fun X=>by kernel_rfl⟩
theorem B4a:PQ 5 42 Em [2,1,3,2,0] [1,2,3,6,7] [4,5,8,9,10]:=⟨by kernel_rfl,fun X=>by kernel_rfl⟩
theorem B4b:PQ 5 42 Em [2,3,1,0,1] [1,2,3,5,9] [4,6,7,8,10]:=⟨by kernel_rfl,fun X=>by kernel_rfl⟩
theorem B4c:PQ 5 42 Em [2,3,1,2,0] [1,2,3,5,8] [4,6,7,9,10]:=⟨by kernel_rfl,fun X=>by kernel_rfl⟩
theorem B4d:PQ 5 42 Em [2,3,4,1,0] [1,2,3,5,7] [4,6,8,9,10]:=⟨by kernel_rfl,fun X=>by kernel_rfl⟩
theorem B4e:PQ 5 42 Em [2,4,3,1,0] [1,2,3,5,6] [4,7,8,9,10]:=⟨by kernel_rfl,fun X=>by kernel_rfl⟩
theorem B4f:PQ 5 42 Em [3,2,1,0,1] [1,2,3,4,9] [5,6,7,8,10]:=⟨by kernel_rfl,fun X=>by kernel_rfl⟩
theorem B4g:PQ 5 42 Em [3,2,1,2,0] [1,2,3,4,8] [5,6,7,9,10]:=⟨by kernel_rfl,fun X=>by kernel_rfl⟩
theorem B4h:PQ 5 42 Em [3,2,3,1,0] [1,2,3,4,7] [5,6,8,9,10]:=⟨by kernel_rfl,fun X=>by kernel_rfl⟩
theorem B4i:PQ 5 42 Em [3,4,2,1,0] [1,2,3,4,6] [5,7,8,9,10]:=⟨by kernel_rfl,fun X=>by kernel_rfl⟩
theorem B4j:PQ 5 42 Em [4,3,2,1,0] [1,2,3,4,5] [6,7,8,9,10]:=⟨by kernel_rfl,fun X=>by kernel_rfl⟩
theorem C6x:∀t∈[[1,2,3,0,1],[1,2,3,4,0],[1,2,4,3,0],[1,3,2,0,1],[1,3,2,3,0],[1,3,4,2,0],[1,4,3,2,0],[2,1,0,1,2],[2,1,0,2,1],[2,1,2,0,1],[2,1,2,3,0],[2,1,3,2,0],[2,3,1,0,1],[2,3,1,2,0],[2,3,4,1,0],[2,4,3,1,0],[3,2,1,0,1],[3,2,1,2,0],[3,2,3,1,0],[3,4,2,1,0],[4,3,2,1,0]],PT 5 42 Em t:=(raM (raQ ck5 B3p) (raM (raQ ck5 B3q) (raM (raQ ck5 B3r) (raM (raQ ck5 B3s) (raM (raQ ck5 B3t) (raM (raQ ck5 B3u) (raM (raQ ck5 B3v) (raM (raQ ck5 B3w) (raM (raQ ck5 B3x) (raM (raQ ck5 B3y) (raM (raQ ck5 B3z) (raM (raQ ck5 B4a) (raM (raQ ck5 B4b) (raM (raQ ck5 B4c) (raM (raQ ck5 B4d) (raM (raQ ck5 B4e) (raM (raQ ck5 B4f) (raM (raQ ck5 B4g) (raM (raQ ck5 B4h) (raM (raQ ck5 B4i) (raM (raQ ck5 B4j) raN)))))))))))))))))))))
end Go.Ev.YtbgodhhdojjbmaaGreatC
