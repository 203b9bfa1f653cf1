/- TopRackedSearch behind Grown, run at trees. TopRackedSearch behind Grown, run at trees. No condition but those that stand in each. -/
import Derived.Test.YtbgodhhdojjbmaaGreatARtLwR
set_option linter.unusedSimpArgs false
set_option linter.unusedVariables false
set_option maxRecDepth 100000
namespace Go.Ev.YtbgodhhdojjbmaaGreatC
open Go Go.Proofs
theorem B5s:PQ 6 132 Bt [1,0,1,3,2,3] [1,2,5,7,8,11] [3,4,6,9,10,12]:=⟨by kernel_rfl,fun X=>by kernel_rfl⟩
theorem B5t:PQ 6 132 Bt [1,0,1,3,4,2] [1,2,5,7,8,10] [3,4,6,9,11,12]:=⟨by kernel_rfl,fun X=>by kernel_rfl⟩
theorem B5u:PQ 6 132 Bt [1,0,1,4,3,2] [1,2,5,7,8,9] [3,4,6,10,11,12]:=⟨by kernel_rfl,fun X=>by kernel_rfl⟩
theorem B5v:PQ 6 132 Bt [1,0,2,1,2,3] [1,2,5,6,9,11] [3,4,7,8,10,12]:=⟨by kernel_rfl,fun X=>by kernel_rfl⟩
theorem B5w:PQ 6 132 Bt [1,0,2,1,3,2] [1,2,5,6,9,10] [3,4,7,8,11,12]:=⟨by kernel_rfl,fun X=>by kernel_rfl⟩
theorem B5x:PQ 6 132 Bt [1,0,2,3,1,2] [1,2,5,6,8,11] [3,4,7,9,10,12]:=⟨by kernel_rfl,fun X=>by kernel_rfl⟩
theorem B5y:PQ 6 132 Bt [1,0,2,3,4,1] [1,2,5,6,8,10] [3,4,7,9,11,12]:=⟨by kernel_rfl,fun X=>by kernel_rfl⟩
theorem B5z:PQ 6 132 Bt [1,0,2,4,3,1] [1,2,5,6,8,9] [3,4,7,10,11,12]:=⟨by kernel_rfl,fun X=>by kernel_rfl⟩
theorem B6a:PQ 6 132 Bt [1,0,3,2,1,2] [1,2,5,6,7,11] [3,4,8,9,10,12]:=⟨by kernel_rfl,fun X=>by kernel_rfl⟩
theorem B6b:PQ 6 132 Bt [1,0,3,2,3,1] [1,2,5,6,7,10] [3,4,8,9,11,12]:=⟨by kernel_rfl,fun X=>by kernel_rfl⟩
theorem B6c:PQ 6 132 Bt [1,0,3,4,2,1] [1,2,5,6,7,9] [3,4,8,10,11,12]:=⟨by kernel_rfl,fun X=>by kernel_rfl⟩
theorem C7c:∀t∈[[1,0,1,3,2,3],[1,0,1,3,4,2],[1,0,1,4,3,2],[1,0,2,1,2,3],[1,0,2,1,3,2],[1,0,2,3,1,2],[1,0,2,3,4,1],[1,0,2,4,3,1],[1,0,3,2,1,2],[1,0,3,2,3,1],[1,0,3,4,2,1]],PT 6 132 Bt t:=(raM (raQ ck6 B5s) (raM (raQ ck6 B5t) (raM (raQ ck6 B5u) (raM (raQ ck6 B5v) (raM (raQ ck6 B5w) (raM (raQ ck6 B5x) (raM (raQ ck6 B5y) (raM (raQ ck6 B5z) (raM (raQ ck6 B6a) (raM (raQ ck6 B6b) (raM (raQ ck6 B6c) raN)))))))))))
theorem B6d:PQ 6 132 Bt [1,0,4,3,2,1] [1,2,5,6,7,8] [3,4,9,10,11,12]:=⟨by kernel_rfl,fun X=>by kernel_rfl⟩
theorem B6e:PQ 6 132 Bt [1,2,0,1,2,3] [1,2,4,7,9,11] [3,5,6,8,10,12]:=⟨by kernel_rfl,fun X=>by kernel_rfl⟩
theorem B6f:PQ 6 132 Bt [1,2,0,1,3,2] [1,2,4,7,9,10] [3,5,6,8,11,12]:=⟨by kernel_rfl,fun X=>by kernel_rfl⟩
theorem B6g:PQ 6 132 Bt [1,2,0,2,1,2] [1,2,4,7,8,11] [3,5,6,9,10,12]:=⟨by kernel_rfl,fun X=>by kernel_rfl⟩
theorem B6h:PQ 6 132 Bt [1,2,0,2,3,1] [1,2,4,7,8,10] [3,5,6,9,11,12]:=⟨by kernel_rfl,fun X=>by kernel_rfl⟩
theorem B6i:PQ 6 132 Bt [1,2,0,3,2,1] [1,2,4,7,8,9] [3,5,6,10,11,12]:=⟨by kernel_rfl,fun X=>by kernel_rfl⟩
theorem B6j:PQ 6 132 Bt [1,2,3,0,1,2] [1,2,4,6,9,11] [3,5,7,8,10,12]:=⟨by kernel_rfl,fun X=>by kernel_rfl⟩
theorem B6k:PQ 6 132 Bt [1,2,3,0,2,1] [1,2,4,6,9,10] [3,5,7,8,11,12]:=⟨by kernel_rfl,fun X=>by kernel_rfl⟩
theorem B6l:PQ 6 132 Bt [1,2,3,4,0,1] [1,2,4,6,8,11] [3,5,7,9,10,12]:=⟨by kernel_rfl,fun X=>by kernel_rfl⟩
theorem B6m:PQ 6 132 Bt [1,2,3,4,5,0] [1,2,4,6,8,10] [3,5,7,9,11,12]:=⟨by kernel_rfl,fun X=>by kernel_rfl⟩
theorem B6n:PQ 6 132 Bt [1,2,3,5,4,0] [1,2,4,6,8,9] [3,5,7,10,11,12]:=⟨by kernel_rfl,fun X=>by kernel_rfl⟩
theorem C7d:∀t∈[[1,0,4,3,2,1],[1,2,0,1,2,3],[1,2,0,1,3,2],[1,2,0,2,1,2],[1,2,0,2,3,1],[1,2,0,3,2,1],[1,2,3,0,1,2],[1,2,3,0,2,1],[1,2,3,4,0,1],[1,2,3,4,5,0],[1,2,3,5,4,0]],PT 6 132 Bt t:=(raM (raQ ck6 B6d) (raM (raQ ck6 B6e) (raM (raQ ck6 B6f) (raM (raQ ck6 B6g) (raM (raQ ck6 B6h) (raM (raQ ck6 B6i) (raM (raQ ck6 B6j) (raM (raQ ck6 B6k) (raM (raQ ck6 B6l) (raM (raQ ck6 B6m) (raM (raQ ck6 B6n) raN)))))))))))
end Go.Ev.YtbgodhhdojjbmaaGreatC
