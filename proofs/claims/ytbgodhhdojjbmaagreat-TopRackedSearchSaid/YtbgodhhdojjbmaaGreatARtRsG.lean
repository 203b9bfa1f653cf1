/- TopRackedSearch behind Grown, run at trees. TopRackedSearch behind Grown, run at trees. No condition but those that stand in each. -/
import Derived.Test.YtbgodhhdojjbmaaGreatARtLwR
set_option linter.unusedSimpArgs false
set_option linter.unusedVariables false
set_option maxRecDepth 100000
namespace Go.Ev.YtbgodhhdojjbmaaGreatC
open Go Go.Proofs
theorem B4w:PQ 6 132 Bt [0,2,3,4,5,1] [1,3,4,6,8,10] [2,5,7,9,11,12]:=⟨by kernel_rfl,fun X=>by kernel_rfl⟩
theorem B4x:PQ 6 132 Bt [0,2,3,5,4,1] [1,3,4,6,8,9] [2,5,7,10,11,12]:=⟨by kernel_rfl,fun X=>by kernel_rfl⟩
theorem B4y:PQ 6 132 Bt [0,2,4,3,1,2] [1,3,4,6,7,11] [2,5,8,9,10,12]:=⟨by kernel_rfl,fun X=>by kernel_rfl⟩
theorem B4z:PQ 6 132 Bt [0,2,4,3,4,1] [1,3,4,6,7,10] [2,5,8,9,11,12]:=⟨by kernel_rfl,fun X=>by kernel_rfl⟩
theorem B5a:PQ 6 132 Bt [0,2,4,5,3,1] [1,3,4,6,7,9] [2,5,8,10,11,12]:=⟨by kernel_rfl,fun X=>by kernel_rfl⟩
theorem B5b:PQ 6 132 Bt [0,2,5,4,3,1] [1,3,4,6,7,8] [2,5,9,10,11,12]:=⟨by kernel_rfl,fun X=>by kernel_rfl⟩
theorem B5c:PQ 6 132 Bt [0,3,2,1,2,3] [1,3,4,5,9,11] [2,6,7,8,10,12]:=⟨by kernel_rfl,fun X=>by kernel_rfl⟩
theorem B5d:PQ 6 132 Bt [0,3,2,1,3,2] [1,3,4,5,9,10] [2,6,7,8,11,12]:=⟨by kernel_rfl,fun X=>by kernel_rfl⟩
theorem B5e:PQ 6 132 Bt [0,3,2,3,1,2] [1,3,4,5,8,11] [2,6,7,9,10,12]:=⟨by kernel_rfl,fun X=>by kernel_rfl⟩
theorem B5f:PQ 6 132 Bt [0,3,2,3,4,1] [1,3,4,5,8,10] [2,6,7,9,11,12]:=⟨by kernel_rfl,fun X=>by kernel_rfl⟩
theorem B5g:PQ 6 132 Bt [0,3,2,4,3,1] [1,3,4,5,8,9] [2,6,7,10,11,12]:=⟨by kernel_rfl,fun X=>by kernel_rfl⟩
theorem C7a:∀t∈[[0,2,3,4,5,1],[0,2,3,5,4,1],[0,2,4,3,1,2],[0,2,4,3,4,1],[0,2,4,5,3,1],[0,2,5,4,3,1],[0,3,2,1,2,3],[0,3,2,1,3,2],[0,3,2,3,1,2],[0,3,2,3,4,1],[0,3,2,4,3,1]],PT 6 132 Bt t:=(raM (raQ ck6 B4w) (raM (raQ ck6 B4x) (raM (raQ ck6 B4y) (raM (raQ ck6 B4z) (raM (raQ ck6 B5a) (raM (raQ ck6 B5b) (raM (raQ ck6 B5c) (raM (raQ ck6 B5d) (raM (raQ ck6 B5e) (raM (raQ ck6 B5f) (raM (raQ ck6 B5g) raN)))))))))))
theorem B5h:PQ 6 132 Bt [0,3,4,2,1,2] [1,3,4,5,7,11] [2,6,8,9,10,12]:=⟨by kernel_rfl,fun X=>by kernel_rfl⟩
theorem B5i:PQ 6 132 Bt [0,3,4,2,3,1] [1,3,4,5,7,10] [2,6,8,9,11,12]:=⟨by kernel_rfl,fun X=>by kernel_rfl⟩
theorem B5j:PQ 6 132 Bt [0,3,4,5,2,1] [1,3,4,5,7,9] [2,6,8,10,11,12]:=⟨by kernel_rfl,fun X=>by kernel_rfl⟩
theorem B5k:PQ 6 132 Bt [0,3,5,4,2,1] [1,3,4,5,7,8] [2,6,9,10,11,12]:=⟨by kernel_rfl,fun X=>by kernel_rfl⟩
theorem B5l:PQ 6 132 Bt [0,4,3,2,1,2] [1,3,4,5,6,11] [2,7,8,9,10,12]:=⟨by kernel_rfl,fun X=>by kernel_rfl⟩
theorem B5m:PQ 6 132 Bt [0,4,3,2,3,1] [1,3,4,5,6,10] [2,7,8,9,11,12]:=⟨by kernel_rfl,fun X=>by kernel_rfl⟩
theorem B5n:PQ 6 132 Bt [0,4,3,4,2,1] [1,3,4,5,6,9] [2,7,8,10,11,12]:=⟨by kernel_rfl,fun X=>by kernel_rfl⟩
theorem B5o:PQ 6 132 Bt [0,4,5,3,2,1] [1,3,4,5,6,8] [2,7,9,10,11,12]:=⟨by kernel_rfl,fun X=>by kernel_rfl⟩
theorem B5p:PQ 6 132 Bt [0,5,4,3,2,1] [1,3,4,5,6,7] [2,8,9,10,11,12]:=⟨by kernel_rfl,fun X=>by kernel_rfl⟩
theorem B5q:PQ 6 132 Bt [1,0,1,2,3,4] [1,2,5,7,9,11] [3,4,6,8,10,12]:=⟨by kernel_rfl,fun X=>by kernel_rfl⟩
theorem B5r:PQ 6 132 Bt [1,0,1,2,4,3] [1,2,5,7,9,10] [3,4,6,8,11,12]:=⟨by kernel_rfl,fun X=>by kernel_rfl⟩
theorem C7b:∀t∈[[0,3,4,2,1,2],[0,3,4,2,3,1],[0,3,4,5,2,1],[0,3,5,4,2,1],[0,4,3,2,1,2],[0,4,3,2,3,1],[0,4,3,4,2,1],[0,4,5,3,2,1],[0,5,4,3,2,1],[1,0,1,2,3,4],[1,0,1,2,4,3]],PT 6 132 Bt t:=(raM (raQ ck6 B5h) (raM (raQ ck6 B5i) (raM (raQ ck6 B5j) (raM (raQ ck6 B5k) (raM (raQ ck6 B5l) (raM (raQ ck6 B5m) (raM (raQ ck6 B5n) (raM (raQ ck6 B5o) (raM (raQ ck6 B5p) (raM (raQ ck6 B5q) (raM (raQ ck6 B5r) raN)))))))))))
end Go.Ev.YtbgodhhdojjbmaaGreatC
