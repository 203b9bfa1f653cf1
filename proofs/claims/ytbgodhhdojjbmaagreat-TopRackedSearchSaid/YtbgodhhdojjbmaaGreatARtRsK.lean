/- TopRackedSearch behind Grown, run at trees. TopRackedSearch behind Grown, run at trees. No condition but those that stand in each. -/
import Derived.Test.YtbgodhhdojjbmaaGreatARtLwR
set_option linter.unusedSimpArgs false
set_option linter.unusedVariables false
set_option maxRecDepth 100000
namespace Go.Ev.YtbgodhhdojjbmaaGreatC
open Go Go.Proofs
theorem B6o:PQ 6 132 Bt [1,2,4,3,0,1] [1,2,4,6,7,11] [3,5,8,9,10,12]:=⟨by kernel_rfl,fun X=>by kernel_rfl⟩
theorem B6p:PQ 6 132 Bt [1,2,4,3,4,0] [1,2,4,6,7,10] [3,5,8,9,11,12]:=⟨by kernel_rfl,fun X=>by kernel_rfl⟩
theorem B6q:PQ 6 132 Bt [1,2,4,5,3,0] [1,2,4,6,7,9] [3,5,8,10,11,12]:=⟨by kernel_rfl,fun X=>by kernel_rfl⟩
theorem B6r:PQ 6 132 Bt [1,2,5,4,3,0] [1,2,4,6,7,8] [3,5,9,10,11,12]:=⟨by kernel_rfl,fun X=>by kernel_rfl⟩
theorem B6s:PQ 6 132 Bt [1,3,2,0,1,2] [1,2,4,5,9,11] [3,6,7,8,10,12]:=⟨by kernel_rfl,fun X=>by kernel_rfl⟩
theorem B6t:PQ 6 132 Bt [1,3,2,0,2,1] [1,2,4,5,9,10] [3,6,7,8,11,12]:=⟨by kernel_rfl,fun X=>by kernel_rfl⟩
theorem B6u:PQ 6 132 Bt [1,3,2,3,0,1] [1,2,4,5,8,11] [3,6,7,9,10,12]:=⟨by kernel_rfl,fun X=>by kernel_rfl⟩
theorem B6v:PQ 6 132 Bt [1,3,2,3,4,0] [1,2,4,5,8,10] [3,6,7,9,11,12]:=⟨by kernel_rfl,fun X=>by kernel_rfl⟩
theorem B6w:PQ 6 132 Bt [1,3,2,4,3,0] [1,2,4,5,8,9] [3,6,7,10,11,12]:=⟨by kernel_rfl,fun X=>by kernel_rfl⟩
theorem B6x:PQ 6 132 Bt [1,3,4,2,0,1] [1,2,4,5,7,11] [3,6,8,9,10,12]:=⟨by kernel_rfl,fun X=>by kernel_rfl⟩
theorem B6y:PQ 6 132 Bt [1,3,4,2,3,0] [1,2,4,5,7,10] [3,6,8,9,11,12]:=⟨by kernel_rfl,fun X=>by kernel_rfl⟩
theorem C7e:∀t∈[[1,2,4,3,0,1],[1,2,4,3,4,0],[1,2,4,5,3,0],[1,2,5,4,3,0],[1,3,2,0,1,2],[1,3,2,0,2,1],[1,3,2,3,0,1],[1,3,2,3,4,0],[1,3,2,4,3,0],[1,3,4,2,0,1],[1,3,4,2,3,0]],PT 6 132 Bt t:=(raM (raQ ck6 B6o) (raM (raQ ck6 B6p) (raM (raQ ck6 B6q) (raM (raQ ck6 B6r) (raM (raQ ck6 B6s) (raM (raQ ck6 B6t) (raM (raQ ck6 B6u) (raM (raQ ck6 B6v) (raM (raQ ck6 B6w) (raM (raQ ck6 B6x) (raM (raQ ck6 B6y) raN)))))))))))
theorem B6z:PQ 6 132 Bt [1,3,4,5,2,0] [1,2,4,5,7,9] [3,6,8,10,11,12]:=⟨by kernel_rfl,fun X=>by kernel_rfl⟩
theorem B7a:PQ 6 132 Bt [1,3,5,4,2,0] [1,2,4,5,7,8] [3,6,9,10,11,12]:=⟨by kernel_rfl,fun X=>by kernel_rfl⟩
theorem B7b:PQ 6 132 Bt [1,4,3,2,0,1] [1,2,4,5,6,11] [3,7,8,9,10,12]:=⟨by kernel_rfl,fun X=>by kernel_rfl⟩
theorem B7c:PQ 6 132 Bt [1,4,3,2,3,0] [1,2,4,5,6,10] [3,7,8,9,11,12]:=⟨by kernel_rfl,fun X=>by kernel_rfl⟩
theorem B7d:PQ 6 132 Bt [1,4,3,4,2,0] [1,2,4,5,6,9] [3,7,8,10,11,12]:=⟨by kernel_rfl,fun X=>by kernel_rfl⟩
theorem B7e:PQ 6 132 Bt [1,4,5,3,2,0] [1,2,4,5,6,8] [3,7,9,10,11,12]:=⟨by kernel_rfl,fun X=>by kernel_rfl⟩
theorem B7f:PQ 6 132 Bt [1,5,4,3,2,0] [1,2,4,5,6,7] [3,8,9,10,11,12]:=⟨by kernel_rfl,fun X=>by kernel_rfl⟩
theorem B7g:PQ 6 132 Bt [2,1,0,1,2,3] [1,2,3,7,9,11] [4,5,6,8,10,12]:=⟨by kernel_rfl,fun X=>by kernel_rfl⟩
theorem B7h:PQ 6 132 Bt [2,1,0,1,3,2] [1,2,3,7,9,10] [4,5,6,8,11,12]:=⟨by kernel_rfl,fun X=>by kernel_rfl⟩
theorem B7i:PQ 6 132 Bt [2,1,0,2,1,2] [1,2,3,7,8,11] [4,5,6,9,10,12]:=⟨by kernel_rfl,fun X=>by kernel_rfl⟩
theorem B7j:PQ 6 132 Bt [2,1,0,2,3,1] [1,2,3,7,8,10] [4,5,6,9,11,12]:=⟨by kernel_rfl,fun X=>by kernel_rfl⟩
theorem C7f:∀t∈[[1,3,4,5,2,0],[1,3,5,4,2,0],[1,4,3,2,0,1],[1,4,3,2,3,0],[1,4,3,4,2,0],[1,4,5,3,2,0],[1,5,4,3,2,0],[2,1,0,1,2,3],[2,1,0,1,3,2],[2,1,0,2,1,2],[2,1,0,2,3,1]],PT 6 132 Bt t:=(raM (raQ ck6 B6z) (raM (raQ ck6 B7a) (raM (raQ ck6 B7b) (raM (raQ ck6 B7c) (raM (raQ ck6 B7d) (raM (raQ ck6 B7e) (raM (raQ ck6 B7f) (raM (raQ ck6 B7g) (raM (raQ ck6 B7h) (raM (raQ ck6 B7i) (raM (raQ ck6 B7j) raN)))))))))))
end Go.Ev.YtbgodhhdojjbmaaGreatC
