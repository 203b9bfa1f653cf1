/- TopRackedSearch behind Grown, run at trees. TopRackedSearch behind Grown, run at trees. No condition but those that stand in each. -/
import Derived.Test.YtbgodhhdojjbmaaGreatARtLwR
set_option linter.unusedSimpArgs false
set_option linter.unusedVariables false
set_option maxRecDepth 100000
namespace Go.Ev.YtbgodhhdojjbmaaGreatC
open Go Go.Proofs
theorem C6i:PQ 6 132 Bt [0,1,2,3,4,5] [1,3,5,7,9,11] [2,4,6,8,10,12]:=⟨by kernel_rfl,fun X=>by kernel_rfl⟩
theorem C6j:PQ 6 132 Bt [0,1,2,3,5,4] [1,3,5,7,9,10] [2,4,6,8,11,12]:=⟨by kernel_rfl,fun X=>by kernel_rfl⟩
theorem C6k:PQ 6 132 Bt [0,1,2,4,3,4] [1,3,5,7,8,11] [2,4,6,9,10,12]:=⟨by kernel_rfl,fun X=>by kernel_rfl⟩
theorem C6l:PQ 6 132 Bt [0,1,2,4,5,3] [1,3,5,7,8,10] [2,4,6,9,11,12]:=⟨by kernel_rfl,fun X=>by kernel_rfl⟩
theorem C6m:PQ 6 132 Bt [0,1,2,5,4,3] [1,3,5,7,8,9] [2,4,6,10,11,12]:=⟨by kernel_rfl,fun X=>by kernel_rfl⟩
theorem C6n:PQ 6 132 Bt [0,1,3,2,3,4] [1,3,5,6,9,11] [2,4,7,8,10,12]:=⟨by kernel_rfl,fun X=>by kernel_rfl⟩
theorem C6o:PQ 6 132 Bt [0,1,3,2,4,3] [1,3,5,6,9,10] [2,4,7,8,11,12]:=⟨by kernel_rfl,fun X=>by kernel_rfl⟩
theorem C6p:PQ 6 132 Bt [0,1,3,4,2,3] [1,3,5,6,8,11] [2,4,7,9,10,12]:=⟨by kernel_rfl,fun X=>by kernel_rfl⟩
theorem C6q:PQ 6 132 Bt [0,1,3,4,5,2] [1,3,5,6,8,10] [2,4,7,9,11,12]:=⟨by kernel_rfl,fun X=>by kernel_rfl⟩
theorem C6r:PQ 6 132 Bt [0,1,3,5,4,2] [1,3,5,6,8,9] [2,4,7,10,11,12]:=⟨by kernel_rfl,fun X=>by kernel_rfl⟩
theorem B4k:PQ 6 132 Bt [0,1,4,3,2,3] [1,3,5,6,7,11] [2,4,8,9,10,12]:=⟨by kernel_rfl,fun X=>by kernel_rfl⟩
theorem C6y:∀t∈[[0,1,2,3,4,5],[0,1,2,3,5,4],[0,1,2,4,3,4],[0,1,2,4,5,3],[0,1,2,5,4,3],[0,1,3,2,3,4],[0,1,3,2,4,3],[0,1,3,4,2,3],[0,1,3,4,5,2],[0,1,3,5,4,2],[0,1,4,3,2,3]],PT 6 132 Bt t:=(raM (raQ ck6 C6i) (raM (raQ ck6 C6j) (raM (raQ ck6 C6k) (raM (raQ ck6 C6l) (raM (raQ ck6 C6m) (raM (raQ ck6 C6n) (raM (raQ ck6 C6o) (raM (raQ ck6 C6p) (raM (raQ ck6 C6q) (raM (raQ ck6 C6r) (raM (raQ ck6 B4k) raN)))))))))))
theorem B4l:PQ 6 132 Bt [0,1,4,3,4,2] [1,3,5,6,7,10] [2,4,8,9,11,12]:=⟨by kernel_rfl,fun X=>by kernel_rfl⟩
theorem B4m:PQ 6 132 Bt [0,1,4,5,3,2] [1,3,5,6,7,9] [2,4,8,10,11,12]:=⟨by kernel_rfl,fun X=>by kernel_rfl⟩
theorem B4n:PQ 6 132 Bt [0,1,5,4,3,2] [1,3,5,6,7,8] [2,4,9,10,11,12]:=⟨by kernel_rfl,fun X=>by kernel_rfl⟩
theorem B4o:PQ 6 132 Bt [0,2,1,2,3,4] [1,3,4,7,9,11] [2,5,6,8,10,12]:=⟨by kernel_rfl,fun X=>by kernel_rfl⟩
theorem B4p:PQ 6 132 Bt [0,2,1,2,4,3] [1,3,4,7,9,10] [2,5,6,8,11,12]:=⟨by kernel_rfl,fun X=>by kernel_rfl⟩
theorem B4q:PQ 6 132 Bt [0,2,1,3,2,3] [1,3,4,7,8,11] [2,5,6,9,10,12]:=⟨by kernel_rfl,fun X=>by kernel_rfl⟩
theorem B4r:PQ 6 132 Bt [0,2,1,3,4,2] [1,3,4,7,8,10] [2,5,6,9,11,12]:=⟨by kernel_rfl,fun X=>by kernel_rfl⟩
theorem B4s:PQ 6 132 Bt [0,2,1,4,3,2] [1,3,4,7,8,9] [2,5,6,10,11,12]:=⟨by kernel_rfl,fun X=>by kernel_rfl⟩
theorem B4t:PQ 6 132 Bt [0,2,3,1,2,3] [1,3,4,6,9,11] [2,5,7,8,10,12]:=⟨by kernel_rfl,fun X=>by kernel_rfl⟩
theorem B4u:PQ 6 132 Bt [0,2,3,1,3,2] [1,3,4,6,9,10] [2,5,7,8,11,12]:=⟨by kernel_rfl,fun X=>by kernel_rfl⟩
theorem B4v:PQ 6 132 Bt [0,2,3,4,1,2] [1,3,4,6,8,11] [2,5,7,9,10,12]:=⟨by kernel_rfl,fun X=>by kernel_rfl⟩
theorem C6z:∀t∈[[0,1,4,3,4,2],[0,1,4,5,3,2],[0,1,5,4,3,2],[0,2,1,2,3,4],[0,2,1,2,4,3],[0,2,1,3,2,3],[0,2,1,3,4,2],[0,2,1,4,3,2],[0,2,3,1,2,3],[0,2,3,1,3,2],[0,2,3,4,1,2]],PT 6 132 Bt t:=(raM (raQ ck6 B4l) (raM (raQ ck6 B4m) (raM (raQ ck6 B4n) (raM (raQ ck6 B4o) (raM (raQ ck6 B4p) (raM (raQ ck6 B4q) (raM (raQ ck6 B4r) (raM (raQ ck6 B4s) (raM (raQ ck6 B4t) (raM (raQ ck6 B4u) (raM (raQ ck6 B4v) raN)))))))))))
end Go.Ev.YtbgodhhdojjbmaaGreatC
