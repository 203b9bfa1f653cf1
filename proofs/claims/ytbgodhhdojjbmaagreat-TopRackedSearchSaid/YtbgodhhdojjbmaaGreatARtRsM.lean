/- TopRackedSearch behind Grown, run at trees. TopRackedSearch behind Grown, run at trees. No condition but those that stand in each. -/
import Derived.Test.YtbgodhhdojjbmaaGreatARtLwR
set_option linter.unusedSimpArgs false
set_option linter.unusedVariables false
set_option maxRecDepth 100000
namespace Go.Ev.YtbgodhhdojjbmaaGreatC
open Go Go.Proofs
theorem B7k:PQ 6 132 Bt [2,1,0,3,2,1] [1,2,3,7,8,9] [4,5,6,10,11,12]:=⟨by kernel_rfl,fun X=>by kernel_rfl⟩
theorem B7l:PQ 6 132 Bt [2,1,2,0,1,2] [1,2,3,6,9,11] [4,5,7,8,10,12]:=⟨by kernel_rfl,fun X=>by kernel_rfl⟩
theorem B7m:PQ 6 132 Bt [2,1,2,0,2,1] [1,2,3,6,9,10] [4,5,7,8,11,12]:=⟨by kernel_rfl,fun X=>by kernel_rfl⟩
theorem B7n:PQ 6 132 Bt [2,1,2,3,0,1] [1,2,3,6,8,11] [4,5,7,9,10,12]:=⟨by kernel_rfl,fun X=>by kernel_rfl⟩
theorem B7o:PQ 6 132 Bt [2,1,2,3,4,0] [1,2,3,6,8,10] [4,5,7,9,11,12]:=⟨by kernel_rfl,fun X=>by kernel_rfl⟩
theorem B7p:PQ 6 132 Bt [2,1,2,4,3,0] [1,2,3,6,8,9] [4,5,7,10,11,12]:=⟨by kernel_rfl,fun X=>by kernel_rfl⟩
theorem B7q:PQ 6 132 Bt [2,1,3,2,0,1] [1,2,3,6,7,11] [4,5,8,9,10,12]:=⟨by kernel_rfl,fun X=>by kernel_rfl⟩
theorem B7r:PQ 6 132 Bt [2,1,3,2,3,0] [1,2,3,6,7,10] [4,5,8,9,11,12]:=⟨by kernel_rfl,fun X=>by kernel_rfl⟩
theorem B7s:PQ 6 132 Bt [2,1,3,4,2,0] [1,2,3,6,7,9] [4,5,8,10,11,12]:=⟨by kernel_rfl,fun X=>by kernel_rfl⟩
theorem B7t:PQ 6 132 Bt [2,1,4,3,2,0] [1,2,3,6,7,8] [4,5,9,10,11,12]:=⟨by kernel_rfl,fun X=>by kernel_rfl⟩
theorem B7u:PQ 6 132 Bt [2,3,1,0,1,2] [1,2,3,5,9,11] [4,6,7,8,10,12]:=⟨by kernel_rfl,fun X=>by kernel_rfl⟩
theorem C7g:∀t∈[[2,1,0,3,2,1],[2,1,2,0,1,2],[2,1,2,0,2,1],[2,1,2,3,0,1],[2,1,2,3,4,0],[2,1,2,4,3,0],[2,1,3,2,0,1],[2,1,3,2,3,0],[2,1,3,4,2,0],[2,1,4,3,2,0],[2,3,1,0,1,2]],PT 6 132 Bt t:=(raM (raQ ck6 B7k) (raM (raQ ck6 B7l) (raM (raQ ck6 B7m) (raM (raQ ck6 B7n) (raM (raQ ck6 B7o) (raM (raQ ck6 B7p) (raM (raQ ck6 B7q) (raM (raQ ck6 B7r) (raM (raQ ck6 B7s) (raM (raQ ck6 B7t) (raM (raQ ck6 B7u) raN)))))))))))
theorem B7v:PQ 6 132 Bt [2,3,1,0,2,1] [1,2,3,5,9,10] [4,6,7,8,11,12]:=⟨by kernel_rfl,fun X=>by kernel_rfl⟩
theorem Ayi:PQ 6 132 Bt [2,3,1,2,0,1] [1,2,3,5,8,11] [4,6,7,9,10,12]:=⟨by kernel_rfl,fun X=>by kernel_rfl⟩
theorem Ayj:PQ 6 132 Bt [2,3,1,2,3,0] [1,2,3,5,8,10] [4,6,7,9,11,12]:=⟨by kernel_rfl,fun X=>by kernel_rfl⟩
theorem Ayk:PQ 6 132 Bt [2,3,1,3,2,0] [1,2,3,5,8,9] [4,6,7,10,11,12]:=⟨by kernel_rfl,fun X=>by kernel_rfl⟩
theorem Ayl:PQ 6 132 Bt [2,3,4,1,0,1] [1,2,3,5,7,11] [4,6,8,9,10,12]:=⟨by kernel_rfl,fun X=>by kernel_rfl⟩
theorem Aym:PQ 6 132 Bt [2,3,4,1,2,0] [1,2,3,5,7,10] [4,6,8,9,11,12]:=⟨by kernel_rfl,fun X=>by kernel_rfl⟩
theorem Ayn:PQ 6 132 Bt [2,3,4,5,1,0] [1,2,3,5,7,9] [4,6,8,10,11,12]:=⟨by kernel_rfl,fun X=>by kernel_rfl⟩
theorem Ayo:PQ 6 132 Bt [2,3,5,4,1,0] [1,2,3,5,7,8] [4,6,9,10,11,12]:=⟨by kernel_rfl,fun X=>by kernel_rfl⟩
theorem Ayp:PQ 6 132 Bt [2,4,3,1,0,1] [1,2,3,5,6,11] [4,7,8,9,10,12]:=⟨by kernel_rfl,fun X=>by kernel_rfl⟩
theorem Ayq:PQ 6 132 Bt [2,4,3,1,2,0] [1,2,3,5,6,10] [4,7,8,9,11,12]:=⟨by kernel_rfl,fun X=>by kernel_rfl⟩
theorem Ayr:PQ 6 132 Bt [2,4,3,4,1,0] [1,2,3,5,6,9] [4,7,8,10,11,12]:=⟨by kernel_rfl,fun X=>by kernel_rfl⟩
theorem C7h:∀t∈[[2,3,1,0,2,1],[2,3,1,2,0,1],[2,3,1,2,3,0],[2,3,1,3,2,0],[2,3,4,1,0,1],[2,3,4,1,2,0],[2,3,4,5,1,0],[2,3,5,4,1,0],[2,4,3,1,0,1],[2,4,3,1,2,0],[2,4,3,4,1,0]],PT 6 132 Bt t:=(raM (raQ ck6 B7v) (raM (raQ ck6 Ayi) (raM (raQ ck6 Ayj) (raM (raQ ck6 Ayk) (raM (raQ ck6 Ayl) (raM (raQ ck6 Aym) (raM (raQ ck6 Ayn) (raM (raQ ck6 Ayo) (raM (raQ ck6 Ayp) (raM (raQ ck6 Ayq) (raM (raQ ck6 Ayr) raN)))))))))))
end Go.Ev.YtbgodhhdojjbmaaGreatC
