/- TopRackedSearch behind Grown, run at trees. TopRackedSearch behind Grown, run at trees. No condition but those that stand in each. -/
import Derived.Test.YtbgodhhdojjbmaaGreatARtLwR
set_option linter.unusedSimpArgs false
set_option linter.unusedVariables false
set_option maxRecDepth 100000
namespace Go.Ev.YtbgodhhdojjbmaaGreatC
open Go Go.Proofs
theorem Ays:PQ 6 132 Bt [2,4,5,3,1,0] [1,2,3,5,6,8] [4,7,9,10,11,12]:=⟨by kernel_rfl,fun X=>by kernel_rfl⟩
theorem Ayt:PQ 6 132 Bt [2,5,4,3,1,0] [1,2,3,5,6,7] [4,8,9,10,11,12]:=⟨by kernel_rfl,fun X=>by kernel_rfl⟩
theorem Ayu:PQ 6 132 Bt [3,2,1,0,1,2] [1,2,3,4,9,11] [5,6,7,8,10,12]:=⟨by kernel_rfl,fun X=>by kernel_rfl⟩
theorem Ayv:PQ 6 132 Bt [3,2,1,0,2,1] [1,2,3,4,9,10] [5,6,7,8,11,12]:=⟨by kernel_rfl,fun X=>by kernel_rfl⟩
theorem Ayw:PQ 6 132 Bt [3,2,1,2,0,1] [1,2,3,4,8,11] [5,6,7,9,10,12]:=⟨by kernel_rfl,fun X=>by kernel_rfl⟩
theorem Ayx:PQ 6 132 Bt [3,2,1,2,3,0] [1,2,3,4,8,10] [5,6,7,9,11,12]:=⟨by kernel_rfl,fun X=>by kernel_rfl⟩
theorem Ayy:PQ 6 132 Bt [3,2,1,3,2,0] [1,2,3,4,8,9] [5,6,7,10,11,12]:=⟨by kernel_rfl,fun X=>by kernel_rfl⟩
theorem Ayz:PQ 6 132 Bt [3,2,3,1,0,1] [1,2,3,4,7,11] [5,6,8,9,10,12]:=⟨by kernel_rfl,fun X=>by kernel_rfl⟩
theorem Aza:PQ 6 132 Bt [3,2,3,1,2,0] [1,2,3,4,7,10] [5,6,8,9,11,12]:=⟨by kernel_rfl,fun X=>by kernel_rfl⟩
theorem Azb:PQ 6 132 Bt [3,2,3,4,1,0] [1,2,3,4,7,9] [5,6,8,10,11,12]:=⟨by kernel_rfl,fun X=>by kernel_rfl⟩
theorem Azc:PQ 6 132 Bt [3,2,4,3,1,0] [1,2,3,4,7,8] [5,6,9,10,11,12]:=⟨by kernel_rfl,fun X=>by kernel_rfl⟩
theorem C7i:∀t∈[[2,4,5,3,1,0],[2,5,4,3,1,0],[3,2,1,0,1,2],[3,2,1,0,2,1],[3,2,1,2,0,1],[3,2,1,2,3,0],[3,2,1,3,2,0],[3,2,3,1,0,1],[3,2,3,1,2,0],[3,2,3,4,1,0],[3,2,4,3,1,0]],PT 6 132 Bt t:=(raM (raQ ck6 Ays) (raM (raQ ck6 Ayt) (raM (raQ ck6 Ayu) (raM (raQ ck6 Ayv) (raM (raQ ck6 Ayw) (raM (raQ ck6 Ayx) (raM (raQ ck6 Ayy) (raM (raQ ck6 Ayz) (raM (raQ ck6 Aza) (raM (raQ ck6 Azb) (raM (raQ ck6 Azc) raN)))))))))))
theorem Azd:PQ 6 132 Bt [3,4,2,1,0,1] [1,2,3,4,6,11] [5,7,8,9,10,12]:=⟨by kernel_rfl,fun X=>by kernel_rfl⟩
theorem Aze:PQ 6 132 Bt [3,4,2,1,2,0] [1,2,3,4,6,10] [5,7,8,9,11,12]:=⟨by kernel_rfl,fun X=>by kernel_rfl⟩
theorem Azf:PQ 6 132 Bt [3,4,2,3,1,0] [1,2,3,4,6,9] [5,7,8,10,11,12]:=⟨by kernel_rfl,fun X=>by kernel_rfl⟩
theorem Azg:PQ 6 132 Bt [3,4,5,2,1,0] [1,2,3,4,6,8] [5,7,9,10,11,12]:=⟨by kernel_rfl,fun X=>by kernel_rfl⟩
theorem Azh:PQ 6 132 Bt [3,5,4,2,1,0] [1,2,3,4,6,7] [5,8,9,10,11,12]:=⟨by kernel_rfl,fun X=>by kernel_rfl⟩
theorem Azi:PQ 6 132 Bt [4,3,2,1,0,1] [1,2,3,4,5,11] [6,7,8,9,10,12]:=⟨by kernel_rfl,fun X=>by kernel_rfl⟩
theorem Azj:PQ 6 132 Bt [4,3,2,1,2,0] [1,2,3,4,5,10] [6,7,8,9,11,12]:=⟨by kernel_rfl,fun X=>by kernel_rfl⟩
theorem Azk:PQ 6 132 Bt [4,3,2,3,1,0] [1,2,3,4,5,9] [6,7,8,10,11,12]:=⟨by kernel_rfl,fun X=>by kernel_rfl⟩
theorem Azl:PQ 6 132 Bt [4,3,4,2,1,0] [1,2,3,4,5,8] [6,7,9,10,11,12]:=⟨by kernel_rfl,fun X=>by kernel_rfl⟩
theorem Azm:PQ 6 132 Bt [4,5,3,2,1,0] [1,2,3,4,5,7] [6,8,9,10,11,12]:=⟨by kernel_rfl,fun X=>by kernel_rfl⟩
theorem Azn:PQ 6 132 Bt [5,4,3,2,1,0] [1,2,3,4,5,6] [7,8,9,10,11,12]:=⟨by kernel_rfl,fun X=>by kernel_rfl⟩
theorem C7j:∀t∈[[3,4,2,1,0,1],[3,4,2,1,2,0],[3,4,2,3,1,0],[3,4,5,2,1,0],[3,5,4,2,1,0],[4,3,2,1,0,1],[4,3,2,1,2,0],[4,3,2,3,1,0],[4,3,4,2,1,0],[4,5,3,2,1,0],[5,4,3,2,1,0]],PT 6 132 Bt t:=(raM (raQ ck6 Azd) (raM (raQ ck6 Aze) (raM (raQ ck6 Azf) (raM (raQ ck6 Azg) (raM (raQ ck6 Azh) (raM (raQ ck6 Azi) (raM (raQ ck6 Azj) (raM (raQ ck6 Azk) (raM (raQ ck6 Azl) (raM (raQ ck6 Azm) (raM (raQ ck6 Azn) raN)))))))))))
end Go.Ev.YtbgodhhdojjbmaaGreatC
