/- TopRackedSearch behind Grown, run at trees. No condition but those that stand in each. -/
import Derived.Test.YtbgodhhdojjbmaaGreatARtLwR
set_option linter.unusedSimpArgs false
set_option linter.unusedVariables false
set_option maxRecDepth 100000
namespace Go.Ev.YtbgodhhdojjbmaaGreatC
open Go Go.Proofs
theorem C5g:PQ 1 1 Oq [0] [1] [2]:=⟨by kernel_rfl,fun X=>by kernel_rfl⟩
theorem C5h:PQ 2 2 Ot [0,1] [1,3] [2,4]:=⟨by kernel_rfl,fun X=>by kernel_rfl⟩
theorem C5i:PQ 2 2 Ot [1,0] [1,2] [3,4]:=⟨by kernel_rfl,fun X=>by kernel_rfl⟩
theorem C5j:PQ 3 5 Lz [0,1,2] [1,3,5] [2,4,6]:=⟨by kernel_rfl,fun X=>by kernel_rfl⟩
theorem C5k:PQ 3 5 Lz [0,2,1] [1,3,4] [2,5,6]:=⟨by kernel_rfl,fun X=>by kernel_rfl⟩
theorem C5l:PQ 3 5 Lz [1,0,1] [1,2,5] [3,4,6]:=⟨by kernel_rfl,fun X=>by kernel_rfl⟩
theorem C5m:PQ 3 5 Lz [1,2,0] [1,2,4] [3,5,6]:=⟨by kernel_rfl,fun X=>by kernel_rfl⟩
theorem C5n:PQ 3 5 Lz [2,1,0] [1,2,3] [4,5,6]:=⟨by kernel_rfl,fun X=>by kernel_rfl⟩
theorem C5o:PQ 4 14 Hq [0,1,2,3] [1,3,5,7] [2,4,6,8]:=⟨by kernel_rfl,fun X=>by kernel_rfl⟩
theorem C5p:PQ 4 14 Hq [0,1,3,2] [1,3,5,6] [2,4,7,8]:=⟨by kernel_rfl,fun X=>by kernel_rfl⟩
theorem C5q:PQ 4 14 Hq [0,2,1,2] [1,3,4,7] [2,5,6,8]:=⟨by kernel_rfl,fun X=>by kernel_rfl⟩
theorem C5r:PQ 4 14 Hq [0,2,3,1] [1,3,4,6] [2,5,7,8]:=⟨by kernel_rfl,fun X=>by kernel_rfl⟩
theorem C5s:PQ 4 14 Hq [0,3,2,1] [1,3,4,5] [2,6,7,8]:=⟨by kernel_rfl,fun X=>by kernel_rfl⟩
theorem C5t:PQ 4 14 Hq [1,0,1,2] [1,2,5,7] [3,4,6,8]:=⟨by kernel_rfl,fun X=>by kernel_rfl⟩
theorem C5u:PQ 4 14 Hq [1,0,2,1] [1,2,5,6] [3,4,7,8]:=⟨by kernel_rfl,fun X=>by kernel_rfl⟩
theorem C5v:PQ 4 14 Hq [1,2,0,1] [1,2,4,7] [3,5,6,8]:=⟨by kernel_rfl,fun X=>by kernel_rfl⟩
theorem C5w:PQ 4 14 Hq [1,2,3,0] [1,2,4,6] [3,5,7,8]:=⟨by kernel_rfl,fun X=>by kernel_rfl⟩
theorem C5x:PQ 4 14 Hq [1,3,2,0] [1,2,4,5] [3,6,7,8]:=⟨by kernel_rfl,fun X=>by kernel_rfl⟩
theorem B3a:PQ 4 14 Hq [2,1,0,1] [1,2,3,7] [4,5,6,8]:=⟨by kernel_rfl,fun X=>by kernel_rfl⟩
theorem B3b:PQ 4 14 Hq [2,1,2,0] [1,2,3,6] [4,5,7,8]:=⟨by kernel_rfl,fun X=>by kernel_rfl⟩
theorem B3c:PQ 4 14 Hq [2,3,1,0] [1,2,3,5] [4,6,7,8]:=⟨by kernel_rfl,fun X=>by kernel_rfl⟩
theorem B3d:PQ 4 14 Hq [3,2,1,0] [1,2,3,4] [5,6,7,8]:=⟨by kernel_rfl,fun X=>by kernel_rfl⟩
theorem C6s:∀t∈[[0]],PT 1 1 Oq t:=(raM (raQ ck1 C5g) raN)
theorem C6t:∀t∈[[0,1],[1,0]],PT 2 2 Ot t:=(raM (raQ ck2 C5h) (raM (raQ ck2 C5i) raN))
theorem C6u:∀t∈[[0,1,2],[0,2,1],[1,0,1],[1,2,0],[2,1,0]],PT 3 5 Lz t:=(raM (raQ ck3 C5j) (raM (raQ ck3 C5k) (raM (raQ ck3 C5l) (raM (raQ ck3 C5m) (raM (raQ ck3 C5n) raN)))))
theorem C6v:∀t∈[[0,1,2,3],[0,1,3,2],[0,2,1,2],[0,2,3,1],[0,3,2,1],[1,0,1,2],[1,0,2,1],[1,2,0,1],[1,2,3,0],[1,3,2,0],[2,1,0,1],[2,1,2,0],[2,3,1,0],[3,2,1,0]],PT 4 14 Hq t:=(raM (raQ ck4 C5o) (raM (raQ ck4 C5p) (raM (raQ ck4 C5q) (raM (raQ ck4 C5r) (raM (raQ ck4 C5s) (raM (raQ ck4 C5t) (raM (raQ ck4 C5u) (raM (raQ ck4 C5v) (raM (raQ ck4 C5w) (raM (raQ ck4 C5x) (raM (raQ ck4 B3a) (raM (raQ ck4 B3b) (raM (raQ ck4 B3c) (raM (raQ ck4 B3d) raN))))))))))))))
end Go.Ev.YtbgodhhdojjbmaaGreatC
