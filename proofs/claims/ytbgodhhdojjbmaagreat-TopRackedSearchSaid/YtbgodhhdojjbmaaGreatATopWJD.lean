/- Entries of the works' calls that are proved by walks. No condition but those that stand in each. -/
import Derived.Test.YtbgodhhdojjbmaaGreatATopW
set_option linter.unusedSimpArgs false
set_option linter.unusedVariables false
set_option maxRecDepth 100000
namespace Go.Ev.YtbgodhhdojjbmaaGreatC
open Go Go.Proofs
def Bzr:AnsY:=⟨117,[wI [4,2,6,3] false],(.tuple [(.ptr [wI [4,2,6,3] false,(.fmap [.agg [wN 0,wN 1],.agg [wN 1,wN 2],.agg [wN 2,wN 3],.agg [wN 3,wN 4],.agg [wN 0,wN 2],.agg [wN 1,wN 3],.agg [wN 2,wN 4],.agg [wN 0,wN 3],.agg [wN 1,wN 4],.agg [wN 0,wN 4]] [wN 4,wN 2,wN 6,wN 3,wN 8,wN 10,wN 12,wN 20,wN 16,wN 26])] 0),wN 0]),false⟩
def C0d:AnsY:=⟨117,[wI [1,1] false],(.tuple [(.ptr [wI [1,1] false,(.fmap [.agg [wN 0,wN 1],.agg [wN 1,wN 2],.agg [wN 0,wN 2]] [wN 1,wN 1,wN 3])] 0),wN 0]),false⟩
def C0h:AnsY:=⟨73,[wI [4,2,6,3] false,(.slice none [wI [4,8,20,20] false,wI [2,10,16] false,wI [6,12] false,wI [3] false] false)],(.tuple [wN 20,wN 0]),false⟩
def C0j:AnsY:=⟨73,[wI [4,2,6,3] false,(.slice none [wI [4,8,20,27] false,wI [2,10,16] false,wI [6,12] false,wI [3] false] false)],(.tuple [wN 0,wN 14]),false⟩
end Go.Ev.YtbgodhhdojjbmaaGreatC
