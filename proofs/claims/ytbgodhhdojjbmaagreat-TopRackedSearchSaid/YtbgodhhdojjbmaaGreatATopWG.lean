/- The works of a layer's examples, each call reckoned by the kernel, and joined. No condition but those that stand in each. -/
import Derived.Test.YtbgodhhdojjbmaaGreatATopW
import Derived.Test.YtbgodhhdojjbmaaGreatATopBax
set_option linter.unusedSimpArgs false
set_option linter.unusedVariables false
set_option maxRecDepth 100000
namespace Go.Ev.YtbgodhhdojjbmaaGreatC
open Go Go.Proofs
def Cbw:AnsY:=⟨146,[wI [4,1,6,3,9,0] false],(.slice (some 2) [.agg [wN 4,wN 1],.agg [wN 6,wN 3],.agg [wN 9,wN 0]] false),false⟩
theorem Ccd:YOk T 61 Cbw:=zC fN (by kernel_rfl)
def Cbx:AnsY:=⟨146,[wI [4,1,6,2] false],(.slice (some 2) [.agg [wN 4,wN 1],.agg [wN 6,wN 2]] false),false⟩
theorem Cce:YOk T 61 Cbx:=zC fN (by kernel_rfl)
def Cby:AnsY:=⟨146,[wI [4,1,6,2,3,0,5,4] false],(.slice (some 2) [.agg [wN 4,wN 1],.agg [wN 6,wN 2],.agg [wN 3,wN 0],.agg [wN 5,wN 4]] false),false⟩
theorem Ccf:YOk T 61 Cby:=zC fN (by kernel_rfl)
def Cbz:AnsY:=⟨146,[wI [2,0,2,1] false],(.slice (some 2) [.agg [wN 2,wN 0],.agg [wN 2,wN 1]] false),false⟩
theorem Ccg:YOk T 61 Cbz:=zC fN (by kernel_rfl)
def Cca:AnsY:=⟨147,[(.slice (some 2) [.agg [wN 4,wN 1],.agg [wN 6,wN 3],.agg [wN 9,wN 0]] false),wN 9],(.tuple [wI [0,1,2] false,wN 0]),false⟩
theorem Cci:YOk T 2061 Cca:=zC (fM Cch fN) (by kernel_rfl)
def Ccb:AnsY:=⟨218,[(.ptr [(.slice (some 2) [.agg [wN 4,wN 1],.agg [wN 6,wN 3],.agg [wN 9,wN 0]] false),(.fmap [] [])] 0)],(.tuple [wN 9,wN 36,(.bool true)]),false⟩
theorem Aog:YOk T 61 Ccb:=zC fN (by kernel_rfl)
def Ccc:AnsY:=⟨148,[(.slice (some 2) [.agg [wN 4,wN 1],.agg [wN 6,wN 3],.agg [wN 9,wN 0]] false)],(.tuple [wN 9,wN 36,wN 0]),false⟩
theorem Ccj:YOk T 2061 Ccc:=zC (fM B0o (fM Aog fN)) (by kernel_rfl)
def Buk:AnsY:=⟨148,[(.slice (some 2) [.agg [wN 4,wN 1],.agg [wN 6,wN 2]] false)],(.tuple [wN 0,wN 0,wN 21]),false⟩
theorem Bvj:YOk T 2061 Buk:=zC (fM B0p fN) (by kernel_rfl)
def Bul:AnsY:=⟨149,[(.slice (some 2) [.agg [wN 4,wN 1],.agg [wN 6,wN 3],.agg [wN 9,wN 0]] false),wN 10],(.tuple [wN 45,wN 0]),false⟩
theorem Bvl:YOk T 2061 Bul:=zC (fM Bvk (fM Aog fN)) (by kernel_rfl)
def Bum:AnsY:=⟨150,[(.slice (some 2) [.agg [wN 4,wN 1],.agg [wN 6,wN 3],.agg [wN 9,wN 0]] false),wN 0,wN 100],(.tuple [wN 3,wN 0]),false⟩
theorem Bvn:YOk T 2061 Bum:=zC (fM Bvm (fM Aog fN)) (by kernel_rfl)
def Bun:AnsY:=⟨150,[(.slice (some 2) [.agg [wN 4,wN 1],.agg [wN 6,wN 3],.agg [wN 9,wN 0]] false),wN 5,wN 4],(.tuple [wN 0,wN 2]),false⟩
theorem Bvp:YOk T 2061 Bun:=zC (fM Bvo fN) (by kernel_rfl)
def Buo:AnsY:=⟨151,[(.slice (some 2) [.agg [wN 4,wN 1],.agg [wN 6,wN 2]] false),wN 0,wN 1],(.tuple [wN 2,wN 0]),false⟩
theorem Bvq:YOk T 2061 Buo:=zC (fM B0p fN) (by kernel_rfl)
def Bup:AnsY:=⟨151,[(.slice (some 2) [.agg [wN 4,wN 1],.agg [wN 6,wN 3],.agg [wN 9,wN 0]] false),wN 0,wN 1],(.tuple [wN 0,wN 14]),false⟩
theorem Bvr:YOk T 2061 Bup:=zC (fM B0o fN) (by kernel_rfl)
def Buq:AnsY:=⟨327,[(.slice (some 2) [.agg [wN 4,wN 1],.agg [wN 6,wN 2]] false),(.clo 281 [] [])],(wN (-1)),false⟩
theorem Bvs:YOk T 61 Buq:=zC fN (by kernel_rfl)
def Bur:AnsY:=⟨152,[(.slice (some 2) [.agg [wN 4,wN 1],.agg [wN 6,wN 2]] false)],(.tuple [wN 0,wN 1,wN 0]),false⟩
theorem Bvt:YOk T 122 Bur:=zC (fM Bvs fN) (by kernel_rfl)
def Bus:AnsY:=⟨223,[(.ptr [(.slice (some 2) [.agg [wN 4,wN 1],.agg [wN 6,wN 2],.agg [wN 3,wN 0],.agg [wN 5,wN 4]] false),(.fmap [.agg [wN 0,wN 1],.agg [wN 1,wN 2]] [wN 2,wN 3])] 0),wI [] false,wN 0],wI [0,2,3] false,false⟩
theorem Bvu:YOk T 61 Bus:=zC fN (by kernel_rfl)
def But:AnsY:=⟨153,[(.slice (some 2) [.agg [wN 4,wN 1],.agg [wN 6,wN 2],.agg [wN 3,wN 0],.agg [wN 5,wN 4]] false)],(.tuple [wI [0,2,3] false,wN 0]),false⟩
theorem Bvv:YOk T 2061 But:=zC (fM Aqb (fM Bvu fN)) (by kernel_rfl)
def Buu:AnsY:=⟨155,[wI [0,1] false],wI [0,1] false,false⟩
theorem Bvw:YOk T 61 Buu:=zC fN (by kernel_rfl)
def Buv:AnsY:=⟨154,[(.slice (some 2) [.agg [wN 4,wN 1],.agg [wN 6,wN 2],.agg [wN 3,wN 0],.agg [wN 5,wN 4]] false),wI [0,1] false],wN 21,false⟩
theorem Bvx:YOk T 2061 Buv:=zC (fM Aqb fN) (by kernel_rfl)
def Buw:AnsY:=⟨156,[(.slice (some 2) [.agg [wN 4,wN 1],.agg [wN 6,wN 3],.agg [wN 9,wN 0]] false),wN 0],(.tuple [wN 2,wN 0]),false⟩
theorem Bvz:YOk T 2061 Buw:=zC (fM Bvy fN) (by kernel_rfl)
def Bux:AnsY:=⟨156,[(.slice (some 2) [.agg [wN 2,wN 0],.agg [wN 2,wN 1]] false),wN 0],(.tuple [wN 0,wN 21]),false⟩
theorem Bwb:YOk T 2061 Bux:=zC (fM Bwa fN) (by kernel_rfl)
def Buy:AnsY:=⟨327,[(.slice (some 2) [.agg [wN 4,wN 1],.agg [wN 6,wN 3],.agg [wN 9,wN 0]] false),(.clo 281 [] [])],(wN (-1)),false⟩
theorem Aqc:YOk T 61 Buy:=zC fN (by kernel_rfl)
def Buz:AnsY:=⟨218,[(.ptr [(.slice (some 2) [.agg [wN 4,wN 1],.agg [wN 6,wN 3]] false),(.fmap [] [])] 0)],(.tuple [wN 9,wN 12,(.bool true)]),false⟩
theorem Bwc:YOk T 61 Buz:=zC fN (by kernel_rfl)
def Bva:AnsY:=⟨157,[(.slice (some 2) [.agg [wN 4,wN 1],.agg [wN 6,wN 3],.agg [wN 9,wN 0]] false),wN 2],(.tuple [wI [0,3,6] false,wN 0]),false⟩
theorem Bwd:YOk T 122 Bva:=zC (fM Aqc (fM Bwc fN)) (by kernel_rfl)
def Bvb:AnsY:=⟨157,[(.slice (some 2) [.agg [wN 4,wN 1],.agg [wN 6,wN 3],.agg [wN 9,wN 0]] false),wN 3],(.tuple [wI [] false,wN 2]),false⟩
theorem Bwe:YOk T 122 Bvb:=zC (fM Aqc fN) (by kernel_rfl)
def Bvc:AnsY:=⟨155,[wI [0,1,2] false],wI [0,1,2] false,false⟩
theorem Bwf:YOk T 61 Bvc:=zC fN (by kernel_rfl)
def Bvd:AnsY:=⟨158,[wI [0,1,2] false,wI [0,1,2] false],(.bool true),false⟩
theorem Bwg:YOk T 61 Bvd:=zC fN (by kernel_rfl)
def Bve:AnsY:=⟨155,[wI [0,2,3] false],wI [0,2,3] false,false⟩
theorem Bwh:YOk T 61 Bve:=zC fN (by kernel_rfl)
def Bvf:AnsY:=⟨158,[wI [0,2,3] false,wI [0,2,3] false],(.bool true),false⟩
theorem Bwi:YOk T 61 Bvf:=zC fN (by kernel_rfl)
def Bvg:AnsY:=⟨160,[wI [0,3,6] false],wI [0,3,6] false,false⟩
theorem Bwj:YOk T 61 Bvg:=zC fN (by kernel_rfl)
def Bvh:AnsY:=⟨159,[wI [0,3,6] false,wI [0,3,6] false],(.bool true),false⟩
theorem Bwk:YOk T 61 Bvh:=zC fN (by kernel_rfl)
def Bvi:AnsY:=⟨103,[],(.bool true),false⟩
theorem Bwl:YOk T 2122 Bvi:=zC (fM Ccd (fM Cce (fM Ccf (fM Ccg (fM Cci (fM Ccj (fM Bvj (fM Bvl (fM Bvn (fM Bvp (fM Bvq (fM Bvr (fM Bvt (fM Bvv (fM Bvw (fM Bvx (fM Bvz (fM Bwb (fM Bwd (fM Bwe (fM Bwf (fM Bwg (fM Bwh (fM Bwi (fM Bwj (fM Bwk fN)))))))))))))))))))))))))) (by kernel_rfl)
theorem Avc:YOk T 2122 ⟨103,[],.bool true,false⟩:=Bwl
end Go.Ev.YtbgodhhdojjbmaaGreatC
