/- The works of a layer's examples, each call reckoned by the kernel, and joined. No condition but those that stand in each. -/
import Derived.Test.YtbgodhhdojjbmaaGreatPTopW
import Derived.Test.YtbgodhhdojjbmaaGreatPTopBax
set_option linter.unusedSimpArgs false
set_option linter.unusedVariables false
set_option maxRecDepth 100000
namespace Go.Ev.YtbgodhhdojjbmaaGreatC
open Go Go.Proofs
def C0c:AnsY:=⟨146,[wI [4,1,6,3,9,0] false],(.slice (some 2) [.agg [wN 4,wN 1],.agg [wN 6,wN 3],.agg [wN 9,wN 0]] false),false⟩
theorem C0j:YOk T 61 C0c:=zC fN (by kernel_rfl)
def C0d:AnsY:=⟨146,[wI [4,1,6,2] false],(.slice (some 2) [.agg [wN 4,wN 1],.agg [wN 6,wN 2]] false),false⟩
theorem C0k:YOk T 61 C0d:=zC fN (by kernel_rfl)
def C0e:AnsY:=⟨146,[wI [4,1,6,2,3,0,5,4] false],(.slice (some 2) [.agg [wN 4,wN 1],.agg [wN 6,wN 2],.agg [wN 3,wN 0],.agg [wN 5,wN 4]] false),false⟩
theorem C0l:YOk T 61 C0e:=zC fN (by kernel_rfl)
def C0f:AnsY:=⟨146,[wI [2,0,2,1] false],(.slice (some 2) [.agg [wN 2,wN 0],.agg [wN 2,wN 1]] false),false⟩
theorem C0m:YOk T 61 C0f:=zC fN (by kernel_rfl)
def C0g:AnsY:=⟨147,[(.slice (some 2) [.agg [wN 4,wN 1],.agg [wN 6,wN 3],.agg [wN 9,wN 0]] false),wN 9],(.tuple [wI [0,1,2] false,wN 0]),false⟩
theorem C0o:YOk T 2061 C0g:=zC (fM C0n fN) (by kernel_rfl)
def C0h:AnsY:=⟨218,[(.ptr [(.slice (some 2) [.agg [wN 4,wN 1],.agg [wN 6,wN 3],.agg [wN 9,wN 0]] false),(.fmap [] [])] 0)],(.tuple [wN 9,wN 36,(.bool true)]),false⟩
theorem Ama:YOk T 61 C0h:=zC fN (by kernel_rfl)
def C0i:AnsY:=⟨148,[(.slice (some 2) [.agg [wN 4,wN 1],.agg [wN 6,wN 3],.agg [wN 9,wN 0]] false)],(.tuple [wN 9,wN 36,wN 0]),false⟩
theorem C0p:YOk T 2061 C0i:=zC (fM Awi (fM Ama fN)) (by kernel_rfl)
def Ble:AnsY:=⟨148,[(.slice (some 2) [.agg [wN 4,wN 1],.agg [wN 6,wN 2]] false)],(.tuple [wN 0,wN 0,wN 21]),false⟩
theorem Bmd:YOk T 2061 Ble:=zC (fM Awj fN) (by kernel_rfl)
def Blf:AnsY:=⟨149,[(.slice (some 2) [.agg [wN 4,wN 1],.agg [wN 6,wN 3],.agg [wN 9,wN 0]] false),wN 10],(.tuple [wN 45,wN 0]),false⟩
theorem Bmf:YOk T 2061 Blf:=zC (fM Bme (fM Ama fN)) (by kernel_rfl)
def Blg:AnsY:=⟨150,[(.slice (some 2) [.agg [wN 4,wN 1],.agg [wN 6,wN 3],.agg [wN 9,wN 0]] false),wN 0,wN 100],(.tuple [wN 3,wN 0]),false⟩
theorem Bmh:YOk T 2061 Blg:=zC (fM Bmg (fM Ama fN)) (by kernel_rfl)
def Blh:AnsY:=⟨150,[(.slice (some 2) [.agg [wN 4,wN 1],.agg [wN 6,wN 3],.agg [wN 9,wN 0]] false),wN 5,wN 4],(.tuple [wN 0,wN 2]),false⟩
theorem Bmj:YOk T 2061 Blh:=zC (fM Bmi fN) (by kernel_rfl)
def Bli:AnsY:=⟨151,[(.slice (some 2) [.agg [wN 4,wN 1],.agg [wN 6,wN 2]] false),wN 0,wN 1],(.tuple [wN 2,wN 0]),false⟩
theorem Bmk:YOk T 2061 Bli:=zC (fM Awj fN) (by kernel_rfl)
def Blj:AnsY:=⟨151,[(.slice (some 2) [.agg [wN 4,wN 1],.agg [wN 6,wN 3],.agg [wN 9,wN 0]] false),wN 0,wN 1],(.tuple [wN 0,wN 14]),false⟩
theorem Bml:YOk T 2061 Blj:=zC (fM Awi fN) (by kernel_rfl)
def Blk:AnsY:=⟨327,[(.slice (some 2) [.agg [wN 4,wN 1],.agg [wN 6,wN 2]] false),(.clo 281 [] [])],(wN (-1)),false⟩
theorem Bmm:YOk T 61 Blk:=zC fN (by kernel_rfl)
def Bll:AnsY:=⟨152,[(.slice (some 2) [.agg [wN 4,wN 1],.agg [wN 6,wN 2]] false)],(.tuple [wN 0,wN 1,wN 0]),false⟩
theorem Bmn:YOk T 122 Bll:=zC (fM Bmm fN) (by kernel_rfl)
def Blm:AnsY:=⟨223,[(.ptr [(.slice (some 2) [.agg [wN 4,wN 1],.agg [wN 6,wN 2],.agg [wN 3,wN 0],.agg [wN 5,wN 4]] false),(.fmap [.agg [wN 0,wN 1],.agg [wN 1,wN 2]] [wN 2,wN 3])] 0),wI [] false,wN 0],wI [0,2,3] false,false⟩
theorem Bmo:YOk T 61 Blm:=zC fN (by kernel_rfl)
def Bln:AnsY:=⟨153,[(.slice (some 2) [.agg [wN 4,wN 1],.agg [wN 6,wN 2],.agg [wN 3,wN 0],.agg [wN 5,wN 4]] false)],(.tuple [wI [0,2,3] false,wN 0]),false⟩
theorem Bmp:YOk T 2061 Bln:=zC (fM Anz (fM Bmo fN)) (by kernel_rfl)
def Blo:AnsY:=⟨155,[wI [0,1] false],wI [0,1] false,false⟩
theorem Bmq:YOk T 61 Blo:=zC fN (by kernel_rfl)
def Blp:AnsY:=⟨154,[(.slice (some 2) [.agg [wN 4,wN 1],.agg [wN 6,wN 2],.agg [wN 3,wN 0],.agg [wN 5,wN 4]] false),wI [0,1] false],wN 21,false⟩
theorem Bmr:YOk T 2061 Blp:=zC (fM Anz fN) (by kernel_rfl)
def Blq:AnsY:=⟨156,[(.slice (some 2) [.agg [wN 4,wN 1],.agg [wN 6,wN 3],.agg [wN 9,wN 0]] false),wN 0],(.tuple [wN 2,wN 0]),false⟩
theorem Bmt:YOk T 2061 Blq:=zC (fM Bms fN) (by kernel_rfl)
def Blr:AnsY:=⟨156,[(.slice (some 2) [.agg [wN 2,wN 0],.agg [wN 2,wN 1]] false),wN 0],(.tuple [wN 0,wN 21]),false⟩
theorem Bmv:YOk T 2061 Blr:=zC (fM Bmu fN) (by kernel_rfl)
def Bls:AnsY:=⟨327,[(.slice (some 2) [.agg [wN 4,wN 1],.agg [wN 6,wN 3],.agg [wN 9,wN 0]] false),(.clo 281 [] [])],(wN (-1)),false⟩
theorem Aoa:YOk T 61 Bls:=zC fN (by kernel_rfl)
def Blt:AnsY:=⟨218,[(.ptr [(.slice (some 2) [.agg [wN 4,wN 1],.agg [wN 6,wN 3]] false),(.fmap [] [])] 0)],(.tuple [wN 9,wN 12,(.bool true)]),false⟩
theorem Bmw:YOk T 61 Blt:=zC fN (by kernel_rfl)
def Blu:AnsY:=⟨157,[(.slice (some 2) [.agg [wN 4,wN 1],.agg [wN 6,wN 3],.agg [wN 9,wN 0]] false),wN 2],(.tuple [wI [0,3,6] false,wN 0]),false⟩
theorem Bmx:YOk T 122 Blu:=zC (fM Aoa (fM Bmw fN)) (by kernel_rfl)
def Blv:AnsY:=⟨157,[(.slice (some 2) [.agg [wN 4,wN 1],.agg [wN 6,wN 3],.agg [wN 9,wN 0]] false),wN 3],(.tuple [wI [] false,wN 2]),false⟩
theorem Bmy:YOk T 122 Blv:=zC (fM Aoa fN) (by kernel_rfl)
def Blw:AnsY:=⟨155,[wI [0,1,2] false],wI [0,1,2] false,false⟩
theorem Bmz:YOk T 61 Blw:=zC fN (by kernel_rfl)
def Blx:AnsY:=⟨158,[wI [0,1,2] false,wI [0,1,2] false],(.bool true),false⟩
theorem Bna:YOk T 61 Blx:=zC fN (by kernel_rfl)
def Bly:AnsY:=⟨155,[wI [0,2,3] false],wI [0,2,3] false,false⟩
theorem Bnb:YOk T 61 Bly:=zC fN (by kernel_rfl)
def Blz:AnsY:=⟨158,[wI [0,2,3] false,wI [0,2,3] false],(.bool true),false⟩
theorem Bnc:YOk T 61 Blz:=zC fN (by kernel_rfl)
def Bma:AnsY:=⟨160,[wI [0,3,6] false],wI [0,3,6] false,false⟩
theorem Bne:YOk T 61 Bma:=zC fN (by kernel_rfl)
def Bmb:AnsY:=⟨159,[wI [0,3,6] false,wI [0,3,6] false],(.bool true),false⟩
theorem Bnf:YOk T 61 Bmb:=zC fN (by kernel_rfl)
def Bmc:AnsY:=⟨103,[],(.bool true),false⟩
theorem Bng:YOk T 2122 Bmc:=zC (fM C0j (fM C0k (fM C0l (fM C0m (fM C0o (fM C0p (fM Bmd (fM Bmf (fM Bmh (fM Bmj (fM Bmk (fM Bml (fM Bmn (fM Bmp (fM Bmq (fM Bmr (fM Bmt (fM Bmv (fM Bmx (fM Bmy (fM Bmz (fM Bna (fM Bnb (fM Bnc (fM Bne (fM Bnf fN)))))))))))))))))))))))))) (by kernel_rfl)
theorem Asn:YOk T 2122 ⟨103,[],.bool true,false⟩:=Bng
end Go.Ev.YtbgodhhdojjbmaaGreatC
