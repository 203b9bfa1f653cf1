/- The works of a layer's examples, each call reckoned by the kernel, and joined. No condition but those that stand in each. -/
import Derived.Test.YtgehhippjhealaaGreatDTopW
import Derived.Test.YtgehhippjhealaaGreatDTopKex
set_option linter.unusedSimpArgs false
set_option linter.unusedVariables false
set_option maxRecDepth 100000
namespace Go.Ev.YtgehhippjhealaaGreatC
open Go Go.Proofs
def Btv:AnsY:=⟨147,[],(.slice (some 3) [.agg [wN 2,wN 3,wN 4],.agg [wN 1,wN 2,wN 3],.agg [wN 4,wN 4,wN 7],.agg [wN 3,wN 5,wN 8]] false),false⟩
theorem Bxd:YOk T 61 Btv:=zC fN (by kernel_rfl)
def Bwp:AnsY:=⟨113,[.agg [wN 2,wN 3,wN 4]],(.bool false),false⟩
theorem A9i:YOk T 61 Bwp:=zC fN (by kernel_rfl)
def Bub:AnsY:=⟨113,[.agg [wN 1,wN 2,wN 3]],(.bool false),false⟩
theorem Acw:YOk T 61 Bub:=zC fN (by kernel_rfl)
def Bss:AnsY:=⟨113,[.agg [wN 4,wN 4,wN 7]],(.bool false),false⟩
theorem Aac:YOk T 61 Bss:=zC fN (by kernel_rfl)
def Buz:AnsY:=⟨113,[.agg [wN 3,wN 5,wN 8]],(.bool false),false⟩
theorem Abm:YOk T 61 Buz:=zC fN (by kernel_rfl)
def Bvl:AnsY:=⟨53,[(.agg [(.slice (some 3) [.agg [wN 2,wN 3,wN 4],.agg [wN 1,wN 2,wN 3],.agg [wN 4,wN 4,wN 7],.agg [wN 3,wN 5,wN 8]] false)])],wI [1,0,2,3] false,false⟩
theorem A2i:YOk T 61 Bvl:=zC fN (by kernel_rfl)
def Bvk:AnsY:=⟨18,[(.slice (some 3) [.agg [wN 2,wN 3,wN 4],.agg [wN 1,wN 2,wN 3],.agg [wN 4,wN 4,wN 7],.agg [wN 3,wN 5,wN 8]] false)],(.tuple [wI [1,0,2,3] false,wN 0]),false⟩
theorem Buv:YOk T 122 Bvk:=zC (fM A9i (fM Acw (fM Aac (fM Abm (fM A2i fN))))) (by kernel_rfl)
def Bsq:AnsY:=⟨148,[wI [1,0,2,3] false],wI [1,0,2,3] false,false⟩
theorem Bwh:YOk T 61 Bsq:=zC fN (by kernel_rfl)
def Bwy:AnsY:=⟨149,[wI [3,2,4,5] false],wI [3,2,4,5] false,false⟩
theorem Bth:YOk T 61 Bwy:=zC fN (by kernel_rfl)
def Bul:AnsY:=⟨120,[(.slice (some 3) [.agg [wN 2,wN 3,wN 4],.agg [wN 1,wN 2,wN 3],.agg [wN 4,wN 4,wN 7],.agg [wN 3,wN 5,wN 8]] false),wI [1,0,2,3] false],wN 0,false⟩
theorem Aqe:YOk T 122 Bul:=zC (fM A9i (fM Acw (fM Aac (fM Abm fN)))) (by kernel_rfl)
def Bft:AnsY:=⟨60,[(.slice (some 3) [.agg [wN 2,wN 3,wN 4],.agg [wN 1,wN 2,wN 3],.agg [wN 4,wN 4,wN 7],.agg [wN 3,wN 5,wN 8]] false),wI [1,0,2,3] false,wI [3,2,4,5] false],(.tuple [wI [5,2,9,14] false,wN 0]),false⟩
theorem Bmj:YOk T 183 Bft:=zC (fM Aqe fN) (by kernel_rfl)
def B5h:AnsY:=⟨149,[wI [4,1,4,3] false],wI [4,1,4,3] false,false⟩
theorem B4c:YOk T 61 B5h:=zC fN (by kernel_rfl)
def B5m:AnsY:=⟨60,[(.slice (some 3) [.agg [wN 2,wN 3,wN 4],.agg [wN 1,wN 2,wN 3],.agg [wN 4,wN 4,wN 7],.agg [wN 3,wN 5,wN 8]] false),wI [1,0,2,3] false,wI [4,1,4,3] false],(.tuple [wI [] false,wN 3]),false⟩
theorem Bit:YOk T 183 B5m:=zC (fM Aqe fN) (by kernel_rfl)
def B8n:AnsY:=⟨148,[wI [0,1,2,3] false],wI [0,1,2,3] false,false⟩
theorem B4p:YOk T 61 B8n:=zC fN (by kernel_rfl)
def Bpr:AnsY:=⟨120,[(.slice (some 3) [.agg [wN 2,wN 3,wN 4],.agg [wN 1,wN 2,wN 3],.agg [wN 4,wN 4,wN 7],.agg [wN 3,wN 5,wN 8]] false),wI [0,1,2,3] false],wN 0,false⟩
theorem Bpo:YOk T 122 Bpr:=zC (fM A9i (fM Acw (fM Aac (fM Abm fN)))) (by kernel_rfl)
def Bmm:AnsY:=⟨22,[(.slice (some 3) [.agg [wN 2,wN 3,wN 4],.agg [wN 1,wN 2,wN 3],.agg [wN 4,wN 4,wN 7],.agg [wN 3,wN 5,wN 8]] false),wI [0,1,2,3] false,wI [3,2,4,5] false],(.tuple [wN 6,wN 0]),false⟩
theorem Bak:YOk T 183 Bmm:=zC (fM Bpo fN) (by kernel_rfl)
def Bgj:AnsY:=⟨150,[(.slice (some 3) [.agg [wN 2,wN 3,wN 4],.agg [wN 1,wN 2,wN 3],.agg [wN 4,wN 4,wN 7],.agg [wN 3,wN 5,wN 8]] false),wI [1,0,2,3] false],(.tuple [wI [1,2,1,0] false,wN 0]),false⟩
theorem Bng:YOk T 183 Bgj:=zC (fM Aqe fN) (by kernel_rfl)
def B4b:AnsY:=⟨122,[(.slice (some 3) [.agg [wN 2,wN 3,wN 4],.agg [wN 1,wN 2,wN 3],.agg [wN 4,wN 4,wN 7],.agg [wN 3,wN 5,wN 8]] false),wN 0],(.tuple [(.ptr [(.slice (some 3) [.agg [wN 2,wN 3,wN 4],.agg [wN 1,wN 2,wN 3],.agg [wN 4,wN 4,wN 7],.agg [wN 3,wN 5,wN 8]] false),wI [2,1,4,3] false] 0),wN 0]),false⟩
theorem A0l:YOk T 122 B4b:=zC (fM A9i (fM Acw (fM Aac (fM Abm fN)))) (by kernel_rfl)
def Bhh:AnsY:=⟨23,[(.slice (some 3) [.agg [wN 2,wN 3,wN 4],.agg [wN 1,wN 2,wN 3],.agg [wN 4,wN 4,wN 7],.agg [wN 3,wN 5,wN 8]] false),wN 0],(.tuple [wN 2,wN 0]),false⟩
theorem Bei:YOk T 183 Bhh:=zC (fM A0l (fM A2i fN)) (by kernel_rfl)
def Bgi:AnsY:=⟨122,[(.slice (some 3) [.agg [wN 2,wN 3,wN 4],.agg [wN 1,wN 2,wN 3],.agg [wN 4,wN 4,wN 7],.agg [wN 3,wN 5,wN 8]] false),wN 1],(.tuple [(.ptr [(.slice (some 3) [.agg [wN 2,wN 3,wN 4],.agg [wN 1,wN 2,wN 3],.agg [wN 4,wN 4,wN 7],.agg [wN 3,wN 5,wN 8]] false),wI [3,2,4,5] false] 0),wN 0]),false⟩
theorem A8w:YOk T 122 Bgi:=zC (fM A9i (fM Acw (fM Aac (fM Abm fN)))) (by kernel_rfl)
def B4s:AnsY:=⟨23,[(.slice (some 3) [.agg [wN 2,wN 3,wN 4],.agg [wN 1,wN 2,wN 3],.agg [wN 4,wN 4,wN 7],.agg [wN 3,wN 5,wN 8]] false),wN 1],(.tuple [wN 6,wN 0]),false⟩
theorem Bas:YOk T 183 B4s:=zC (fM A8w (fM A2i fN)) (by kernel_rfl)
def Bmh:AnsY:=⟨151,[(.slice (some 3) [.agg [wN 2,wN 3,wN 4],.agg [wN 1,wN 2,wN 3],.agg [wN 4,wN 4,wN 7],.agg [wN 3,wN 5,wN 8]] false),wN 1],(.tuple [wN 8,wN 0]),false⟩
theorem Bhy:YOk T 183 Bmh:=zC (fM A8w (fM A2i fN)) (by kernel_rfl)
def Bnc:AnsY:=⟨152,[(.slice (some 3) [.agg [wN 2,wN 3,wN 4],.agg [wN 1,wN 2,wN 3],.agg [wN 4,wN 4,wN 7],.agg [wN 3,wN 5,wN 8]] false),wN 0,wN 7],(.tuple [wN 0,wN 0]),false⟩
theorem B6y:YOk T 183 Bnc:=zC (fM A0l fN) (by kernel_rfl)
def Bfn:AnsY:=⟨152,[(.slice (some 3) [.agg [wN 2,wN 3,wN 4],.agg [wN 1,wN 2,wN 3],.agg [wN 4,wN 4,wN 7],.agg [wN 3,wN 5,wN 8]] false),wN 0,wN 2],(.tuple [wN 0,wN 5]),false⟩
theorem Bls:YOk T 183 Bfn:=zC (fM A0l fN) (by kernel_rfl)
def Ble:AnsY:=⟨153,[(.slice (some 3) [.agg [wN 2,wN 3,wN 4],.agg [wN 1,wN 2,wN 3],.agg [wN 4,wN 4,wN 7],.agg [wN 3,wN 5,wN 8]] false),wN 0],(.tuple [wI [0,1,3] false,wN 0]),false⟩
theorem Bac:YOk T 2061 Ble:=zC (fM A0l (fM Bjo fN)) (by kernel_rfl)
def Bcy:AnsY:=⟨153,[(.slice (some 3) [.agg [wN 2,wN 3,wN 4],.agg [wN 1,wN 2,wN 3],.agg [wN 4,wN 4,wN 7],.agg [wN 3,wN 5,wN 8]] false),wN 1],(.tuple [wI [1,2] false,wN 0]),false⟩
theorem Boq:YOk T 2061 Bcy:=zC (fM A8w (fM B7r fN)) (by kernel_rfl)
def B4x:AnsY:=⟨154,[(.slice (some 3) [.agg [wN 2,wN 3,wN 4],.agg [wN 1,wN 2,wN 3],.agg [wN 4,wN 4,wN 7],.agg [wN 3,wN 5,wN 8]] false),wN 1],(.tuple [wN 2,wN 0]),false⟩
theorem B4e:YOk T 183 B4x:=zC (fM A8w (fM A2i fN)) (by kernel_rfl)
def B5c:AnsY:=⟨148,[wI [0,2,3] false],wI [0,2,3] false,false⟩
theorem Bpe:YOk T 61 B5c:=zC fN (by kernel_rfl)
def Bhz:AnsY:=⟨155,[(.slice (some 3) [.agg [wN 2,wN 3,wN 4],.agg [wN 1,wN 2,wN 3],.agg [wN 4,wN 4,wN 7],.agg [wN 3,wN 5,wN 8]] false),wN 0,wI [0,2,3] false],wN 12,false⟩
theorem Bkh:YOk T 183 Bhz:=zC (fM A0l (fM A2i fN)) (by kernel_rfl)
def Bfv:AnsY:=⟨156,[(.slice (some 3) [.agg [wN 2,wN 3,wN 4],.agg [wN 1,wN 2,wN 3],.agg [wN 4,wN 4,wN 7],.agg [wN 3,wN 5,wN 8]] false),wN 0,wN 1],(.tuple [wN 2,wN 0]),false⟩
theorem B8b:YOk T 183 Bfv:=zC (fM A0l (fM A2i fN)) (by kernel_rfl)
def Bdz:AnsY:=⟨157,[wI [1,0,2,3] false,wI [1,0,2,3] false],(.bool true),false⟩
theorem Bgw:YOk T 61 Bdz:=zC fN (by kernel_rfl)
def B7c:AnsY:=⟨149,[wI [5,2,9,14] false],wI [5,2,9,14] false,false⟩
theorem Ber:YOk T 61 B7c:=zC fN (by kernel_rfl)
def Bjp:AnsY:=⟨158,[wI [5,2,9,14] false,wI [5,2,9,14] false],(.bool true),false⟩
theorem Blt:YOk T 61 Bjp:=zC fN (by kernel_rfl)
def Bds:AnsY:=⟨148,[wI [1,2,1,0] false],wI [1,2,1,0] false,false⟩
theorem B7q:YOk T 61 Bds:=zC fN (by kernel_rfl)
def Bne:AnsY:=⟨157,[wI [1,2,1,0] false,wI [1,2,1,0] false],(.bool true),false⟩
theorem Bdc:YOk T 61 Bne:=zC fN (by kernel_rfl)
def B9u:AnsY:=⟨148,[wI [0,1,3] false],wI [0,1,3] false,false⟩
theorem Brp:YOk T 61 B9u:=zC fN (by kernel_rfl)
def Bhu:AnsY:=⟨157,[wI [0,1,3] false,wI [0,1,3] false],(.bool true),false⟩
theorem Bcm:YOk T 61 Bhu:=zC fN (by kernel_rfl)
def Bni:AnsY:=⟨148,[wI [1,2] false],wI [1,2] false,false⟩
theorem Bgq:YOk T 61 Bni:=zC fN (by kernel_rfl)
def Bdw:AnsY:=⟨157,[wI [1,2] false,wI [1,2] false],(.bool true),false⟩
theorem Bhv:YOk T 61 Bdw:=zC fN (by kernel_rfl)
def Bfj:AnsY:=⟨74,[],(.bool true),false⟩
theorem B8a:YOk T 2122 Bfj:=zC (fM Bxd (fM Buv (fM Bwh (fM Bth (fM Bmj (fM B4c (fM Bit (fM B4p (fM Bak (fM Bng (fM Bei (fM Bas (fM Bhy (fM B6y (fM Bls (fM Bac (fM Boq (fM B4e (fM Bpe (fM Bkh (fM B8b (fM Bgw (fM Ber (fM Blt (fM B7q (fM Bdc (fM Brp (fM Bcm (fM Bgq (fM Bhv fN)))))))))))))))))))))))))))))) (by kernel_rfl)
theorem Axo:YOk T 2122 ⟨74,[],.bool true,false⟩:=B8a
end Go.Ev.YtgehhippjhealaaGreatC
