/- The works of a layer's examples, each call reckoned by the kernel, and joined. No condition but those that stand in each. -/
import Derived.Test.YtofpilpmiddpgaaGreatITopW
import Derived.Test.YtofpilpmiddpgaaGreatITopKex
set_option linter.unusedSimpArgs false
set_option linter.unusedVariables false
set_option maxRecDepth 100000
namespace Go.Ev.YtofpilpmiddpgaaGreatC
open Go Go.Proofs
def Bql:AnsY:=⟨149,[],(.slice (some 3) [.agg [wN 2,wN 3,wN 4],.agg [wN 1,wN 2,wN 3],.agg [wN 4,wN 4,wN 7],.agg [wN 3,wN 5,wN 8]] false),false⟩
theorem Bqv:YOk T 61 Bql:=zC fN (by kernel_rfl)
def Bqm:AnsY:=⟨308,[.agg [wN 2,wN 3,wN 4]],(.bool false),false⟩
theorem A6f:YOk T 61 Bqm:=zC fN (by kernel_rfl)
def Bqn:AnsY:=⟨308,[.agg [wN 1,wN 2,wN 3]],(.bool false),false⟩
theorem A6g:YOk T 61 Bqn:=zC fN (by kernel_rfl)
def Bqo:AnsY:=⟨308,[.agg [wN 4,wN 4,wN 7]],(.bool false),false⟩
theorem A6h:YOk T 61 Bqo:=zC fN (by kernel_rfl)
def Bqp:AnsY:=⟨308,[.agg [wN 3,wN 5,wN 8]],(.bool false),false⟩
theorem A6i:YOk T 61 Bqp:=zC fN (by kernel_rfl)
def Bqq:AnsY:=⟨219,[(.agg [(.slice (some 3) [.agg [wN 2,wN 3,wN 4],.agg [wN 1,wN 2,wN 3],.agg [wN 4,wN 4,wN 7],.agg [wN 3,wN 5,wN 8]] false)])],wI [1,0,2,3] false,false⟩
theorem Yc:YOk T 61 Bqq:=zC fN (by kernel_rfl)
def Bqr:AnsY:=⟨150,[(.slice (some 3) [.agg [wN 2,wN 3,wN 4],.agg [wN 1,wN 2,wN 3],.agg [wN 4,wN 4,wN 7],.agg [wN 3,wN 5,wN 8]] false)],(.tuple [wI [1,0,2,3] false,wN 0]),false⟩
theorem Bqw:YOk T 122 Bqr:=zC (fM A6f (fM A6g (fM A6h (fM A6i (fM Yc fN))))) (by kernel_rfl)
def Bqs:AnsY:=⟨152,[wI [1,0,2,3] false],wI [1,0,2,3] false,false⟩
theorem Bqx:YOk T 61 Bqs:=zC fN (by kernel_rfl)
def Bqt:AnsY:=⟨153,[wI [3,2,4,5] false],wI [3,2,4,5] false,false⟩
theorem Bqy:YOk T 61 Bqt:=zC fN (by kernel_rfl)
def Bqu:AnsY:=⟨220,[(.slice (some 3) [.agg [wN 2,wN 3,wN 4],.agg [wN 1,wN 2,wN 3],.agg [wN 4,wN 4,wN 7],.agg [wN 3,wN 5,wN 8]] false),wI [1,0,2,3] false],wN 0,false⟩
theorem Ajp:YOk T 122 Bqu:=zC (fM A6f (fM A6g (fM A6h (fM A6i fN)))) (by kernel_rfl)
def Bbo:AnsY:=⟨151,[(.slice (some 3) [.agg [wN 2,wN 3,wN 4],.agg [wN 1,wN 2,wN 3],.agg [wN 4,wN 4,wN 7],.agg [wN 3,wN 5,wN 8]] false),wI [1,0,2,3] false,wI [3,2,4,5] false],(.tuple [wI [5,2,9,14] false,wN 0]),false⟩
theorem Bcs:YOk T 183 Bbo:=zC (fM Ajp fN) (by kernel_rfl)
def Bbp:AnsY:=⟨153,[wI [4,1,4,3] false],wI [4,1,4,3] false,false⟩
theorem Bct:YOk T 61 Bbp:=zC fN (by kernel_rfl)
def Bbq:AnsY:=⟨151,[(.slice (some 3) [.agg [wN 2,wN 3,wN 4],.agg [wN 1,wN 2,wN 3],.agg [wN 4,wN 4,wN 7],.agg [wN 3,wN 5,wN 8]] false),wI [1,0,2,3] false,wI [4,1,4,3] false],(.tuple [wI [] false,wN 3]),false⟩
theorem Bcu:YOk T 183 Bbq:=zC (fM Ajp fN) (by kernel_rfl)
def Bbr:AnsY:=⟨152,[wI [0,1,2,3] false],wI [0,1,2,3] false,false⟩
theorem Bcv:YOk T 61 Bbr:=zC fN (by kernel_rfl)
def Bbs:AnsY:=⟨220,[(.slice (some 3) [.agg [wN 2,wN 3,wN 4],.agg [wN 1,wN 2,wN 3],.agg [wN 4,wN 4,wN 7],.agg [wN 3,wN 5,wN 8]] false),wI [0,1,2,3] false],wN 0,false⟩
theorem Bcw:YOk T 122 Bbs:=zC (fM A6f (fM A6g (fM A6h (fM A6i fN)))) (by kernel_rfl)
def Bbt:AnsY:=⟨154,[(.slice (some 3) [.agg [wN 2,wN 3,wN 4],.agg [wN 1,wN 2,wN 3],.agg [wN 4,wN 4,wN 7],.agg [wN 3,wN 5,wN 8]] false),wI [0,1,2,3] false,wI [3,2,4,5] false],(.tuple [wN 6,wN 0]),false⟩
theorem Bcx:YOk T 183 Bbt:=zC (fM Bcw fN) (by kernel_rfl)
def Bbu:AnsY:=⟨155,[(.slice (some 3) [.agg [wN 2,wN 3,wN 4],.agg [wN 1,wN 2,wN 3],.agg [wN 4,wN 4,wN 7],.agg [wN 3,wN 5,wN 8]] false),wI [1,0,2,3] false],(.tuple [wI [1,2,1,0] false,wN 0]),false⟩
theorem Bcy:YOk T 183 Bbu:=zC (fM Ajp fN) (by kernel_rfl)
def Bbv:AnsY:=⟨226,[(.slice (some 3) [.agg [wN 2,wN 3,wN 4],.agg [wN 1,wN 2,wN 3],.agg [wN 4,wN 4,wN 7],.agg [wN 3,wN 5,wN 8]] false),wN 0],(.tuple [(.ptr [(.slice (some 3) [.agg [wN 2,wN 3,wN 4],.agg [wN 1,wN 2,wN 3],.agg [wN 4,wN 4,wN 7],.agg [wN 3,wN 5,wN 8]] false),wI [2,1,4,3] false] 0),wN 0]),false⟩
theorem Wf:YOk T 122 Bbv:=zC (fM A6f (fM A6g (fM A6h (fM A6i fN)))) (by kernel_rfl)
def Bbw:AnsY:=⟨156,[(.slice (some 3) [.agg [wN 2,wN 3,wN 4],.agg [wN 1,wN 2,wN 3],.agg [wN 4,wN 4,wN 7],.agg [wN 3,wN 5,wN 8]] false),wN 0],(.tuple [wN 2,wN 0]),false⟩
theorem Bcz:YOk T 183 Bbw:=zC (fM Wf (fM Yc fN)) (by kernel_rfl)
def Bbx:AnsY:=⟨226,[(.slice (some 3) [.agg [wN 2,wN 3,wN 4],.agg [wN 1,wN 2,wN 3],.agg [wN 4,wN 4,wN 7],.agg [wN 3,wN 5,wN 8]] false),wN 1],(.tuple [(.ptr [(.slice (some 3) [.agg [wN 2,wN 3,wN 4],.agg [wN 1,wN 2,wN 3],.agg [wN 4,wN 4,wN 7],.agg [wN 3,wN 5,wN 8]] false),wI [3,2,4,5] false] 0),wN 0]),false⟩
theorem A3c:YOk T 122 Bbx:=zC (fM A6f (fM A6g (fM A6h (fM A6i fN)))) (by kernel_rfl)
def Bby:AnsY:=⟨156,[(.slice (some 3) [.agg [wN 2,wN 3,wN 4],.agg [wN 1,wN 2,wN 3],.agg [wN 4,wN 4,wN 7],.agg [wN 3,wN 5,wN 8]] false),wN 1],(.tuple [wN 6,wN 0]),false⟩
theorem Bda:YOk T 183 Bby:=zC (fM A3c (fM Yc fN)) (by kernel_rfl)
def Bbz:AnsY:=⟨157,[(.slice (some 3) [.agg [wN 2,wN 3,wN 4],.agg [wN 1,wN 2,wN 3],.agg [wN 4,wN 4,wN 7],.agg [wN 3,wN 5,wN 8]] false),wN 1],(.tuple [wN 8,wN 0]),false⟩
theorem Bdb:YOk T 183 Bbz:=zC (fM A3c (fM Yc fN)) (by kernel_rfl)
def Bca:AnsY:=⟨158,[(.slice (some 3) [.agg [wN 2,wN 3,wN 4],.agg [wN 1,wN 2,wN 3],.agg [wN 4,wN 4,wN 7],.agg [wN 3,wN 5,wN 8]] false),wN 0,wN 7],(.tuple [wN 0,wN 0]),false⟩
theorem Bdc:YOk T 183 Bca:=zC (fM Wf fN) (by kernel_rfl)
def Bcb:AnsY:=⟨158,[(.slice (some 3) [.agg [wN 2,wN 3,wN 4],.agg [wN 1,wN 2,wN 3],.agg [wN 4,wN 4,wN 7],.agg [wN 3,wN 5,wN 8]] false),wN 0,wN 2],(.tuple [wN 0,wN 5]),false⟩
theorem Bdd:YOk T 183 Bcb:=zC (fM Wf fN) (by kernel_rfl)
def Bcc:AnsY:=⟨159,[(.slice (some 3) [.agg [wN 2,wN 3,wN 4],.agg [wN 1,wN 2,wN 3],.agg [wN 4,wN 4,wN 7],.agg [wN 3,wN 5,wN 8]] false),wN 0],(.tuple [wI [0,1,3] false,wN 0]),false⟩
theorem Bdf:YOk T 2061 Bcc:=zC (fM Wf (fM Bde fN)) (by kernel_rfl)
def Bcd:AnsY:=⟨159,[(.slice (some 3) [.agg [wN 2,wN 3,wN 4],.agg [wN 1,wN 2,wN 3],.agg [wN 4,wN 4,wN 7],.agg [wN 3,wN 5,wN 8]] false),wN 1],(.tuple [wI [1,2] false,wN 0]),false⟩
theorem Bdh:YOk T 2061 Bcd:=zC (fM A3c (fM Bdg fN)) (by kernel_rfl)
def Bce:AnsY:=⟨160,[(.slice (some 3) [.agg [wN 2,wN 3,wN 4],.agg [wN 1,wN 2,wN 3],.agg [wN 4,wN 4,wN 7],.agg [wN 3,wN 5,wN 8]] false),wN 1],(.tuple [wN 2,wN 0]),false⟩
theorem Bdi:YOk T 183 Bce:=zC (fM A3c (fM Yc fN)) (by kernel_rfl)
def Bcf:AnsY:=⟨152,[wI [0,2,3] false],wI [0,2,3] false,false⟩
theorem Bdj:YOk T 61 Bcf:=zC fN (by kernel_rfl)
def Bcg:AnsY:=⟨161,[(.slice (some 3) [.agg [wN 2,wN 3,wN 4],.agg [wN 1,wN 2,wN 3],.agg [wN 4,wN 4,wN 7],.agg [wN 3,wN 5,wN 8]] false),wN 0,wI [0,2,3] false],wN 12,false⟩
theorem Bdk:YOk T 183 Bcg:=zC (fM Wf (fM Yc fN)) (by kernel_rfl)
def Bch:AnsY:=⟨162,[(.slice (some 3) [.agg [wN 2,wN 3,wN 4],.agg [wN 1,wN 2,wN 3],.agg [wN 4,wN 4,wN 7],.agg [wN 3,wN 5,wN 8]] false),wN 0,wN 1],(.tuple [wN 2,wN 0]),false⟩
theorem Bdl:YOk T 183 Bch:=zC (fM Wf (fM Yc fN)) (by kernel_rfl)
def Bci:AnsY:=⟨163,[wI [1,0,2,3] false,wI [1,0,2,3] false],(.bool true),false⟩
theorem Bdm:YOk T 61 Bci:=zC fN (by kernel_rfl)
def Bcj:AnsY:=⟨153,[wI [5,2,9,14] false],wI [5,2,9,14] false,false⟩
theorem Bdn:YOk T 61 Bcj:=zC fN (by kernel_rfl)
def Bck:AnsY:=⟨164,[wI [5,2,9,14] false,wI [5,2,9,14] false],(.bool true),false⟩
theorem Bdo:YOk T 61 Bck:=zC fN (by kernel_rfl)
def Bcl:AnsY:=⟨152,[wI [1,2,1,0] false],wI [1,2,1,0] false,false⟩
theorem Bdp:YOk T 61 Bcl:=zC fN (by kernel_rfl)
def Bcm:AnsY:=⟨163,[wI [1,2,1,0] false,wI [1,2,1,0] false],(.bool true),false⟩
theorem Bdq:YOk T 61 Bcm:=zC fN (by kernel_rfl)
def Bcn:AnsY:=⟨152,[wI [0,1,3] false],wI [0,1,3] false,false⟩
theorem Bdr:YOk T 61 Bcn:=zC fN (by kernel_rfl)
def Bco:AnsY:=⟨163,[wI [0,1,3] false,wI [0,1,3] false],(.bool true),false⟩
theorem Bds:YOk T 61 Bco:=zC fN (by kernel_rfl)
def Bcp:AnsY:=⟨152,[wI [1,2] false],wI [1,2] false,false⟩
theorem Bdt:YOk T 61 Bcp:=zC fN (by kernel_rfl)
def Bcq:AnsY:=⟨163,[wI [1,2] false,wI [1,2] false],(.bool true),false⟩
theorem Bdu:YOk T 61 Bcq:=zC fN (by kernel_rfl)
def Bcr:AnsY:=⟨104,[],(.bool true),false⟩
theorem Bdv:YOk T 2122 Bcr:=zC (fM Bqv (fM Bqw (fM Bqx (fM Bqy (fM Bcs (fM Bct (fM Bcu (fM Bcv (fM Bcx (fM Bcy (fM Bcz (fM Bda (fM Bdb (fM Bdc (fM Bdd (fM Bdf (fM Bdh (fM Bdi (fM Bdj (fM Bdk (fM Bdl (fM Bdm (fM Bdn (fM Bdo (fM Bdp (fM Bdq (fM Bdr (fM Bds (fM Bdt (fM Bdu fN)))))))))))))))))))))))))))))) (by kernel_rfl)
theorem Apq:YOk T 2122 ⟨104,[],.bool true,false⟩:=Bdv
end Go.Ev.YtofpilpmiddpgaaGreatC
