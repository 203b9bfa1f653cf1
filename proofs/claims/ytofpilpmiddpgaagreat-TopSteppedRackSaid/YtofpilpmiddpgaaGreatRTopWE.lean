/- The works of a layer's examples, each call reckoned by the kernel, and joined. No condition but those that stand in each. -/
import Derived.Test.YtofpilpmiddpgaaGreatRTopW
import Derived.Test.YtofpilpmiddpgaaGreatRTopKex
set_option linter.unusedSimpArgs false
set_option linter.unusedVariables false
set_option maxRecDepth 100000
namespace Go.Ev.YtofpilpmiddpgaaGreatC
open Go Go.Proofs
def Bpi:AnsY:=⟨149,[],(.slice (some 3) [.agg [wN 2,wN 3,wN 4],.agg [wN 1,wN 2,wN 3],.agg [wN 4,wN 4,wN 7],.agg [wN 3,wN 5,wN 8]] false),false⟩
theorem Bps:YOk T 61 Bpi:=zC fN (by kernel_rfl)
def Bpj:AnsY:=⟨308,[.agg [wN 2,wN 3,wN 4]],(.bool false),false⟩
theorem A6b:YOk T 61 Bpj:=zC fN (by kernel_rfl)
def Bpk:AnsY:=⟨308,[.agg [wN 1,wN 2,wN 3]],(.bool false),false⟩
theorem A6c:YOk T 61 Bpk:=zC fN (by kernel_rfl)
def Bpl:AnsY:=⟨308,[.agg [wN 4,wN 4,wN 7]],(.bool false),false⟩
theorem A6d:YOk T 61 Bpl:=zC fN (by kernel_rfl)
def Bpm:AnsY:=⟨308,[.agg [wN 3,wN 5,wN 8]],(.bool false),false⟩
theorem A6e:YOk T 61 Bpm:=zC fN (by kernel_rfl)
def Bpn:AnsY:=⟨219,[(.agg [(.slice (some 3) [.agg [wN 2,wN 3,wN 4],.agg [wN 1,wN 2,wN 3],.agg [wN 4,wN 4,wN 7],.agg [wN 3,wN 5,wN 8]] false)])],wI [1,0,2,3] false,false⟩
theorem Xw:YOk T 61 Bpn:=zC fN (by kernel_rfl)
def Bpo:AnsY:=⟨150,[(.slice (some 3) [.agg [wN 2,wN 3,wN 4],.agg [wN 1,wN 2,wN 3],.agg [wN 4,wN 4,wN 7],.agg [wN 3,wN 5,wN 8]] false)],(.tuple [wI [1,0,2,3] false,wN 0]),false⟩
theorem Bpt:YOk T 122 Bpo:=zC (fM A6b (fM A6c (fM A6d (fM A6e (fM Xw fN))))) (by kernel_rfl)
def Bpp:AnsY:=⟨152,[wI [1,0,2,3] false],wI [1,0,2,3] false,false⟩
theorem Bpu:YOk T 61 Bpp:=zC fN (by kernel_rfl)
def Bpq:AnsY:=⟨153,[wI [3,2,4,5] false],wI [3,2,4,5] false,false⟩
theorem Bpv:YOk T 61 Bpq:=zC fN (by kernel_rfl)
def Bpr:AnsY:=⟨220,[(.slice (some 3) [.agg [wN 2,wN 3,wN 4],.agg [wN 1,wN 2,wN 3],.agg [wN 4,wN 4,wN 7],.agg [wN 3,wN 5,wN 8]] false),wI [1,0,2,3] false],wN 0,false⟩
theorem Aiw:YOk T 122 Bpr:=zC (fM A6b (fM A6c (fM A6d (fM A6e fN)))) (by kernel_rfl)
def Baj:AnsY:=⟨151,[(.slice (some 3) [.agg [wN 2,wN 3,wN 4],.agg [wN 1,wN 2,wN 3],.agg [wN 4,wN 4,wN 7],.agg [wN 3,wN 5,wN 8]] false),wI [1,0,2,3] false,wI [3,2,4,5] false],(.tuple [wI [5,2,9,14] false,wN 0]),false⟩
theorem Bbo:YOk T 183 Baj:=zC (fM Aiw fN) (by kernel_rfl)
def Bak:AnsY:=⟨153,[wI [4,1,4,3] false],wI [4,1,4,3] false,false⟩
theorem Bbp:YOk T 61 Bak:=zC fN (by kernel_rfl)
def Bal:AnsY:=⟨151,[(.slice (some 3) [.agg [wN 2,wN 3,wN 4],.agg [wN 1,wN 2,wN 3],.agg [wN 4,wN 4,wN 7],.agg [wN 3,wN 5,wN 8]] false),wI [1,0,2,3] false,wI [4,1,4,3] false],(.tuple [wI [] false,wN 3]),false⟩
theorem Bbq:YOk T 183 Bal:=zC (fM Aiw fN) (by kernel_rfl)
def Bam:AnsY:=⟨152,[wI [0,1,2,3] false],wI [0,1,2,3] false,false⟩
theorem Bbr:YOk T 61 Bam:=zC fN (by kernel_rfl)
def Ban:AnsY:=⟨220,[(.slice (some 3) [.agg [wN 2,wN 3,wN 4],.agg [wN 1,wN 2,wN 3],.agg [wN 4,wN 4,wN 7],.agg [wN 3,wN 5,wN 8]] false),wI [0,1,2,3] false],wN 0,false⟩
theorem Bbs:YOk T 122 Ban:=zC (fM A6b (fM A6c (fM A6d (fM A6e fN)))) (by kernel_rfl)
def Bao:AnsY:=⟨154,[(.slice (some 3) [.agg [wN 2,wN 3,wN 4],.agg [wN 1,wN 2,wN 3],.agg [wN 4,wN 4,wN 7],.agg [wN 3,wN 5,wN 8]] false),wI [0,1,2,3] false,wI [3,2,4,5] false],(.tuple [wN 6,wN 0]),false⟩
theorem Bbt:YOk T 183 Bao:=zC (fM Bbs fN) (by kernel_rfl)
def Bap:AnsY:=⟨155,[(.slice (some 3) [.agg [wN 2,wN 3,wN 4],.agg [wN 1,wN 2,wN 3],.agg [wN 4,wN 4,wN 7],.agg [wN 3,wN 5,wN 8]] false),wI [1,0,2,3] false],(.tuple [wI [1,2,1,0] false,wN 0]),false⟩
theorem Bbu:YOk T 183 Bap:=zC (fM Aiw fN) (by kernel_rfl)
def Baq:AnsY:=⟨226,[(.slice (some 3) [.agg [wN 2,wN 3,wN 4],.agg [wN 1,wN 2,wN 3],.agg [wN 4,wN 4,wN 7],.agg [wN 3,wN 5,wN 8]] false),wN 0],(.tuple [(.ptr [(.slice (some 3) [.agg [wN 2,wN 3,wN 4],.agg [wN 1,wN 2,wN 3],.agg [wN 4,wN 4,wN 7],.agg [wN 3,wN 5,wN 8]] false),wI [2,1,4,3] false] 0),wN 0]),false⟩
theorem We:YOk T 122 Baq:=zC (fM A6b (fM A6c (fM A6d (fM A6e fN)))) (by kernel_rfl)
def Bas:AnsY:=⟨156,[(.slice (some 3) [.agg [wN 2,wN 3,wN 4],.agg [wN 1,wN 2,wN 3],.agg [wN 4,wN 4,wN 7],.agg [wN 3,wN 5,wN 8]] false),wN 0],(.tuple [wN 2,wN 0]),false⟩
theorem Bbv:YOk T 183 Bas:=zC (fM We (fM Xw fN)) (by kernel_rfl)
def Bat:AnsY:=⟨226,[(.slice (some 3) [.agg [wN 2,wN 3,wN 4],.agg [wN 1,wN 2,wN 3],.agg [wN 4,wN 4,wN 7],.agg [wN 3,wN 5,wN 8]] false),wN 1],(.tuple [(.ptr [(.slice (some 3) [.agg [wN 2,wN 3,wN 4],.agg [wN 1,wN 2,wN 3],.agg [wN 4,wN 4,wN 7],.agg [wN 3,wN 5,wN 8]] false),wI [3,2,4,5] false] 0),wN 0]),false⟩
theorem A3b:YOk T 122 Bat:=zC (fM A6b (fM A6c (fM A6d (fM A6e fN)))) (by kernel_rfl)
def Bau:AnsY:=⟨156,[(.slice (some 3) [.agg [wN 2,wN 3,wN 4],.agg [wN 1,wN 2,wN 3],.agg [wN 4,wN 4,wN 7],.agg [wN 3,wN 5,wN 8]] false),wN 1],(.tuple [wN 6,wN 0]),false⟩
theorem Bbw:YOk T 183 Bau:=zC (fM A3b (fM Xw fN)) (by kernel_rfl)
def Bav:AnsY:=⟨157,[(.slice (some 3) [.agg [wN 2,wN 3,wN 4],.agg [wN 1,wN 2,wN 3],.agg [wN 4,wN 4,wN 7],.agg [wN 3,wN 5,wN 8]] false),wN 1],(.tuple [wN 8,wN 0]),false⟩
theorem Bbx:YOk T 183 Bav:=zC (fM A3b (fM Xw fN)) (by kernel_rfl)
def Baw:AnsY:=⟨158,[(.slice (some 3) [.agg [wN 2,wN 3,wN 4],.agg [wN 1,wN 2,wN 3],.agg [wN 4,wN 4,wN 7],.agg [wN 3,wN 5,wN 8]] false),wN 0,wN 7],(.tuple [wN 0,wN 0]),false⟩
theorem Bby:YOk T 183 Baw:=zC (fM We fN) (by kernel_rfl)
def Bax:AnsY:=⟨158,[(.slice (some 3) [.agg [wN 2,wN 3,wN 4],.agg [wN 1,wN 2,wN 3],.agg [wN 4,wN 4,wN 7],.agg [wN 3,wN 5,wN 8]] false),wN 0,wN 2],(.tuple [wN 0,wN 5]),false⟩
theorem Bbz:YOk T 183 Bax:=zC (fM We fN) (by kernel_rfl)
def Bay:AnsY:=⟨159,[(.slice (some 3) [.agg [wN 2,wN 3,wN 4],.agg [wN 1,wN 2,wN 3],.agg [wN 4,wN 4,wN 7],.agg [wN 3,wN 5,wN 8]] false),wN 0],(.tuple [wI [0,1,3] false,wN 0]),false⟩
theorem Bcb:YOk T 2061 Bay:=zC (fM We (fM Bca fN)) (by kernel_rfl)
def Baz:AnsY:=⟨159,[(.slice (some 3) [.agg [wN 2,wN 3,wN 4],.agg [wN 1,wN 2,wN 3],.agg [wN 4,wN 4,wN 7],.agg [wN 3,wN 5,wN 8]] false),wN 1],(.tuple [wI [1,2] false,wN 0]),false⟩
theorem Bcd:YOk T 2061 Baz:=zC (fM A3b (fM Bcc fN)) (by kernel_rfl)
def Bba:AnsY:=⟨160,[(.slice (some 3) [.agg [wN 2,wN 3,wN 4],.agg [wN 1,wN 2,wN 3],.agg [wN 4,wN 4,wN 7],.agg [wN 3,wN 5,wN 8]] false),wN 1],(.tuple [wN 2,wN 0]),false⟩
theorem Bce:YOk T 183 Bba:=zC (fM A3b (fM Xw fN)) (by kernel_rfl)
def Bbb:AnsY:=⟨152,[wI [0,2,3] false],wI [0,2,3] false,false⟩
theorem Bcf:YOk T 61 Bbb:=zC fN (by kernel_rfl)
def Bbc:AnsY:=⟨161,[(.slice (some 3) [.agg [wN 2,wN 3,wN 4],.agg [wN 1,wN 2,wN 3],.agg [wN 4,wN 4,wN 7],.agg [wN 3,wN 5,wN 8]] false),wN 0,wI [0,2,3] false],wN 12,false⟩
theorem Bcg:YOk T 183 Bbc:=zC (fM We (fM Xw fN)) (by kernel_rfl)
def Bbd:AnsY:=⟨162,[(.slice (some 3) [.agg [wN 2,wN 3,wN 4],.agg [wN 1,wN 2,wN 3],.agg [wN 4,wN 4,wN 7],.agg [wN 3,wN 5,wN 8]] false),wN 0,wN 1],(.tuple [wN 2,wN 0]),false⟩
theorem Bch:YOk T 183 Bbd:=zC (fM We (fM Xw fN)) (by kernel_rfl)
def Bbe:AnsY:=⟨163,[wI [1,0,2,3] false,wI [1,0,2,3] false],(.bool true),false⟩
theorem Bci:YOk T 61 Bbe:=zC fN (by kernel_rfl)
def Bbf:AnsY:=⟨153,[wI [5,2,9,14] false],wI [5,2,9,14] false,false⟩
theorem Bcj:YOk T 61 Bbf:=zC fN (by kernel_rfl)
def Bbg:AnsY:=⟨164,[wI [5,2,9,14] false,wI [5,2,9,14] false],(.bool true),false⟩
theorem Bck:YOk T 61 Bbg:=zC fN (by kernel_rfl)
def Bbh:AnsY:=⟨152,[wI [1,2,1,0] false],wI [1,2,1,0] false,false⟩
theorem Bcl:YOk T 61 Bbh:=zC fN (by kernel_rfl)
def Bbi:AnsY:=⟨163,[wI [1,2,1,0] false,wI [1,2,1,0] false],(.bool true),false⟩
theorem Bcm:YOk T 61 Bbi:=zC fN (by kernel_rfl)
def Bbj:AnsY:=⟨152,[wI [0,1,3] false],wI [0,1,3] false,false⟩
theorem Bcn:YOk T 61 Bbj:=zC fN (by kernel_rfl)
def Bbk:AnsY:=⟨163,[wI [0,1,3] false,wI [0,1,3] false],(.bool true),false⟩
theorem Bco:YOk T 61 Bbk:=zC fN (by kernel_rfl)
def Bbl:AnsY:=⟨152,[wI [1,2] false],wI [1,2] false,false⟩
theorem Bcp:YOk T 61 Bbl:=zC fN (by kernel_rfl)
def Bbm:AnsY:=⟨163,[wI [1,2] false,wI [1,2] false],(.bool true),false⟩
theorem Bcq:YOk T 61 Bbm:=zC fN (by kernel_rfl)
def Bbn:AnsY:=⟨104,[],(.bool true),false⟩
theorem Bcr:YOk T 2122 Bbn:=zC (fM Bps (fM Bpt (fM Bpu (fM Bpv (fM Bbo (fM Bbp (fM Bbq (fM Bbr (fM Bbt (fM Bbu (fM Bbv (fM Bbw (fM Bbx (fM Bby (fM Bbz (fM Bcb (fM Bcd (fM Bce (fM Bcf (fM Bcg (fM Bch (fM Bci (fM Bcj (fM Bck (fM Bcl (fM Bcm (fM Bcn (fM Bco (fM Bcp (fM Bcq fN)))))))))))))))))))))))))))))) (by kernel_rfl)
theorem Aol:YOk T 2122 ⟨104,[],.bool true,false⟩:=Bcr
end Go.Ev.YtofpilpmiddpgaaGreatC
