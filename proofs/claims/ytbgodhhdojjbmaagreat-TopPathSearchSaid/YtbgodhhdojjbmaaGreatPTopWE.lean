/- The works of a layer's examples, each call reckoned by the kernel, and joined. No condition but those that stand in each. -/
import Derived.Test.YtbgodhhdojjbmaaGreatPTopW
import Derived.Test.YtbgodhhdojjbmaaGreatPTopKex
set_option linter.unusedSimpArgs false
set_option linter.unusedVariables false
set_option maxRecDepth 100000
namespace Go.Ev.YtbgodhhdojjbmaaGreatC
open Go Go.Proofs
def Byv:AnsY:=⟨238,[],(.slice (some 3) [.agg [wN 2,wN 3,wN 4],.agg [wN 1,wN 2,wN 3],.agg [wN 4,wN 4,wN 7],.agg [wN 3,wN 5,wN 8]] false),false⟩
theorem Bzf:YOk T 61 Byv:=zC fN (by kernel_rfl)
def Byw:AnsY:=⟨391,[.agg [wN 2,wN 3,wN 4]],(.bool false),false⟩
theorem A8k:YOk T 61 Byw:=zC fN (by kernel_rfl)
def Byx:AnsY:=⟨391,[.agg [wN 1,wN 2,wN 3]],(.bool false),false⟩
theorem A8l:YOk T 61 Byx:=zC fN (by kernel_rfl)
def Byy:AnsY:=⟨391,[.agg [wN 4,wN 4,wN 7]],(.bool false),false⟩
theorem A8m:YOk T 61 Byy:=zC fN (by kernel_rfl)
def Byz:AnsY:=⟨391,[.agg [wN 3,wN 5,wN 8]],(.bool false),false⟩
theorem A8n:YOk T 61 Byz:=zC fN (by kernel_rfl)
def Bza:AnsY:=⟨307,[(.agg [(.slice (some 3) [.agg [wN 2,wN 3,wN 4],.agg [wN 1,wN 2,wN 3],.agg [wN 4,wN 4,wN 7],.agg [wN 3,wN 5,wN 8]] false)])],wI [1,0,2,3] false,false⟩
theorem A0a:YOk T 61 Bza:=zC fN (by kernel_rfl)
def Bzb:AnsY:=⟨239,[(.slice (some 3) [.agg [wN 2,wN 3,wN 4],.agg [wN 1,wN 2,wN 3],.agg [wN 4,wN 4,wN 7],.agg [wN 3,wN 5,wN 8]] false)],(.tuple [wI [1,0,2,3] false,wN 0]),false⟩
theorem Bzg:YOk T 122 Bzb:=zC (fM A8k (fM A8l (fM A8m (fM A8n (fM A0a fN))))) (by kernel_rfl)
def Bzc:AnsY:=⟨241,[wI [1,0,2,3] false],wI [1,0,2,3] false,false⟩
theorem Bzh:YOk T 61 Bzc:=zC fN (by kernel_rfl)
def Bzd:AnsY:=⟨242,[wI [3,2,4,5] false],wI [3,2,4,5] false,false⟩
theorem Bzi:YOk T 61 Bzd:=zC fN (by kernel_rfl)
def Bze:AnsY:=⟨308,[(.slice (some 3) [.agg [wN 2,wN 3,wN 4],.agg [wN 1,wN 2,wN 3],.agg [wN 4,wN 4,wN 7],.agg [wN 3,wN 5,wN 8]] false),wI [1,0,2,3] false],wN 0,false⟩
theorem Alz:YOk T 122 Bze:=zC (fM A8k (fM A8l (fM A8m (fM A8n fN)))) (by kernel_rfl)
def Bes:AnsY:=⟨240,[(.slice (some 3) [.agg [wN 2,wN 3,wN 4],.agg [wN 1,wN 2,wN 3],.agg [wN 4,wN 4,wN 7],.agg [wN 3,wN 5,wN 8]] false),wI [1,0,2,3] false,wI [3,2,4,5] false],(.tuple [wI [5,2,9,14] false,wN 0]),false⟩
theorem Bfw:YOk T 183 Bes:=zC (fM Alz fN) (by kernel_rfl)
def Bet:AnsY:=⟨242,[wI [4,1,4,3] false],wI [4,1,4,3] false,false⟩
theorem Bfx:YOk T 61 Bet:=zC fN (by kernel_rfl)
def Beu:AnsY:=⟨240,[(.slice (some 3) [.agg [wN 2,wN 3,wN 4],.agg [wN 1,wN 2,wN 3],.agg [wN 4,wN 4,wN 7],.agg [wN 3,wN 5,wN 8]] false),wI [1,0,2,3] false,wI [4,1,4,3] false],(.tuple [wI [] false,wN 3]),false⟩
theorem Bfy:YOk T 183 Beu:=zC (fM Alz fN) (by kernel_rfl)
def Bev:AnsY:=⟨241,[wI [0,1,2,3] false],wI [0,1,2,3] false,false⟩
theorem Bfz:YOk T 61 Bev:=zC fN (by kernel_rfl)
def Bew:AnsY:=⟨308,[(.slice (some 3) [.agg [wN 2,wN 3,wN 4],.agg [wN 1,wN 2,wN 3],.agg [wN 4,wN 4,wN 7],.agg [wN 3,wN 5,wN 8]] false),wI [0,1,2,3] false],wN 0,false⟩
theorem Bga:YOk T 122 Bew:=zC (fM A8k (fM A8l (fM A8m (fM A8n fN)))) (by kernel_rfl)
def Bex:AnsY:=⟨243,[(.slice (some 3) [.agg [wN 2,wN 3,wN 4],.agg [wN 1,wN 2,wN 3],.agg [wN 4,wN 4,wN 7],.agg [wN 3,wN 5,wN 8]] false),wI [0,1,2,3] false,wI [3,2,4,5] false],(.tuple [wN 6,wN 0]),false⟩
theorem Bgb:YOk T 183 Bex:=zC (fM Bga fN) (by kernel_rfl)
def Bey:AnsY:=⟨244,[(.slice (some 3) [.agg [wN 2,wN 3,wN 4],.agg [wN 1,wN 2,wN 3],.agg [wN 4,wN 4,wN 7],.agg [wN 3,wN 5,wN 8]] false),wI [1,0,2,3] false],(.tuple [wI [1,2,1,0] false,wN 0]),false⟩
theorem Bgc:YOk T 183 Bey:=zC (fM Alz fN) (by kernel_rfl)
def Bez:AnsY:=⟨314,[(.slice (some 3) [.agg [wN 2,wN 3,wN 4],.agg [wN 1,wN 2,wN 3],.agg [wN 4,wN 4,wN 7],.agg [wN 3,wN 5,wN 8]] false),wN 0],(.tuple [(.ptr [(.slice (some 3) [.agg [wN 2,wN 3,wN 4],.agg [wN 1,wN 2,wN 3],.agg [wN 4,wN 4,wN 7],.agg [wN 3,wN 5,wN 8]] false),wI [2,1,4,3] false] 0),wN 0]),false⟩
theorem Yc:YOk T 122 Bez:=zC (fM A8k (fM A8l (fM A8m (fM A8n fN)))) (by kernel_rfl)
def Bfa:AnsY:=⟨245,[(.slice (some 3) [.agg [wN 2,wN 3,wN 4],.agg [wN 1,wN 2,wN 3],.agg [wN 4,wN 4,wN 7],.agg [wN 3,wN 5,wN 8]] false),wN 0],(.tuple [wN 2,wN 0]),false⟩
theorem Bgd:YOk T 183 Bfa:=zC (fM Yc (fM A0a fN)) (by kernel_rfl)
def Bfb:AnsY:=⟨314,[(.slice (some 3) [.agg [wN 2,wN 3,wN 4],.agg [wN 1,wN 2,wN 3],.agg [wN 4,wN 4,wN 7],.agg [wN 3,wN 5,wN 8]] false),wN 1],(.tuple [(.ptr [(.slice (some 3) [.agg [wN 2,wN 3,wN 4],.agg [wN 1,wN 2,wN 3],.agg [wN 4,wN 4,wN 7],.agg [wN 3,wN 5,wN 8]] false),wI [3,2,4,5] false] 0),wN 0]),false⟩
theorem A5l:YOk T 122 Bfb:=zC (fM A8k (fM A8l (fM A8m (fM A8n fN)))) (by kernel_rfl)
def Bfc:AnsY:=⟨245,[(.slice (some 3) [.agg [wN 2,wN 3,wN 4],.agg [wN 1,wN 2,wN 3],.agg [wN 4,wN 4,wN 7],.agg [wN 3,wN 5,wN 8]] false),wN 1],(.tuple [wN 6,wN 0]),false⟩
theorem Bge:YOk T 183 Bfc:=zC (fM A5l (fM A0a fN)) (by kernel_rfl)
def Bfd:AnsY:=⟨246,[(.slice (some 3) [.agg [wN 2,wN 3,wN 4],.agg [wN 1,wN 2,wN 3],.agg [wN 4,wN 4,wN 7],.agg [wN 3,wN 5,wN 8]] false),wN 1],(.tuple [wN 8,wN 0]),false⟩
theorem Bgf:YOk T 183 Bfd:=zC (fM A5l (fM A0a fN)) (by kernel_rfl)
def Bfe:AnsY:=⟨247,[(.slice (some 3) [.agg [wN 2,wN 3,wN 4],.agg [wN 1,wN 2,wN 3],.agg [wN 4,wN 4,wN 7],.agg [wN 3,wN 5,wN 8]] false),wN 0,wN 7],(.tuple [wN 0,wN 0]),false⟩
theorem Bgg:YOk T 183 Bfe:=zC (fM Yc fN) (by kernel_rfl)
def Bff:AnsY:=⟨247,[(.slice (some 3) [.agg [wN 2,wN 3,wN 4],.agg [wN 1,wN 2,wN 3],.agg [wN 4,wN 4,wN 7],.agg [wN 3,wN 5,wN 8]] false),wN 0,wN 2],(.tuple [wN 0,wN 5]),false⟩
theorem Bgh:YOk T 183 Bff:=zC (fM Yc fN) (by kernel_rfl)
def Bfg:AnsY:=⟨248,[(.slice (some 3) [.agg [wN 2,wN 3,wN 4],.agg [wN 1,wN 2,wN 3],.agg [wN 4,wN 4,wN 7],.agg [wN 3,wN 5,wN 8]] false),wN 0],(.tuple [wI [0,1,3] false,wN 0]),false⟩
theorem Bgj:YOk T 2061 Bfg:=zC (fM Yc (fM Bgi fN)) (by kernel_rfl)
def Bfh:AnsY:=⟨248,[(.slice (some 3) [.agg [wN 2,wN 3,wN 4],.agg [wN 1,wN 2,wN 3],.agg [wN 4,wN 4,wN 7],.agg [wN 3,wN 5,wN 8]] false),wN 1],(.tuple [wI [1,2] false,wN 0]),false⟩
theorem Bgl:YOk T 2061 Bfh:=zC (fM A5l (fM Bgk fN)) (by kernel_rfl)
def Bfi:AnsY:=⟨249,[(.slice (some 3) [.agg [wN 2,wN 3,wN 4],.agg [wN 1,wN 2,wN 3],.agg [wN 4,wN 4,wN 7],.agg [wN 3,wN 5,wN 8]] false),wN 1],(.tuple [wN 2,wN 0]),false⟩
theorem Bgm:YOk T 183 Bfi:=zC (fM A5l (fM A0a fN)) (by kernel_rfl)
def Bfj:AnsY:=⟨241,[wI [0,2,3] false],wI [0,2,3] false,false⟩
theorem Bgn:YOk T 61 Bfj:=zC fN (by kernel_rfl)
def Bfk:AnsY:=⟨250,[(.slice (some 3) [.agg [wN 2,wN 3,wN 4],.agg [wN 1,wN 2,wN 3],.agg [wN 4,wN 4,wN 7],.agg [wN 3,wN 5,wN 8]] false),wN 0,wI [0,2,3] false],wN 12,false⟩
theorem Bgo:YOk T 183 Bfk:=zC (fM Yc (fM A0a fN)) (by kernel_rfl)
def Bfl:AnsY:=⟨251,[(.slice (some 3) [.agg [wN 2,wN 3,wN 4],.agg [wN 1,wN 2,wN 3],.agg [wN 4,wN 4,wN 7],.agg [wN 3,wN 5,wN 8]] false),wN 0,wN 1],(.tuple [wN 2,wN 0]),false⟩
theorem Bgp:YOk T 183 Bfl:=zC (fM Yc (fM A0a fN)) (by kernel_rfl)
def Bfm:AnsY:=⟨252,[wI [1,0,2,3] false,wI [1,0,2,3] false],(.bool true),false⟩
theorem Bgq:YOk T 61 Bfm:=zC fN (by kernel_rfl)
def Bfn:AnsY:=⟨242,[wI [5,2,9,14] false],wI [5,2,9,14] false,false⟩
theorem Bgr:YOk T 61 Bfn:=zC fN (by kernel_rfl)
def Bfo:AnsY:=⟨253,[wI [5,2,9,14] false,wI [5,2,9,14] false],(.bool true),false⟩
theorem Bgs:YOk T 61 Bfo:=zC fN (by kernel_rfl)
def Bfp:AnsY:=⟨241,[wI [1,2,1,0] false],wI [1,2,1,0] false,false⟩
theorem Bgt:YOk T 61 Bfp:=zC fN (by kernel_rfl)
def Bfq:AnsY:=⟨252,[wI [1,2,1,0] false,wI [1,2,1,0] false],(.bool true),false⟩
theorem Bgu:YOk T 61 Bfq:=zC fN (by kernel_rfl)
def Bfr:AnsY:=⟨241,[wI [0,1,3] false],wI [0,1,3] false,false⟩
theorem Bgv:YOk T 61 Bfr:=zC fN (by kernel_rfl)
def Bfs:AnsY:=⟨252,[wI [0,1,3] false,wI [0,1,3] false],(.bool true),false⟩
theorem Bgw:YOk T 61 Bfs:=zC fN (by kernel_rfl)
def Bft:AnsY:=⟨241,[wI [1,2] false],wI [1,2] false,false⟩
theorem Bgx:YOk T 61 Bft:=zC fN (by kernel_rfl)
def Bfu:AnsY:=⟨252,[wI [1,2] false,wI [1,2] false],(.bool true),false⟩
theorem Bgy:YOk T 61 Bfu:=zC fN (by kernel_rfl)
def Bfv:AnsY:=⟨191,[],(.bool true),false⟩
theorem Bgz:YOk T 2122 Bfv:=zC (fM Bzf (fM Bzg (fM Bzh (fM Bzi (fM Bfw (fM Bfx (fM Bfy (fM Bfz (fM Bgb (fM Bgc (fM Bgd (fM Bge (fM Bgf (fM Bgg (fM Bgh (fM Bgj (fM Bgl (fM Bgm (fM Bgn (fM Bgo (fM Bgp (fM Bgq (fM Bgr (fM Bgs (fM Bgt (fM Bgu (fM Bgv (fM Bgw (fM Bgx (fM Bgy fN)))))))))))))))))))))))))))))) (by kernel_rfl)
theorem Asl:YOk T 2122 ⟨191,[],.bool true,false⟩:=Bgz
end Go.Ev.YtbgodhhdojjbmaaGreatC
