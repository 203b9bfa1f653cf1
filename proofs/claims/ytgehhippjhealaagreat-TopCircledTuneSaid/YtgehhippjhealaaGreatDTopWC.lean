/- The works of a layer's examples, each call reckoned by the kernel, and joined. No condition but those that stand in each. -/
import Derived.Test.YtgehhippjhealaaGreatDTopW
import Derived.Test.YtgehhippjhealaaGreatDTopPlx
set_option linter.unusedSimpArgs false
set_option linter.unusedVariables false
set_option maxRecDepth 100000
namespace Go.Ev.YtgehhippjhealaaGreatC
open Go Go.Proofs
def Bui:AnsY:=⟨264,[wI [3,4,5,2,4,6] false],(.slice (some 2) [.agg [wN 3,wN 4],.agg [wN 5,wN 2],.agg [wN 4,wN 6]] false),false⟩
theorem Buf:YOk T 61 Bui:=zC fN (by kernel_rfl)
def Bsu:AnsY:=⟨264,[wI [3,4] false],(.slice (some 2) [.agg [wN 3,wN 4]] false),false⟩
theorem Buw:YOk T 61 Bsu:=zC fN (by kernel_rfl)
def Bvj:AnsY:=⟨264,[wI [1,1,1,1] false],(.slice (some 2) [.agg [wN 1,wN 1],.agg [wN 1,wN 1]] false),false⟩
theorem Bwd:YOk T 61 Bvj:=zC fN (by kernel_rfl)
def Bsr:AnsY:=⟨265,[wI [0,6,3,10,8,0] false],(.slice (some 2) [.agg [wN 0,wN 6],.agg [wN 3,wN 10],.agg [wN 8,wN 0]] false),false⟩
theorem Bwr:YOk T 61 Bsr:=zC fN (by kernel_rfl)
def Btx:AnsY:=⟨406,[(.slice (some 2) [.agg [wN 3,wN 4],.agg [wN 5,wN 2],.agg [wN 4,wN 6]] false),(.clo 388 [] [])],(wN (-1)),false⟩
theorem A2f:YOk T 61 Btx:=zC fN (by kernel_rfl)
def Bto:AnsY:=⟨267,[(.slice (some 2) [.agg [wN 3,wN 4],.agg [wN 5,wN 2],.agg [wN 4,wN 6]] false)],(.tuple [wN 0,wN 0,wN 0]),false⟩
theorem Bvz:YOk T 122 Bto:=zC (fM A2f fN) (by kernel_rfl)
def Bwa:AnsY:=⟨266,[(.slice (some 2) [.agg [wN 3,wN 4],.agg [wN 5,wN 2],.agg [wN 4,wN 6]] false)],(.tuple [wN 12,wN 0]),false⟩
theorem Btf:YOk T 183 Bwa:=zC (fM Bvz fN) (by kernel_rfl)
def Bvh:AnsY:=⟨337,[(.slice (some 2) [.agg [wN 3,wN 4]] false)],wN 0,false⟩
theorem B0q:YOk T 61 Bvh:=zC fN (by kernel_rfl)
def Bvm:AnsY:=⟨267,[(.slice (some 2) [.agg [wN 3,wN 4]] false)],(.tuple [wN 2,wN 0,wN 0]),false⟩
theorem B0c:YOk T 122 Bvm:=zC (fM B0q fN) (by kernel_rfl)
def Btq:AnsY:=⟨266,[(.slice (some 2) [.agg [wN 3,wN 4]] false)],(.tuple [wN 7,wN 0]),false⟩
theorem Bwg:YOk T 183 Btq:=zC (fM B0c fN) (by kernel_rfl)
def Blw:AnsY:=⟨268,[(.slice (some 2) [.agg [wN 3,wN 4],.agg [wN 5,wN 2],.agg [wN 4,wN 6]] false),wN 2,wN 2],(.tuple [wN 10,wN 0]),false⟩
theorem Bfh:YOk T 122 Blw:=zC (fM A2f fN) (by kernel_rfl)
def B7o:AnsY:=⟨391,[(.slice (some 2) [.agg [wN 0,wN 6],.agg [wN 3,wN 10],.agg [wN 8,wN 0]] false),(.clo 342 [] [])],(wN (-1)),false⟩
theorem Bot:YOk T 61 B7o:=zC fN (by kernel_rfl)
def Bbm:AnsY:=⟨269,[(.slice (some 2) [.agg [wN 3,wN 4],.agg [wN 5,wN 2],.agg [wN 4,wN 6]] false),(.slice (some 2) [.agg [wN 0,wN 6],.agg [wN 3,wN 10],.agg [wN 8,wN 0]] false)],(.tuple [wN 12,wN 0]),false⟩
theorem Bmz:YOk T 122 Bbm:=zC (fM A2f (fM Bot fN)) (by kernel_rfl)
def Bmo:AnsY:=⟨265,[wI [0,6,3,10,7,0] false],(.slice (some 2) [.agg [wN 0,wN 6],.agg [wN 3,wN 10],.agg [wN 7,wN 0]] false),false⟩
theorem B8i:YOk T 61 Bmo:=zC fN (by kernel_rfl)
def Brd:AnsY:=⟨391,[(.slice (some 2) [.agg [wN 0,wN 6],.agg [wN 3,wN 10],.agg [wN 7,wN 0]] false),(.clo 342 [] [])],(wN (-1)),false⟩
theorem B8g:YOk T 61 Brd:=zC fN (by kernel_rfl)
def B7v:AnsY:=⟨269,[(.slice (some 2) [.agg [wN 3,wN 4],.agg [wN 5,wN 2],.agg [wN 4,wN 6]] false),(.slice (some 2) [.agg [wN 0,wN 6],.agg [wN 3,wN 10],.agg [wN 7,wN 0]] false)],(.tuple [wN 0,wN 16]),false⟩
theorem Bev:YOk T 122 B7v:=zC (fM A2f (fM B8g fN)) (by kernel_rfl)
def Blm:AnsY:=⟨265,[wI [0,5] false],(.slice (some 2) [.agg [wN 0,wN 5]] false),false⟩
theorem Bfp:YOk T 61 Blm:=zC fN (by kernel_rfl)
def Bns:AnsY:=⟨269,[(.slice (some 2) [.agg [wN 3,wN 4]] false),(.slice (some 2) [.agg [wN 0,wN 5]] false)],(.tuple [wN 9,wN 0]),false⟩
theorem B6n:YOk T 122 Bns:=zC (fM B0q fN) (by kernel_rfl)
def Bec:AnsY:=⟨270,[(.slice (some 2) [.agg [wN 3,wN 4]] false),(.slice (some 2) [.agg [wN 0,wN 5]] false),wN 1],(.tuple [wN 5,wN 0]),false⟩
theorem Bji:YOk T 183 Bec:=zC (fM B6n fN) (by kernel_rfl)
def Bnh:AnsY:=⟨347,[(.slice (some 2) [.agg [wN 3,wN 4],.agg [wN 5,wN 2],.agg [wN 4,wN 6]] false)],(.agg [wI [0,1,2] false,wI [2,0,1] false,wI [0,0,1] false]),false⟩
theorem Bqx:YOk T 61 Bnh:=zC fN (by kernel_rfl)
def Bod:AnsY:=⟨271,[(.slice (some 2) [.agg [wN 3,wN 4],.agg [wN 5,wN 2],.agg [wN 4,wN 6]] false)],(.tuple [(.slice (some 2) [.agg [wN 0,wN 6],.agg [wN 3,wN 10],.agg [wN 8,wN 0]] false),wN 0]),false⟩
theorem Bht:YOk T 2061 Bod:=zC (fM A2f (fM Bqx (fM Aua fN))) (by kernel_rfl)
def B4n:AnsY:=⟨273,[],(.agg [wI [0,1,2] false,wI [2,0,1] false,wI [0,0,1] false]),false⟩
theorem Bqz:YOk T 61 B4n:=zC fN (by kernel_rfl)
def Bbh:AnsY:=⟨274,[],(.agg [wI [0,1] false,wI [1,0] false,wI [1,0] false]),false⟩
theorem Bbs:YOk T 61 Bbh:=zC fN (by kernel_rfl)
def Bdl:AnsY:=⟨406,[(.slice (some 2) [.agg [wN 1,wN 1],.agg [wN 1,wN 1]] false),(.clo 388 [] [])],(wN (-1)),false⟩
theorem B5v:YOk T 61 Bdl:=zC fN (by kernel_rfl)
def Bfx:AnsY:=⟨397,[(.slice (some 2) [.agg [wN 1,wN 1],.agg [wN 1,wN 1]] false),(.agg [wI [0,1] false,wI [1,0] false,wI [1,0] false])],wN 0,false⟩
theorem Atp:YOk T 122 Bfx:=zC (fM B5v fN) (by kernel_rfl)
def Bir:AnsY:=⟨272,[(.slice (some 2) [.agg [wN 1,wN 1],.agg [wN 1,wN 1]] false),(.agg [wI [0,1] false,wI [1,0] false,wI [1,0] false])],(.tuple [(.slice (some 2) [] false),wN 13]),false⟩
theorem Bkl:YOk T 183 Bir:=zC (fM Atp fN) (by kernel_rfl)
def Bfq:AnsY:=⟨276,[wI [0,2,3,1] false],wI [0,2,3,1] false,false⟩
theorem Bby:YOk T 61 Bfq:=zC fN (by kernel_rfl)
def Bpv:AnsY:=⟨348,[(.slice (some 2) [.agg [wN 1,wN 1],.agg [wN 1,wN 1]] false),(.agg [wI [0,1] false,wI [1,0] false,wI [1,0] false])],(.tuple [(.ptr [wI [0,1] false,wI [1,0] false,wI [1,0] false,(.fmap [] [])] 0),wN 0]),false⟩
theorem Aiz:YOk T 183 Bpv:=zC (fM Atp fN) (by kernel_rfl)
def Bcl:AnsY:=⟨176,[wI [0,2,3,1] false,(.clo 349 [] [(.ptr [(.slice (some 2) [.agg [wN 1,wN 1],.agg [wN 1,wN 1]] false)] 0)])],(wN (-1)),false⟩
theorem B6o:YOk T 61 Bcl:=zC fN (by kernel_rfl)
def Bkf:AnsY:=⟨275,[(.slice (some 2) [.agg [wN 1,wN 1],.agg [wN 1,wN 1]] false),(.agg [wI [0,1] false,wI [1,0] false,wI [1,0] false]),wI [0,2,3,1] false],wN 0,false⟩
theorem B9o:YOk T 244 Bkf:=zC (fM Aiz (fM B6o fN)) (by kernel_rfl)
def Bhx:AnsY:=⟨276,[wI [0,2] false],wI [0,2] false,false⟩
theorem Beg:YOk T 61 Bhx:=zC fN (by kernel_rfl)
def B6h:AnsY:=⟨176,[wI [0,2] false,(.clo 349 [] [(.ptr [(.slice (some 2) [.agg [wN 1,wN 1],.agg [wN 1,wN 1]] false)] 0)])],(wN (-1)),false⟩
theorem Bcd:YOk T 61 B6h:=zC fN (by kernel_rfl)
def Bnk:AnsY:=⟨275,[(.slice (some 2) [.agg [wN 1,wN 1],.agg [wN 1,wN 1]] false),(.agg [wI [0,1] false,wI [1,0] false,wI [1,0] false]),wI [0,2] false],wN 14,false⟩
theorem Bcb:YOk T 244 Bnk:=zC (fM Aiz (fM Bcd fN)) (by kernel_rfl)
def Bpw:AnsY:=⟨351,[(.ptr [wI [0,1] false,wI [1,0] false,wI [1,0] false,(.fmap [] [])] 0)],wI [2,3,1,0] false,false⟩
theorem Bpn:YOk T 61 Bpw:=zC fN (by kernel_rfl)
def Bpz:AnsY:=⟨277,[(.slice (some 2) [.agg [wN 1,wN 1],.agg [wN 1,wN 1]] false),(.agg [wI [0,1] false,wI [1,0] false,wI [1,0] false])],(.tuple [wI [2,3,1,0] false,wN 0]),false⟩
theorem Bcn:YOk T 244 Bpz:=zC (fM Aiz (fM Bpn fN)) (by kernel_rfl)
def Bkn:AnsY:=⟨397,[(.slice (some 2) [.agg [wN 3,wN 4],.agg [wN 5,wN 2],.agg [wN 4,wN 6]] false),(.agg [wI [0,1,2] false,wI [2,0,1] false,wI [0,0,1] false])],wN 0,false⟩
theorem Bjy:YOk T 122 Bkn:=zC (fM A2f fN) (by kernel_rfl)
def Bsj:AnsY:=⟨348,[(.slice (some 2) [.agg [wN 3,wN 4],.agg [wN 5,wN 2],.agg [wN 4,wN 6]] false),(.agg [wI [0,1,2] false,wI [2,0,1] false,wI [0,0,1] false])],(.tuple [(.ptr [wI [0,1,2] false,wI [2,0,1] false,wI [0,0,1] false,(.fmap [.agg [wN 0],.agg [wN 2],.agg [wN 5],.agg [wN 1],.agg [wN 3],.agg [wN 4]] [wN 3,wN 8,wN 6,wN 10,wN 12,wN 12])] 0),wN 0]),false⟩
theorem Bpf:YOk T 183 Bsj:=zC (fM Bjy fN) (by kernel_rfl)
def Bfd:AnsY:=⟨277,[(.slice (some 2) [.agg [wN 3,wN 4],.agg [wN 5,wN 2],.agg [wN 4,wN 6]] false),(.agg [wI [0,1,2] false,wI [2,0,1] false,wI [0,0,1] false])],(.tuple [wI [] false,wN 5]),false⟩
theorem Brg:YOk T 244 Bfd:=zC (fM Bpf fN) (by kernel_rfl)
def Bhj:AnsY:=⟨268,[(.slice (some 2) [.agg [wN 3,wN 4],.agg [wN 5,wN 2],.agg [wN 4,wN 6]] false),wN 3,wN 0],(.tuple [wN 0,wN 2]),false⟩
theorem Bdn:YOk T 122 Bhj:=zC (fM A2f fN) (by kernel_rfl)
def Bok:AnsY:=⟨355,[(.slice (some 2) [.agg [wN 3,wN 4],.agg [wN 5,wN 2],.agg [wN 4,wN 6]] false),(.slice (some 2) [.agg [wN 0,wN 6],.agg [wN 3,wN 10],.agg [wN 8,wN 0]] false)],wN 12,false⟩
theorem Bqv:YOk T 61 Bok:=zC fN (by kernel_rfl)
def Bhl:AnsY:=⟨278,[(.slice (some 2) [.agg [wN 3,wN 4],.agg [wN 5,wN 2],.agg [wN 4,wN 6]] false),(.slice (some 2) [.agg [wN 0,wN 6],.agg [wN 3,wN 10],.agg [wN 8,wN 0]] false)],(.tuple [wN 12,wN 0]),false⟩
theorem Bck:YOk T 122 Bhl:=zC (fM Bqv fN) (by kernel_rfl)
def Bbw:AnsY:=⟨279,[(.slice (some 2) [.agg [wN 0,wN 6],.agg [wN 3,wN 10],.agg [wN 8,wN 0]] false),(.slice (some 2) [.agg [wN 0,wN 6],.agg [wN 3,wN 10],.agg [wN 8,wN 0]] false)],(.bool true),false⟩
theorem Bea:YOk T 61 Bbw:=zC fN (by kernel_rfl)
def Bsi:AnsY:=⟨280,[(.slice (some 2) [.agg [wN 1,wN 1],.agg [wN 1,wN 1]] false),(.agg [wI [0,1] false,wI [1,0] false,wI [1,0] false]),wI [2,3,1,0] false],wN 0,false⟩
theorem Bdo:YOk T 61 Bsi:=zC fN (by kernel_rfl)
def B4i:AnsY:=⟨198,[],(.bool true),false⟩
theorem Bpc:YOk T 2122 B4i:=zC (fM Buf (fM Buw (fM Bwd (fM Bwr (fM Btf (fM Bwg (fM B0c (fM Bfh (fM Bmz (fM B8i (fM Bev (fM Bfp (fM Bji (fM Bht (fM Bqz (fM Aua (fM Bbs (fM Bkl (fM Bby (fM B9o (fM Beg (fM Bcb (fM Bcn (fM Brg (fM Bdn (fM Bck (fM Bea (fM Bdo fN)))))))))))))))))))))))))))) (by kernel_rfl)
theorem Ayw:YOk T 2122 ⟨198,[],.bool true,false⟩:=Bpc
end Go.Ev.YtgehhippjhealaaGreatC
