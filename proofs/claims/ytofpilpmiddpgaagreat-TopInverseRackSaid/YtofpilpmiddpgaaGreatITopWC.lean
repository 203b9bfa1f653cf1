/- The works of a layer's examples, each call reckoned by the kernel, and joined. No condition but those that stand in each. -/
import Derived.Test.YtofpilpmiddpgaaGreatITopW
import Derived.Test.YtofpilpmiddpgaaGreatITopPlx
set_option linter.unusedSimpArgs false
set_option linter.unusedVariables false
set_option maxRecDepth 100000
namespace Go.Ev.YtofpilpmiddpgaaGreatC
open Go Go.Proofs
def Bpc:AnsY:=⟨270,[wI [3,4,5,2,4,6] false],(.slice (some 2) [.agg [wN 3,wN 4],.agg [wN 5,wN 2],.agg [wN 4,wN 6]] false),false⟩
theorem Bpm:YOk T 61 Bpc:=zC fN (by kernel_rfl)
def Bpd:AnsY:=⟨270,[wI [3,4] false],(.slice (some 2) [.agg [wN 3,wN 4]] false),false⟩
theorem Bpn:YOk T 61 Bpd:=zC fN (by kernel_rfl)
def Bpe:AnsY:=⟨270,[wI [1,1,1,1] false],(.slice (some 2) [.agg [wN 1,wN 1],.agg [wN 1,wN 1]] false),false⟩
theorem Bpo:YOk T 61 Bpe:=zC fN (by kernel_rfl)
def Bpf:AnsY:=⟨271,[wI [0,6,3,10,8,0] false],(.slice (some 2) [.agg [wN 0,wN 6],.agg [wN 3,wN 10],.agg [wN 8,wN 0]] false),false⟩
theorem Bpp:YOk T 61 Bpf:=zC fN (by kernel_rfl)
def Bpg:AnsY:=⟨447,[(.slice (some 2) [.agg [wN 3,wN 4],.agg [wN 5,wN 2],.agg [wN 4,wN 6]] false),(.clo 417 [] [])],(wN (-1)),false⟩
theorem Yb:YOk T 61 Bpg:=zC fN (by kernel_rfl)
def Bph:AnsY:=⟨273,[(.slice (some 2) [.agg [wN 3,wN 4],.agg [wN 5,wN 2],.agg [wN 4,wN 6]] false)],(.tuple [wN 0,wN 0,wN 0]),false⟩
theorem Bpq:YOk T 122 Bph:=zC (fM Yb fN) (by kernel_rfl)
def Bpi:AnsY:=⟨272,[(.slice (some 2) [.agg [wN 3,wN 4],.agg [wN 5,wN 2],.agg [wN 4,wN 6]] false)],(.tuple [wN 12,wN 0]),false⟩
theorem Bpr:YOk T 183 Bpi:=zC (fM Bpq fN) (by kernel_rfl)
def Bpj:AnsY:=⟨355,[(.slice (some 2) [.agg [wN 3,wN 4]] false)],wN 0,false⟩
theorem Atb:YOk T 61 Bpj:=zC fN (by kernel_rfl)
def Bpk:AnsY:=⟨273,[(.slice (some 2) [.agg [wN 3,wN 4]] false)],(.tuple [wN 2,wN 0,wN 0]),false⟩
theorem Atc:YOk T 122 Bpk:=zC (fM Atb fN) (by kernel_rfl)
def Bpl:AnsY:=⟨272,[(.slice (some 2) [.agg [wN 3,wN 4]] false)],(.tuple [wN 7,wN 0]),false⟩
theorem Bps:YOk T 183 Bpl:=zC (fM Atc fN) (by kernel_rfl)
def B5c:AnsY:=⟨274,[(.slice (some 2) [.agg [wN 3,wN 4],.agg [wN 5,wN 2],.agg [wN 4,wN 6]] false),wN 2,wN 2],(.tuple [wN 10,wN 0]),false⟩
theorem B6k:YOk T 122 B5c:=zC (fM Yb fN) (by kernel_rfl)
def B5d:AnsY:=⟨420,[(.slice (some 2) [.agg [wN 0,wN 6],.agg [wN 3,wN 10],.agg [wN 8,wN 0]] false),(.clo 360 [] [])],(wN (-1)),false⟩
theorem B6l:YOk T 61 B5d:=zC fN (by kernel_rfl)
def B5e:AnsY:=⟨275,[(.slice (some 2) [.agg [wN 3,wN 4],.agg [wN 5,wN 2],.agg [wN 4,wN 6]] false),(.slice (some 2) [.agg [wN 0,wN 6],.agg [wN 3,wN 10],.agg [wN 8,wN 0]] false)],(.tuple [wN 12,wN 0]),false⟩
theorem B6m:YOk T 122 B5e:=zC (fM Yb (fM B6l fN)) (by kernel_rfl)
def B5f:AnsY:=⟨271,[wI [0,6,3,10,7,0] false],(.slice (some 2) [.agg [wN 0,wN 6],.agg [wN 3,wN 10],.agg [wN 7,wN 0]] false),false⟩
theorem B6n:YOk T 61 B5f:=zC fN (by kernel_rfl)
def B5g:AnsY:=⟨420,[(.slice (some 2) [.agg [wN 0,wN 6],.agg [wN 3,wN 10],.agg [wN 7,wN 0]] false),(.clo 360 [] [])],(wN (-1)),false⟩
theorem B6o:YOk T 61 B5g:=zC fN (by kernel_rfl)
def B5h:AnsY:=⟨275,[(.slice (some 2) [.agg [wN 3,wN 4],.agg [wN 5,wN 2],.agg [wN 4,wN 6]] false),(.slice (some 2) [.agg [wN 0,wN 6],.agg [wN 3,wN 10],.agg [wN 7,wN 0]] false)],(.tuple [wN 0,wN 16]),false⟩
theorem B6p:YOk T 122 B5h:=zC (fM Yb (fM B6o fN)) (by kernel_rfl)
def B5i:AnsY:=⟨271,[wI [0,5] false],(.slice (some 2) [.agg [wN 0,wN 5]] false),false⟩
theorem B6q:YOk T 61 B5i:=zC fN (by kernel_rfl)
def B5j:AnsY:=⟨275,[(.slice (some 2) [.agg [wN 3,wN 4]] false),(.slice (some 2) [.agg [wN 0,wN 5]] false)],(.tuple [wN 9,wN 0]),false⟩
theorem B6r:YOk T 122 B5j:=zC (fM Atb fN) (by kernel_rfl)
def B5k:AnsY:=⟨276,[(.slice (some 2) [.agg [wN 3,wN 4]] false),(.slice (some 2) [.agg [wN 0,wN 5]] false),wN 1],(.tuple [wN 5,wN 0]),false⟩
theorem B6s:YOk T 183 B5k:=zC (fM B6r fN) (by kernel_rfl)
def B5l:AnsY:=⟨365,[(.slice (some 2) [.agg [wN 3,wN 4],.agg [wN 5,wN 2],.agg [wN 4,wN 6]] false)],(.agg [wI [0,1,2] false,wI [2,0,1] false,wI [0,0,1] false]),false⟩
theorem B6t:YOk T 61 B5l:=zC fN (by kernel_rfl)
def B5m:AnsY:=⟨277,[(.slice (some 2) [.agg [wN 3,wN 4],.agg [wN 5,wN 2],.agg [wN 4,wN 6]] false)],(.tuple [(.slice (some 2) [.agg [wN 0,wN 6],.agg [wN 3,wN 10],.agg [wN 8,wN 0]] false),wN 0]),false⟩
theorem B6u:YOk T 2061 B5m:=zC (fM Yb (fM B6t (fM Akp fN))) (by kernel_rfl)
def B5n:AnsY:=⟨279,[],(.agg [wI [0,1,2] false,wI [2,0,1] false,wI [0,0,1] false]),false⟩
theorem B6v:YOk T 61 B5n:=zC fN (by kernel_rfl)
def B5o:AnsY:=⟨280,[],(.agg [wI [0,1] false,wI [1,0] false,wI [1,0] false]),false⟩
theorem B6w:YOk T 61 B5o:=zC fN (by kernel_rfl)
def B5p:AnsY:=⟨447,[(.slice (some 2) [.agg [wN 1,wN 1],.agg [wN 1,wN 1]] false),(.clo 417 [] [])],(wN (-1)),false⟩
theorem B6x:YOk T 61 B5p:=zC fN (by kernel_rfl)
def B5q:AnsY:=⟨426,[(.slice (some 2) [.agg [wN 1,wN 1],.agg [wN 1,wN 1]] false),(.agg [wI [0,1] false,wI [1,0] false,wI [1,0] false])],wN 0,false⟩
theorem Akq:YOk T 122 B5q:=zC (fM B6x fN) (by kernel_rfl)
def B5r:AnsY:=⟨278,[(.slice (some 2) [.agg [wN 1,wN 1],.agg [wN 1,wN 1]] false),(.agg [wI [0,1] false,wI [1,0] false,wI [1,0] false])],(.tuple [(.slice (some 2) [] false),wN 13]),false⟩
theorem B6y:YOk T 183 B5r:=zC (fM Akq fN) (by kernel_rfl)
def B5s:AnsY:=⟨282,[wI [0,2,3,1] false],wI [0,2,3,1] false,false⟩
theorem B6z:YOk T 61 B5s:=zC fN (by kernel_rfl)
def B5t:AnsY:=⟨366,[(.slice (some 2) [.agg [wN 1,wN 1],.agg [wN 1,wN 1]] false),(.agg [wI [0,1] false,wI [1,0] false,wI [1,0] false])],(.tuple [(.ptr [wI [0,1] false,wI [1,0] false,wI [1,0] false,(.fmap [] [])] 0),wN 0]),false⟩
theorem Acm:YOk T 183 B5t:=zC (fM Akq fN) (by kernel_rfl)
def B5u:AnsY:=⟨146,[wI [0,2,3,1] false,(.clo 367 [] [(.ptr [(.slice (some 2) [.agg [wN 1,wN 1],.agg [wN 1,wN 1]] false)] 0)])],(wN (-1)),false⟩
theorem B7a:YOk T 61 B5u:=zC fN (by kernel_rfl)
def B5v:AnsY:=⟨281,[(.slice (some 2) [.agg [wN 1,wN 1],.agg [wN 1,wN 1]] false),(.agg [wI [0,1] false,wI [1,0] false,wI [1,0] false]),wI [0,2,3,1] false],wN 0,false⟩
theorem B7b:YOk T 244 B5v:=zC (fM Acm (fM B7a fN)) (by kernel_rfl)
def B5w:AnsY:=⟨282,[wI [0,2] false],wI [0,2] false,false⟩
theorem B7c:YOk T 61 B5w:=zC fN (by kernel_rfl)
def B5x:AnsY:=⟨146,[wI [0,2] false,(.clo 367 [] [(.ptr [(.slice (some 2) [.agg [wN 1,wN 1],.agg [wN 1,wN 1]] false)] 0)])],(wN (-1)),false⟩
theorem B7d:YOk T 61 B5x:=zC fN (by kernel_rfl)
def B5y:AnsY:=⟨281,[(.slice (some 2) [.agg [wN 1,wN 1],.agg [wN 1,wN 1]] false),(.agg [wI [0,1] false,wI [1,0] false,wI [1,0] false]),wI [0,2] false],wN 14,false⟩
theorem B7e:YOk T 244 B5y:=zC (fM Acm (fM B7d fN)) (by kernel_rfl)
def B5z:AnsY:=⟨370,[(.ptr [wI [0,1] false,wI [1,0] false,wI [1,0] false,(.fmap [] [])] 0)],wI [2,3,1,0] false,false⟩
theorem B7f:YOk T 61 B5z:=zC fN (by kernel_rfl)
def B6a:AnsY:=⟨283,[(.slice (some 2) [.agg [wN 1,wN 1],.agg [wN 1,wN 1]] false),(.agg [wI [0,1] false,wI [1,0] false,wI [1,0] false])],(.tuple [wI [2,3,1,0] false,wN 0]),false⟩
theorem B7g:YOk T 244 B6a:=zC (fM Acm (fM B7f fN)) (by kernel_rfl)
def B6b:AnsY:=⟨426,[(.slice (some 2) [.agg [wN 3,wN 4],.agg [wN 5,wN 2],.agg [wN 4,wN 6]] false),(.agg [wI [0,1,2] false,wI [2,0,1] false,wI [0,0,1] false])],wN 0,false⟩
theorem B7h:YOk T 122 B6b:=zC (fM Yb fN) (by kernel_rfl)
def B6c:AnsY:=⟨366,[(.slice (some 2) [.agg [wN 3,wN 4],.agg [wN 5,wN 2],.agg [wN 4,wN 6]] false),(.agg [wI [0,1,2] false,wI [2,0,1] false,wI [0,0,1] false])],(.tuple [(.ptr [wI [0,1,2] false,wI [2,0,1] false,wI [0,0,1] false,(.fmap [.agg [wN 0],.agg [wN 2],.agg [wN 5],.agg [wN 1],.agg [wN 3],.agg [wN 4]] [wN 3,wN 8,wN 6,wN 10,wN 12,wN 12])] 0),wN 0]),false⟩
theorem B7i:YOk T 183 B6c:=zC (fM B7h fN) (by kernel_rfl)
def B6d:AnsY:=⟨283,[(.slice (some 2) [.agg [wN 3,wN 4],.agg [wN 5,wN 2],.agg [wN 4,wN 6]] false),(.agg [wI [0,1,2] false,wI [2,0,1] false,wI [0,0,1] false])],(.tuple [wI [] false,wN 5]),false⟩
theorem B7j:YOk T 244 B6d:=zC (fM B7i fN) (by kernel_rfl)
def B6e:AnsY:=⟨274,[(.slice (some 2) [.agg [wN 3,wN 4],.agg [wN 5,wN 2],.agg [wN 4,wN 6]] false),wN 3,wN 0],(.tuple [wN 0,wN 2]),false⟩
theorem B7k:YOk T 122 B6e:=zC (fM Yb fN) (by kernel_rfl)
def B6f:AnsY:=⟨374,[(.slice (some 2) [.agg [wN 3,wN 4],.agg [wN 5,wN 2],.agg [wN 4,wN 6]] false),(.slice (some 2) [.agg [wN 0,wN 6],.agg [wN 3,wN 10],.agg [wN 8,wN 0]] false)],wN 12,false⟩
theorem B7l:YOk T 61 B6f:=zC fN (by kernel_rfl)
def B6g:AnsY:=⟨284,[(.slice (some 2) [.agg [wN 3,wN 4],.agg [wN 5,wN 2],.agg [wN 4,wN 6]] false),(.slice (some 2) [.agg [wN 0,wN 6],.agg [wN 3,wN 10],.agg [wN 8,wN 0]] false)],(.tuple [wN 12,wN 0]),false⟩
theorem B7m:YOk T 122 B6g:=zC (fM B7l fN) (by kernel_rfl)
def B6h:AnsY:=⟨285,[(.slice (some 2) [.agg [wN 0,wN 6],.agg [wN 3,wN 10],.agg [wN 8,wN 0]] false),(.slice (some 2) [.agg [wN 0,wN 6],.agg [wN 3,wN 10],.agg [wN 8,wN 0]] false)],(.bool true),false⟩
theorem B7n:YOk T 61 B6h:=zC fN (by kernel_rfl)
def B6i:AnsY:=⟨286,[(.slice (some 2) [.agg [wN 1,wN 1],.agg [wN 1,wN 1]] false),(.agg [wI [0,1] false,wI [1,0] false,wI [1,0] false]),wI [2,3,1,0] false],wN 0,false⟩
theorem B7o:YOk T 61 B6i:=zC fN (by kernel_rfl)
def B6j:AnsY:=⟨198,[],(.bool true),false⟩
theorem B7p:YOk T 2122 B6j:=zC (fM Bpm (fM Bpn (fM Bpo (fM Bpp (fM Bpr (fM Bps (fM Atc (fM B6k (fM B6m (fM B6n (fM B6p (fM B6q (fM B6s (fM B6u (fM B6v (fM Akp (fM B6w (fM B6y (fM B6z (fM B7b (fM B7c (fM B7e (fM B7g (fM B7j (fM B7k (fM B7m (fM B7n (fM B7o fN)))))))))))))))))))))))))))) (by kernel_rfl)
theorem Apo:YOk T 2122 ⟨198,[],.bool true,false⟩:=B7p
end Go.Ev.YtofpilpmiddpgaaGreatC
