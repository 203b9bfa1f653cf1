/- The works of a layer's examples, each call reckoned by the kernel, and joined. No condition but those that stand in each. -/
import Derived.Test.YtofpilpmiddpgaaGreatRTopW
import Derived.Test.YtofpilpmiddpgaaGreatRTopPlx
set_option linter.unusedSimpArgs false
set_option linter.unusedVariables false
set_option maxRecDepth 100000
namespace Go.Ev.YtofpilpmiddpgaaGreatC
open Go Go.Proofs
def Bnz:AnsY:=⟨270,[wI [3,4,5,2,4,6] false],(.slice (some 2) [.agg [wN 3,wN 4],.agg [wN 5,wN 2],.agg [wN 4,wN 6]] false),false⟩
theorem Boj:YOk T 61 Bnz:=zC fN (by kernel_rfl)
def Boa:AnsY:=⟨270,[wI [3,4] false],(.slice (some 2) [.agg [wN 3,wN 4]] false),false⟩
theorem Bok:YOk T 61 Boa:=zC fN (by kernel_rfl)
def Bob:AnsY:=⟨270,[wI [1,1,1,1] false],(.slice (some 2) [.agg [wN 1,wN 1],.agg [wN 1,wN 1]] false),false⟩
theorem Bol:YOk T 61 Bob:=zC fN (by kernel_rfl)
def Boc:AnsY:=⟨271,[wI [0,6,3,10,8,0] false],(.slice (some 2) [.agg [wN 0,wN 6],.agg [wN 3,wN 10],.agg [wN 8,wN 0]] false),false⟩
theorem Bom:YOk T 61 Boc:=zC fN (by kernel_rfl)
def Bod:AnsY:=⟨447,[(.slice (some 2) [.agg [wN 3,wN 4],.agg [wN 5,wN 2],.agg [wN 4,wN 6]] false),(.clo 417 [] [])],(wN (-1)),false⟩
theorem Xv:YOk T 61 Bod:=zC fN (by kernel_rfl)
def Boe:AnsY:=⟨273,[(.slice (some 2) [.agg [wN 3,wN 4],.agg [wN 5,wN 2],.agg [wN 4,wN 6]] false)],(.tuple [wN 0,wN 0,wN 0]),false⟩
theorem Bon:YOk T 122 Boe:=zC (fM Xv fN) (by kernel_rfl)
def Bof:AnsY:=⟨272,[(.slice (some 2) [.agg [wN 3,wN 4],.agg [wN 5,wN 2],.agg [wN 4,wN 6]] false)],(.tuple [wN 12,wN 0]),false⟩
theorem Boo:YOk T 183 Bof:=zC (fM Bon fN) (by kernel_rfl)
def Bog:AnsY:=⟨355,[(.slice (some 2) [.agg [wN 3,wN 4]] false)],wN 0,false⟩
theorem Arx:YOk T 61 Bog:=zC fN (by kernel_rfl)
def Boh:AnsY:=⟨273,[(.slice (some 2) [.agg [wN 3,wN 4]] false)],(.tuple [wN 2,wN 0,wN 0]),false⟩
theorem Ary:YOk T 122 Boh:=zC (fM Arx fN) (by kernel_rfl)
def Boi:AnsY:=⟨272,[(.slice (some 2) [.agg [wN 3,wN 4]] false)],(.tuple [wN 7,wN 0]),false⟩
theorem Bop:YOk T 183 Boi:=zC (fM Ary fN) (by kernel_rfl)
def B3y:AnsY:=⟨274,[(.slice (some 2) [.agg [wN 3,wN 4],.agg [wN 5,wN 2],.agg [wN 4,wN 6]] false),wN 2,wN 2],(.tuple [wN 10,wN 0]),false⟩
theorem B5g:YOk T 122 B3y:=zC (fM Xv fN) (by kernel_rfl)
def B3z:AnsY:=⟨420,[(.slice (some 2) [.agg [wN 0,wN 6],.agg [wN 3,wN 10],.agg [wN 8,wN 0]] false),(.clo 360 [] [])],(wN (-1)),false⟩
theorem B5h:YOk T 61 B3z:=zC fN (by kernel_rfl)
def B4a:AnsY:=⟨275,[(.slice (some 2) [.agg [wN 3,wN 4],.agg [wN 5,wN 2],.agg [wN 4,wN 6]] false),(.slice (some 2) [.agg [wN 0,wN 6],.agg [wN 3,wN 10],.agg [wN 8,wN 0]] false)],(.tuple [wN 12,wN 0]),false⟩
theorem B5i:YOk T 122 B4a:=zC (fM Xv (fM B5h fN)) (by kernel_rfl)
def B4b:AnsY:=⟨271,[wI [0,6,3,10,7,0] false],(.slice (some 2) [.agg [wN 0,wN 6],.agg [wN 3,wN 10],.agg [wN 7,wN 0]] false),false⟩
theorem B5j:YOk T 61 B4b:=zC fN (by kernel_rfl)
def B4c:AnsY:=⟨420,[(.slice (some 2) [.agg [wN 0,wN 6],.agg [wN 3,wN 10],.agg [wN 7,wN 0]] false),(.clo 360 [] [])],(wN (-1)),false⟩
theorem B5k:YOk T 61 B4c:=zC fN (by kernel_rfl)
def B4d:AnsY:=⟨275,[(.slice (some 2) [.agg [wN 3,wN 4],.agg [wN 5,wN 2],.agg [wN 4,wN 6]] false),(.slice (some 2) [.agg [wN 0,wN 6],.agg [wN 3,wN 10],.agg [wN 7,wN 0]] false)],(.tuple [wN 0,wN 16]),false⟩
theorem B5l:YOk T 122 B4d:=zC (fM Xv (fM B5k fN)) (by kernel_rfl)
def B4e:AnsY:=⟨271,[wI [0,5] false],(.slice (some 2) [.agg [wN 0,wN 5]] false),false⟩
theorem B5m:YOk T 61 B4e:=zC fN (by kernel_rfl)
def B4f:AnsY:=⟨275,[(.slice (some 2) [.agg [wN 3,wN 4]] false),(.slice (some 2) [.agg [wN 0,wN 5]] false)],(.tuple [wN 9,wN 0]),false⟩
theorem B5n:YOk T 122 B4f:=zC (fM Arx fN) (by kernel_rfl)
def B4g:AnsY:=⟨276,[(.slice (some 2) [.agg [wN 3,wN 4]] false),(.slice (some 2) [.agg [wN 0,wN 5]] false),wN 1],(.tuple [wN 5,wN 0]),false⟩
theorem B5o:YOk T 183 B4g:=zC (fM B5n fN) (by kernel_rfl)
def B4h:AnsY:=⟨365,[(.slice (some 2) [.agg [wN 3,wN 4],.agg [wN 5,wN 2],.agg [wN 4,wN 6]] false)],(.agg [wI [0,1,2] false,wI [2,0,1] false,wI [0,0,1] false]),false⟩
theorem B5p:YOk T 61 B4h:=zC fN (by kernel_rfl)
def B4i:AnsY:=⟨277,[(.slice (some 2) [.agg [wN 3,wN 4],.agg [wN 5,wN 2],.agg [wN 4,wN 6]] false)],(.tuple [(.slice (some 2) [.agg [wN 0,wN 6],.agg [wN 3,wN 10],.agg [wN 8,wN 0]] false),wN 0]),false⟩
theorem B5q:YOk T 2061 B4i:=zC (fM Xv (fM B5p (fM Ajv fN))) (by kernel_rfl)
def B4j:AnsY:=⟨279,[],(.agg [wI [0,1,2] false,wI [2,0,1] false,wI [0,0,1] false]),false⟩
theorem B5r:YOk T 61 B4j:=zC fN (by kernel_rfl)
def B4k:AnsY:=⟨280,[],(.agg [wI [0,1] false,wI [1,0] false,wI [1,0] false]),false⟩
theorem B5s:YOk T 61 B4k:=zC fN (by kernel_rfl)
def B4l:AnsY:=⟨447,[(.slice (some 2) [.agg [wN 1,wN 1],.agg [wN 1,wN 1]] false),(.clo 417 [] [])],(wN (-1)),false⟩
theorem B5t:YOk T 61 B4l:=zC fN (by kernel_rfl)
def B4m:AnsY:=⟨426,[(.slice (some 2) [.agg [wN 1,wN 1],.agg [wN 1,wN 1]] false),(.agg [wI [0,1] false,wI [1,0] false,wI [1,0] false])],wN 0,false⟩
theorem Ajw:YOk T 122 B4m:=zC (fM B5t fN) (by kernel_rfl)
def B4n:AnsY:=⟨278,[(.slice (some 2) [.agg [wN 1,wN 1],.agg [wN 1,wN 1]] false),(.agg [wI [0,1] false,wI [1,0] false,wI [1,0] false])],(.tuple [(.slice (some 2) [] false),wN 13]),false⟩
theorem B5u:YOk T 183 B4n:=zC (fM Ajw fN) (by kernel_rfl)
def B4o:AnsY:=⟨282,[wI [0,2,3,1] false],wI [0,2,3,1] false,false⟩
theorem B5v:YOk T 61 B4o:=zC fN (by kernel_rfl)
def B4p:AnsY:=⟨366,[(.slice (some 2) [.agg [wN 1,wN 1],.agg [wN 1,wN 1]] false),(.agg [wI [0,1] false,wI [1,0] false,wI [1,0] false])],(.tuple [(.ptr [wI [0,1] false,wI [1,0] false,wI [1,0] false,(.fmap [] [])] 0),wN 0]),false⟩
theorem Aby:YOk T 183 B4p:=zC (fM Ajw fN) (by kernel_rfl)
def B4q:AnsY:=⟨146,[wI [0,2,3,1] false,(.clo 367 [] [(.ptr [(.slice (some 2) [.agg [wN 1,wN 1],.agg [wN 1,wN 1]] false)] 0)])],(wN (-1)),false⟩
theorem B5w:YOk T 61 B4q:=zC fN (by kernel_rfl)
def B4r:AnsY:=⟨281,[(.slice (some 2) [.agg [wN 1,wN 1],.agg [wN 1,wN 1]] false),(.agg [wI [0,1] false,wI [1,0] false,wI [1,0] false]),wI [0,2,3,1] false],wN 0,false⟩
theorem B5x:YOk T 244 B4r:=zC (fM Aby (fM B5w fN)) (by kernel_rfl)
def B4s:AnsY:=⟨282,[wI [0,2] false],wI [0,2] false,false⟩
theorem B5y:YOk T 61 B4s:=zC fN (by kernel_rfl)
def B4t:AnsY:=⟨146,[wI [0,2] false,(.clo 367 [] [(.ptr [(.slice (some 2) [.agg [wN 1,wN 1],.agg [wN 1,wN 1]] false)] 0)])],(wN (-1)),false⟩
theorem B5z:YOk T 61 B4t:=zC fN (by kernel_rfl)
def B4u:AnsY:=⟨281,[(.slice (some 2) [.agg [wN 1,wN 1],.agg [wN 1,wN 1]] false),(.agg [wI [0,1] false,wI [1,0] false,wI [1,0] false]),wI [0,2] false],wN 14,false⟩
theorem B6a:YOk T 244 B4u:=zC (fM Aby (fM B5z fN)) (by kernel_rfl)
def B4v:AnsY:=⟨370,[(.ptr [wI [0,1] false,wI [1,0] false,wI [1,0] false,(.fmap [] [])] 0)],wI [2,3,1,0] false,false⟩
theorem B6b:YOk T 61 B4v:=zC fN (by kernel_rfl)
def B4w:AnsY:=⟨283,[(.slice (some 2) [.agg [wN 1,wN 1],.agg [wN 1,wN 1]] false),(.agg [wI [0,1] false,wI [1,0] false,wI [1,0] false])],(.tuple [wI [2,3,1,0] false,wN 0]),false⟩
theorem B6c:YOk T 244 B4w:=zC (fM Aby (fM B6b fN)) (by kernel_rfl)
def B4x:AnsY:=⟨426,[(.slice (some 2) [.agg [wN 3,wN 4],.agg [wN 5,wN 2],.agg [wN 4,wN 6]] false),(.agg [wI [0,1,2] false,wI [2,0,1] false,wI [0,0,1] false])],wN 0,false⟩
theorem B6d:YOk T 122 B4x:=zC (fM Xv fN) (by kernel_rfl)
def B4y:AnsY:=⟨366,[(.slice (some 2) [.agg [wN 3,wN 4],.agg [wN 5,wN 2],.agg [wN 4,wN 6]] false),(.agg [wI [0,1,2] false,wI [2,0,1] false,wI [0,0,1] false])],(.tuple [(.ptr [wI [0,1,2] false,wI [2,0,1] false,wI [0,0,1] false,(.fmap [.agg [wN 0],.agg [wN 2],.agg [wN 5],.agg [wN 1],.agg [wN 3],.agg [wN 4]] [wN 3,wN 8,wN 6,wN 10,wN 12,wN 12])] 0),wN 0]),false⟩
theorem B6e:YOk T 183 B4y:=zC (fM B6d fN) (by kernel_rfl)
def B4z:AnsY:=⟨283,[(.slice (some 2) [.agg [wN 3,wN 4],.agg [wN 5,wN 2],.agg [wN 4,wN 6]] false),(.agg [wI [0,1,2] false,wI [2,0,1] false,wI [0,0,1] false])],(.tuple [wI [] false,wN 5]),false⟩
theorem B6f:YOk T 244 B4z:=zC (fM B6e fN) (by kernel_rfl)
def B5a:AnsY:=⟨274,[(.slice (some 2) [.agg [wN 3,wN 4],.agg [wN 5,wN 2],.agg [wN 4,wN 6]] false),wN 3,wN 0],(.tuple [wN 0,wN 2]),false⟩
theorem B6g:YOk T 122 B5a:=zC (fM Xv fN) (by kernel_rfl)
def B5b:AnsY:=⟨374,[(.slice (some 2) [.agg [wN 3,wN 4],.agg [wN 5,wN 2],.agg [wN 4,wN 6]] false),(.slice (some 2) [.agg [wN 0,wN 6],.agg [wN 3,wN 10],.agg [wN 8,wN 0]] false)],wN 12,false⟩
theorem B6h:YOk T 61 B5b:=zC fN (by kernel_rfl)
def B5c:AnsY:=⟨284,[(.slice (some 2) [.agg [wN 3,wN 4],.agg [wN 5,wN 2],.agg [wN 4,wN 6]] false),(.slice (some 2) [.agg [wN 0,wN 6],.agg [wN 3,wN 10],.agg [wN 8,wN 0]] false)],(.tuple [wN 12,wN 0]),false⟩
theorem B6i:YOk T 122 B5c:=zC (fM B6h fN) (by kernel_rfl)
def B5d:AnsY:=⟨285,[(.slice (some 2) [.agg [wN 0,wN 6],.agg [wN 3,wN 10],.agg [wN 8,wN 0]] false),(.slice (some 2) [.agg [wN 0,wN 6],.agg [wN 3,wN 10],.agg [wN 8,wN 0]] false)],(.bool true),false⟩
theorem B6j:YOk T 61 B5d:=zC fN (by kernel_rfl)
def B5e:AnsY:=⟨286,[(.slice (some 2) [.agg [wN 1,wN 1],.agg [wN 1,wN 1]] false),(.agg [wI [0,1] false,wI [1,0] false,wI [1,0] false]),wI [2,3,1,0] false],wN 0,false⟩
theorem B6k:YOk T 61 B5e:=zC fN (by kernel_rfl)
def B5f:AnsY:=⟨198,[],(.bool true),false⟩
theorem B6l:YOk T 2122 B5f:=zC (fM Boj (fM Bok (fM Bol (fM Bom (fM Boo (fM Bop (fM Ary (fM B5g (fM B5i (fM B5j (fM B5l (fM B5m (fM B5o (fM B5q (fM B5r (fM Ajv (fM B5s (fM B5u (fM B5v (fM B5x (fM B5y (fM B6a (fM B6c (fM B6f (fM B6g (fM B6i (fM B6j (fM B6k fN)))))))))))))))))))))))))))) (by kernel_rfl)
theorem Aoj:YOk T 2122 ⟨198,[],.bool true,false⟩:=B6l
end Go.Ev.YtofpilpmiddpgaaGreatC
