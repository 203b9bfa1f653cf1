/- The works of a layer's examples, each call reckoned by the kernel, and joined. No condition but those that stand in each. -/
import Derived.Test.YtbgodhhdojjbmaaGreatPTopW
import Derived.Test.YtbgodhhdojjbmaaGreatPTopPlx
set_option linter.unusedSimpArgs false
set_option linter.unusedVariables false
set_option maxRecDepth 100000
namespace Go.Ev.YtbgodhhdojjbmaaGreatC
open Go Go.Proofs
def Bxm:AnsY:=⟨353,[wI [3,4,5,2,4,6] false],(.slice (some 2) [.agg [wN 3,wN 4],.agg [wN 5,wN 2],.agg [wN 4,wN 6]] false),false⟩
theorem Bxw:YOk T 61 Bxm:=zC fN (by kernel_rfl)
def Bxn:AnsY:=⟨353,[wI [3,4] false],(.slice (some 2) [.agg [wN 3,wN 4]] false),false⟩
theorem Bxx:YOk T 61 Bxn:=zC fN (by kernel_rfl)
def Bxo:AnsY:=⟨353,[wI [1,1,1,1] false],(.slice (some 2) [.agg [wN 1,wN 1],.agg [wN 1,wN 1]] false),false⟩
theorem Bxy:YOk T 61 Bxo:=zC fN (by kernel_rfl)
def Bxp:AnsY:=⟨354,[wI [0,6,3,10,8,0] false],(.slice (some 2) [.agg [wN 0,wN 6],.agg [wN 3,wN 10],.agg [wN 8,wN 0]] false),false⟩
theorem Bxz:YOk T 61 Bxp:=zC fN (by kernel_rfl)
def Bxq:AnsY:=⟨515,[(.slice (some 2) [.agg [wN 3,wN 4],.agg [wN 5,wN 2],.agg [wN 4,wN 6]] false),(.clo 486 [] [])],(wN (-1)),false⟩
theorem Zy:YOk T 61 Bxq:=zC fN (by kernel_rfl)
def Bxr:AnsY:=⟨356,[(.slice (some 2) [.agg [wN 3,wN 4],.agg [wN 5,wN 2],.agg [wN 4,wN 6]] false)],(.tuple [wN 0,wN 0,wN 0]),false⟩
theorem Bya:YOk T 122 Bxr:=zC (fM Zy fN) (by kernel_rfl)
def Bxs:AnsY:=⟨355,[(.slice (some 2) [.agg [wN 3,wN 4],.agg [wN 5,wN 2],.agg [wN 4,wN 6]] false)],(.tuple [wN 12,wN 0]),false⟩
theorem Byb:YOk T 183 Bxs:=zC (fM Bya fN) (by kernel_rfl)
def Bxt:AnsY:=⟨430,[(.slice (some 2) [.agg [wN 3,wN 4]] false)],wN 0,false⟩
theorem Awd:YOk T 61 Bxt:=zC fN (by kernel_rfl)
def Bxu:AnsY:=⟨356,[(.slice (some 2) [.agg [wN 3,wN 4]] false)],(.tuple [wN 2,wN 0,wN 0]),false⟩
theorem Awe:YOk T 122 Bxu:=zC (fM Awd fN) (by kernel_rfl)
def Bxv:AnsY:=⟨355,[(.slice (some 2) [.agg [wN 3,wN 4]] false)],(.tuple [wN 7,wN 0]),false⟩
theorem Byc:YOk T 183 Bxv:=zC (fM Awe fN) (by kernel_rfl)
def B8g:AnsY:=⟨357,[(.slice (some 2) [.agg [wN 3,wN 4],.agg [wN 5,wN 2],.agg [wN 4,wN 6]] false),wN 2,wN 2],(.tuple [wN 10,wN 0]),false⟩
theorem B9o:YOk T 122 B8g:=zC (fM Zy fN) (by kernel_rfl)
def B8h:AnsY:=⟨489,[(.slice (some 2) [.agg [wN 0,wN 6],.agg [wN 3,wN 10],.agg [wN 8,wN 0]] false),(.clo 435 [] [])],(wN (-1)),false⟩
theorem B9p:YOk T 61 B8h:=zC fN (by kernel_rfl)
def B8i:AnsY:=⟨358,[(.slice (some 2) [.agg [wN 3,wN 4],.agg [wN 5,wN 2],.agg [wN 4,wN 6]] false),(.slice (some 2) [.agg [wN 0,wN 6],.agg [wN 3,wN 10],.agg [wN 8,wN 0]] false)],(.tuple [wN 12,wN 0]),false⟩
theorem B9q:YOk T 122 B8i:=zC (fM Zy (fM B9p fN)) (by kernel_rfl)
def B8j:AnsY:=⟨354,[wI [0,6,3,10,7,0] false],(.slice (some 2) [.agg [wN 0,wN 6],.agg [wN 3,wN 10],.agg [wN 7,wN 0]] false),false⟩
theorem B9r:YOk T 61 B8j:=zC fN (by kernel_rfl)
def B8k:AnsY:=⟨489,[(.slice (some 2) [.agg [wN 0,wN 6],.agg [wN 3,wN 10],.agg [wN 7,wN 0]] false),(.clo 435 [] [])],(wN (-1)),false⟩
theorem B9s:YOk T 61 B8k:=zC fN (by kernel_rfl)
def B8l:AnsY:=⟨358,[(.slice (some 2) [.agg [wN 3,wN 4],.agg [wN 5,wN 2],.agg [wN 4,wN 6]] false),(.slice (some 2) [.agg [wN 0,wN 6],.agg [wN 3,wN 10],.agg [wN 7,wN 0]] false)],(.tuple [wN 0,wN 16]),false⟩
theorem B9t:YOk T 122 B8l:=zC (fM Zy (fM B9s fN)) (by kernel_rfl)
def B8m:AnsY:=⟨354,[wI [0,5] false],(.slice (some 2) [.agg [wN 0,wN 5]] false),false⟩
theorem B9u:YOk T 61 B8m:=zC fN (by kernel_rfl)
def B8n:AnsY:=⟨358,[(.slice (some 2) [.agg [wN 3,wN 4]] false),(.slice (some 2) [.agg [wN 0,wN 5]] false)],(.tuple [wN 9,wN 0]),false⟩
theorem B9v:YOk T 122 B8n:=zC (fM Awd fN) (by kernel_rfl)
def B8o:AnsY:=⟨359,[(.slice (some 2) [.agg [wN 3,wN 4]] false),(.slice (some 2) [.agg [wN 0,wN 5]] false),wN 1],(.tuple [wN 5,wN 0]),false⟩
theorem B9w:YOk T 183 B8o:=zC (fM B9v fN) (by kernel_rfl)
def B8p:AnsY:=⟨440,[(.slice (some 2) [.agg [wN 3,wN 4],.agg [wN 5,wN 2],.agg [wN 4,wN 6]] false)],(.agg [wI [0,1,2] false,wI [2,0,1] false,wI [0,0,1] false]),false⟩
theorem B9x:YOk T 61 B8p:=zC fN (by kernel_rfl)
def B8q:AnsY:=⟨360,[(.slice (some 2) [.agg [wN 3,wN 4],.agg [wN 5,wN 2],.agg [wN 4,wN 6]] false)],(.tuple [(.slice (some 2) [.agg [wN 0,wN 6],.agg [wN 3,wN 10],.agg [wN 8,wN 0]] false),wN 0]),false⟩
theorem B9y:YOk T 2061 B8q:=zC (fM Zy (fM B9x (fM Ane fN))) (by kernel_rfl)
def B8r:AnsY:=⟨362,[],(.agg [wI [0,1,2] false,wI [2,0,1] false,wI [0,0,1] false]),false⟩
theorem B9z:YOk T 61 B8r:=zC fN (by kernel_rfl)
def B8s:AnsY:=⟨363,[],(.agg [wI [0,1] false,wI [1,0] false,wI [1,0] false]),false⟩
theorem Baa:YOk T 61 B8s:=zC fN (by kernel_rfl)
def B8t:AnsY:=⟨515,[(.slice (some 2) [.agg [wN 1,wN 1],.agg [wN 1,wN 1]] false),(.clo 486 [] [])],(wN (-1)),false⟩
theorem Bab:YOk T 61 B8t:=zC fN (by kernel_rfl)
def B8u:AnsY:=⟨495,[(.slice (some 2) [.agg [wN 1,wN 1],.agg [wN 1,wN 1]] false),(.agg [wI [0,1] false,wI [1,0] false,wI [1,0] false])],wN 0,false⟩
theorem Anf:YOk T 122 B8u:=zC (fM Bab fN) (by kernel_rfl)
def B8v:AnsY:=⟨361,[(.slice (some 2) [.agg [wN 1,wN 1],.agg [wN 1,wN 1]] false),(.agg [wI [0,1] false,wI [1,0] false,wI [1,0] false])],(.tuple [(.slice (some 2) [] false),wN 13]),false⟩
theorem Bac:YOk T 183 B8v:=zC (fM Anf fN) (by kernel_rfl)
def B8w:AnsY:=⟨365,[wI [0,2,3,1] false],wI [0,2,3,1] false,false⟩
theorem Bad:YOk T 61 B8w:=zC fN (by kernel_rfl)
def B8x:AnsY:=⟨441,[(.slice (some 2) [.agg [wN 1,wN 1],.agg [wN 1,wN 1]] false),(.agg [wI [0,1] false,wI [1,0] false,wI [1,0] false])],(.tuple [(.ptr [wI [0,1] false,wI [1,0] false,wI [1,0] false,(.fmap [] [])] 0),wN 0]),false⟩
theorem Aeb:YOk T 183 B8x:=zC (fM Anf fN) (by kernel_rfl)
def B8y:AnsY:=⟨131,[wI [0,2,3,1] false,(.clo 442 [] [(.ptr [(.slice (some 2) [.agg [wN 1,wN 1],.agg [wN 1,wN 1]] false)] 0)])],(wN (-1)),false⟩
theorem Bae:YOk T 61 B8y:=zC fN (by kernel_rfl)
def B8z:AnsY:=⟨364,[(.slice (some 2) [.agg [wN 1,wN 1],.agg [wN 1,wN 1]] false),(.agg [wI [0,1] false,wI [1,0] false,wI [1,0] false]),wI [0,2,3,1] false],wN 0,false⟩
theorem Baf:YOk T 244 B8z:=zC (fM Aeb (fM Bae fN)) (by kernel_rfl)
def B9a:AnsY:=⟨365,[wI [0,2] false],wI [0,2] false,false⟩
theorem Bag:YOk T 61 B9a:=zC fN (by kernel_rfl)
def B9b:AnsY:=⟨131,[wI [0,2] false,(.clo 442 [] [(.ptr [(.slice (some 2) [.agg [wN 1,wN 1],.agg [wN 1,wN 1]] false)] 0)])],(wN (-1)),false⟩
theorem Bah:YOk T 61 B9b:=zC fN (by kernel_rfl)
def B9c:AnsY:=⟨364,[(.slice (some 2) [.agg [wN 1,wN 1],.agg [wN 1,wN 1]] false),(.agg [wI [0,1] false,wI [1,0] false,wI [1,0] false]),wI [0,2] false],wN 14,false⟩
theorem Bai:YOk T 244 B9c:=zC (fM Aeb (fM Bah fN)) (by kernel_rfl)
def B9d:AnsY:=⟨444,[(.ptr [wI [0,1] false,wI [1,0] false,wI [1,0] false,(.fmap [] [])] 0)],wI [2,3,1,0] false,false⟩
theorem Baj:YOk T 61 B9d:=zC fN (by kernel_rfl)
def B9e:AnsY:=⟨366,[(.slice (some 2) [.agg [wN 1,wN 1],.agg [wN 1,wN 1]] false),(.agg [wI [0,1] false,wI [1,0] false,wI [1,0] false])],(.tuple [wI [2,3,1,0] false,wN 0]),false⟩
theorem Bak:YOk T 244 B9e:=zC (fM Aeb (fM Baj fN)) (by kernel_rfl)
def B9f:AnsY:=⟨495,[(.slice (some 2) [.agg [wN 3,wN 4],.agg [wN 5,wN 2],.agg [wN 4,wN 6]] false),(.agg [wI [0,1,2] false,wI [2,0,1] false,wI [0,0,1] false])],wN 0,false⟩
theorem Bal:YOk T 122 B9f:=zC (fM Zy fN) (by kernel_rfl)
def B9g:AnsY:=⟨441,[(.slice (some 2) [.agg [wN 3,wN 4],.agg [wN 5,wN 2],.agg [wN 4,wN 6]] false),(.agg [wI [0,1,2] false,wI [2,0,1] false,wI [0,0,1] false])],(.tuple [(.ptr [wI [0,1,2] false,wI [2,0,1] false,wI [0,0,1] false,(.fmap [.agg [wN 0],.agg [wN 2],.agg [wN 5],.agg [wN 1],.agg [wN 3],.agg [wN 4]] [wN 3,wN 8,wN 6,wN 10,wN 12,wN 12])] 0),wN 0]),false⟩
theorem Bam:YOk T 183 B9g:=zC (fM Bal fN) (by kernel_rfl)
def B9h:AnsY:=⟨366,[(.slice (some 2) [.agg [wN 3,wN 4],.agg [wN 5,wN 2],.agg [wN 4,wN 6]] false),(.agg [wI [0,1,2] false,wI [2,0,1] false,wI [0,0,1] false])],(.tuple [wI [] false,wN 5]),false⟩
theorem Ban:YOk T 244 B9h:=zC (fM Bam fN) (by kernel_rfl)
def B9i:AnsY:=⟨357,[(.slice (some 2) [.agg [wN 3,wN 4],.agg [wN 5,wN 2],.agg [wN 4,wN 6]] false),wN 3,wN 0],(.tuple [wN 0,wN 2]),false⟩
theorem Bao:YOk T 122 B9i:=zC (fM Zy fN) (by kernel_rfl)
def B9j:AnsY:=⟨448,[(.slice (some 2) [.agg [wN 3,wN 4],.agg [wN 5,wN 2],.agg [wN 4,wN 6]] false),(.slice (some 2) [.agg [wN 0,wN 6],.agg [wN 3,wN 10],.agg [wN 8,wN 0]] false)],wN 12,false⟩
theorem Bap:YOk T 61 B9j:=zC fN (by kernel_rfl)
def B9k:AnsY:=⟨367,[(.slice (some 2) [.agg [wN 3,wN 4],.agg [wN 5,wN 2],.agg [wN 4,wN 6]] false),(.slice (some 2) [.agg [wN 0,wN 6],.agg [wN 3,wN 10],.agg [wN 8,wN 0]] false)],(.tuple [wN 12,wN 0]),false⟩
theorem Baq:YOk T 122 B9k:=zC (fM Bap fN) (by kernel_rfl)
def B9l:AnsY:=⟨368,[(.slice (some 2) [.agg [wN 0,wN 6],.agg [wN 3,wN 10],.agg [wN 8,wN 0]] false),(.slice (some 2) [.agg [wN 0,wN 6],.agg [wN 3,wN 10],.agg [wN 8,wN 0]] false)],(.bool true),false⟩
theorem Bas:YOk T 61 B9l:=zC fN (by kernel_rfl)
def B9m:AnsY:=⟨369,[(.slice (some 2) [.agg [wN 1,wN 1],.agg [wN 1,wN 1]] false),(.agg [wI [0,1] false,wI [1,0] false,wI [1,0] false]),wI [2,3,1,0] false],wN 0,false⟩
theorem Bat:YOk T 61 B9m:=zC fN (by kernel_rfl)
def B9n:AnsY:=⟨286,[],(.bool true),false⟩
theorem Bau:YOk T 2122 B9n:=zC (fM Bxw (fM Bxx (fM Bxy (fM Bxz (fM Byb (fM Byc (fM Awe (fM B9o (fM B9q (fM B9r (fM B9t (fM B9u (fM B9w (fM B9y (fM B9z (fM Ane (fM Baa (fM Bac (fM Bad (fM Baf (fM Bag (fM Bai (fM Bak (fM Ban (fM Bao (fM Baq (fM Bas (fM Bat fN)))))))))))))))))))))))))))) (by kernel_rfl)
theorem Asj:YOk T 2122 ⟨286,[],.bool true,false⟩:=Bau
end Go.Ev.YtbgodhhdojjbmaaGreatC
