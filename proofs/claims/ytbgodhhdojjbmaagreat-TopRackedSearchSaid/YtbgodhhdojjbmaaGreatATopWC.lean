/- The works of a layer's examples, each call reckoned by the kernel, and joined. No condition but those that stand in each. -/
import Derived.Test.YtbgodhhdojjbmaaGreatATopW
import Derived.Test.YtbgodhhdojjbmaaGreatATopPlx
set_option linter.unusedSimpArgs false
set_option linter.unusedVariables false
set_option maxRecDepth 100000
namespace Go.Ev.YtbgodhhdojjbmaaGreatC
open Go Go.Proofs
def C9g:AnsY:=⟨353,[wI [3,4,5,2,4,6] false],(.slice (some 2) [.agg [wN 3,wN 4],.agg [wN 5,wN 2],.agg [wN 4,wN 6]] false),false⟩
theorem C9q:YOk T 61 C9g:=zC fN (by kernel_rfl)
def C9h:AnsY:=⟨353,[wI [3,4] false],(.slice (some 2) [.agg [wN 3,wN 4]] false),false⟩
theorem C9r:YOk T 61 C9h:=zC fN (by kernel_rfl)
def C9i:AnsY:=⟨353,[wI [1,1,1,1] false],(.slice (some 2) [.agg [wN 1,wN 1],.agg [wN 1,wN 1]] false),false⟩
theorem C9s:YOk T 61 C9i:=zC fN (by kernel_rfl)
def C9j:AnsY:=⟨354,[wI [0,6,3,10,8,0] false],(.slice (some 2) [.agg [wN 0,wN 6],.agg [wN 3,wN 10],.agg [wN 8,wN 0]] false),false⟩
theorem C9t:YOk T 61 C9j:=zC fN (by kernel_rfl)
def C9k:AnsY:=⟨515,[(.slice (some 2) [.agg [wN 3,wN 4],.agg [wN 5,wN 2],.agg [wN 4,wN 6]] false),(.clo 486 [] [])],(wN (-1)),false⟩
theorem Zz:YOk T 61 C9k:=zC fN (by kernel_rfl)
def C9l:AnsY:=⟨356,[(.slice (some 2) [.agg [wN 3,wN 4],.agg [wN 5,wN 2],.agg [wN 4,wN 6]] false)],(.tuple [wN 0,wN 0,wN 0]),false⟩
theorem C9u:YOk T 122 C9l:=zC (fM Zz fN) (by kernel_rfl)
def C9m:AnsY:=⟨355,[(.slice (some 2) [.agg [wN 3,wN 4],.agg [wN 5,wN 2],.agg [wN 4,wN 6]] false)],(.tuple [wN 12,wN 0]),false⟩
theorem C9v:YOk T 183 C9m:=zC (fM C9u fN) (by kernel_rfl)
def C9n:AnsY:=⟨430,[(.slice (some 2) [.agg [wN 3,wN 4]] false)],wN 0,false⟩
theorem B0j:YOk T 61 C9n:=zC fN (by kernel_rfl)
def C9o:AnsY:=⟨356,[(.slice (some 2) [.agg [wN 3,wN 4]] false)],(.tuple [wN 2,wN 0,wN 0]),false⟩
theorem B0k:YOk T 122 C9o:=zC (fM B0j fN) (by kernel_rfl)
def C9p:AnsY:=⟨355,[(.slice (some 2) [.agg [wN 3,wN 4]] false)],(.tuple [wN 7,wN 0]),false⟩
theorem C9w:YOk T 183 C9p:=zC (fM B0k fN) (by kernel_rfl)
def Bhn:AnsY:=⟨357,[(.slice (some 2) [.agg [wN 3,wN 4],.agg [wN 5,wN 2],.agg [wN 4,wN 6]] false),wN 2,wN 2],(.tuple [wN 10,wN 0]),false⟩
theorem Biv:YOk T 122 Bhn:=zC (fM Zz fN) (by kernel_rfl)
def Bho:AnsY:=⟨489,[(.slice (some 2) [.agg [wN 0,wN 6],.agg [wN 3,wN 10],.agg [wN 8,wN 0]] false),(.clo 435 [] [])],(wN (-1)),false⟩
theorem Biw:YOk T 61 Bho:=zC fN (by kernel_rfl)
def Bhp:AnsY:=⟨358,[(.slice (some 2) [.agg [wN 3,wN 4],.agg [wN 5,wN 2],.agg [wN 4,wN 6]] false),(.slice (some 2) [.agg [wN 0,wN 6],.agg [wN 3,wN 10],.agg [wN 8,wN 0]] false)],(.tuple [wN 12,wN 0]),false⟩
theorem Bix:YOk T 122 Bhp:=zC (fM Zz (fM Biw fN)) (by kernel_rfl)
def Bhq:AnsY:=⟨354,[wI [0,6,3,10,7,0] false],(.slice (some 2) [.agg [wN 0,wN 6],.agg [wN 3,wN 10],.agg [wN 7,wN 0]] false),false⟩
theorem Biy:YOk T 61 Bhq:=zC fN (by kernel_rfl)
def Bhr:AnsY:=⟨489,[(.slice (some 2) [.agg [wN 0,wN 6],.agg [wN 3,wN 10],.agg [wN 7,wN 0]] false),(.clo 435 [] [])],(wN (-1)),false⟩
theorem Biz:YOk T 61 Bhr:=zC fN (by kernel_rfl)
def Bhs:AnsY:=⟨358,[(.slice (some 2) [.agg [wN 3,wN 4],.agg [wN 5,wN 2],.agg [wN 4,wN 6]] false),(.slice (some 2) [.agg [wN 0,wN 6],.agg [wN 3,wN 10],.agg [wN 7,wN 0]] false)],(.tuple [wN 0,wN 16]),false⟩
theorem Bja:YOk T 122 Bhs:=zC (fM Zz (fM Biz fN)) (by kernel_rfl)
def Bht:AnsY:=⟨354,[wI [0,5] false],(.slice (some 2) [.agg [wN 0,wN 5]] false),false⟩
theorem Bjb:YOk T 61 Bht:=zC fN (by kernel_rfl)
def Bhu:AnsY:=⟨358,[(.slice (some 2) [.agg [wN 3,wN 4]] false),(.slice (some 2) [.agg [wN 0,wN 5]] false)],(.tuple [wN 9,wN 0]),false⟩
theorem Bjc:YOk T 122 Bhu:=zC (fM B0j fN) (by kernel_rfl)
def Bhv:AnsY:=⟨359,[(.slice (some 2) [.agg [wN 3,wN 4]] false),(.slice (some 2) [.agg [wN 0,wN 5]] false),wN 1],(.tuple [wN 5,wN 0]),false⟩
theorem Bjd:YOk T 183 Bhv:=zC (fM Bjc fN) (by kernel_rfl)
def Bhw:AnsY:=⟨440,[(.slice (some 2) [.agg [wN 3,wN 4],.agg [wN 5,wN 2],.agg [wN 4,wN 6]] false)],(.agg [wI [0,1,2] false,wI [2,0,1] false,wI [0,0,1] false]),false⟩
theorem Bje:YOk T 61 Bhw:=zC fN (by kernel_rfl)
def Bhx:AnsY:=⟨360,[(.slice (some 2) [.agg [wN 3,wN 4],.agg [wN 5,wN 2],.agg [wN 4,wN 6]] false)],(.tuple [(.slice (some 2) [.agg [wN 0,wN 6],.agg [wN 3,wN 10],.agg [wN 8,wN 0]] false),wN 0]),false⟩
theorem Bjf:YOk T 2061 Bhx:=zC (fM Zz (fM Bje (fM Api fN))) (by kernel_rfl)
def Bhy:AnsY:=⟨362,[],(.agg [wI [0,1,2] false,wI [2,0,1] false,wI [0,0,1] false]),false⟩
theorem Bjg:YOk T 61 Bhy:=zC fN (by kernel_rfl)
def Bhz:AnsY:=⟨363,[],(.agg [wI [0,1] false,wI [1,0] false,wI [1,0] false]),false⟩
theorem Bjh:YOk T 61 Bhz:=zC fN (by kernel_rfl)
def Bia:AnsY:=⟨515,[(.slice (some 2) [.agg [wN 1,wN 1],.agg [wN 1,wN 1]] false),(.clo 486 [] [])],(wN (-1)),false⟩
theorem Bji:YOk T 61 Bia:=zC fN (by kernel_rfl)
def Bib:AnsY:=⟨495,[(.slice (some 2) [.agg [wN 1,wN 1],.agg [wN 1,wN 1]] false),(.agg [wI [0,1] false,wI [1,0] false,wI [1,0] false])],wN 0,false⟩
theorem Apj:YOk T 122 Bib:=zC (fM Bji fN) (by kernel_rfl)
def Bic:AnsY:=⟨361,[(.slice (some 2) [.agg [wN 1,wN 1],.agg [wN 1,wN 1]] false),(.agg [wI [0,1] false,wI [1,0] false,wI [1,0] false])],(.tuple [(.slice (some 2) [] false),wN 13]),false⟩
theorem Bjj:YOk T 183 Bic:=zC (fM Apj fN) (by kernel_rfl)
def Bid:AnsY:=⟨365,[wI [0,2,3,1] false],wI [0,2,3,1] false,false⟩
theorem Bjk:YOk T 61 Bid:=zC fN (by kernel_rfl)
def Bie:AnsY:=⟨441,[(.slice (some 2) [.agg [wN 1,wN 1],.agg [wN 1,wN 1]] false),(.agg [wI [0,1] false,wI [1,0] false,wI [1,0] false])],(.tuple [(.ptr [wI [0,1] false,wI [1,0] false,wI [1,0] false,(.fmap [] [])] 0),wN 0]),false⟩
theorem Agb:YOk T 183 Bie:=zC (fM Apj fN) (by kernel_rfl)
def Bif:AnsY:=⟨131,[wI [0,2,3,1] false,(.clo 442 [] [(.ptr [(.slice (some 2) [.agg [wN 1,wN 1],.agg [wN 1,wN 1]] false)] 0)])],(wN (-1)),false⟩
theorem Bjl:YOk T 61 Bif:=zC fN (by kernel_rfl)
def Big:AnsY:=⟨364,[(.slice (some 2) [.agg [wN 1,wN 1],.agg [wN 1,wN 1]] false),(.agg [wI [0,1] false,wI [1,0] false,wI [1,0] false]),wI [0,2,3,1] false],wN 0,false⟩
theorem Bjm:YOk T 244 Big:=zC (fM Agb (fM Bjl fN)) (by kernel_rfl)
def Bih:AnsY:=⟨365,[wI [0,2] false],wI [0,2] false,false⟩
theorem Bjn:YOk T 61 Bih:=zC fN (by kernel_rfl)
def Bii:AnsY:=⟨131,[wI [0,2] false,(.clo 442 [] [(.ptr [(.slice (some 2) [.agg [wN 1,wN 1],.agg [wN 1,wN 1]] false)] 0)])],(wN (-1)),false⟩
theorem Bjo:YOk T 61 Bii:=zC fN (by kernel_rfl)
def Bij:AnsY:=⟨364,[(.slice (some 2) [.agg [wN 1,wN 1],.agg [wN 1,wN 1]] false),(.agg [wI [0,1] false,wI [1,0] false,wI [1,0] false]),wI [0,2] false],wN 14,false⟩
theorem Bjp:YOk T 244 Bij:=zC (fM Agb (fM Bjo fN)) (by kernel_rfl)
def Bik:AnsY:=⟨444,[(.ptr [wI [0,1] false,wI [1,0] false,wI [1,0] false,(.fmap [] [])] 0)],wI [2,3,1,0] false,false⟩
theorem Bjq:YOk T 61 Bik:=zC fN (by kernel_rfl)
def Bil:AnsY:=⟨366,[(.slice (some 2) [.agg [wN 1,wN 1],.agg [wN 1,wN 1]] false),(.agg [wI [0,1] false,wI [1,0] false,wI [1,0] false])],(.tuple [wI [2,3,1,0] false,wN 0]),false⟩
theorem Bjr:YOk T 244 Bil:=zC (fM Agb (fM Bjq fN)) (by kernel_rfl)
def Bim:AnsY:=⟨495,[(.slice (some 2) [.agg [wN 3,wN 4],.agg [wN 5,wN 2],.agg [wN 4,wN 6]] false),(.agg [wI [0,1,2] false,wI [2,0,1] false,wI [0,0,1] false])],wN 0,false⟩
theorem Bjs:YOk T 122 Bim:=zC (fM Zz fN) (by kernel_rfl)
def Bin:AnsY:=⟨441,[(.slice (some 2) [.agg [wN 3,wN 4],.agg [wN 5,wN 2],.agg [wN 4,wN 6]] false),(.agg [wI [0,1,2] false,wI [2,0,1] false,wI [0,0,1] false])],(.tuple [(.ptr [wI [0,1,2] false,wI [2,0,1] false,wI [0,0,1] false,(.fmap [.agg [wN 0],.agg [wN 2],.agg [wN 5],.agg [wN 1],.agg [wN 3],.agg [wN 4]] [wN 3,wN 8,wN 6,wN 10,wN 12,wN 12])] 0),wN 0]),false⟩
theorem Bjt:YOk T 183 Bin:=zC (fM Bjs fN) (by kernel_rfl)
def Bio:AnsY:=⟨366,[(.slice (some 2) [.agg [wN 3,wN 4],.agg [wN 5,wN 2],.agg [wN 4,wN 6]] false),(.agg [wI [0,1,2] false,wI [2,0,1] false,wI [0,0,1] false])],(.tuple [wI [] false,wN 5]),false⟩
theorem Bju:YOk T 244 Bio:=zC (fM Bjt fN) (by kernel_rfl)
def Bip:AnsY:=⟨357,[(.slice (some 2) [.agg [wN 3,wN 4],.agg [wN 5,wN 2],.agg [wN 4,wN 6]] false),wN 3,wN 0],(.tuple [wN 0,wN 2]),false⟩
theorem Bjv:YOk T 122 Bip:=zC (fM Zz fN) (by kernel_rfl)
def Biq:AnsY:=⟨448,[(.slice (some 2) [.agg [wN 3,wN 4],.agg [wN 5,wN 2],.agg [wN 4,wN 6]] false),(.slice (some 2) [.agg [wN 0,wN 6],.agg [wN 3,wN 10],.agg [wN 8,wN 0]] false)],wN 12,false⟩
theorem Bjw:YOk T 61 Biq:=zC fN (by kernel_rfl)
def Bir:AnsY:=⟨367,[(.slice (some 2) [.agg [wN 3,wN 4],.agg [wN 5,wN 2],.agg [wN 4,wN 6]] false),(.slice (some 2) [.agg [wN 0,wN 6],.agg [wN 3,wN 10],.agg [wN 8,wN 0]] false)],(.tuple [wN 12,wN 0]),false⟩
theorem Bjx:YOk T 122 Bir:=zC (fM Bjw fN) (by kernel_rfl)
def Bis:AnsY:=⟨368,[(.slice (some 2) [.agg [wN 0,wN 6],.agg [wN 3,wN 10],.agg [wN 8,wN 0]] false),(.slice (some 2) [.agg [wN 0,wN 6],.agg [wN 3,wN 10],.agg [wN 8,wN 0]] false)],(.bool true),false⟩
theorem Bjy:YOk T 61 Bis:=zC fN (by kernel_rfl)
def Bit:AnsY:=⟨369,[(.slice (some 2) [.agg [wN 1,wN 1],.agg [wN 1,wN 1]] false),(.agg [wI [0,1] false,wI [1,0] false,wI [1,0] false]),wI [2,3,1,0] false],wN 0,false⟩
theorem Bjz:YOk T 61 Bit:=zC fN (by kernel_rfl)
def Biu:AnsY:=⟨286,[],(.bool true),false⟩
theorem Bka:YOk T 2122 Biu:=zC (fM C9q (fM C9r (fM C9s (fM C9t (fM C9v (fM C9w (fM B0k (fM Biv (fM Bix (fM Biy (fM Bja (fM Bjb (fM Bjd (fM Bjf (fM Bjg (fM Api (fM Bjh (fM Bjj (fM Bjk (fM Bjm (fM Bjn (fM Bjp (fM Bjr (fM Bju (fM Bjv (fM Bjx (fM Bjy (fM Bjz fN)))))))))))))))))))))))))))) (by kernel_rfl)
theorem Auy:YOk T 2122 ⟨286,[],.bool true,false⟩:=Bka
end Go.Ev.YtbgodhhdojjbmaaGreatC
