/- The works of a layer's examples, each call reckoned by the kernel, and joined. No condition but those that stand in each. -/
import Derived.Test.YtofpilpmiddpgaaGreatITopW
import Derived.Test.YtofpilpmiddpgaaGreatITopBax
set_option linter.unusedSimpArgs false
set_option linter.unusedVariables false
set_option maxRecDepth 100000
namespace Go.Ev.YtofpilpmiddpgaaGreatC
open Go Go.Proofs
def Brs:AnsY:=⟨67,[wI [4,1,6,3,9,0] false],(.slice (some 2) [.agg [wN 4,wN 1],.agg [wN 6,wN 3],.agg [wN 9,wN 0]] false),false⟩
theorem Brz:YOk T 61 Brs:=zC fN (by kernel_rfl)
def Brt:AnsY:=⟨67,[wI [4,1,6,2] false],(.slice (some 2) [.agg [wN 4,wN 1],.agg [wN 6,wN 2]] false),false⟩
theorem Bsa:YOk T 61 Brt:=zC fN (by kernel_rfl)
def Bru:AnsY:=⟨67,[wI [4,1,6,2,3,0,5,4] false],(.slice (some 2) [.agg [wN 4,wN 1],.agg [wN 6,wN 2],.agg [wN 3,wN 0],.agg [wN 5,wN 4]] false),false⟩
theorem Bsb:YOk T 61 Bru:=zC fN (by kernel_rfl)
def Brv:AnsY:=⟨67,[wI [2,0,2,1] false],(.slice (some 2) [.agg [wN 2,wN 0],.agg [wN 2,wN 1]] false),false⟩
theorem Bsc:YOk T 61 Brv:=zC fN (by kernel_rfl)
def Brw:AnsY:=⟨68,[(.slice (some 2) [.agg [wN 4,wN 1],.agg [wN 6,wN 3],.agg [wN 9,wN 0]] false),wN 9],(.tuple [wI [0,1,2] false,wN 0]),false⟩
theorem Bse:YOk T 2061 Brw:=zC (fM Bsd fN) (by kernel_rfl)
def Brx:AnsY:=⟨127,[(.ptr [(.slice (some 2) [.agg [wN 4,wN 1],.agg [wN 6,wN 3],.agg [wN 9,wN 0]] false),(.fmap [] [])] 0)],(.tuple [wN 9,wN 36,(.bool true)]),false⟩
theorem Ajq:YOk T 61 Brx:=zC fN (by kernel_rfl)
def Bry:AnsY:=⟨69,[(.slice (some 2) [.agg [wN 4,wN 1],.agg [wN 6,wN 3],.agg [wN 9,wN 0]] false)],(.tuple [wN 9,wN 36,wN 0]),false⟩
theorem Bsf:YOk T 2061 Bry:=zC (fM Atg (fM Ajq fN)) (by kernel_rfl)
def Bia:AnsY:=⟨69,[(.slice (some 2) [.agg [wN 4,wN 1],.agg [wN 6,wN 2]] false)],(.tuple [wN 0,wN 0,wN 21]),false⟩
theorem Biz:YOk T 2061 Bia:=zC (fM Ath fN) (by kernel_rfl)
def Bib:AnsY:=⟨70,[(.slice (some 2) [.agg [wN 4,wN 1],.agg [wN 6,wN 3],.agg [wN 9,wN 0]] false),wN 10],(.tuple [wN 45,wN 0]),false⟩
theorem Bjb:YOk T 2061 Bib:=zC (fM Bja (fM Ajq fN)) (by kernel_rfl)
def Bic:AnsY:=⟨71,[(.slice (some 2) [.agg [wN 4,wN 1],.agg [wN 6,wN 3],.agg [wN 9,wN 0]] false),wN 0,wN 100],(.tuple [wN 3,wN 0]),false⟩
theorem Bjd:YOk T 2061 Bic:=zC (fM Bjc (fM Ajq fN)) (by kernel_rfl)
def Bid:AnsY:=⟨71,[(.slice (some 2) [.agg [wN 4,wN 1],.agg [wN 6,wN 3],.agg [wN 9,wN 0]] false),wN 5,wN 4],(.tuple [wN 0,wN 2]),false⟩
theorem Bjf:YOk T 2061 Bid:=zC (fM Bje fN) (by kernel_rfl)
def Bie:AnsY:=⟨72,[(.slice (some 2) [.agg [wN 4,wN 1],.agg [wN 6,wN 2]] false),wN 0,wN 1],(.tuple [wN 2,wN 0]),false⟩
theorem Bjg:YOk T 2061 Bie:=zC (fM Ath fN) (by kernel_rfl)
def Bif:AnsY:=⟨72,[(.slice (some 2) [.agg [wN 4,wN 1],.agg [wN 6,wN 3],.agg [wN 9,wN 0]] false),wN 0,wN 1],(.tuple [wN 0,wN 14]),false⟩
theorem Bjh:YOk T 2061 Bif:=zC (fM Atg fN) (by kernel_rfl)
def Big:AnsY:=⟨236,[(.slice (some 2) [.agg [wN 4,wN 1],.agg [wN 6,wN 2]] false),(.clo 181 [] [])],(wN (-1)),false⟩
theorem Bji:YOk T 61 Big:=zC fN (by kernel_rfl)
def Bih:AnsY:=⟨73,[(.slice (some 2) [.agg [wN 4,wN 1],.agg [wN 6,wN 2]] false)],(.tuple [wN 0,wN 1,wN 0]),false⟩
theorem Bjj:YOk T 122 Bih:=zC (fM Bji fN) (by kernel_rfl)
def Bii:AnsY:=⟨132,[(.ptr [(.slice (some 2) [.agg [wN 4,wN 1],.agg [wN 6,wN 2],.agg [wN 3,wN 0],.agg [wN 5,wN 4]] false),(.fmap [.agg [wN 0,wN 1],.agg [wN 1,wN 2]] [wN 2,wN 3])] 0),wI [] false,wN 0],wI [0,2,3] false,false⟩
theorem Bjk:YOk T 61 Bii:=zC fN (by kernel_rfl)
def Bij:AnsY:=⟨74,[(.slice (some 2) [.agg [wN 4,wN 1],.agg [wN 6,wN 2],.agg [wN 3,wN 0],.agg [wN 5,wN 4]] false)],(.tuple [wI [0,2,3] false,wN 0]),false⟩
theorem Bjl:YOk T 2061 Bij:=zC (fM Ali (fM Bjk fN)) (by kernel_rfl)
def Bik:AnsY:=⟨76,[wI [0,1] false],wI [0,1] false,false⟩
theorem Bjm:YOk T 61 Bik:=zC fN (by kernel_rfl)
def Bil:AnsY:=⟨75,[(.slice (some 2) [.agg [wN 4,wN 1],.agg [wN 6,wN 2],.agg [wN 3,wN 0],.agg [wN 5,wN 4]] false),wI [0,1] false],wN 21,false⟩
theorem Bjn:YOk T 2061 Bil:=zC (fM Ali fN) (by kernel_rfl)
def Bim:AnsY:=⟨77,[(.slice (some 2) [.agg [wN 4,wN 1],.agg [wN 6,wN 3],.agg [wN 9,wN 0]] false),wN 0],(.tuple [wN 2,wN 0]),false⟩
theorem Bjp:YOk T 2061 Bim:=zC (fM Bjo fN) (by kernel_rfl)
def Bin:AnsY:=⟨77,[(.slice (some 2) [.agg [wN 2,wN 0],.agg [wN 2,wN 1]] false),wN 0],(.tuple [wN 0,wN 21]),false⟩
theorem Bjr:YOk T 2061 Bin:=zC (fM Bjq fN) (by kernel_rfl)
def Bio:AnsY:=⟨236,[(.slice (some 2) [.agg [wN 4,wN 1],.agg [wN 6,wN 3],.agg [wN 9,wN 0]] false),(.clo 181 [] [])],(wN (-1)),false⟩
theorem Alj:YOk T 61 Bio:=zC fN (by kernel_rfl)
def Bip:AnsY:=⟨127,[(.ptr [(.slice (some 2) [.agg [wN 4,wN 1],.agg [wN 6,wN 3]] false),(.fmap [] [])] 0)],(.tuple [wN 9,wN 12,(.bool true)]),false⟩
theorem Bjs:YOk T 61 Bip:=zC fN (by kernel_rfl)
def Biq:AnsY:=⟨78,[(.slice (some 2) [.agg [wN 4,wN 1],.agg [wN 6,wN 3],.agg [wN 9,wN 0]] false),wN 2],(.tuple [wI [0,3,6] false,wN 0]),false⟩
theorem Bjt:YOk T 122 Biq:=zC (fM Alj (fM Bjs fN)) (by kernel_rfl)
def Bir:AnsY:=⟨78,[(.slice (some 2) [.agg [wN 4,wN 1],.agg [wN 6,wN 3],.agg [wN 9,wN 0]] false),wN 3],(.tuple [wI [] false,wN 2]),false⟩
theorem Bju:YOk T 122 Bir:=zC (fM Alj fN) (by kernel_rfl)
def Bis:AnsY:=⟨76,[wI [0,1,2] false],wI [0,1,2] false,false⟩
theorem Bjv:YOk T 61 Bis:=zC fN (by kernel_rfl)
def Bit:AnsY:=⟨79,[wI [0,1,2] false,wI [0,1,2] false],(.bool true),false⟩
theorem Bjw:YOk T 61 Bit:=zC fN (by kernel_rfl)
def Biu:AnsY:=⟨76,[wI [0,2,3] false],wI [0,2,3] false,false⟩
theorem Bjx:YOk T 61 Biu:=zC fN (by kernel_rfl)
def Biv:AnsY:=⟨79,[wI [0,2,3] false,wI [0,2,3] false],(.bool true),false⟩
theorem Bjy:YOk T 61 Biv:=zC fN (by kernel_rfl)
def Biw:AnsY:=⟨81,[wI [0,3,6] false],wI [0,3,6] false,false⟩
theorem Bjz:YOk T 61 Biw:=zC fN (by kernel_rfl)
def Bix:AnsY:=⟨80,[wI [0,3,6] false,wI [0,3,6] false],(.bool true),false⟩
theorem Bka:YOk T 61 Bix:=zC fN (by kernel_rfl)
def Biy:AnsY:=⟨38,[],(.bool true),false⟩
theorem Bkb:YOk T 2122 Biy:=zC (fM Brz (fM Bsa (fM Bsb (fM Bsc (fM Bse (fM Bsf (fM Biz (fM Bjb (fM Bjd (fM Bjf (fM Bjg (fM Bjh (fM Bjj (fM Bjl (fM Bjm (fM Bjn (fM Bjp (fM Bjr (fM Bjt (fM Bju (fM Bjv (fM Bjw (fM Bjx (fM Bjy (fM Bjz (fM Bka fN)))))))))))))))))))))))))) (by kernel_rfl)
theorem Aps:YOk T 2122 ⟨38,[],.bool true,false⟩:=Bkb
end Go.Ev.YtofpilpmiddpgaaGreatC
