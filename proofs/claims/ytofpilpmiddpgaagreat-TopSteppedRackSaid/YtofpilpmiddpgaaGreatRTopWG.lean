/- The works of a layer's examples, each call reckoned by the kernel, and joined. No condition but those that stand in each. -/
import Derived.Test.YtofpilpmiddpgaaGreatRTopW
import Derived.Test.YtofpilpmiddpgaaGreatRTopBax
set_option linter.unusedSimpArgs false
set_option linter.unusedVariables false
set_option maxRecDepth 100000
namespace Go.Ev.YtofpilpmiddpgaaGreatC
open Go Go.Proofs
def Bqp:AnsY:=⟨67,[wI [4,1,6,3,9,0] false],(.slice (some 2) [.agg [wN 4,wN 1],.agg [wN 6,wN 3],.agg [wN 9,wN 0]] false),false⟩
theorem Bqw:YOk T 61 Bqp:=zC fN (by kernel_rfl)
def Bqq:AnsY:=⟨67,[wI [4,1,6,2] false],(.slice (some 2) [.agg [wN 4,wN 1],.agg [wN 6,wN 2]] false),false⟩
theorem Bqx:YOk T 61 Bqq:=zC fN (by kernel_rfl)
def Bqr:AnsY:=⟨67,[wI [4,1,6,2,3,0,5,4] false],(.slice (some 2) [.agg [wN 4,wN 1],.agg [wN 6,wN 2],.agg [wN 3,wN 0],.agg [wN 5,wN 4]] false),false⟩
theorem Bqy:YOk T 61 Bqr:=zC fN (by kernel_rfl)
def Bqs:AnsY:=⟨67,[wI [2,0,2,1] false],(.slice (some 2) [.agg [wN 2,wN 0],.agg [wN 2,wN 1]] false),false⟩
theorem Bqz:YOk T 61 Bqs:=zC fN (by kernel_rfl)
def Bqt:AnsY:=⟨68,[(.slice (some 2) [.agg [wN 4,wN 1],.agg [wN 6,wN 3],.agg [wN 9,wN 0]] false),wN 9],(.tuple [wI [0,1,2] false,wN 0]),false⟩
theorem Brb:YOk T 2061 Bqt:=zC (fM Bra fN) (by kernel_rfl)
def Bqu:AnsY:=⟨127,[(.ptr [(.slice (some 2) [.agg [wN 4,wN 1],.agg [wN 6,wN 3],.agg [wN 9,wN 0]] false),(.fmap [] [])] 0)],(.tuple [wN 9,wN 36,(.bool true)]),false⟩
theorem Aix:YOk T 61 Bqu:=zC fN (by kernel_rfl)
def Bqv:AnsY:=⟨69,[(.slice (some 2) [.agg [wN 4,wN 1],.agg [wN 6,wN 3],.agg [wN 9,wN 0]] false)],(.tuple [wN 9,wN 36,wN 0]),false⟩
theorem Brc:YOk T 2061 Bqv:=zC (fM Asc (fM Aix fN)) (by kernel_rfl)
def Bgw:AnsY:=⟨69,[(.slice (some 2) [.agg [wN 4,wN 1],.agg [wN 6,wN 2]] false)],(.tuple [wN 0,wN 0,wN 21]),false⟩
theorem Bhv:YOk T 2061 Bgw:=zC (fM Asd fN) (by kernel_rfl)
def Bgx:AnsY:=⟨70,[(.slice (some 2) [.agg [wN 4,wN 1],.agg [wN 6,wN 3],.agg [wN 9,wN 0]] false),wN 10],(.tuple [wN 45,wN 0]),false⟩
theorem Bhx:YOk T 2061 Bgx:=zC (fM Bhw (fM Aix fN)) (by kernel_rfl)
def Bgy:AnsY:=⟨71,[(.slice (some 2) [.agg [wN 4,wN 1],.agg [wN 6,wN 3],.agg [wN 9,wN 0]] false),wN 0,wN 100],(.tuple [wN 3,wN 0]),false⟩
theorem Bhz:YOk T 2061 Bgy:=zC (fM Bhy (fM Aix fN)) (by kernel_rfl)
def Bgz:AnsY:=⟨71,[(.slice (some 2) [.agg [wN 4,wN 1],.agg [wN 6,wN 3],.agg [wN 9,wN 0]] false),wN 5,wN 4],(.tuple [wN 0,wN 2]),false⟩
theorem Bib:YOk T 2061 Bgz:=zC (fM Bia fN) (by kernel_rfl)
def Bha:AnsY:=⟨72,[(.slice (some 2) [.agg [wN 4,wN 1],.agg [wN 6,wN 2]] false),wN 0,wN 1],(.tuple [wN 2,wN 0]),false⟩
theorem Bic:YOk T 2061 Bha:=zC (fM Asd fN) (by kernel_rfl)
def Bhb:AnsY:=⟨72,[(.slice (some 2) [.agg [wN 4,wN 1],.agg [wN 6,wN 3],.agg [wN 9,wN 0]] false),wN 0,wN 1],(.tuple [wN 0,wN 14]),false⟩
theorem Bid:YOk T 2061 Bhb:=zC (fM Asc fN) (by kernel_rfl)
def Bhc:AnsY:=⟨236,[(.slice (some 2) [.agg [wN 4,wN 1],.agg [wN 6,wN 2]] false),(.clo 181 [] [])],(wN (-1)),false⟩
theorem Bie:YOk T 61 Bhc:=zC fN (by kernel_rfl)
def Bhd:AnsY:=⟨73,[(.slice (some 2) [.agg [wN 4,wN 1],.agg [wN 6,wN 2]] false)],(.tuple [wN 0,wN 1,wN 0]),false⟩
theorem Bif:YOk T 122 Bhd:=zC (fM Bie fN) (by kernel_rfl)
def Bhe:AnsY:=⟨132,[(.ptr [(.slice (some 2) [.agg [wN 4,wN 1],.agg [wN 6,wN 2],.agg [wN 3,wN 0],.agg [wN 5,wN 4]] false),(.fmap [.agg [wN 0,wN 1],.agg [wN 1,wN 2]] [wN 2,wN 3])] 0),wI [] false,wN 0],wI [0,2,3] false,false⟩
theorem Big:YOk T 61 Bhe:=zC fN (by kernel_rfl)
def Bhf:AnsY:=⟨74,[(.slice (some 2) [.agg [wN 4,wN 1],.agg [wN 6,wN 2],.agg [wN 3,wN 0],.agg [wN 5,wN 4]] false)],(.tuple [wI [0,2,3] false,wN 0]),false⟩
theorem Bih:YOk T 2061 Bhf:=zC (fM Ako (fM Big fN)) (by kernel_rfl)
def Bhg:AnsY:=⟨76,[wI [0,1] false],wI [0,1] false,false⟩
theorem Bii:YOk T 61 Bhg:=zC fN (by kernel_rfl)
def Bhh:AnsY:=⟨75,[(.slice (some 2) [.agg [wN 4,wN 1],.agg [wN 6,wN 2],.agg [wN 3,wN 0],.agg [wN 5,wN 4]] false),wI [0,1] false],wN 21,false⟩
theorem Bij:YOk T 2061 Bhh:=zC (fM Ako fN) (by kernel_rfl)
def Bhi:AnsY:=⟨77,[(.slice (some 2) [.agg [wN 4,wN 1],.agg [wN 6,wN 3],.agg [wN 9,wN 0]] false),wN 0],(.tuple [wN 2,wN 0]),false⟩
theorem Bil:YOk T 2061 Bhi:=zC (fM Bik fN) (by kernel_rfl)
def Bhj:AnsY:=⟨77,[(.slice (some 2) [.agg [wN 2,wN 0],.agg [wN 2,wN 1]] false),wN 0],(.tuple [wN 0,wN 21]),false⟩
theorem Bin:YOk T 2061 Bhj:=zC (fM Bim fN) (by kernel_rfl)
def Bhk:AnsY:=⟨236,[(.slice (some 2) [.agg [wN 4,wN 1],.agg [wN 6,wN 3],.agg [wN 9,wN 0]] false),(.clo 181 [] [])],(wN (-1)),false⟩
theorem Akp:YOk T 61 Bhk:=zC fN (by kernel_rfl)
def Bhl:AnsY:=⟨127,[(.ptr [(.slice (some 2) [.agg [wN 4,wN 1],.agg [wN 6,wN 3]] false),(.fmap [] [])] 0)],(.tuple [wN 9,wN 12,(.bool true)]),false⟩
theorem Bio:YOk T 61 Bhl:=zC fN (by kernel_rfl)
def Bhm:AnsY:=⟨78,[(.slice (some 2) [.agg [wN 4,wN 1],.agg [wN 6,wN 3],.agg [wN 9,wN 0]] false),wN 2],(.tuple [wI [0,3,6] false,wN 0]),false⟩
theorem Bip:YOk T 122 Bhm:=zC (fM Akp (fM Bio fN)) (by kernel_rfl)
def Bhn:AnsY:=⟨78,[(.slice (some 2) [.agg [wN 4,wN 1],.agg [wN 6,wN 3],.agg [wN 9,wN 0]] false),wN 3],(.tuple [wI [] false,wN 2]),false⟩
theorem Biq:YOk T 122 Bhn:=zC (fM Akp fN) (by kernel_rfl)
def Bho:AnsY:=⟨76,[wI [0,1,2] false],wI [0,1,2] false,false⟩
theorem Bir:YOk T 61 Bho:=zC fN (by kernel_rfl)
def Bhp:AnsY:=⟨79,[wI [0,1,2] false,wI [0,1,2] false],(.bool true),false⟩
theorem Bis:YOk T 61 Bhp:=zC fN (by kernel_rfl)
def Bhq:AnsY:=⟨76,[wI [0,2,3] false],wI [0,2,3] false,false⟩
theorem Bit:YOk T 61 Bhq:=zC fN (by kernel_rfl)
def Bhr:AnsY:=⟨79,[wI [0,2,3] false,wI [0,2,3] false],(.bool true),false⟩
theorem Biu:YOk T 61 Bhr:=zC fN (by kernel_rfl)
def Bhs:AnsY:=⟨81,[wI [0,3,6] false],wI [0,3,6] false,false⟩
theorem Biv:YOk T 61 Bhs:=zC fN (by kernel_rfl)
def Bht:AnsY:=⟨80,[wI [0,3,6] false,wI [0,3,6] false],(.bool true),false⟩
theorem Biw:YOk T 61 Bht:=zC fN (by kernel_rfl)
def Bhu:AnsY:=⟨38,[],(.bool true),false⟩
theorem Bix:YOk T 2122 Bhu:=zC (fM Bqw (fM Bqx (fM Bqy (fM Bqz (fM Brb (fM Brc (fM Bhv (fM Bhx (fM Bhz (fM Bib (fM Bic (fM Bid (fM Bif (fM Bih (fM Bii (fM Bij (fM Bil (fM Bin (fM Bip (fM Biq (fM Bir (fM Bis (fM Bit (fM Biu (fM Biv (fM Biw fN)))))))))))))))))))))))))) (by kernel_rfl)
theorem Aon:YOk T 2122 ⟨38,[],.bool true,false⟩:=Bix
end Go.Ev.YtofpilpmiddpgaaGreatC
