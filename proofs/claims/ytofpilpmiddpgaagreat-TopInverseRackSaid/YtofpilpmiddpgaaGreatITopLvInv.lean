/- The works of all layers up to 6. The works of all layers up to 7. The works of a layer's examples, each call reckoned by the kernel, and joined. The works of all layers up to 8. The law TopInverseRack answers true, whatever it is handed. No condition but those that stand in each. -/
import Derived.Test.YtofpilpmiddpgaaGreatITopWA
import Derived.Test.YtofpilpmiddpgaaGreatITopWB
import Derived.Test.YtofpilpmiddpgaaGreatITopWC
import Derived.Test.YtofpilpmiddpgaaGreatITopWD
import Derived.Test.YtofpilpmiddpgaaGreatITopWE
import Derived.Test.YtofpilpmiddpgaaGreatITopWF
import Derived.Test.YtofpilpmiddpgaaGreatITopShd
import Derived.Test.YtofpilpmiddpgaaGreatITopWG
import Derived.Test.YtofpilpmiddpgaaGreatITopW
import Derived.Test.YtofpilpmiddpgaaGreatIRkLwI
import Derived.OpenShut
set_option linter.unusedSimpArgs false
set_option linter.unusedVariables false
set_option maxRecDepth 100000
namespace Go.Ev.YtofpilpmiddpgaaGreatC
open Go Go.Proofs
abbrev wkY (f:Nat):AnsY:=⟨f,[],.bool true,false⟩
theorem wks3:YOk T 4061 (wkY 147):=zC (fM Apm (fM Apn (fM Apo fN))) (by kernel_rfl)
theorem wks4:YOk T 4161 (wkY 103):=zC (fM wks3 (fM App fN)) (by kernel_rfl)
theorem wks5:YOk T 4261 (wkY 65):=zC (fM wks4 (fM Apq fN)) (by kernel_rfl)
theorem wks6:YOk T 4361 (wkY 37):=zC (fM wks5 (fM Apr fN)) (by kernel_rfl)
theorem wks7:YOk T 4461 (wkY 20):=zC (fM wks6 (fM Aps fN)) (by kernel_rfl)
def Bsg:AnsY:=⟨39,[],wI [3,1,2,1] false,false⟩
theorem Bsq:YOk T 61 Bsg:=zC fN (by kernel_rfl)
def Bsh:AnsY:=⟨44,[wI [1,1] false],wI [1,1] false,false⟩
theorem Ati:YOk T 61 Bsh:=zC fN (by kernel_rfl)
def Bsi:AnsY:=⟨44,[wI [2] false],wI [2] false,false⟩
theorem Ajr:YOk T 61 Bsi:=zC fN (by kernel_rfl)
def Bsj:AnsY:=⟨44,[wI [3] false],wI [3] false,false⟩
theorem Atj:YOk T 61 Bsj:=zC fN (by kernel_rfl)
def Bsk:AnsY:=⟨40,[],(.slice none [wI [1,1] false,wI [2] false,wI [3] false] false),false⟩
theorem Bsr:YOk T 122 Bsk:=zC (fM Ati (fM Ajr (fM Atj fN))) (by kernel_rfl)
def Bsl:AnsY:=⟨44,[wI [1,3] false],wI [1,3] false,false⟩
theorem Atk:YOk T 61 Bsl:=zC fN (by kernel_rfl)
def Bsm:AnsY:=⟨44,[wI [4] false],wI [4] false,false⟩
theorem Atl:YOk T 61 Bsm:=zC fN (by kernel_rfl)
def Bsn:AnsY:=⟨41,[],(.slice none [wI [1,3] false,wI [2] false,wI [4] false] false),false⟩
theorem Bss:YOk T 122 Bsn:=zC (fM Atk (fM Ajr (fM Atl fN))) (by kernel_rfl)
def Bso:AnsY:=⟨10,[wI [3,1,2,1] false],(.tuple [(.slice none [wI [1,1] false,wI [2] false,wI [3] false] false),(.slice none [wI [1,3] false,wI [2] false,wI [4] false] false),wN 0]),false⟩
theorem Bst:YOk T 61 Bso:=zC fN (by kernel_rfl)
def Bsp:AnsY:=⟨47,[(.slice none [wI [1,1] false,wI [2] false,wI [3] false] false)],wN 0,false⟩
theorem A0u:YOk T 61 Bsp:=zC fN (by kernel_rfl)
def Bkc:AnsY:=⟨48,[(.slice none [wI [1,3] false,wI [2] false,wI [4] false] false)],wN 0,false⟩
theorem Blq:YOk T 61 Bkc:=zC fN (by kernel_rfl)
def Bkd:AnsY:=⟨85,[(.slice none [wI [1,3] false,wI [2] false,wI [4] false] false),(.clo 86 [] [(.ptr [wN 4] 0)])],wN 2,false⟩
theorem Blr:YOk T 61 Bkd:=zC fN (by kernel_rfl)
def Bke:AnsY:=⟨42,[(.slice none [wI [1,1] false,wI [2] false,wI [3] false] false),(.slice none [wI [1,3] false,wI [2] false,wI [4] false] false)],(.tuple [wI [3,1,2,1] false,wN 0]),false⟩
theorem Bls:YOk T 122 Bke:=zC (fM A0u (fM Blq (fM Blr fN))) (by kernel_rfl)
def Bkf:AnsY:=⟨44,[wI [1,2,3] false],wI [1,2,3] false,false⟩
theorem Blt:YOk T 61 Bkf:=zC fN (by kernel_rfl)
def Bkg:AnsY:=⟨48,[(.slice none [wI [1,2,3] false,wI [4] false] false)],wN 0,false⟩
theorem Blu:YOk T 61 Bkg:=zC fN (by kernel_rfl)
def Bkh:AnsY:=⟨42,[(.slice none [wI [1,1] false,wI [2] false,wI [3] false] false),(.slice none [wI [1,2,3] false,wI [4] false] false)],(.tuple [wI [] false,wN 15]),false⟩
theorem Blv:YOk T 122 Bkh:=zC (fM A0u (fM Blu fN)) (by kernel_rfl)
def Bki:AnsY:=⟨45,[(.slice none [wI [1,1] false,wI [2] false,wI [3] false] false),wN 2],(.tuple [(.slice none [wI [1,1,2] false,wI [2] false,wI [3] false] false),wN 0,wN 0]),false⟩
theorem Blw:YOk T 122 Bki:=zC (fM A0u fN) (by kernel_rfl)
def Bkj:AnsY:=⟨45,[(.slice none [wI [1,1] false,wI [2] false,wI [3] false] false),wN 100],(.tuple [wI [] false,wN 0,wN 3]),false⟩
theorem Blx:YOk T 122 Bkj:=zC (fM A0u fN) (by kernel_rfl)
def Bkk:AnsY:=⟨46,[(.slice none [wI [1,1] false,wI [2] false,wI [3] false] false),wN 2],(.tuple [(.slice none [wI [1,2] false,wI [3] false] false),wN 1,wN 0]),false⟩
theorem Bly:YOk T 122 Bkk:=zC (fM A0u fN) (by kernel_rfl)
def Bkl:AnsY:=⟨46,[(.slice none [wI [1,1] false,wI [2] false,wI [3] false] false),wN 1],(.tuple [wI [] false,wN 0,wN 22]),false⟩
theorem Blz:YOk T 122 Bkl:=zC (fM A0u fN) (by kernel_rfl)
def Bkm:AnsY:=⟨44,[wI [1] false],wI [1] false,false⟩
theorem Bma:YOk T 61 Bkm:=zC fN (by kernel_rfl)
def Bkn:AnsY:=⟨47,[(.slice none [wI [1,1] false,wI [1] false] false)],wN 22,false⟩
theorem Bmb:YOk T 61 Bkn:=zC fN (by kernel_rfl)
def Bko:AnsY:=⟨48,[(.slice none [wI [1,3] false,wI [3] false] false)],wN 11,false⟩
theorem Bmc:YOk T 61 Bko:=zC fN (by kernel_rfl)
def Bkp:AnsY:=⟨49,[wI [3,1,2,1] false,wI [1,3] false],(.tuple [wN 2,wN 0]),false⟩
theorem Bmd:YOk T 61 Bkp:=zC fN (by kernel_rfl)
def Bkq:AnsY:=⟨44,[wI [0,1] false],wI [0,1] false,false⟩
theorem Bme:YOk T 61 Bkq:=zC fN (by kernel_rfl)
def Bkr:AnsY:=⟨49,[wI [3,1,2,1] false,wI [0,1] false],(.tuple [wN 0,wN 22]),false⟩
theorem Bmf:YOk T 61 Bkr:=zC fN (by kernel_rfl)
def Bks:AnsY:=⟨44,[wI [0,2,3] false],wI [0,2,3] false,false⟩
theorem Bmg:YOk T 61 Bks:=zC fN (by kernel_rfl)
def Bkt:AnsY:=⟨92,[wI [0,1,2,3] false,wN 4],(.bool true),false⟩
theorem Bmh:YOk T 61 Bkt:=zC fN (by kernel_rfl)
def Bku:AnsY:=⟨50,[wI [3,1,2,1] false,(.slice none [wI [0,2,3] false,wI [1] false] false)],(.tuple [wN 2,wN 0]),false⟩
theorem Bmi:YOk T 122 Bku:=zC (fM Bmh fN) (by kernel_rfl)
def Bkv:AnsY:=⟨92,[wI [0,1,2] false,wN 4],(.bool true),false⟩
theorem Bmj:YOk T 61 Bkv:=zC fN (by kernel_rfl)
def Bkw:AnsY:=⟨50,[wI [3,1,2,1] false,(.slice none [wI [0,1] false,wI [2] false] false)],(.tuple [wN 0,wN 15]),false⟩
theorem Bmk:YOk T 122 Bkw:=zC (fM Bmj fN) (by kernel_rfl)
def Bkx:AnsY:=⟨34,[wI [3,1,2,1] false],(.tuple [(.slice none [wI [0,1] false,wI [2,3] false] false),(wI [(-1),(-1),1,1] false)]),false⟩
theorem Alk:YOk T 61 Bkx:=zC fN (by kernel_rfl)
def Bky:AnsY:=⟨16,[wI [3,1,2,1] false],(.tuple [wI [1,2] false,wN 0]),false⟩
theorem Bml:YOk T 122 Bky:=zC (fM Alk fN) (by kernel_rfl)
def Bkz:AnsY:=⟨51,[wI [3,1,2,1] false],(.tuple [(.slice none [wI [0,1] false,wI [2,3] false] false),wN 0]),false⟩
theorem Bmm:YOk T 122 Bkz:=zC (fM Alk fN) (by kernel_rfl)
def Bla:AnsY:=⟨44,[wI [3,1] false],wI [3,1] false,false⟩
theorem Bmn:YOk T 61 Bla:=zC fN (by kernel_rfl)
def Blb:AnsY:=⟨52,[wI [3,1] false],(.tuple [(.slice none [wI [4,2,1] false,wI [1] false] false),wN 0]),false⟩
theorem All:YOk T 61 Blb:=zC fN (by kernel_rfl)
def Blc:AnsY:=⟨53,[wI [3,1] false],(.tuple [wN 3,wN 0]),false⟩
theorem Bmo:YOk T 122 Blc:=zC (fM All fN) (by kernel_rfl)
def Bld:AnsY:=⟨44,[wI [1,2] false],wI [1,2] false,false⟩
theorem Bmp:YOk T 61 Bld:=zC fN (by kernel_rfl)
def Ble:AnsY:=⟨53,[wI [1,2] false],(.tuple [wN 0,wN 22]),false⟩
theorem Bmq:YOk T 61 Ble:=zC fN (by kernel_rfl)
def Blf:AnsY:=⟨18,[wI [3,1,2,1] false,wI [1,2] false],(.tuple [wN 2,wN 0]),false⟩
theorem Bmr:YOk T 61 Blf:=zC fN (by kernel_rfl)
def Blg:AnsY:=⟨54,[wI [3,1,2,1] false,(.slice none [wI [0,1] false,wI [2,3] false] false)],(.tuple [wN 2,wN 0]),false⟩
theorem Bms:YOk T 61 Blg:=zC fN (by kernel_rfl)
def Blh:AnsY:=⟨14,[(.slice none [wI [1,1] false,wI [2] false,wI [3] false] false),(.slice none [wI [1,1] false,wI [2] false,wI [3] false] false)],(.bool true),false⟩
theorem Bmt:YOk T 61 Blh:=zC fN (by kernel_rfl)
def Bli:AnsY:=⟨14,[(.slice none [wI [1,3] false,wI [2] false,wI [4] false] false),(.slice none [wI [1,3] false,wI [2] false,wI [4] false] false)],(.bool true),false⟩
theorem Bmu:YOk T 61 Bli:=zC fN (by kernel_rfl)
def Blj:AnsY:=⟨30,[wI [3,1,2,1] false,wI [3,1,2,1] false],(.bool true),false⟩
theorem Bmv:YOk T 61 Blj:=zC fN (by kernel_rfl)
def Blk:AnsY:=⟨44,[wI [1,1,2] false],wI [1,1,2] false,false⟩
theorem Bmw:YOk T 61 Blk:=zC fN (by kernel_rfl)
def Bll:AnsY:=⟨14,[(.slice none [wI [1,1,2] false,wI [2] false,wI [3] false] false),(.slice none [wI [1,1,2] false,wI [2] false,wI [3] false] false)],(.bool true),false⟩
theorem Bmx:YOk T 61 Bll:=zC fN (by kernel_rfl)
def Blm:AnsY:=⟨14,[(.slice none [wI [1,2] false,wI [3] false] false),(.slice none [wI [1,2] false,wI [3] false] false)],(.bool true),false⟩
theorem Bmy:YOk T 61 Blm:=zC fN (by kernel_rfl)
def Bln:AnsY:=⟨44,[wI [4,2,1] false],wI [4,2,1] false,false⟩
theorem Bmz:YOk T 61 Bln:=zC fN (by kernel_rfl)
def Blo:AnsY:=⟨14,[(.slice none [wI [4,2,1] false,wI [1] false] false),(.slice none [wI [4,2,1] false,wI [1] false] false)],(.bool true),false⟩
theorem Bna:YOk T 61 Blo:=zC fN (by kernel_rfl)
def Blp:AnsY:=⟨21,[],(.bool true),false⟩
theorem Bnb:YOk T 183 Blp:=zC (fM Bsq (fM Bsr (fM Bss (fM Bst (fM Bls (fM Blt (fM Atl (fM Blv (fM Blw (fM Blx (fM Bly (fM Blz (fM Ati (fM Bma (fM Bmb (fM Atk (fM Atj (fM Bmc (fM Bmd (fM Bme (fM Bmf (fM Bmg (fM Bmi (fM Ajr (fM Bmk (fM Bml (fM Bmm (fM Bmn (fM All (fM Bmo (fM Bmp (fM Bmq (fM Bmr (fM Bms (fM Bmt (fM Bmu (fM Bmv (fM Bmw (fM Bmx (fM Bmy (fM Bmz (fM Bna fN)))))))))))))))))))))))))))))))))))))))))) (by kernel_rfl)
theorem Apt:YOk T 183 ⟨21,[],.bool true,false⟩:=Bnb
theorem wks8:YOk T 4561 (wkY 6):=zC (fM wks7 (fM Apt fN)) (by kernel_rfl)
theorem A6y:Con T 4600 6 [] (.bool true):=Gt (wks8.mono (by decide))
end Go.Ev.YtofpilpmiddpgaaGreatC
namespace Go.Ev.YtofpilpmiddpgaaGreatC
open Go Go.Proofs Go.ChangeShapes Go.WideShapes Go.ChangeAt
attribute [local irreducible] Res.all evC Dg Dj Bo Bg Dm Bf Bi G GO GV GP GC R
def Jx:Nat:=6000
theorem Wg (l:List Int) (_:∀n∈l,(Lit.int .i64 n).wf=true) (_:l.length<=maxLen) :
  (Dm (Bf T Jx) c3 [.slice none (l.map (.int .i64)) false] []).all fun p=>p.1 = .bool true:=
 A2u 4600 Jx A6y (by decide) (by decide) l
end Go.Ev.YtofpilpmiddpgaaGreatC
