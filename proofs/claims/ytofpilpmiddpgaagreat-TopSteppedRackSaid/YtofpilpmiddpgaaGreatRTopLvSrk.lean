/- The works of all layers up to 6. The works of all layers up to 7. The works of a layer's examples, each call reckoned by the kernel, and joined. The works of all layers up to 8. The law TopSteppedRack answers true, whatever it is handed. No condition but those that stand in each. -/
import Derived.Test.YtofpilpmiddpgaaGreatRTopWA
import Derived.Test.YtofpilpmiddpgaaGreatRTopWB
import Derived.Test.YtofpilpmiddpgaaGreatRTopWC
import Derived.Test.YtofpilpmiddpgaaGreatRTopWD
import Derived.Test.YtofpilpmiddpgaaGreatRTopWE
import Derived.Test.YtofpilpmiddpgaaGreatRTopWF
import Derived.Test.YtofpilpmiddpgaaGreatRTopShd
import Derived.Test.YtofpilpmiddpgaaGreatRTopWG
import Derived.Test.YtofpilpmiddpgaaGreatRTopW
import Derived.Test.YtofpilpmiddpgaaGreatRRkLwS
import Derived.OpenShut
set_option linter.unusedSimpArgs false
set_option linter.unusedVariables false
set_option maxRecDepth 100000
namespace Go.Ev.YtofpilpmiddpgaaGreatC
open Go Go.Proofs
abbrev wkY (f:Nat):AnsY:=⟨f,[],.bool true,false⟩
theorem wks3:YOk T 4061 (wkY 147):=zC (fM Aoh (fM Aoi (fM Aoj fN))) (by kernel_rfl)
theorem wks4:YOk T 4161 (wkY 103):=zC (fM wks3 (fM Aok fN)) (by kernel_rfl)
theorem wks5:YOk T 4261 (wkY 65):=zC (fM wks4 (fM Aol fN)) (by kernel_rfl)
theorem wks6:YOk T 4361 (wkY 37):=zC (fM wks5 (fM Aom fN)) (by kernel_rfl)
theorem wks7:YOk T 4461 (wkY 20):=zC (fM wks6 (fM Aon fN)) (by kernel_rfl)
def Brd:AnsY:=⟨39,[],wI [3,1,2,1] false,false⟩
theorem Brn:YOk T 61 Brd:=zC fN (by kernel_rfl)
def Bre:AnsY:=⟨44,[wI [1,1] false],wI [1,1] false,false⟩
theorem Ase:YOk T 61 Bre:=zC fN (by kernel_rfl)
def Brf:AnsY:=⟨44,[wI [2] false],wI [2] false,false⟩
theorem Aiy:YOk T 61 Brf:=zC fN (by kernel_rfl)
def Brg:AnsY:=⟨44,[wI [3] false],wI [3] false,false⟩
theorem Asf:YOk T 61 Brg:=zC fN (by kernel_rfl)
def Brh:AnsY:=⟨40,[],(.slice none [wI [1,1] false,wI [2] false,wI [3] false] false),false⟩
theorem Bro:YOk T 122 Brh:=zC (fM Ase (fM Aiy (fM Asf fN))) (by kernel_rfl)
def Bri:AnsY:=⟨44,[wI [1,3] false],wI [1,3] false,false⟩
theorem Asg:YOk T 61 Bri:=zC fN (by kernel_rfl)
def Brj:AnsY:=⟨44,[wI [4] false],wI [4] false,false⟩
theorem Ash:YOk T 61 Brj:=zC fN (by kernel_rfl)
def Brk:AnsY:=⟨41,[],(.slice none [wI [1,3] false,wI [2] false,wI [4] false] false),false⟩
theorem Brp:YOk T 122 Brk:=zC (fM Asg (fM Aiy (fM Ash fN))) (by kernel_rfl)
def Brl:AnsY:=⟨10,[wI [3,1,2,1] false],(.tuple [(.slice none [wI [1,1] false,wI [2] false,wI [3] false] false),(.slice none [wI [1,3] false,wI [2] false,wI [4] false] false),wN 0]),false⟩
theorem Brq:YOk T 61 Brl:=zC fN (by kernel_rfl)
def Brm:AnsY:=⟨47,[(.slice none [wI [1,1] false,wI [2] false,wI [3] false] false)],wN 0,false⟩
theorem A0r:YOk T 61 Brm:=zC fN (by kernel_rfl)
def Biy:AnsY:=⟨48,[(.slice none [wI [1,3] false,wI [2] false,wI [4] false] false)],wN 0,false⟩
theorem Bkm:YOk T 61 Biy:=zC fN (by kernel_rfl)
def Biz:AnsY:=⟨85,[(.slice none [wI [1,3] false,wI [2] false,wI [4] false] false),(.clo 86 [] [(.ptr [wN 4] 0)])],wN 2,false⟩
theorem Bkn:YOk T 61 Biz:=zC fN (by kernel_rfl)
def Bja:AnsY:=⟨42,[(.slice none [wI [1,1] false,wI [2] false,wI [3] false] false),(.slice none [wI [1,3] false,wI [2] false,wI [4] false] false)],(.tuple [wI [3,1,2,1] false,wN 0]),false⟩
theorem Bko:YOk T 122 Bja:=zC (fM A0r (fM Bkm (fM Bkn fN))) (by kernel_rfl)
def Bjb:AnsY:=⟨44,[wI [1,2,3] false],wI [1,2,3] false,false⟩
theorem Bkp:YOk T 61 Bjb:=zC fN (by kernel_rfl)
def Bjc:AnsY:=⟨48,[(.slice none [wI [1,2,3] false,wI [4] false] false)],wN 0,false⟩
theorem Bkq:YOk T 61 Bjc:=zC fN (by kernel_rfl)
def Bjd:AnsY:=⟨42,[(.slice none [wI [1,1] false,wI [2] false,wI [3] false] false),(.slice none [wI [1,2,3] false,wI [4] false] false)],(.tuple [wI [] false,wN 15]),false⟩
theorem Bkr:YOk T 122 Bjd:=zC (fM A0r (fM Bkq fN)) (by kernel_rfl)
def Bje:AnsY:=⟨45,[(.slice none [wI [1,1] false,wI [2] false,wI [3] false] false),wN 2],(.tuple [(.slice none [wI [1,1,2] false,wI [2] false,wI [3] false] false),wN 0,wN 0]),false⟩
theorem Bks:YOk T 122 Bje:=zC (fM A0r fN) (by kernel_rfl)
def Bjf:AnsY:=⟨45,[(.slice none [wI [1,1] false,wI [2] false,wI [3] false] false),wN 100],(.tuple [wI [] false,wN 0,wN 3]),false⟩
theorem Bkt:YOk T 122 Bjf:=zC (fM A0r fN) (by kernel_rfl)
def Bjg:AnsY:=⟨46,[(.slice none [wI [1,1] false,wI [2] false,wI [3] false] false),wN 2],(.tuple [(.slice none [wI [1,2] false,wI [3] false] false),wN 1,wN 0]),false⟩
theorem Bku:YOk T 122 Bjg:=zC (fM A0r fN) (by kernel_rfl)
def Bjh:AnsY:=⟨46,[(.slice none [wI [1,1] false,wI [2] false,wI [3] false] false),wN 1],(.tuple [wI [] false,wN 0,wN 22]),false⟩
theorem Bkv:YOk T 122 Bjh:=zC (fM A0r fN) (by kernel_rfl)
def Bji:AnsY:=⟨44,[wI [1] false],wI [1] false,false⟩
theorem Bkw:YOk T 61 Bji:=zC fN (by kernel_rfl)
def Bjj:AnsY:=⟨47,[(.slice none [wI [1,1] false,wI [1] false] false)],wN 22,false⟩
theorem Bkx:YOk T 61 Bjj:=zC fN (by kernel_rfl)
def Bjk:AnsY:=⟨48,[(.slice none [wI [1,3] false,wI [3] false] false)],wN 11,false⟩
theorem Bky:YOk T 61 Bjk:=zC fN (by kernel_rfl)
def Bjl:AnsY:=⟨49,[wI [3,1,2,1] false,wI [1,3] false],(.tuple [wN 2,wN 0]),false⟩
theorem Bkz:YOk T 61 Bjl:=zC fN (by kernel_rfl)
def Bjm:AnsY:=⟨44,[wI [0,1] false],wI [0,1] false,false⟩
theorem Bla:YOk T 61 Bjm:=zC fN (by kernel_rfl)
def Bjn:AnsY:=⟨49,[wI [3,1,2,1] false,wI [0,1] false],(.tuple [wN 0,wN 22]),false⟩
theorem Blb:YOk T 61 Bjn:=zC fN (by kernel_rfl)
def Bjo:AnsY:=⟨44,[wI [0,2,3] false],wI [0,2,3] false,false⟩
theorem Blc:YOk T 61 Bjo:=zC fN (by kernel_rfl)
def Bjp:AnsY:=⟨92,[wI [0,1,2,3] false,wN 4],(.bool true),false⟩
theorem Bld:YOk T 61 Bjp:=zC fN (by kernel_rfl)
def Bjq:AnsY:=⟨50,[wI [3,1,2,1] false,(.slice none [wI [0,2,3] false,wI [1] false] false)],(.tuple [wN 2,wN 0]),false⟩
theorem Ble:YOk T 122 Bjq:=zC (fM Bld fN) (by kernel_rfl)
def Bjr:AnsY:=⟨92,[wI [0,1,2] false,wN 4],(.bool true),false⟩
theorem Blf:YOk T 61 Bjr:=zC fN (by kernel_rfl)
def Bjs:AnsY:=⟨50,[wI [3,1,2,1] false,(.slice none [wI [0,1] false,wI [2] false] false)],(.tuple [wN 0,wN 15]),false⟩
theorem Blg:YOk T 122 Bjs:=zC (fM Blf fN) (by kernel_rfl)
def Bjt:AnsY:=⟨34,[wI [3,1,2,1] false],(.tuple [(.slice none [wI [0,1] false,wI [2,3] false] false),(wI [(-1),(-1),1,1] false)]),false⟩
theorem Akq:YOk T 61 Bjt:=zC fN (by kernel_rfl)
def Bju:AnsY:=⟨16,[wI [3,1,2,1] false],(.tuple [wI [1,2] false,wN 0]),false⟩
theorem Blh:YOk T 122 Bju:=zC (fM Akq fN) (by kernel_rfl)
def Bjv:AnsY:=⟨51,[wI [3,1,2,1] false],(.tuple [(.slice none [wI [0,1] false,wI [2,3] false] false),wN 0]),false⟩
theorem Bli:YOk T 122 Bjv:=zC (fM Akq fN) (by kernel_rfl)
def Bjw:AnsY:=⟨44,[wI [3,1] false],wI [3,1] false,false⟩
theorem Blj:YOk T 61 Bjw:=zC fN (by kernel_rfl)
def Bjx:AnsY:=⟨52,[wI [3,1] false],(.tuple [(.slice none [wI [4,2,1] false,wI [1] false] false),wN 0]),false⟩
theorem Akr:YOk T 61 Bjx:=zC fN (by kernel_rfl)
def Bjy:AnsY:=⟨53,[wI [3,1] false],(.tuple [wN 3,wN 0]),false⟩
theorem Blk:YOk T 122 Bjy:=zC (fM Akr fN) (by kernel_rfl)
def Bjz:AnsY:=⟨44,[wI [1,2] false],wI [1,2] false,false⟩
theorem Bll:YOk T 61 Bjz:=zC fN (by kernel_rfl)
def Bka:AnsY:=⟨53,[wI [1,2] false],(.tuple [wN 0,wN 22]),false⟩
theorem Blm:YOk T 61 Bka:=zC fN (by kernel_rfl)
def Bkb:AnsY:=⟨18,[wI [3,1,2,1] false,wI [1,2] false],(.tuple [wN 2,wN 0]),false⟩
theorem Bln:YOk T 61 Bkb:=zC fN (by kernel_rfl)
def Bkc:AnsY:=⟨54,[wI [3,1,2,1] false,(.slice none [wI [0,1] false,wI [2,3] false] false)],(.tuple [wN 2,wN 0]),false⟩
theorem Blo:YOk T 61 Bkc:=zC fN (by kernel_rfl)
def Bkd:AnsY:=⟨14,[(.slice none [wI [1,1] false,wI [2] false,wI [3] false] false),(.slice none [wI [1,1] false,wI [2] false,wI [3] false] false)],(.bool true),false⟩
theorem Blp:YOk T 61 Bkd:=zC fN (by kernel_rfl)
def Bke:AnsY:=⟨14,[(.slice none [wI [1,3] false,wI [2] false,wI [4] false] false),(.slice none [wI [1,3] false,wI [2] false,wI [4] false] false)],(.bool true),false⟩
theorem Blq:YOk T 61 Bke:=zC fN (by kernel_rfl)
def Bkf:AnsY:=⟨30,[wI [3,1,2,1] false,wI [3,1,2,1] false],(.bool true),false⟩
theorem Blr:YOk T 61 Bkf:=zC fN (by kernel_rfl)
def Bkg:AnsY:=⟨44,[wI [1,1,2] false],wI [1,1,2] false,false⟩
theorem Bls:YOk T 61 Bkg:=zC fN (by kernel_rfl)
def Bkh:AnsY:=⟨14,[(.slice none [wI [1,1,2] false,wI [2] false,wI [3] false] false),(.slice none [wI [1,1,2] false,wI [2] false,wI [3] false] false)],(.bool true),false⟩
theorem Blt:YOk T 61 Bkh:=zC fN (by kernel_rfl)
def Bki:AnsY:=⟨14,[(.slice none [wI [1,2] false,wI [3] false] false),(.slice none [wI [1,2] false,wI [3] false] false)],(.bool true),false⟩
theorem Blu:YOk T 61 Bki:=zC fN (by kernel_rfl)
def Bkj:AnsY:=⟨44,[wI [4,2,1] false],wI [4,2,1] false,false⟩
theorem Blv:YOk T 61 Bkj:=zC fN (by kernel_rfl)
def Bkk:AnsY:=⟨14,[(.slice none [wI [4,2,1] false,wI [1] false] false),(.slice none [wI [4,2,1] false,wI [1] false] false)],(.bool true),false⟩
theorem Blw:YOk T 61 Bkk:=zC fN (by kernel_rfl)
def Bkl:AnsY:=⟨21,[],(.bool true),false⟩
theorem Blx:YOk T 183 Bkl:=zC (fM Brn (fM Bro (fM Brp (fM Brq (fM Bko (fM Bkp (fM Ash (fM Bkr (fM Bks (fM Bkt (fM Bku (fM Bkv (fM Ase (fM Bkw (fM Bkx (fM Asg (fM Asf (fM Bky (fM Bkz (fM Bla (fM Blb (fM Blc (fM Ble (fM Aiy (fM Blg (fM Blh (fM Bli (fM Blj (fM Akr (fM Blk (fM Bll (fM Blm (fM Bln (fM Blo (fM Blp (fM Blq (fM Blr (fM Bls (fM Blt (fM Blu (fM Blv (fM Blw fN)))))))))))))))))))))))))))))))))))))))))) (by kernel_rfl)
theorem Aoo:YOk T 183 ⟨21,[],.bool true,false⟩:=Blx
theorem wks8:YOk T 4561 (wkY 6):=zC (fM wks7 (fM Aoo fN)) (by kernel_rfl)
theorem A6w:Con T 4600 6 [] (.bool true):=Gn (wks8.mono (by decide))
end Go.Ev.YtofpilpmiddpgaaGreatC
namespace Go.Ev.YtofpilpmiddpgaaGreatC
open Go Go.Proofs Go.ChangeShapes Go.WideShapes Go.ChangeAt
attribute [local irreducible] Res.all evC Dd Dg Bo Bf Dl Bg Bi G GO GV GP GC R
def Jr:Nat:=6000
theorem Wf (l:List Int) (_:∀n∈l,(Lit.int .i64 n).wf=true) (_:l.length<=maxLen) :
  (Dl (Bg T Jr) c4 [.slice none (l.map (.int .i64)) false] []).all fun p=>p.1 = .bool true:=
 A0p 4600 Jr A6w (by decide) (by decide) l
end Go.Ev.YtofpilpmiddpgaaGreatC
