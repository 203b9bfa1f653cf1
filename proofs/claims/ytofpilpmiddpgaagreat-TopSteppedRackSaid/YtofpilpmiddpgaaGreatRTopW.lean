/- slices.Sort of numbers in this program does what the kit's contract of it says: the numbers come into their order. slices.Sort of numbers in this program does what the kit's contract of it says: the numbers come into their order. The table of the functions, looked up in the program as the evaluator compiles it; two that sort, and one that copies, apart. Short words for values. No condition but those that stand in each. -/
import Derived.Shelf.SortG.Plain
import Derived.Test.YtofpilpmiddpgaaGreatREvSort
import Derived.Test.YtofpilpmiddpgaaGreatProg
import Derived.KernelRfl
import Derived.Shelf.Sort.Plain
import Derived.Test.YtofpilpmiddpgaaGreatREvWalk
import Derived.Test.YtofpilpmiddpgaaGreatREvKer3
set_option linter.unusedSimpArgs false
set_option linter.unusedVariables false
set_option maxRecDepth 100000
namespace Go.Ev.YtofpilpmiddpgaaGreatC
open Go Go.Proofs Go.Shelf
def A8a:Go.Shelf.Ren:=⟨fun | 53=>335 | 64=>144 | 63=>403 | 78=>193 | 79=>194 | 70=>436 | 71=>437 | 72=>438 | 73=>439 | 74=>440 | 75=>441 | 59=>442 | 76=>443 | 77=>444 | 88=>452 | 89=>238 | 90=>239 | 91=>453 | 92=>454 | 68=>389 | 96=>457 | n=>n,fun | 22=>101 | 23=>2 | 3=>3 | 51=>167 | 0=>0 | 67=>206 | 69=>208 | 4=>4 | 61=>199 | 60=>198 | 44=>66 | 5=>5 | 9=>9 | 75=>248 | 79=>252 | 83=>324 | 84=>60 | n=>n,fun | n=>n⟩
theorem sort335:Go.Proofs.SlLaysN.n53 Tryz.prog A8a:={
 mixed:=by kernel_rfl
 f53:=⟨Tryz.f335.name,by decide,Tryz.func335.trans (congrArg some (by kernel_rfl))⟩
 f59:=⟨Tryz.f442.name,by decide,Tryz.func442.trans (congrArg some (by kernel_rfl))⟩
 f63:=⟨Tryz.f403.name,by decide,Tryz.func403.trans (congrArg some (by kernel_rfl))⟩
 f64:=Tryz.func144.trans (congrArg some (by kernel_rfl))
 f68:=⟨Tryz.f389.name,by decide,Tryz.func389.trans (congrArg some (by kernel_rfl))⟩
 f70:=⟨Tryz.f436.name,by decide,Tryz.func436.trans (congrArg some (by kernel_rfl))⟩
 f71:=⟨Tryz.f437.name,by decide,Tryz.func437.trans (congrArg some (by kernel_rfl))⟩
 f72:=⟨Tryz.f438.name,by decide,Tryz.func438.trans (congrArg some (by kernel_rfl))⟩
 f73:=⟨Tryz.f439.name,by decide,Tryz.func439.trans (congrArg some (by kernel_rfl))⟩
 f74:=⟨Tryz.f440.name,by decide,Tryz.func440.trans (congrArg some (by kernel_rfl))⟩
 f75:=⟨Tryz.f441.name,by decide,Tryz.func441.trans (congrArg some (by kernel_rfl))⟩
 f76:=⟨Tryz.f443.name,by decide,Tryz.func443.trans (congrArg some (by kernel_rfl))⟩
 f77:=⟨Tryz.f444.name,by decide,Tryz.func444.trans (congrArg some (by kernel_rfl))⟩
 f78:=Tryz.func193.trans (congrArg some (by kernel_rfl))
 f79:=Tryz.func194.trans (congrArg some (by kernel_rfl))
 f88:=⟨Tryz.f452.name,by decide,Tryz.func452.trans (congrArg some (by kernel_rfl))⟩
 f89:=Tryz.func238.trans (congrArg some (by kernel_rfl))
 f90:=Tryz.func239.trans (congrArg some (by kernel_rfl))
 f91:=⟨Tryz.f453.name,by decide,Tryz.func453.trans (congrArg some (by kernel_rfl))⟩
 f92:=⟨Tryz.f454.name,by decide,Tryz.func454.trans (congrArg some (by kernel_rfl))⟩
 f96:=⟨Tryz.f457.name,by decide,Tryz.func457.trans (congrArg some (by kernel_rfl))⟩
 t0:=Tryz.underlying0
 a0:=Tryz.isAgg0
 z0:=Tryz.sizeOf0
 v0:=Tryz.zeroValue0
 t3:=Tryz.underlying3
 a3:=Tryz.isAgg3
 z3:=Tryz.sizeOf3
 v3:=Tryz.zeroValue3
 t4:=Tryz.underlying4
 a4:=Tryz.isAgg4
 z4:=Tryz.sizeOf4
 v4:=Tryz.zeroValue4
 t5:=Tryz.underlying5
 a5:=Tryz.isAgg5
 z5:=Tryz.sizeOf5
 v5:=Tryz.zeroValue5
 t9:=Tryz.underlying9
 a9:=Tryz.isAgg9
 z9:=Tryz.sizeOf9
 v9:=Tryz.zeroValue9
 t22:=Tryz.underlying101
 a22:=Tryz.isAgg101
 z22:=Tryz.sizeOf101
 v22:=Tryz.zeroValue101
 t23:=Tryz.underlying2
 a23:=Tryz.isAgg2
 z23:=Tryz.sizeOf2
 v23:=Tryz.zeroValue2
 t44:=Tryz.underlying66
 a44:=Tryz.isAgg66
 z44:=Tryz.sizeOf66
 v44:=Tryz.zeroValue66
 t51:=Tryz.underlying167
 a51:=Tryz.isAgg167
 z51:=Tryz.sizeOf167
 v51:=Tryz.zeroValue167
 t60:=Tryz.underlying198
 a60:=Tryz.isAgg198
 z60:=Tryz.sizeOf198
 v60:=Tryz.zeroValue198
 t61:=Tryz.underlying199
 a61:=Tryz.isAgg199
 z61:=Tryz.sizeOf199
 v61:=Tryz.zeroValue199
 t67:=Tryz.underlying206
 a67:=Tryz.isAgg206
 z67:=Tryz.sizeOf206
 v67:=Tryz.zeroValue206
 t69:=Tryz.underlying208
 a69:=Tryz.isAgg208
 z69:=Tryz.sizeOf208
 v69:=Tryz.zeroValue208
 t75:=Tryz.underlying248
 a75:=Tryz.isAgg248
 z75:=Tryz.sizeOf248
 v75:=Tryz.zeroValue248
 t79:=Tryz.underlying252
 a79:=Tryz.isAgg252
 z79:=Tryz.sizeOf252
 v79:=Tryz.zeroValue252
 t83:=Tryz.underlying324
 a83:=Tryz.isAgg324
 z83:=Tryz.sizeOf324
 v83:=Tryz.zeroValue324
 t84:=Tryz.underlying60
 a84:=Tryz.isAgg60
 z84:=Tryz.sizeOf60
 v84:=Tryz.zeroValue60 }
theorem Abv:SortOk Tryz.prog 335:=A2h ⟨Tryz.f335,Tryz.func335,by decide,rfl⟩ fun blk off cap zs w h1 h2 h3=>AnyG.slices_Sort_int sort335 blk off cap zs w h1 h2 h3
def Abw:Go.Shelf.Ren:=⟨fun | 189=>90 | 125=>144 | 257=>143 | 128=>193 | 129=>194 | 294=>184 | 295=>185 | 296=>186 | 297=>187 | 298=>188 | 299=>189 | 216=>190 | 300=>191 | 301=>192 | 328=>237 | 329=>238 | 330=>239 | 331=>240 | 332=>241 | 215=>242 | 343=>320 | n=>n,fun | 28=>22 | 3=>3 | 46=>167 | 0=>0 | 51=>206 | 53=>208 | 4=>4 | 183=>199 | 182=>198 | 131=>66 | 5=>5 | 9=>9 | 218=>248 | 222=>252 | 228=>324 | 229=>60 | n=>n,fun | n=>n⟩
theorem sort90:Go.Proofs.Lays.n189 Tryz.prog Abw:={
 mixed:=by kernel_rfl
 f125:=Tryz.func144.trans (congrArg some (by kernel_rfl))
 f128:=Tryz.func193.trans (congrArg some (by kernel_rfl))
 f129:=Tryz.func194.trans (congrArg some (by kernel_rfl))
 f189:=Tryz.func90.trans (congrArg some (by kernel_rfl))
 f215:=Tryz.func242.trans (congrArg some (by kernel_rfl))
 f216:=Tryz.func190.trans (congrArg some (by kernel_rfl))
 f257:=Tryz.func143.trans (congrArg some (by kernel_rfl))
 f294:=Tryz.func184.trans (congrArg some (by kernel_rfl))
 f295:=Tryz.func185.trans (congrArg some (by kernel_rfl))
 f296:=Tryz.func186.trans (congrArg some (by kernel_rfl))
 f297:=Tryz.func187.trans (congrArg some (by kernel_rfl))
 f298:=Tryz.func188.trans (congrArg some (by kernel_rfl))
 f299:=Tryz.func189.trans (congrArg some (by kernel_rfl))
 f300:=Tryz.func191.trans (congrArg some (by kernel_rfl))
 f301:=Tryz.func192.trans (congrArg some (by kernel_rfl))
 f328:=Tryz.func237.trans (congrArg some (by kernel_rfl))
 f329:=Tryz.func238.trans (congrArg some (by kernel_rfl))
 f330:=Tryz.func239.trans (congrArg some (by kernel_rfl))
 f331:=Tryz.func240.trans (congrArg some (by kernel_rfl))
 f332:=Tryz.func241.trans (congrArg some (by kernel_rfl))
 f343:=Tryz.func320.trans (congrArg some (by kernel_rfl))
 t0:=Tryz.underlying0
 a0:=Tryz.isAgg0
 z0:=Tryz.sizeOf0
 v0:=Tryz.zeroValue0
 t3:=Tryz.underlying3
 a3:=Tryz.isAgg3
 z3:=Tryz.sizeOf3
 v3:=Tryz.zeroValue3
 t4:=Tryz.underlying4
 a4:=Tryz.isAgg4
 z4:=Tryz.sizeOf4
 v4:=Tryz.zeroValue4
 t5:=Tryz.underlying5
 a5:=Tryz.isAgg5
 z5:=Tryz.sizeOf5
 v5:=Tryz.zeroValue5
 t9:=Tryz.underlying9
 a9:=Tryz.isAgg9
 z9:=Tryz.sizeOf9
 v9:=Tryz.zeroValue9
 t28:=Tryz.underlying22
 a28:=Tryz.isAgg22
 z28:=Tryz.sizeOf22
 v28:=Tryz.zeroValue22
 t46:=Tryz.underlying167
 a46:=Tryz.isAgg167
 z46:=Tryz.sizeOf167
 v46:=Tryz.zeroValue167
 t51:=Tryz.underlying206
 a51:=Tryz.isAgg206
 z51:=Tryz.sizeOf206
 v51:=Tryz.zeroValue206
 t53:=Tryz.underlying208
 a53:=Tryz.isAgg208
 z53:=Tryz.sizeOf208
 v53:=Tryz.zeroValue208
 t131:=Tryz.underlying66
 a131:=Tryz.isAgg66
 z131:=Tryz.sizeOf66
 v131:=Tryz.zeroValue66
 t182:=Tryz.underlying198
 a182:=Tryz.isAgg198
 z182:=Tryz.sizeOf198
 v182:=Tryz.zeroValue198
 t183:=Tryz.underlying199
 a183:=Tryz.isAgg199
 z183:=Tryz.sizeOf199
 v183:=Tryz.zeroValue199
 t218:=Tryz.underlying248
 a218:=Tryz.isAgg248
 z218:=Tryz.sizeOf248
 v218:=Tryz.zeroValue248
 t222:=Tryz.underlying252
 a222:=Tryz.isAgg252
 z222:=Tryz.sizeOf252
 v222:=Tryz.zeroValue252
 t228:=Tryz.underlying324
 a228:=Tryz.isAgg324
 z228:=Tryz.sizeOf324
 v228:=Tryz.zeroValue324
 t229:=Tryz.underlying60
 a229:=Tryz.isAgg60
 z229:=Tryz.sizeOf60
 v229:=Tryz.zeroValue60 }
theorem Afj:SortOk Tryz.prog 90:=A2h ⟨Tryz.f90,Tryz.func90,by decide,rfl⟩ fun blk off cap zs w h1 h2 h3=>Any.slices_Sort_int sort90 blk off cap zs w h1 h2 h3
open Go.Proofs
abbrev dO (d:Nat) (o:IOp):IOper:=⟨some d,o,none⟩
abbrev eO (o:IOp):IOper:=⟨none,o,none⟩
abbrev gO (d:Nat) (o:IOp) (k:Nat) (b:Bool):IOper:=⟨some d,o,some (k,b)⟩
abbrev hO (o:IOp) (k:Nat) (b:Bool):IOper:=⟨none,o,some (k,b)⟩
abbrev tM (n:Nat):IX:=.tmp n
abbrev cI (n:Int):IX:=.const (.int .i64 n)
abbrev cB (b:Bool):IX:=.const (.bool b)
abbrev mV (d t:Nat):IOper:=⟨some d,.mv (.tmp t),none⟩
abbrev gV (d t k:Nat) (b:Bool):IOper:=⟨some d,.mv (.tmp t),some (k,b)⟩
abbrev sO (l:List IOper) (c:IC):IC:=.seq (.ops l) c
abbrev lD (d t:Nat):IOper:=⟨some d,.load none (.tmp t),none⟩
abbrev lN (d t:Nat):IOper:=⟨some d,.len (.tmp t),none⟩
abbrev xT (d t i:Nat):IOper:=⟨some d,.extract (.tmp t) i,none⟩
abbrev bB (d:Nat) (o:BinOp) (s t:Nat):IOper:=⟨some d,.bin o (.tmp s) (.tmp t),none⟩
abbrev bC (d:Nat) (o:BinOp) (s:Nat) (n:Int):IOper:=⟨some d,.bin o (.tmp s) (.const (.int .i64 n)),none⟩
abbrev iA (d s t:Nat):IOper:=⟨some d,.indexAddr 1 (.tmp s) (.tmp t),none⟩
def byr:FuncId->FuncId->Bool:=fun f g=>(g==143||g==184||g==185||g==186||g==187||g==188||g==189||g==191||g==192||g==237||g==239||g==240||g==241||g==320||g==388||g==403||g==433||g==434||g==435||g==436||g==437||g==438||g==439||g==440||g==441||g==443||g==444||g==449||g==450||g==451||g==452||g==453||g==454||g==455||g==456||g==457||g==458)||(f==4&&(g==17))||(f==8&&(g==24))||(f==10&&(g==28||g==1000000))||(f==15&&(g==22||g==33))||(f==21&&(g==43))||(f==22&&(g==56))||(f==28&&(g==61))||(f==29&&(g==1000001||g==1000004))||(f==34&&(g==28||g==29))||(f==40&&(g==43))||(f==41&&(g==43))||(f==42&&(g==82||g==88||g==1000004))||(f==45&&(g==29||g==82))||(f==46&&(g==82||g==88))||(f==48&&(g==84||g==90||g==91))||(f==50&&(g==84||g==90))||(f==56&&(g==61))||(f==57&&(g==1000000))||(f==66&&(g==122))||(f==70&&(g==128))||(f==73&&(g==125))||(f==78&&(g==135||g==136||g==137))||(f==82&&(g==28))||(f==84&&(g==139))||(f==109&&(g==22||g==33))||(f==125&&(g==135))||(f==132&&(g==132||g==179))||(f==136&&(g==1000003))||(f==151&&(g==222))||(f==154&&(g==151))||(f==165&&(g==230))||(f==166&&(g==61))||(f==173&&(g==233))||(f==176&&(g==1000000))||(f==183&&(g==1000000))||(f==204&&(g==292))||(f==206&&(g==294))||(f==209&&(g==290||g==299))||(f==210&&(g==301))||(f==212&&(g==303))||(f==219&&(g==310))||(f==255&&(g==334||g==335||g==336))||(f==262&&(g==342||g==346||g==347))||(f==278&&(g==366))||(f==290&&(g==294))||(f==292&&(g==381))||(f==293&&(g==384))||(f==298&&(g==90||g==1000001))||(f==301&&(g==290||g==386))||(f==303&&(g==61||g==1000002))||(f==326&&(g==396||g==1000001))||(f==334&&(g==335||g==1000001))||(f==341&&(g==90||g==405||g==408))||(f==342&&(g==411))||(f==349&&(g==2000023))||(f==350&&(g==416))||(f==365&&(g==61||g==424||g==425))||(f==366&&(g==427))||(f==368&&(g==428))||(f==370&&(g==415))||(f==383&&(g==294))||(f==386&&(g==1000000))||(f==390&&(g==1000000))||(f==400&&(g==1000000))||(f==405&&(g==1000003))||(f==416&&(g==346||g==347||g==1000000))||(f==424&&(g==61||g==408))||(f==429&&(g==1000000))||(f==432&&(g==1000000))||(f==445&&(g==1000000))
noncomputable def T:Cfg:=⟨fun f=>if f=335 then some Hb else if f=90 then some Hb else (Bp Tryz.prog byr).fns f,fun f=>decide (f=61)⟩
theorem Bt {f:Nat} {c:IFunc} (h:(Bp Tryz.prog byr).fns f=some c) (n335:f≠335) (n90:f≠90):T.fns f=some c:=by
 show (if f=335 then some Hb else if f=90 then some Hb else (Bp Tryz.prog byr).fns f)=some c
 rw [if_neg n335,if_neg n90,h]
theorem k61:(Bp Tryz.prog byr).fns 61=some Ku:=by kernel_rfl
theorem t335:T.fns 335=some Hb:=rfl
theorem t90:T.fns 90=some Hb:=rfl
theorem Bmf:A2u Tryz.prog T:=by
 refine ⟨fun f hf => ?_,fun f c hf => ?_⟩
 ·obtain rfl:f=61:=of_decide_eq_true hf
  exact Bt k61 (by decide) (by decide)
 ·by_cases n335:f=335
  ·subst n335
   rw [t335] at hf
   cases hf
   exact .inr ⟨rfl,Abv⟩
  by_cases n90:f=90
  ·subst n90
   rw [t90] at hf
   cases hf
   exact .inr ⟨rfl,Afj⟩
  have:T.fns f=(Bp Tryz.prog byr).fns f:=by
   show (if f=335 then some Hb else if f=90 then some Hb else (Bp Tryz.prog byr).fns f)=_
   rw [if_neg n335,if_neg n90]
  rw [this] at hf
  exact .inl (A3n _ _ hf)
open Go Go.Proofs
theorem fN {T:Cfg} {k:Nat}:∀a∈([]:List AnsY),YOk T k a:=fun _ h=>by cases h
theorem fM {T:Cfg} {a b:Nat} {y:AnsY} {l:List AnsY} (h:YOk T a y) (r:∀x∈l,YOk T b x) (hab:a<=b:=by decide):∀x∈y::l,YOk T b x:=List.forall_mem_cons.2 ⟨h.mono hab,r⟩
theorem zC {T:Cfg} {k f:Nat} {xs:List AV} {r:AV} {l:List AnsY} (hl:∀a∈l,YOk T k a) (hq:zB T l 60 f xs r=true):YOk T (k+60+1) ⟨f,xs,r,false⟩:=Gw hl hq
abbrev wN (n:Int):AV:=.int .i64 n
abbrev wI (l:List Int) (x:Bool):AV:=.slice none (l.map wN) x
end Go.Ev.YtofpilpmiddpgaaGreatC
