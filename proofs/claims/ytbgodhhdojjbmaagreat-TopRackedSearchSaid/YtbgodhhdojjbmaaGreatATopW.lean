/- slices.Sort of numbers in this program does what the kit's contract of it says: the numbers come into their order. slices.Sort of numbers in this program does what the kit's contract of it says: the numbers come into their order. The table of the functions, looked up in the program as the evaluator compiles it; two that sort, and one that copies, apart. Short words for values. No condition but those that stand in each. -/
import Derived.Shelf.SortG.Plain
import Derived.Test.YtbgodhhdojjbmaaGreatAEvSort
import Derived.Test.YtbgodhhdojjbmaaGreatProg
import Derived.KernelRfl
import Derived.Shelf.Sort.Plain
import Derived.Test.YtbgodhhdojjbmaaGreatAEvWalk
import Derived.Test.YtbgodhhdojjbmaaGreatAEvKer3
set_option linter.unusedSimpArgs false
set_option linter.unusedVariables false
set_option maxRecDepth 100000
namespace Go.Ev.YtbgodhhdojjbmaaGreatC
open Go Go.Proofs Go.Shelf
def Abn:Go.Shelf.Ren:=⟨fun | 53=>411 | 64=>98 | 63=>472 | 78=>141 | 79=>142 | 70=>504 | 71=>505 | 72=>506 | 73=>507 | 74=>508 | 75=>509 | 59=>510 | 76=>511 | 77=>512 | 88=>520 | 89=>186 | 90=>187 | 91=>521 | 92=>522 | 68=>463 | 96=>525 | n=>n,fun | 22=>27 | 23=>2 | 3=>3 | 51=>126 | 0=>0 | 67=>176 | 69=>178 | 4=>4 | 61=>169 | 60=>168 | 44=>75 | 5=>5 | 9=>9 | 75=>207 | 79=>211 | 83=>258 | 84=>99 | n=>n,fun | n=>n⟩
theorem sort411:Go.Proofs.SlLaysN.n53 Tryz.prog Abn:={
 mixed:=by kernel_rfl
 f53:=⟨Tryz.f411.name,by decide,Tryz.func411.trans (congrArg some (by kernel_rfl))⟩
 f59:=⟨Tryz.f510.name,by decide,Tryz.func510.trans (congrArg some (by kernel_rfl))⟩
 f63:=⟨Tryz.f472.name,by decide,Tryz.func472.trans (congrArg some (by kernel_rfl))⟩
 f64:=Tryz.func98.trans (congrArg some (by kernel_rfl))
 f68:=⟨Tryz.f463.name,by decide,Tryz.func463.trans (congrArg some (by kernel_rfl))⟩
 f70:=⟨Tryz.f504.name,by decide,Tryz.func504.trans (congrArg some (by kernel_rfl))⟩
 f71:=⟨Tryz.f505.name,by decide,Tryz.func505.trans (congrArg some (by kernel_rfl))⟩
 f72:=⟨Tryz.f506.name,by decide,Tryz.func506.trans (congrArg some (by kernel_rfl))⟩
 f73:=⟨Tryz.f507.name,by decide,Tryz.func507.trans (congrArg some (by kernel_rfl))⟩
 f74:=⟨Tryz.f508.name,by decide,Tryz.func508.trans (congrArg some (by kernel_rfl))⟩
 f75:=⟨Tryz.f509.name,by decide,Tryz.func509.trans (congrArg some (by kernel_rfl))⟩
 f76:=⟨Tryz.f511.name,by decide,Tryz.func511.trans (congrArg some (by kernel_rfl))⟩
 f77:=⟨Tryz.f512.name,by decide,Tryz.func512.trans (congrArg some (by kernel_rfl))⟩
 f78:=Tryz.func141.trans (congrArg some (by kernel_rfl))
 f79:=Tryz.func142.trans (congrArg some (by kernel_rfl))
 f88:=⟨Tryz.f520.name,by decide,Tryz.func520.trans (congrArg some (by kernel_rfl))⟩
 f89:=Tryz.func186.trans (congrArg some (by kernel_rfl))
 f90:=Tryz.func187.trans (congrArg some (by kernel_rfl))
 f91:=⟨Tryz.f521.name,by decide,Tryz.func521.trans (congrArg some (by kernel_rfl))⟩
 f92:=⟨Tryz.f522.name,by decide,Tryz.func522.trans (congrArg some (by kernel_rfl))⟩
 f96:=⟨Tryz.f525.name,by decide,Tryz.func525.trans (congrArg some (by kernel_rfl))⟩
 t0:=Tryz.underlying0
 a0:=Tryz.isAgg0
 z0:=Tryz.sizeOf0
 v0:=Tryz.zeroValue0
 t3:=Tryz.underlying3
 a3:=Tryz.isAgg3
 z3:=Tryz.sizeOf3
 v3:=Tryz.zeroValue3
 t4:=Tryz.underlying4
 a4:=Tryz.isAgg4
 z4:=Tryz.sizeOf4
 v4:=Tryz.zeroValue4
 t5:=Tryz.underlying5
 a5:=Tryz.isAgg5
 z5:=Tryz.sizeOf5
 v5:=Tryz.zeroValue5
 t9:=Tryz.underlying9
 a9:=Tryz.isAgg9
 z9:=Tryz.sizeOf9
 v9:=Tryz.zeroValue9
 t22:=Tryz.underlying27
 a22:=Tryz.isAgg27
 z22:=Tryz.sizeOf27
 v22:=Tryz.zeroValue27
 t23:=Tryz.underlying2
 a23:=Tryz.isAgg2
 z23:=Tryz.sizeOf2
 v23:=Tryz.zeroValue2
 t44:=Tryz.underlying75
 a44:=Tryz.isAgg75
 z44:=Tryz.sizeOf75
 v44:=Tryz.zeroValue75
 t51:=Tryz.underlying126
 a51:=Tryz.isAgg126
 z51:=Tryz.sizeOf126
 v51:=Tryz.zeroValue126
 t60:=Tryz.underlying168
 a60:=Tryz.isAgg168
 z60:=Tryz.sizeOf168
 v60:=Tryz.zeroValue168
 t61:=Tryz.underlying169
 a61:=Tryz.isAgg169
 z61:=Tryz.sizeOf169
 v61:=Tryz.zeroValue169
 t67:=Tryz.underlying176
 a67:=Tryz.isAgg176
 z67:=Tryz.sizeOf176
 v67:=Tryz.zeroValue176
 t69:=Tryz.underlying178
 a69:=Tryz.isAgg178
 z69:=Tryz.sizeOf178
 v69:=Tryz.zeroValue178
 t75:=Tryz.underlying207
 a75:=Tryz.isAgg207
 z75:=Tryz.sizeOf207
 v75:=Tryz.zeroValue207
 t79:=Tryz.underlying211
 a79:=Tryz.isAgg211
 z79:=Tryz.sizeOf211
 v79:=Tryz.zeroValue211
 t83:=Tryz.underlying258
 a83:=Tryz.isAgg258
 z83:=Tryz.sizeOf258
 v83:=Tryz.zeroValue258
 t84:=Tryz.underlying99
 a84:=Tryz.isAgg99
 z84:=Tryz.sizeOf99
 v84:=Tryz.zeroValue99 }
theorem Afz:SortOk Tryz.prog 411:=A4y ⟨Tryz.f411,Tryz.func411,by decide,rfl⟩ fun blk off cap zs w h1 h2 h3=>AnyG.slices_Sort_int sort411 blk off cap zs w h1 h2 h3
def Aga:Go.Shelf.Ren:=⟨fun | 189=>57 | 125=>98 | 257=>97 | 128=>141 | 129=>142 | 294=>132 | 295=>133 | 296=>134 | 297=>135 | 298=>136 | 299=>137 | 216=>138 | 300=>139 | 301=>140 | 328=>185 | 329=>186 | 330=>187 | 331=>188 | 332=>189 | 215=>130 | 343=>235 | n=>n,fun | 28=>33 | 3=>3 | 46=>126 | 0=>0 | 51=>176 | 53=>178 | 4=>4 | 183=>169 | 182=>168 | 131=>75 | 5=>5 | 9=>9 | 218=>207 | 222=>211 | 228=>258 | 229=>99 | n=>n,fun | n=>n⟩
theorem sort57:Go.Proofs.Lays.n189 Tryz.prog Aga:={
 mixed:=by kernel_rfl
 f125:=Tryz.func98.trans (congrArg some (by kernel_rfl))
 f128:=Tryz.func141.trans (congrArg some (by kernel_rfl))
 f129:=Tryz.func142.trans (congrArg some (by kernel_rfl))
 f189:=Tryz.func57.trans (congrArg some (by kernel_rfl))
 f215:=Tryz.func130.trans (congrArg some (by kernel_rfl))
 f216:=Tryz.func138.trans (congrArg some (by kernel_rfl))
 f257:=Tryz.func97.trans (congrArg some (by kernel_rfl))
 f294:=Tryz.func132.trans (congrArg some (by kernel_rfl))
 f295:=Tryz.func133.trans (congrArg some (by kernel_rfl))
 f296:=Tryz.func134.trans (congrArg some (by kernel_rfl))
 f297:=Tryz.func135.trans (congrArg some (by kernel_rfl))
 f298:=Tryz.func136.trans (congrArg some (by kernel_rfl))
 f299:=Tryz.func137.trans (congrArg some (by kernel_rfl))
 f300:=Tryz.func139.trans (congrArg some (by kernel_rfl))
 f301:=Tryz.func140.trans (congrArg some (by kernel_rfl))
 f328:=Tryz.func185.trans (congrArg some (by kernel_rfl))
 f329:=Tryz.func186.trans (congrArg some (by kernel_rfl))
 f330:=Tryz.func187.trans (congrArg some (by kernel_rfl))
 f331:=Tryz.func188.trans (congrArg some (by kernel_rfl))
 f332:=Tryz.func189.trans (congrArg some (by kernel_rfl))
 f343:=Tryz.func235.trans (congrArg some (by kernel_rfl))
 t0:=Tryz.underlying0
 a0:=Tryz.isAgg0
 z0:=Tryz.sizeOf0
 v0:=Tryz.zeroValue0
 t3:=Tryz.underlying3
 a3:=Tryz.isAgg3
 z3:=Tryz.sizeOf3
 v3:=Tryz.zeroValue3
 t4:=Tryz.underlying4
 a4:=Tryz.isAgg4
 z4:=Tryz.sizeOf4
 v4:=Tryz.zeroValue4
 t5:=Tryz.underlying5
 a5:=Tryz.isAgg5
 z5:=Tryz.sizeOf5
 v5:=Tryz.zeroValue5
 t9:=Tryz.underlying9
 a9:=Tryz.isAgg9
 z9:=Tryz.sizeOf9
 v9:=Tryz.zeroValue9
 t28:=Tryz.underlying33
 a28:=Tryz.isAgg33
 z28:=Tryz.sizeOf33
 v28:=Tryz.zeroValue33
 t46:=Tryz.underlying126
 a46:=Tryz.isAgg126
 z46:=Tryz.sizeOf126
 v46:=Tryz.zeroValue126
 t51:=Tryz.underlying176
 a51:=Tryz.isAgg176
 z51:=Tryz.sizeOf176
 v51:=Tryz.zeroValue176
 t53:=Tryz.underlying178
 a53:=Tryz.isAgg178
 z53:=Tryz.sizeOf178
 v53:=Tryz.zeroValue178
 t131:=Tryz.underlying75
 a131:=Tryz.isAgg75
 z131:=Tryz.sizeOf75
 v131:=Tryz.zeroValue75
 t182:=Tryz.underlying168
 a182:=Tryz.isAgg168
 z182:=Tryz.sizeOf168
 v182:=Tryz.zeroValue168
 t183:=Tryz.underlying169
 a183:=Tryz.isAgg169
 z183:=Tryz.sizeOf169
 v183:=Tryz.zeroValue169
 t218:=Tryz.underlying207
 a218:=Tryz.isAgg207
 z218:=Tryz.sizeOf207
 v218:=Tryz.zeroValue207
 t222:=Tryz.underlying211
 a222:=Tryz.isAgg211
 z222:=Tryz.sizeOf211
 v222:=Tryz.zeroValue211
 t228:=Tryz.underlying258
 a228:=Tryz.isAgg258
 z228:=Tryz.sizeOf258
 v228:=Tryz.zeroValue258
 t229:=Tryz.underlying99
 a229:=Tryz.isAgg99
 z229:=Tryz.sizeOf99
 v229:=Tryz.zeroValue99 }
theorem Ajo:SortOk Tryz.prog 57:=A4y ⟨Tryz.f57,Tryz.func57,by decide,rfl⟩ fun blk off cap zs w h1 h2 h3=>Any.slices_Sort_int sort57 blk off cap zs w h1 h2 h3
open Go.Proofs
abbrev dO (d:Nat) (o:IOp):IOper:=⟨some d,o,none⟩
abbrev eO (o:IOp):IOper:=⟨none,o,none⟩
abbrev gO (d:Nat) (o:IOp) (k:Nat) (b:Bool):IOper:=⟨some d,o,some (k,b)⟩
abbrev hO (o:IOp) (k:Nat) (b:Bool):IOper:=⟨none,o,some (k,b)⟩
abbrev tM (n:Nat):IX:=.tmp n
abbrev cI (n:Int):IX:=.const (.int .i64 n)
abbrev cB (b:Bool):IX:=.const (.bool b)
abbrev mV (d t:Nat):IOper:=⟨some d,.mv (.tmp t),none⟩
abbrev gV (d t k:Nat) (b:Bool):IOper:=⟨some d,.mv (.tmp t),some (k,b)⟩
abbrev sO (l:List IOper) (c:IC):IC:=.seq (.ops l) c
abbrev lD (d t:Nat):IOper:=⟨some d,.load none (.tmp t),none⟩
abbrev lN (d t:Nat):IOper:=⟨some d,.len (.tmp t),none⟩
abbrev xT (d t i:Nat):IOper:=⟨some d,.extract (.tmp t) i,none⟩
abbrev bB (d:Nat) (o:BinOp) (s t:Nat):IOper:=⟨some d,.bin o (.tmp s) (.tmp t),none⟩
abbrev bC (d:Nat) (o:BinOp) (s:Nat) (n:Int):IOper:=⟨some d,.bin o (.tmp s) (.const (.int .i64 n)),none⟩
abbrev iA (d s t:Nat):IOper:=⟨some d,.indexAddr 1 (.tmp s) (.tmp t),none⟩
def byr:FuncId->FuncId->Bool:=fun f g=>(g==97||g==129||g==132||g==133||g==134||g==135||g==136||g==137||g==139||g==140||g==177||g==178||g==179||g==180||g==181||g==182||g==183||g==184||g==185||g==187||g==188||g==189||g==232||g==233||g==234||g==235||g==283||g==462||g==472||g==501||g==502||g==503||g==504||g==505||g==506||g==507||g==508||g==509||g==511||g==512||g==517||g==518||g==519||g==520||g==521||g==522||g==523||g==524||g==525||g==526)||(f==4&&(g==1000006))||(f==14&&(g==39))||(f==18&&(g==44))||(f==23&&(g==49||g==55||g==1000004))||(f==24&&(g==42||g==57||g==58))||(f==27&&(g==50||g==1000000))||(f==42&&(g==88))||(f==46&&(g==90))||(f==49&&(g==50))||(f==50&&(g==92))||(f==61&&(g==1000001||g==1000004))||(f==64&&(g==107))||(f==69&&(g==121))||(f==73&&(g==117))||(f==89&&(g==92))||(f==105&&(g==107))||(f==106&&(g==107))||(f==109&&(g==49||g==61))||(f==110&&(g==49||g==55))||(f==112&&(g==42||g==57))||(f==117&&(g==170))||(f==120&&(g==171))||(f==121&&(g==121||g==1000005))||(f==122&&(g==173))||(f==126&&(g==171))||(f==143&&(g==1000000))||(f==145&&(g==213))||(f==149&&(g==219))||(f==152&&(g==216))||(f==157&&(g==226||g==227||g==228))||(f==166&&(g==50||g==61))||(f==174&&(g==1000000))||(f==196&&(g==254||g==262))||(f==199&&(g==254||g==262))||(f==201&&(g==265))||(f==216&&(g==226))||(f==223&&(g==223||g==279))||(f==227&&(g==1000003))||(f==240&&(g==310))||(f==243&&(g==240))||(f==254&&(g==318))||(f==255&&(g==319))||(f==257&&(g==92))||(f==272&&(g==325))||(f==277&&(g==1000000))||(f==292&&(g==375))||(f==294&&(g==377))||(f==297&&(g==373||g==382))||(f==298&&(g==384))||(f==300&&(g==386))||(f==307&&(g==393))||(f==318&&(g==92))||(f==320&&(g==1000000))||(f==338&&(g==410||g==411||g==412))||(f==345&&(g==417||g==421||g==422))||(f==361&&(g==441))||(f==373&&(g==377))||(f==375&&(g==455))||(f==376&&(g==458))||(f==381&&(g==57||g==1000001))||(f==384&&(g==373||g==460))||(f==386&&(g==92||g==1000002))||(f==405&&(g==467||g==1000001))||(f==410&&(g==411||g==1000001))||(f==416&&(g==57||g==474||g==477))||(f==417&&(g==480))||(f==424&&(g==2000023))||(f==425&&(g==485))||(f==440&&(g==92||g==493||g==494))||(f==441&&(g==496))||(f==444&&(g==484))||(f==457&&(g==377))||(f==460&&(g==1000000))||(f==464&&(g==1000000))||(f==471&&(g==1000000))||(f==474&&(g==1000003))||(f==485&&(g==421||g==422||g==1000000))||(f==493&&(g==92||g==477))||(f==497&&(g==1000000))||(f==500&&(g==1000000))||(f==513&&(g==1000000))
noncomputable def T:Cfg:=⟨fun f=>if f=411 then some Hk else if f=57 then some Hk else (Bm Tryz.prog byr).fns f,fun f=>decide (f=92)⟩
theorem Bp {f:Nat} {c:IFunc} (h:(Bm Tryz.prog byr).fns f=some c) (n411:f≠411) (n57:f≠57):T.fns f=some c:=by
 show (if f=411 then some Hk else if f=57 then some Hk else (Bm Tryz.prog byr).fns f)=some c
 rw [if_neg n411,if_neg n57,h]
theorem k92:(Bm Tryz.prog byr).fns 92=some Jg:=by kernel_rfl
theorem t411:T.fns 411=some Hk:=rfl
theorem t57:T.fns 57=some Hk:=rfl
theorem C4x:A5n Tryz.prog T:=by
 refine ⟨fun f hf => ?_,fun f c hf => ?_⟩
 ·obtain rfl:f=92:=of_decide_eq_true hf
  exact Bp k92 (by decide) (by decide)
 ·by_cases n411:f=411
  ·subst n411
   rw [t411] at hf
   cases hf
   exact .inr ⟨rfl,Afz⟩
  by_cases n57:f=57
  ·subst n57
   rw [t57] at hf
   cases hf
   exact .inr ⟨rfl,Ajo⟩
  have:T.fns f=(Bm Tryz.prog byr).fns f:=by
   show (if f=411 then some Hk else if f=57 then some Hk else (Bm Tryz.prog byr).fns f)=_
   rw [if_neg n411,if_neg n57]
  rw [this] at hf
  exact .inl (A6i _ _ hf)
open Go Go.Proofs
theorem fN {T:Cfg} {k:Nat}:∀a∈([]:List AnsY),YOk T k a:=fun _ h=>by cases h
theorem fM {T:Cfg} {a b:Nat} {y:AnsY} {l:List AnsY} (h:YOk T a y) (r:∀x∈l,YOk T b x) (hab:a<=b:=by decide):∀x∈y::l,YOk T b x:=List.forall_mem_cons.2 ⟨h.mono hab,r⟩
theorem zC {T:Cfg} {k f:Nat} {xs:List AV} {r:AV} {l:List AnsY} (hl:∀a∈l,YOk T k a) (hq:zB T l 60 f xs r=true):YOk T (k+60+1) ⟨f,xs,r,false⟩:=Fy hl hq
abbrev wN (n:Int):AV:=.int .i64 n
abbrev wI (l:List Int) (x:Bool):AV:=.slice none (l.map wN) x
end Go.Ev.YtbgodhhdojjbmaaGreatC
