/- slices.Sort of numbers in this program does what the kit's contract of it says: the numbers come into their order. slices.Sort of numbers in this program does what the kit's contract of it says: the numbers come into their order. The table of the functions, looked up in the program as the evaluator compiles it; two that sort, and one that copies, apart. Short words for values. No condition but those that stand in each. -/
import Derived.Shelf.SortG.Plain
import Derived.Test.YtgehhippjhealaaGreatDEvSort
import Derived.Test.YtgehhippjhealaaGreatProg
import Derived.KernelRfl
import Derived.Shelf.Sort.Plain
import Derived.Test.YtgehhippjhealaaGreatDEvWalk
import Derived.Test.YtgehhippjhealaaGreatDEvKer3
set_option linter.unusedSimpArgs false
set_option linter.unusedVariables false
set_option maxRecDepth 100000
namespace Go.Ev.YtgehhippjhealaaGreatC
open Go Go.Proofs Go.Shelf
def Afe:Go.Shelf.Ren:=⟨fun | 53=>126 | 64=>185 | 63=>184 | 78=>232 | 79=>233 | 70=>223 | 71=>224 | 72=>225 | 73=>226 | 74=>227 | 75=>228 | 59=>229 | 76=>230 | 77=>231 | 88=>302 | 89=>303 | 90=>304 | 91=>305 | 92=>306 | 68=>181 | 96=>365 | n=>n,fun | 22=>46 | 23=>2 | 3=>3 | 51=>224 | 0=>0 | 67=>66 | 69=>257 | 4=>4 | 61=>250 | 60=>249 | 44=>102 | 5=>5 | 9=>9 | 75=>317 | 79=>321 | 83=>395 | 84=>396 | n=>n,fun | n=>n⟩
theorem sort126:Go.Proofs.SlLaysN.n53 Tryz.prog Afe:={
 mixed:=by kernel_rfl
 f53:=⟨Tryz.f126.name,by decide,Tryz.func126.trans (congrArg some (by kernel_rfl))⟩
 f59:=⟨Tryz.f229.name,by decide,Tryz.func229.trans (congrArg some (by kernel_rfl))⟩
 f63:=⟨Tryz.f184.name,by decide,Tryz.func184.trans (congrArg some (by kernel_rfl))⟩
 f64:=Tryz.func185.trans (congrArg some (by kernel_rfl))
 f68:=⟨Tryz.f181.name,by decide,Tryz.func181.trans (congrArg some (by kernel_rfl))⟩
 f70:=⟨Tryz.f223.name,by decide,Tryz.func223.trans (congrArg some (by kernel_rfl))⟩
 f71:=⟨Tryz.f224.name,by decide,Tryz.func224.trans (congrArg some (by kernel_rfl))⟩
 f72:=⟨Tryz.f225.name,by decide,Tryz.func225.trans (congrArg some (by kernel_rfl))⟩
 f73:=⟨Tryz.f226.name,by decide,Tryz.func226.trans (congrArg some (by kernel_rfl))⟩
 f74:=⟨Tryz.f227.name,by decide,Tryz.func227.trans (congrArg some (by kernel_rfl))⟩
 f75:=⟨Tryz.f228.name,by decide,Tryz.func228.trans (congrArg some (by kernel_rfl))⟩
 f76:=⟨Tryz.f230.name,by decide,Tryz.func230.trans (congrArg some (by kernel_rfl))⟩
 f77:=⟨Tryz.f231.name,by decide,Tryz.func231.trans (congrArg some (by kernel_rfl))⟩
 f78:=Tryz.func232.trans (congrArg some (by kernel_rfl))
 f79:=Tryz.func233.trans (congrArg some (by kernel_rfl))
 f88:=⟨Tryz.f302.name,by decide,Tryz.func302.trans (congrArg some (by kernel_rfl))⟩
 f89:=Tryz.func303.trans (congrArg some (by kernel_rfl))
 f90:=Tryz.func304.trans (congrArg some (by kernel_rfl))
 f91:=⟨Tryz.f305.name,by decide,Tryz.func305.trans (congrArg some (by kernel_rfl))⟩
 f92:=⟨Tryz.f306.name,by decide,Tryz.func306.trans (congrArg some (by kernel_rfl))⟩
 f96:=⟨Tryz.f365.name,by decide,Tryz.func365.trans (congrArg some (by kernel_rfl))⟩
 t0:=Tryz.underlying0
 a0:=Tryz.isAgg0
 z0:=Tryz.sizeOf0
 v0:=Tryz.zeroValue0
 t3:=Tryz.underlying3
 a3:=Tryz.isAgg3
 z3:=Tryz.sizeOf3
 v3:=Tryz.zeroValue3
 t4:=Tryz.underlying4
 a4:=Tryz.isAgg4
 z4:=Tryz.sizeOf4
 v4:=Tryz.zeroValue4
 t5:=Tryz.underlying5
 a5:=Tryz.isAgg5
 z5:=Tryz.sizeOf5
 v5:=Tryz.zeroValue5
 t9:=Tryz.underlying9
 a9:=Tryz.isAgg9
 z9:=Tryz.sizeOf9
 v9:=Tryz.zeroValue9
 t22:=Tryz.underlying46
 a22:=Tryz.isAgg46
 z22:=Tryz.sizeOf46
 v22:=Tryz.zeroValue46
 t23:=Tryz.underlying2
 a23:=Tryz.isAgg2
 z23:=Tryz.sizeOf2
 v23:=Tryz.zeroValue2
 t44:=Tryz.underlying102
 a44:=Tryz.isAgg102
 z44:=Tryz.sizeOf102
 v44:=Tryz.zeroValue102
 t51:=Tryz.underlying224
 a51:=Tryz.isAgg224
 z51:=Tryz.sizeOf224
 v51:=Tryz.zeroValue224
 t60:=Tryz.underlying249
 a60:=Tryz.isAgg249
 z60:=Tryz.sizeOf249
 v60:=Tryz.zeroValue249
 t61:=Tryz.underlying250
 a61:=Tryz.isAgg250
 z61:=Tryz.sizeOf250
 v61:=Tryz.zeroValue250
 t67:=Tryz.underlying66
 a67:=Tryz.isAgg66
 z67:=Tryz.sizeOf66
 v67:=Tryz.zeroValue66
 t69:=Tryz.underlying257
 a69:=Tryz.isAgg257
 z69:=Tryz.sizeOf257
 v69:=Tryz.zeroValue257
 t75:=Tryz.underlying317
 a75:=Tryz.isAgg317
 z75:=Tryz.sizeOf317
 v75:=Tryz.zeroValue317
 t79:=Tryz.underlying321
 a79:=Tryz.isAgg321
 z79:=Tryz.sizeOf321
 v79:=Tryz.zeroValue321
 t83:=Tryz.underlying395
 a83:=Tryz.isAgg395
 z83:=Tryz.sizeOf395
 v83:=Tryz.zeroValue395
 t84:=Tryz.underlying396
 a84:=Tryz.isAgg396
 z84:=Tryz.sizeOf396
 v84:=Tryz.zeroValue396 }
theorem Akd:SortOk Tryz.prog 126:=A8c ⟨Tryz.f126,Tryz.func126,by decide,rfl⟩ fun blk off cap zs w h1 h2 h3=>AnyG.slices_Sort_int sort126 blk off cap zs w h1 h2 h3
def Aeu:Go.Shelf.Ren:=⟨fun | 189=>169 | 125=>185 | 257=>219 | 128=>232 | 129=>233 | 294=>292 | 295=>293 | 296=>294 | 297=>295 | 298=>296 | 299=>297 | 216=>298 | 300=>299 | 301=>300 | 328=>361 | 329=>303 | 330=>304 | 331=>362 | 332=>363 | 215=>358 | 343=>402 | n=>n,fun | 28=>22 | 3=>3 | 46=>224 | 0=>0 | 51=>66 | 53=>257 | 4=>4 | 183=>250 | 182=>249 | 131=>102 | 5=>5 | 9=>9 | 218=>317 | 222=>321 | 228=>395 | 229=>396 | n=>n,fun | n=>n⟩
theorem sort169:Go.Proofs.Lays.n189 Tryz.prog Aeu:={
 mixed:=by kernel_rfl
 f125:=Tryz.func185.trans (congrArg some (by kernel_rfl))
 f128:=Tryz.func232.trans (congrArg some (by kernel_rfl))
 f129:=Tryz.func233.trans (congrArg some (by kernel_rfl))
 f189:=Tryz.func169.trans (congrArg some (by kernel_rfl))
 f215:=Tryz.func358.trans (congrArg some (by kernel_rfl))
 f216:=Tryz.func298.trans (congrArg some (by kernel_rfl))
 f257:=Tryz.func219.trans (congrArg some (by kernel_rfl))
 f294:=Tryz.func292.trans (congrArg some (by kernel_rfl))
 f295:=Tryz.func293.trans (congrArg some (by kernel_rfl))
 f296:=Tryz.func294.trans (congrArg some (by kernel_rfl))
 f297:=Tryz.func295.trans (congrArg some (by kernel_rfl))
 f298:=Tryz.func296.trans (congrArg some (by kernel_rfl))
 f299:=Tryz.func297.trans (congrArg some (by kernel_rfl))
 f300:=Tryz.func299.trans (congrArg some (by kernel_rfl))
 f301:=Tryz.func300.trans (congrArg some (by kernel_rfl))
 f328:=Tryz.func361.trans (congrArg some (by kernel_rfl))
 f329:=Tryz.func303.trans (congrArg some (by kernel_rfl))
 f330:=Tryz.func304.trans (congrArg some (by kernel_rfl))
 f331:=Tryz.func362.trans (congrArg some (by kernel_rfl))
 f332:=Tryz.func363.trans (congrArg some (by kernel_rfl))
 f343:=Tryz.func402.trans (congrArg some (by kernel_rfl))
 t0:=Tryz.underlying0
 a0:=Tryz.isAgg0
 z0:=Tryz.sizeOf0
 v0:=Tryz.zeroValue0
 t3:=Tryz.underlying3
 a3:=Tryz.isAgg3
 z3:=Tryz.sizeOf3
 v3:=Tryz.zeroValue3
 t4:=Tryz.underlying4
 a4:=Tryz.isAgg4
 z4:=Tryz.sizeOf4
 v4:=Tryz.zeroValue4
 t5:=Tryz.underlying5
 a5:=Tryz.isAgg5
 z5:=Tryz.sizeOf5
 v5:=Tryz.zeroValue5
 t9:=Tryz.underlying9
 a9:=Tryz.isAgg9
 z9:=Tryz.sizeOf9
 v9:=Tryz.zeroValue9
 t28:=Tryz.underlying22
 a28:=Tryz.isAgg22
 z28:=Tryz.sizeOf22
 v28:=Tryz.zeroValue22
 t46:=Tryz.underlying224
 a46:=Tryz.isAgg224
 z46:=Tryz.sizeOf224
 v46:=Tryz.zeroValue224
 t51:=Tryz.underlying66
 a51:=Tryz.isAgg66
 z51:=Tryz.sizeOf66
 v51:=Tryz.zeroValue66
 t53:=Tryz.underlying257
 a53:=Tryz.isAgg257
 z53:=Tryz.sizeOf257
 v53:=Tryz.zeroValue257
 t131:=Tryz.underlying102
 a131:=Tryz.isAgg102
 z131:=Tryz.sizeOf102
 v131:=Tryz.zeroValue102
 t182:=Tryz.underlying249
 a182:=Tryz.isAgg249
 z182:=Tryz.sizeOf249
 v182:=Tryz.zeroValue249
 t183:=Tryz.underlying250
 a183:=Tryz.isAgg250
 z183:=Tryz.sizeOf250
 v183:=Tryz.zeroValue250
 t218:=Tryz.underlying317
 a218:=Tryz.isAgg317
 z218:=Tryz.sizeOf317
 v218:=Tryz.zeroValue317
 t222:=Tryz.underlying321
 a222:=Tryz.isAgg321
 z222:=Tryz.sizeOf321
 v222:=Tryz.zeroValue321
 t228:=Tryz.underlying395
 a228:=Tryz.isAgg395
 z228:=Tryz.sizeOf395
 v228:=Tryz.zeroValue395
 t229:=Tryz.underlying396
 a229:=Tryz.isAgg396
 z229:=Tryz.sizeOf396
 v229:=Tryz.zeroValue396 }
theorem Ail:SortOk Tryz.prog 169:=A8c ⟨Tryz.f169,Tryz.func169,by decide,rfl⟩ fun blk off cap zs w h1 h2 h3=>Any.slices_Sort_int sort169 blk off cap zs w h1 h2 h3
open Go.Proofs
abbrev dO (d:Nat) (o:IOp):IOper:=⟨some d,o,none⟩
abbrev eO (o:IOp):IOper:=⟨none,o,none⟩
abbrev gO (d:Nat) (o:IOp) (k:Nat) (b:Bool):IOper:=⟨some d,o,some (k,b)⟩
abbrev hO (o:IOp) (k:Nat) (b:Bool):IOper:=⟨none,o,some (k,b)⟩
abbrev tM (n:Nat):IX:=.tmp n
abbrev cI (n:Int):IX:=.const (.int .i64 n)
abbrev cB (b:Bool):IX:=.const (.bool b)
abbrev mV (d t:Nat):IOper:=⟨some d,.mv (.tmp t),none⟩
abbrev gV (d t k:Nat) (b:Bool):IOper:=⟨some d,.mv (.tmp t),some (k,b)⟩
abbrev sO (l:List IOper) (c:IC):IC:=.seq (.ops l) c
abbrev lD (d t:Nat):IOper:=⟨some d,.load none (.tmp t),none⟩
abbrev lN (d t:Nat):IOper:=⟨some d,.len (.tmp t),none⟩
abbrev xT (d t i:Nat):IOper:=⟨some d,.extract (.tmp t) i,none⟩
abbrev bB (d:Nat) (o:BinOp) (s t:Nat):IOper:=⟨some d,.bin o (.tmp s) (.tmp t),none⟩
abbrev bC (d:Nat) (o:BinOp) (s:Nat) (n:Int):IOper:=⟨some d,.bin o (.tmp s) (.const (.int .i64 n)),none⟩
abbrev iA (d s t:Nat):IOper:=⟨some d,.indexAddr 1 (.tmp s) (.tmp t),none⟩
def byr:FuncId->FuncId->Bool:=fun f g=>(g==180||g==184||g==219||g==221||g==222||g==223||g==224||g==225||g==226||g==227||g==228||g==230||g==231||g==292||g==293||g==294||g==295||g==296||g==297||g==299||g==300||g==301||g==302||g==304||g==305||g==306||g==361||g==362||g==363||g==364||g==365||g==402||g==403||g==408||g==409||g==410||g==411)||(f==3&&(g==15))||(f==4&&(g==15))||(f==11&&(g==44))||(f==12&&(g==45))||(f==13&&(g==46))||(f==19&&(g==54))||(f==20&&(g==36||g==58))||(f==22&&(g==60))||(f==30&&(g==56))||(f==35&&(g==90))||(f==36&&(g==92))||(f==37&&(g==93))||(f==39&&(g==97))||(f==40&&(g==44))||(f==42&&(g==102))||(f==45&&(g==105))||(f==46&&(g==40||g==109))||(f==53&&(g==116))||(f==60&&(g==121))||(f==65&&(g==126||g==1000001))||(f==66&&(g==129))||(f==77&&(g==36||g==58))||(f==92&&(g==97))||(f==94&&(g==1000000))||(f==99&&(g==169||g==1000001))||(f==104&&(g==171))||(f==107&&(g==44))||(f==109&&(g==1000000))||(f==133&&(g==189))||(f==136&&(g==66))||(f==141&&(g==129||g==194||g==195))||(f==166&&(g==217))||(f==172&&(g==1000000))||(f==174&&(g==97||g==1000002))||(f==182&&(g==1000000))||(f==192&&(g==192||g==236))||(f==194&&(g==1000003))||(f==206&&(g==40||g==175))||(f==208&&(g==174))||(f==235&&(g==1000000))||(f==249&&(g==65||g==126||g==318))||(f==256&&(g==324||g==328||g==329))||(f==272&&(g==348))||(f==311&&(g==368||g==1000001))||(f==323&&(g==169||g==376||g==379))||(f==324&&(g==382))||(f==331&&(g==2000023))||(f==332&&(g==387))||(f==347&&(g==97||g==395||g==396))||(f==348&&(g==398))||(f==351&&(g==386))||(f==372&&(g==1000000))||(f==376&&(g==1000003))||(f==387&&(g==328||g==329||g==1000000))||(f==395&&(g==97||g==379))||(f==399&&(g==1000000))||(f==404&&(g==1000000))
noncomputable def T:Cfg:=⟨fun f=>if f=126 then some Hc else if f=169 then some Hc else (Bt Tryz.prog byr).fns f,fun f=>decide (f=97)⟩
theorem Bw {f:Nat} {c:IFunc} (h:(Bt Tryz.prog byr).fns f=some c) (n126:f≠126) (n169:f≠169):T.fns f=some c:=by
 show (if f=126 then some Hc else if f=169 then some Hc else (Bt Tryz.prog byr).fns f)=some c
 rw [if_neg n126,if_neg n169,h]
theorem k97:(Bt Tryz.prog byr).fns 97=some Na:=by kernel_rfl
theorem t126:T.fns 126=some Hc:=rfl
theorem t169:T.fns 169=some Hc:=rfl
theorem Buh:A8x Tryz.prog T:=by
 refine ⟨fun f hf => ?_,fun f c hf => ?_⟩
 ·obtain rfl:f=97:=of_decide_eq_true hf
  exact Bw k97 (by decide) (by decide)
 ·by_cases n126:f=126
  ·subst n126
   rw [t126] at hf
   cases hf
   exact .inr ⟨rfl,Akd⟩
  by_cases n169:f=169
  ·subst n169
   rw [t169] at hf
   cases hf
   exact .inr ⟨rfl,Ail⟩
  have:T.fns f=(Bt Tryz.prog byr).fns f:=by
   show (if f=126 then some Hc else if f=169 then some Hc else (Bt Tryz.prog byr).fns f)=_
   rw [if_neg n126,if_neg n169]
  rw [this] at hf
  exact .inl (Abz _ _ hf)
open Go Go.Proofs
theorem fN {T:Cfg} {k:Nat}:∀a∈([]:List AnsY),YOk T k a:=fun _ h=>by cases h
theorem fM {T:Cfg} {a b:Nat} {y:AnsY} {l:List AnsY} (h:YOk T a y) (r:∀x∈l,YOk T b x) (hab:a<=b:=by decide):∀x∈y::l,YOk T b x:=List.forall_mem_cons.2 ⟨h.mono hab,r⟩
theorem zC {T:Cfg} {k f:Nat} {xs:List AV} {r:AV} {l:List AnsY} (hl:∀a∈l,YOk T k a) (hq:zB T l 60 f xs r=true):YOk T (k+60+1) ⟨f,xs,r,false⟩:=Hn hl hq
abbrev wN (n:Int):AV:=.int .i64 n
abbrev wI (l:List Int) (x:Bool):AV:=.slice none (l.map wN) x
end Go.Ev.YtgehhippjhealaaGreatC
