/- The works of all layers up to 6. The works of all layers up to 7. The works of all layers up to 8. The works of all layers up to 9. A fraction as a law is handed it, opened. The law TopPathSearch answers true, whatever it is handed. No condition but those that stand in each. -/
import Derived.Test.YtbgodhhdojjbmaaGreatPTopWA
import Derived.Test.YtbgodhhdojjbmaaGreatPTopWB
import Derived.Test.YtbgodhhdojjbmaaGreatPTopWC
import Derived.Test.YtbgodhhdojjbmaaGreatPTopWD
import Derived.Test.YtbgodhhdojjbmaaGreatPTopWE
import Derived.Test.YtbgodhhdojjbmaaGreatPTopWF
import Derived.Test.YtbgodhhdojjbmaaGreatPTopShd
import Derived.Test.YtbgodhhdojjbmaaGreatPTopWG
import Derived.Test.YtbgodhhdojjbmaaGreatPTopWH
import Derived.Test.YtbgodhhdojjbmaaGreatPTopWJ
import Derived.Test.YtbgodhhdojjbmaaGreatPEvFrame
import Derived.Test.YtbgodhhdojjbmaaGreatPEvOpen
import Derived.Test.YtbgodhhdojjbmaaGreatPRsWlk
import Derived.Test.YtbgodhhdojjbmaaGreatRows
import Derived.Test.YtbgodhhdojjbmaaGreatProg
import Derived.Test.YtbgodhhdojjbmaaGreatPRsLwP
import Derived.OpenShut
set_option linter.unusedSimpArgs false
set_option linter.unusedVariables false
set_option maxRecDepth 100000
namespace Go.Ev.YtbgodhhdojjbmaaGreatC
open Go Go.Proofs
abbrev wkY (f:Nat):AnsY:=⟨f,[],.bool true,false⟩
theorem wks3:YOk T 4061 (wkY 236):=zC (fM Ash (fM Asi (fM Asj fN))) (by kernel_rfl)
theorem wks4:YOk T 4161 (wkY 190):=zC (fM wks3 (fM Ask fN)) (by kernel_rfl)
theorem wks5:YOk T 4261 (wkY 144):=zC (fM wks4 (fM Asl fN)) (by kernel_rfl)
theorem wks6:YOk T 4361 (wkY 102):=zC (fM wks5 (fM Asm fN)) (by kernel_rfl)
theorem wks7:YOk T 4461 (wkY 63):=zC (fM wks6 (fM Asn fN)) (by kernel_rfl)
theorem wks8:YOk T 4561 (wkY 30):=zC (fM wks7 (fM Aso fN)) (by kernel_rfl)
theorem wks9:YOk T 4622 (wkY 6):=zC (fM wks8 (fM Asp fN)) (by kernel_rfl)
theorem A9b:Con T 4700 6 [] (.bool true):=Fz (wks9.mono (by decide))
abbrev rcells (x:Frac):List (IntKind×Int):=P1.rcells x
abbrev RWf (x:Frac):Prop:=P1.RWf x
set_option maxRecDepth 100000 in
theorem Adj {H:Type} {enc:TypeId×Value->H} {w:World} {base:Nat} {sp:Nat->Bool} {held:Bool} {fuel:Nat} {cs:List Value} {x:DataW H×List MemPlace}
  (h:DataW.trod enc Tryz.prog w base sp held fuel 23 cs=some x):∃a:Frac,cs=(rcells a).map (fun p => .int p.1 p.2)/\RWf a:=by
 have c23:Tryz.prog.cellsOf 23=2:=by kernel_rfl
 have c2:Tryz.prog.cellsOf 2=1:=by kernel_rfl
 obtain ⟨xs,n,_,_,hl,hx,hf⟩:=DataW.trod_struct Tryz.underlying23 h
 rw [c23] at hl
 match cs,hl with
 | [u,v],_ =>
  have f0:=hf 0 _ rfl
  have f1:=hf 1 _ rfl
  replace hx:xs.length=2:=hx
  rw [List.getElem?_eq_getElem (by omega)] at f0 f1
  replace f0:DataW.trod enc Tryz.prog w base sp held n 2 (List.take (Tryz.prog.cellsOf 2) (List.drop 0 [u,v]))=_:=f0
  replace f1:DataW.trod enc Tryz.prog w base sp held n 2 (List.take (Tryz.prog.cellsOf 2) (List.drop 1 [u,v]))=_:=f1
  rw [c2] at f0 f1
  simp only [List.drop,List.take] at f0 f1
  obtain ⟨a,e1,_,w1⟩:=DataW.trod_int Tryz.underlying2 f0
  obtain ⟨b,e2,_,w2⟩:=DataW.trod_int Tryz.underlying2 f1
  simp only [List.cons.injEq,and_true] at e1 e2
  subst e1 e2
  exact ⟨⟨a,b⟩,rfl,w1,w2⟩
end Go.Ev.YtbgodhhdojjbmaaGreatC
namespace Go.Ev.YtbgodhhdojjbmaaGreatC
open Go Go.Proofs Go.ChangeShapes Go.WideShapes Go.ChangeAt
attribute [local irreducible] Res.all evC Dg Di Bq Bg Do Bf Bj G GO GV GP GC R
def Lp:Nat:=25000
theorem Zw (x:Frac) (w:Int) (_:RWf x) (hw:(Lit.int .u8 w).wf=true) :
  (Do (Bf T Lp) c3 [.agg [.int .i64 x.num,.int .i64 x.den],.int .u8 w] []).all fun p=>p.1 = .bool true:=
 P1.topPath_at Lp 4700 (by decide) (by decide) A9b x w (by simp [Lit.wf,show IntKind.u8.min=0 from rfl,show IntKind.u8.max=255 from rfl] at hw; omega) (by simp [Lit.wf,show IntKind.u8.min=0 from rfl,show IntKind.u8.max=255 from rfl] at hw; omega)
end Go.Ev.YtbgodhhdojjbmaaGreatC
