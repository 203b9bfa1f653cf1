/- The works of all layers up to 6. The works of all layers up to 7. The works of all layers up to 8. The works of all layers up to 9. TopRackedSearch behind Grown, at all trees. The law TopRackedSearch answers true, whatever it is handed. No condition but those that stand in each. -/
import Derived.Test.YtbgodhhdojjbmaaGreatATopWA
import Derived.Test.YtbgodhhdojjbmaaGreatATopWB
import Derived.Test.YtbgodhhdojjbmaaGreatATopWC
import Derived.Test.YtbgodhhdojjbmaaGreatATopWD
import Derived.Test.YtbgodhhdojjbmaaGreatATopWE
import Derived.Test.YtbgodhhdojjbmaaGreatATopWF
import Derived.Test.YtbgodhhdojjbmaaGreatATopShd
import Derived.Test.YtbgodhhdojjbmaaGreatATopWG
import Derived.Test.YtbgodhhdojjbmaaGreatATopWH
import Derived.Test.YtbgodhhdojjbmaaGreatATopWJ
import Derived.Test.YtbgodhhdojjbmaaGreatARtRsA
import Derived.Test.YtbgodhhdojjbmaaGreatARtRsC
import Derived.Test.YtbgodhhdojjbmaaGreatARtRsE
import Derived.Test.YtbgodhhdojjbmaaGreatARtRsG
import Derived.Test.YtbgodhhdojjbmaaGreatARtRsI
import Derived.Test.YtbgodhhdojjbmaaGreatARtRsK
import Derived.Test.YtbgodhhdojjbmaaGreatARtRsM
import Derived.Test.YtbgodhhdojjbmaaGreatARtRsO
import Derived.Test.YtbgodhhdojjbmaaGreatARtLwR
import Derived.Test.YtbgodhhdojjbmaaGreatARtCnt
import Derived.Test.YtbgodhhdojjbmaaGreatARtTrs
import Derived.OpenShut
set_option linter.unusedSimpArgs false
set_option linter.unusedVariables false
set_option maxRecDepth 100000
namespace Go.Ev.YtbgodhhdojjbmaaGreatC
open Go Go.Proofs
abbrev wkY (f:Nat):AnsY:=⟨f,[],.bool true,false⟩
theorem wks3:YOk T 4061 (wkY 236):=zC (fM Auw (fM Aux (fM Auy fN))) (by kernel_rfl)
theorem wks4:YOk T 4161 (wkY 190):=zC (fM wks3 (fM Auz fN)) (by kernel_rfl)
theorem wks5:YOk T 4261 (wkY 144):=zC (fM wks4 (fM Ava fN)) (by kernel_rfl)
theorem wks6:YOk T 4361 (wkY 102):=zC (fM wks5 (fM Avb fN)) (by kernel_rfl)
theorem wks7:YOk T 4461 (wkY 63):=zC (fM wks6 (fM Avc fN)) (by kernel_rfl)
theorem wks8:YOk T 4561 (wkY 30):=zC (fM wks7 (fM Avd fN)) (by kernel_rfl)
theorem wks9:YOk T 4622 (wkY 6):=zC (fM wks8 (fM Ave fN)) (by kernel_rfl)
theorem Hm:Con T 4700 6 [] (.bool true):=Ep (wks9.mono (by decide))
theorem raE {P:List Int->Prop} {l L:List (List Int)} (h:∀x∈l,P x) (e:L=l):∀x∈L,P x:=e▸h
theorem Azx:∀t∈trF 6 1,PT 1 1 Oq t:=fun t ht=>by
 rw [<-Nl,C7m] at ht
 exact raE (raA C6s raN) (by kernel_rfl) t ht
theorem Azy:∀t∈trF 6 2,PT 2 2 Ot t:=fun t ht=>by
 rw [<-Nl,C7n] at ht
 exact raE (raA C6t raN) (by kernel_rfl) t ht
theorem Azz:∀t∈trF 6 3,PT 3 5 Lz t:=fun t ht=>by
 rw [<-Nl,C7o] at ht
 exact raE (raA C6u raN) (by kernel_rfl) t ht
theorem B0a:∀t∈trF 6 4,PT 4 14 Hq t:=fun t ht=>by
 rw [<-Nl,C7p] at ht
 exact raE (raA C6v raN) (by kernel_rfl) t ht
theorem B0b:∀t∈trF 6 5,PT 5 42 Em t:=fun t ht=>by
 rw [<-Nl,C7q] at ht
 exact raE (raA C6w (raA C6x raN)) (by kernel_rfl) t ht
theorem B0c:∀t∈trF 6 6,PT 6 132 Bt t:=fun t ht=>by
 rw [<-Nl,C7r] at ht
 exact raE (raA C6y (raA C6z (raA C7a (raA C7b (raA C7c (raA C7d (raA C7e (raA C7f (raA C7g (raA C7h (raA C7i (raA C7j raN)))))))))))) (by kernel_rfl) t ht
end Go.Ev.YtbgodhhdojjbmaaGreatC
namespace Go.Ev.YtbgodhhdojjbmaaGreatC
open Go Go.Proofs Go.ChangeShapes Go.WideShapes Go.ChangeAt
attribute [local irreducible] Res.all evC Do Dr Bv Bd Dw Bg Bj G GO GV GP GC R
def Jw:Nat:=25000
theorem Xi (a0:Int) (a1:List Int) (w0:(Lit.int .u8 a0).wf=true) (w1:∀n∈a1,(Lit.int .u8 n).wf=true) (_:a1.length<=maxLen) :
  (Dw (Bg T Jw) c4 [.int .u8 a0,.slice none (a1.map (.int .u8)) false] []).all fun p=>p.1 = .bool true:=by
 have hb:∀x∈a1,0<=x/\x<=255:=fun x hx=>by
  have:=w1 x hx
  simp [Lit.wf,show IntKind.u8.min=0 from rfl,show IntKind.u8.max=255 from rfl] at this
  omega
 have h0:0<=a0:=by
  simp [Lit.wf,show IntKind.u8.min=0 from rfl,show IntKind.u8.max=255 from rfl] at w0
  omega
 obtain ⟨N,hN⟩:∃N,Jw=N:=⟨_,rfl⟩
 have h2:20000<=N:=by rw [<-hN]; decide
 rw [hN]
 have hl:∀n:Nat,n<=6->∀l,YOk T 436 (tyY (n:Nat) l)->∀a∈tyL n l,YOk T 4700 a:=fun n _ l h=>fM h (fM (Es (Dz Hm (Nat.le_refl _))) fN)
 have hq0:=Int.emod_nonneg a0 (show (6:Int)≠0 by decide)
 have hq1:=Int.emod_lt_of_pos a0 (show (0:Int)<6 by decide)
 have hq:a0%6=0\/a0%6=1\/a0%6=2\/a0%6=3\/a0%6=4\/a0%6=5:=by omega
 rcases hq with hq | hq | hq | hq | hq | hq
 ·exact Nn N 4700 h2 (by omega) Hm a0 h0 a1 hb 1 1 (by rw [hq]; rfl) (by decide) (Ep rkc1) (Ep skc1) (Hi (by decide)) (by decide) (hl 1 (by decide) _ (trY1.mono (by decide))) Azx
 ·exact Nn N 4700 h2 (by omega) Hm a0 h0 a1 hb 2 2 (by rw [hq]; rfl) (by decide) (Ep rkc2) (Ep skc2) (Hi (by decide)) (by decide) (hl 2 (by decide) _ (trY2.mono (by decide))) Azy
 ·exact Nn N 4700 h2 (by omega) Hm a0 h0 a1 hb 3 5 (by rw [hq]; rfl) (by decide) (Ep rkc3) (Ep skc3) (Hi (by decide)) (by decide) (hl 3 (by decide) _ (trY3.mono (by decide))) Azz
 ·exact Nn N 4700 h2 (by omega) Hm a0 h0 a1 hb 4 14 (by rw [hq]; rfl) (by decide) (Ep rkc4) (Ep skc4) (Hi (by decide)) (by decide) (hl 4 (by decide) _ (trY4.mono (by decide))) B0a
 ·exact Nn N 4700 h2 (by omega) Hm a0 h0 a1 hb 5 42 (by rw [hq]; rfl) (by decide) (Ep rkc5) (Ep skc5) (Hi (by decide)) (by decide) (hl 5 (by decide) _ (trY5.mono (by decide))) B0b
 ·exact Nn N 4700 h2 (by omega) Hm a0 h0 a1 hb 6 132 (by rw [hq]; rfl) (by decide) (Ep rkc6) (Ep skc6) (Hi (by decide)) (by decide) (hl 6 (by decide) _ (trY6.mono (by decide))) B0c
end Go.Ev.YtbgodhhdojjbmaaGreatC
