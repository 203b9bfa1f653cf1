/- The trees of so many tapers, as the program lists them. No condition but those that stand in each. -/
import Derived.Test.YtbgodhhdojjbmaaGreatARtLwR
import Derived.Test.YtbgodhhdojjbmaaGreatATopW
set_option linter.unusedSimpArgs false
set_option linter.unusedVariables false
set_option maxRecDepth 100000
namespace Go.Ev.YtbgodhhdojjbmaaGreatC
open Go Go.Proofs
def hgZ (p:List Int×List Int×List Int):AnsY:=⟨89,[Ff p.1,Ff p.2.1],Ff p.2.2,false⟩
def hgC (p:List Int×List Int×List Int):Bool:=decide (p.1.length<=100)&&decide (p.2.1.length<=100)&&p.1.all (fun x=>decide (0<=x)&&decide (x<=1000))&&p.2.1.all (fun x=>decide (0<=x)&&decide (x<=1000))&&p.2.2==hgL p.1 p.2.1
theorem Ri {P:List (List Int×List Int×List Int)} (h:P.all hgC=true):∀a∈P.map hgZ,YOk T 3 a:=by
 intro y hy
 obtain ⟨p,hp,rfl⟩:=List.mem_map.1 hy
 have:=List.all_eq_true.1 h p hp
 simp only [hgC,Bool.and_eq_true,decide_eq_true_eq,List.all_eq_true,beq_iff_eq] at this
 obtain ⟨⟨⟨⟨h1,h2⟩,h3⟩,h4⟩,h5⟩:=this
 unfold hgZ
 rw [h5]
 exact Es (Dz (Akf h1 h2 h3 h4) (Nat.le_refl _))
theorem Nh {k:Nat} {l1 l2:List AnsY} (h1:∀a∈l1,YOk T k a) (h2:∀a∈l2,YOk T k a):∀a∈l1++l2,YOk T k a:=fun a ha=>(List.mem_append.1 ha).elim (h1 a) (h2 a)
theorem A3i:YOk T 70 (tyY 0 Xj):=(zT Oo (Hi (by decide)) (k:=9) (l:=[]) (fun _ h=>by cases h) (by kernel_rfl):YOk T 70 (tyY 0 Xj)).mono (by decide)
theorem trY1:YOk T 131 (tyY 1 Oq):=zT Oo (Hi (by decide)) (k:=70) (l:=[tyY 0 Xj]++hgP1.map hgZ) (Nh (fM A3i fN) (fun a h=>(Ri (P:=hgP1) (by kernel_rfl) a h).mono (by decide))) (by kernel_rfl)
theorem trY2:YOk T 192 (tyY 2 Ot):=zT Oo (Hi (by decide)) (k:=131) (l:=[tyY 0 Xj,tyY 1 Oq]++hgP2.map hgZ) (Nh (fM A3i (fM trY1 fN)) (fun a h=>(Ri (P:=hgP2) (by kernel_rfl) a h).mono (by decide))) (by kernel_rfl)
theorem trY3:YOk T 253 (tyY 3 Lz):=zT Oo (Hi (by decide)) (k:=192) (l:=[tyY 0 Xj,tyY 1 Oq,tyY 2 Ot]++hgP3.map hgZ) (Nh (fM A3i (fM trY1 (fM trY2 fN))) (fun a h=>(Ri (P:=hgP3) (by kernel_rfl) a h).mono (by decide))) (by kernel_rfl)
theorem trY4:YOk T 314 (tyY 4 Hq):=zT Oo (Hi (by decide)) (k:=253) (l:=[tyY 0 Xj,tyY 1 Oq,tyY 2 Ot,tyY 3 Lz]++hgP4.map hgZ) (Nh (fM A3i (fM trY1 (fM trY2 (fM trY3 fN)))) (fun a h=>(Ri (P:=hgP4) (by kernel_rfl) a h).mono (by decide))) (by kernel_rfl)
theorem trY5:YOk T 375 (tyY 5 Em):=zT Oo (Hi (by decide)) (k:=314) (l:=[tyY 0 Xj,tyY 1 Oq,tyY 2 Ot,tyY 3 Lz,tyY 4 Hq]++hgP5.map hgZ) (Nh (fM A3i (fM trY1 (fM trY2 (fM trY3 (fM trY4 fN))))) (fun a h=>(Ri (P:=hgP5) (by kernel_rfl) a h).mono (by decide))) (by kernel_rfl)
theorem trY6:YOk T 436 (tyY 6 Bt):=zT Oo (Hi (by decide)) (k:=375) (l:=[tyY 0 Xj,tyY 1 Oq,tyY 2 Ot,tyY 3 Lz,tyY 4 Hq,tyY 5 Em]++hgP6.map hgZ) (Nh (fM A3i (fM trY1 (fM trY2 (fM trY3 (fM trY4 (fM trY5 fN)))))) (fun a h=>(Ri (P:=hgP6) (by kernel_rfl) a h).mono (by decide))) (by kernel_rfl)
end Go.Ev.YtbgodhhdojjbmaaGreatC
