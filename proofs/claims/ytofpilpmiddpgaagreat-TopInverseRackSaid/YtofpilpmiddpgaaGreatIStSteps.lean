/- Steps of layer 6. No condition but those that stand in each. -/
import Derived.Test.YtofpilpmiddpgaaGreatIStOpen
set_option linter.unusedSimpArgs false
set_option linter.unusedVariables false
set_option maxRecDepth 100000
namespace Go.Ev.YtofpilpmiddpgaaGreatC
open Go Go.Proofs
attribute [local irreducible] Res.all evC Dg Dj Bo Bg Dm Bf Bi G GO GV GP GC R
theorem Ams (p:List Nat) (hp:PermN p) (h1:1<=p.length) (h10:p.length<=10):∀n,9<=n->∀(h:Bc) (V:AV×Bc->Prop),(∀v h',Aqd p h v h'->V (v,h'))->
  G (Bf T n) h.length (Fin c22.results V) c22.body [] ⟨[Bx (nI6 p)],h++List.replicate c22.ntmps .none⟩:=by
 intro n hn h V hV
 obtain ⟨n,rfl⟩:∃m,n=m+2:=⟨n-2,by omega⟩
 have e0:((0:Int) != 0)=false:=rfl
 have hl:=Dw p
 simp (disch:=omega) only [c22,go_sem,↓reduceIte]
 refine Dn (A6u p hp h1 h10) (show 7<=n+2 by omega) (Bz _ _ _ _ (By _)) (Ge _ _ _) ?_
 simp (disch:=omega) only [go_sem,↓reduceIte,e0]
 refine Fq ?_
 rw [Eg t56]
 simp (disch:=omega) only [c56,go_sem,↓reduceIte]
 refine Aei (l:=nI6 p) (by omega) (by omega) fun key ver h' hH hk1 hk2 kp ln => ?_
 simp only [List.length_append,List.length_replicate] at hk1 kp ln
 have hb:∀j,h.length<=j->Bb (h++List.replicate 12 .none++List.replicate 8 .none) j = .none:=fun j hj=>by
  by_cases hlt:j<h.length+20
  ·rw [Bh]
   obtain ⟨i,rfl⟩:∃i,j=h.length+i:=⟨j-h.length,by omega⟩
   exact Eq _ _ _
  ·exact Dt _ _ (by simp; omega)
 have hK:Bb h' (h.length+12+7) = .none:=by rw [kp _ (by omega)]; exact hb _ (by omega)
 have hne:¬(h.length+12+7=key):=by omega
 simp (disch:=omega) only [go_sem,↓reduceIte,Gf,mapR,List.length_append,List.length_replicate,hK]
 rw [hl]
 refine hV _ _ ⟨h.length+19,key,ver,rfl,getH_setH_self _ _ _,?_,by omega,by omega,by omega,?_,?_,fun j hj => ?_,?_⟩
 ·rw [Ba _ _ _ _ (by omega)]; exact hH
 ·simp only [Bd]; omega
 ·simp only [Bd]; omega
 ·rw [Ba _ _ _ _ (by omega),kp j (by omega),Bh,Bh]
 ·simp only [Bd]; omega
end Go.Ev.YtofpilpmiddpgaaGreatC
