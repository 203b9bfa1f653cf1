/- Entries of the works' calls that are proved by walks. The first time at which all pins sound, and the common period, as the barrel reckons them. What small functions of the barrel answer: within, CheckPins, open, First. Valid pins: CheckPins, open and First. The drums of the examples of layer 7. No condition but those that stand in each. -/
import Derived.Test.YtbgodhhdojjbmaaGreatPTopW
import Derived.Test.YtbgodhhdojjbmaaGreatPTopBar2
import Derived.Test.YtbgodhhdojjbmaaGreatPEvOpen
set_option linter.unusedSimpArgs false
set_option linter.unusedVariables false
set_option maxRecDepth 100000
namespace Go.Ev.YtbgodhhdojjbmaaGreatC
open Go Go.Proofs
def Awf:AnsY:=⟨216,[(.slice (some 2) [.agg [wN 4,wN 1],.agg [wN 6,wN 3],.agg [wN 9,wN 0]] false),wI [9] false],(.tuple [(.ptr [(.slice (some 2) [.agg [wN 4,wN 1],.agg [wN 6,wN 3],.agg [wN 9,wN 0]] false),(.fmap [] [])] 0),wN 0]),false⟩
def Awg:AnsY:=⟨216,[(.slice (some 2) [.agg [wN 4,wN 1],.agg [wN 6,wN 3],.agg [wN 9,wN 0]] false),wI [] false],(.tuple [(.ptr [(.slice (some 2) [.agg [wN 4,wN 1],.agg [wN 6,wN 3],.agg [wN 9,wN 0]] false),(.fmap [] [])] 0),wN 0]),false⟩
def Awh:AnsY:=⟨216,[(.slice (some 2) [.agg [wN 4,wN 1],.agg [wN 6,wN 2]] false),wI [] false],(.tuple [(.ptr [(.slice (some 2) [.agg [wN 4,wN 1],.agg [wN 6,wN 2]] false),(.fmap [.agg [wN 0,wN 1]] [wN 2])] 0),wN 0]),false⟩
def Anr:AnsY:=⟨216,[(.slice (some 2) [.agg [wN 4,wN 1],.agg [wN 6,wN 3],.agg [wN 9,wN 0]] false),wI [10] false],(.tuple [(.ptr [(.slice (some 2) [.agg [wN 4,wN 1],.agg [wN 6,wN 3],.agg [wN 9,wN 0]] false),(.fmap [] [])] 0),wN 0]),false⟩
def Ant:AnsY:=⟨216,[(.slice (some 2) [.agg [wN 4,wN 1],.agg [wN 6,wN 3],.agg [wN 9,wN 0]] false),wI [0,100] false],(.tuple [(.ptr [(.slice (some 2) [.agg [wN 4,wN 1],.agg [wN 6,wN 3],.agg [wN 9,wN 0]] false),(.fmap [] [])] 0),wN 0]),false⟩
def Anu:AnsY:=⟨216,[(.slice (some 2) [.agg [wN 4,wN 1],.agg [wN 6,wN 3],.agg [wN 9,wN 0]] false),wI [5,4] false],(.tuple [(.ptr [(.slice (some 2) [.agg [wN 4,wN 1],.agg [wN 6,wN 3],.agg [wN 9,wN 0]] false),(.fmap [] [])] 0),wN 0]),false⟩
def Anv:AnsY:=⟨216,[(.slice (some 2) [.agg [wN 4,wN 1],.agg [wN 6,wN 2],.agg [wN 3,wN 0],.agg [wN 5,wN 4]] false),wI [] false],(.tuple [(.ptr [(.slice (some 2) [.agg [wN 4,wN 1],.agg [wN 6,wN 2],.agg [wN 3,wN 0],.agg [wN 5,wN 4]] false),(.fmap [.agg [wN 0,wN 1],.agg [wN 1,wN 2]] [wN 2,wN 3])] 0),wN 0]),false⟩
def Anw:AnsY:=⟨216,[(.slice (some 2) [.agg [wN 4,wN 1],.agg [wN 6,wN 3],.agg [wN 9,wN 0]] false),wI [0] false],(.tuple [(.ptr [(.slice (some 2) [.agg [wN 4,wN 1],.agg [wN 6,wN 3],.agg [wN 9,wN 0]] false),(.fmap [] [])] 0),wN 0]),false⟩
def Anx:AnsY:=⟨216,[(.slice (some 2) [.agg [wN 2,wN 0],.agg [wN 2,wN 1]] false),wI [0] false],(.tuple [(.ptr [(.slice (some 2) [.agg [wN 2,wN 0],.agg [wN 2,wN 1]] false),(.fmap [.agg [wN 0,wN 1]] [wN 2])] 0),wN 0]),false⟩
end Go.Ev.YtbgodhhdojjbmaaGreatC
namespace Go.Ev.YtbgodhhdojjbmaaGreatC
open Go Go.Proofs
attribute [local irreducible] Res.all evC Dg Di Bq Bg Do Bf Bj G GO GV GP GC R
abbrev Jc (l:List Int):AV:=.slice none (l.map (.int .i64)) false
theorem Aff {k f:Nat} {first cap:List AV} {p:Int->Bool} (xs:List Int) (hl:xs.length<=1000) (hc:∀x∈xs,Con T k f (first++[.int .i64 x]++cap) (.bool (p x))) (hz:∀h x,fz h (first++[.int .i64 x]++cap) = .ret (first++[.int .i64 x]++cap)) :
  Con T (k+1) 128 [Jc xs,.clo f first cap] (.int .i64 (Gi p xs 0)):=by
 refine Bs t128 fun n hn V hV => ?_
 simp (disch:=first | assumption | omega) only [c128,go_sem,↓reduceIte]
 refine Dd (fun M s=>∃k:Nat,M=xs.length-k/\k<=xs.length/\At s.env [(0,Jc xs),(1,.clo f first cap),(7,.int .i64 xs.length),(8,.int .i64 k)]/\Gi p xs 0=Gi p (xs.drop k) k) xs.length (by omega) ⟨0,by simp,by omega,by simp [go_sem,↓reduceIte],rfl⟩ ?_
 rintro M e h hM ⟨k,rfl,hk,hE,hA⟩ P hP
 simp only [Bt,By] at hE
 obtain ⟨h0,h1,h7,h8,-⟩:=hE
 by_cases hlt:k<xs.length
 ·obtain ⟨y,hy⟩:=Fl hlt
  rw [Fv hy,Gi] at hA
  simp (disch:=first | assumption | omega) only [go_sem,↓reduceIte,h0,h1,h7,h8,hlt,hy]
  refine Dl (hc y (List.mem_of_getElem? hy)) hn (hz _ _) (Gk _ _) ?_
  by_cases hp:p y=true
  ·simp (disch:=first | assumption | omega) only [go_sem,↓reduceIte,h0,h1,h7,h8,hp]
   exact hV _ _ (by rw [Bk,hA,if_pos hp])
  ·simp (disch:=first | assumption | omega) only [go_sem,↓reduceIte,h0,h1,h7,h8,hp]
   exact hP (xs.length-(k+1)) _ (by omega) ⟨k+1,rfl,by omega,by simp only [go_sem,↓reduceIte,h0,h1,h7],by rw [hA,if_neg hp]; rfl⟩
 ·simp (disch:=first | assumption | omega) only [go_sem,↓reduceIte,h0,h1,h7,h8,hlt]
  exact hV _ _ (by rw [Bk,hA,List.drop_eq_nil_of_le (by omega)]; rfl)
theorem Afd {k f:Nat} {first cap:List AV} {p:Int->Bool} (xs:List Int) (hl:xs.length<=1000) (hc:∀x∈xs,Con T k f (first++[.int .i64 x]++cap) (.bool (p x))) (hz:∀h x,fz h (first++[.int .i64 x]++cap) = .ret (first++[.int .i64 x]++cap))
  (hf:∀h,Bj h 8 (.clo f first cap) = .ret (.clo f first cap)):Con T (k+2) 79 [Jc xs,.clo f first cap] (.bool (xs.any p)):=by
 refine Bs t79 fun n hn V hV => ?_
 simp (disch:=first | assumption | omega) only [c79,go_sem,↓reduceIte]
 refine Dl (Aff xs hl hc hz) hn (Dr _ _ _ _ (Dc (hf _) (Bz _))) (Es _ _ _) ?_
 simp (disch:=first | assumption | omega) only [go_sem,↓reduceIte,Ly]
 exact hV _ _ (Dk _ _ _)
theorem Oe (x lo hi:Int):Con T 1 278 ([]++[.int .i64 x]++[.ptr [.int .i64 lo] 0,.ptr [.int .i64 hi] 0]) (.bool (decide (x<lo)||decide (x>hi))):=by
 refine Bs t278 fun n hn V hV => ?_
 by_cases g1:x<lo
 ·simp (disch:=first | assumption | omega) only [c278,go_sem,↓reduceIte,g1,List.cons_append]
  refine hV _ _ ?_
  simp [g1,Dk]
 ·simp (disch:=first | assumption | omega) only [c278,go_sem,↓reduceIte,g1,List.cons_append]
  refine hV _ _ ?_
  simp [g1,Dk]
def Ny (lo hi:Int) (xs:List Int):Bool:=!xs.any fun x=>decide (x<lo)||decide (x>hi)
theorem Qu (lo hi:Int) (xs:List Int) (hl:xs.length<=1000):Con T 4 220 [.int .i64 lo,.int .i64 hi,Jc xs] (.bool (Ny lo hi xs)):=by
 refine Bs t220 fun n hn V hV => ?_
 simp (disch:=first | assumption | omega) only [c220,go_sem,↓reduceIte]
 refine Dl (Afd (p:=fun x=>decide (x<lo)||decide (x>hi)) xs hl (fun x _=>Oe x lo hi) (fun h x => ?_) (fun h => ?_)) hn (Dr _ _ _ _ (Dc (Iv (De _ _) (Br (Fh (cs:=[.int .i64 lo]) (by simp [go_sem,↓reduceIte]) (Br (Bk _ _ _ _) (De _ _))) (Br (Fh (cs:=[.int .i64 hi]) (by simp [go_sem,↓reduceIte]) (Br (Bk _ _ _ _) (De _ _))) (De _ _)))) (Bz _))) (Gk _ _) ?_
 ·exact Dz _ _ _ (Dc (Du _ _ _ _) (Dc (Du _ _ _ _) (Bz _)))
 ·exact Iv (De _ _) (Br (Du _ _ _ _) (Br (Du _ _ _ _) (De _ _)))
 simp (disch:=first | assumption | omega) only [go_sem,↓reduceIte]
 exact hV _ _ (Dk _ _ _)
section
variable {n base:Nat} {Q:EX×St->Prop} {d:Option Nat} {L:List IOper} {ks:List Kont} {e:Env} {h:Bc}
theorem Kx {lo hi:Int} {xs:List Int} {x:Bool} (hn:4<=n) (hl:xs.length<=1000) :
  GP (Bf T n) base Q d L ks e (Bf T n false (.fn 220) [.int .i64 lo,.int .i64 hi,.slice none (xs.map (.int .i64)) x] h)=GO (Bf T n) base Q L ks ⟨Bl e d (.bool (Ny lo hi xs)),h⟩:=
 Eu (Qu lo hi xs hl) hn (by repeat (first | exact Bz _ | refine Dr _ _ _ _ ?_ | refine Dz _ _ _ ?_)) rfl
theorem It {lo hi a:Int} {x:Bool} (hn:4<=n) :
  GP (Bf T n) base Q d L ks e (Bf T n false (.fn 220) [.int .i64 lo,.int .i64 hi,.slice none [.int .i64 a] x] h)=GO (Bf T n) base Q L ks ⟨Bl e d (.bool (!(decide (a<lo)||decide (a>hi)))),h⟩:=by
 have:=Kx (base:=base) (Q:=Q) (d:=d) (L:=L) (ks:=ks) (e:=e) (h:=h) (lo:=lo) (hi:=hi) (xs:=[a]) (x:=x) hn (by simp)
 rw [show Ny lo hi [a]=(!(decide (a<lo)||decide (a>hi))) by simp [Ny]] at this
 exact this
end
theorem Afe {k f:Nat} {first cap:List AV} {p:Nat×Nat->Bool} (xs:List (Nat×Nat)) (hl:xs.length<=1000) (hc:∀x∈xs,Con T k f (first++[edA x]++cap) (.bool (p x))) (hz:∀h x,fz h (first++[edA x]++cap) = .ret (first++[edA x]++cap)) :
  Con T (k+1) 327 [Gl xs,.clo f first cap] (.int .i64 (Gi p xs 0)):=by
 refine Bs t327 fun n hn V hV => ?_
 simp (disch:=first | assumption | omega) only [c327,go_sem,↓reduceIte]
 refine Dd (fun M s=>∃k:Nat,M=xs.length-k/\k<=xs.length/\At s.env [(0,.slice (some 2) (xs.map edA) false),(1,.clo f first cap),(7,.int .i64 xs.length),(8,.int .i64 k)]/\Gi p xs 0=Gi p (xs.drop k) k) xs.length (by omega) ⟨0,by simp,by omega,by simp [go_sem,↓reduceIte,Gl],rfl⟩ ?_
 rintro M e h hM ⟨k,rfl,hk,hE,hA⟩ P hP
 simp only [Bt,By] at hE
 obtain ⟨h0,h1,h7,h8,-⟩:=hE
 by_cases hlt:k<xs.length
 ·obtain ⟨⟨ya,yb⟩,hy⟩:=Fl hlt
  have hc':=hc (ya,yb) (List.mem_of_getElem? hy)
  have hz':=fun h=>hz h (ya,yb)
  have hy2:(xs.map edA)[k]? = some (.agg [.int .i64 (ya:Int),.int .i64 (yb:Int)]):=by rw [List.getElem?_map,hy]; rfl
  simp only [edA] at hc' hz'
  rw [Fv hy,Gi] at hA
  simp (disch:=first | assumption | omega) only [go_sem,↓reduceIte,h0,h1,h7,h8,hlt,hy2]
  refine Dl hc' hn (hz' _) (Gk _ _) ?_
  by_cases hp:p (ya,yb)=true
  ·simp (disch:=first | assumption | omega) only [go_sem,↓reduceIte,h0,h1,h7,h8,hp]
   exact hV _ _ (by rw [Bk,hA,if_pos hp])
  ·simp (disch:=first | assumption | omega) only [go_sem,↓reduceIte,h0,h1,h7,h8,hp]
   exact hP (xs.length-(k+1)) _ (by omega) ⟨k+1,rfl,by omega,by simp only [go_sem,↓reduceIte,h0,h1,h7],by rw [hA,if_neg hp]; rfl⟩
 ·simp (disch:=first | assumption | omega) only [go_sem,↓reduceIte,h0,h1,h7,h8,hlt]
  exact hV _ _ (by rw [Bk,hA,List.drop_eq_nil_of_le (by omega)]; rfl)
theorem Afc {k f:Nat} {first cap:List AV} {p:Nat×Nat->Bool} (xs:List (Nat×Nat)) (hl:xs.length<=1000) (hc:∀x∈xs,Con T k f (first++[edA x]++cap) (.bool (p x))) (hz:∀h x,fz h (first++[edA x]++cap) = .ret (first++[edA x]++cap))
  (hf:∀h,Bj h 8 (.clo f first cap) = .ret (.clo f first cap)):Con T (k+2) 282 [Gl xs,.clo f first cap] (.bool (xs.any p)):=by
 refine Bs t282 fun n hn V hV => ?_
 simp (disch:=first | assumption | omega) only [c282,go_sem,↓reduceIte]
 refine Dl (Afe xs hl hc hz) hn (Dr _ _ _ _ (Dc (hf _) (Bz _))) (Es _ _ _) ?_
 simp (disch:=first | assumption | omega) only [go_sem,↓reduceIte,Ly]
 exact hV _ _ (Dk _ _ _)
def Nc (q:Nat×Nat):Prop:=1<=q.1/\q.1<=200/\q.2<q.1
structure PinsV (l:List (Nat×Nat)):Prop where
 lo:1<=l.length
 hi:l.length<=5
 ok:∀q∈l,Nc q
theorem Aor (P o:Nat) (hv:Nc (P,o)):Con T 5 281 ([]++[edA (P,o)]++[]) (.bool false):=by
 obtain ⟨h1,h2,h3⟩:=hv
 simp only at h1 h2 h3
 refine Bs t281 fun n hn V hV => ?_
 have d1:decide ((P:Int)<1)=false:=decide_eq_false (by omega)
 have d2:decide ((P:Int)>200)=false:=decide_eq_false (by omega)
 have d3:decide ((o:Int)<0)=false:=decide_eq_false (by omega)
 have d4:decide ((o:Int)>(P:Int)-1)=false:=decide_eq_false (by omega)
 simp (disch:=first | assumption | omega) only [c281,go_sem,↓reduceIte,edA,List.cons_append,List.nil_append,List.append_nil,It,d1,d2,d3,d4,Bool.or_self,Bool.not_false,Bool.not_true,Bool.false_eq_true]
 exact hV _ _ (Dk _ _ _)
theorem A4s (l:List (Nat×Nat)) (hl:PinsV l):Con T 8 225 [Gl l] (.int .i64 0):=by
 have h1:=hl.lo
 have h2:=hl.hi
 refine Bs t225 fun n hn V hV => ?_
 have d1:decide ((l.length:Int)<1)=false:=decide_eq_false (by omega)
 have d2:decide ((l.length:Int)>5)=false:=decide_eq_false (by omega)
 have cs:∀{base:Nat} {Q:EX×St->Prop} {d:Option Nat} {L:List IOper} {ks:List Kont} {e:Env} {h:Bc},GP (Bf T n) base Q d L ks e (Bf T n false (.fn 282) [.slice (some 2) (l.map edA) false,.clo 281 [] []] h)=GO (Bf T n) base Q L ks ⟨Bl e d (.bool (l.any fun _=>false)),h⟩:=
  Eu (Afc (p:=fun _=>false) (k:=5) l (by omega) (fun q hq=>Aor q.1 q.2 (hl.ok q hq)) (fun h q=>Dc (by repeat (first | exact De _ _ | exact Bk _ _ _ _ | exact Dk _ _ _ | exact Dn _ _ _ _ _ | exact Du _ _ _ _ | exact Eh _ _ | refine Br ?_ ?_ | refine Ec ?_ | refine Ed ?_ ?_ | refine Eq ?_ ?_ ?_)) (Bz _)) (fun h=>Iv (De _ _) (De _ _))) (by omega) (Dr _ _ _ _ (Dc (Iv (De _ _) (De _ _)) (Bz _))) (Gk _ _)
 have hany:(l.any fun _=>false)=false:=by simp
 simp (disch:=first | assumption | omega) only [c225,go_sem,↓reduceIte,Gl,List.length_map,It,d1,d2,cs,hany,Bool.or_self,Bool.not_false,Bool.not_true,Bool.false_eq_true]
 exact hV _ _ (Bk _ _ _ _)
theorem Gy (l:List (Nat×Nat)) (hl:PinsV l) (ts:List Int) (ht:∀t∈ts,0<=t/\t<=1000000000000) (hn:ts.length<=1000):Con T 1010 216 [Gl l,Jc ts] (.tuple [Kz l,.int .i64 0]):=by
 refine Bs t216 fun n hn' V hV => ?_
 have hw:Ny 0 1000000000000 ts=true:=by
  simp only [Ny,Bool.not_eq_true',List.any_eq_false,Bool.or_eq_true,decide_eq_true_eq]
  intro t htt
  have:=ht t htt
  omega
 have cs1:∀{base:Nat} {Q:EX×St->Prop} {d:Option Nat} {L:List IOper} {ks:List Kont} {e:Env} {h:Bc},GP (Bf T n) base Q d L ks e (Bf T n false (.fn 225) [Gl l] h)=GO (Bf T n) base Q L ks ⟨Bl e d (.int .i64 0),h⟩:=
  Eu (A4s l hl) (by omega) (by repeat (first | exact Bz _ | refine Dr _ _ _ _ ?_ | refine Dz _ _ _ ?_)) rfl
 have e0:((0:Int) != 0)=false:=rfl
 have hp:PinsOk l:=⟨hl.hi,fun q hq=>by have:=hl.ok q hq; unfold Nc at this; omega⟩
 simp (disch:=first | assumption | omega) only [c216,go_sem,↓reduceIte,cs1,Kx,hw,e0,Bool.false_eq_true,Bool.not_true]
 refine A0z (Qk (k:=1001) t226 (Afz l hp)) (by omega) fun v h' hv => ?_
 simp (disch:=first | assumption | omega) only [go_sem,↓reduceIte]
 refine hV _ _ ?_
 have h4:=hv 3
 exact Ed h4 (Bk _ _ _ _)
end Go.Ev.YtbgodhhdojjbmaaGreatC
namespace Go.Ev.YtbgodhhdojjbmaaGreatC
open Go Go.Proofs
theorem C0n:YOk T 2000 Awf:=by
 have h:=Ei (Gy [(4,1),(6,3),(9,0)] ⟨by decide,by decide,by unfold Nc; decide⟩ [9] (by decide) (by decide)) (Nat.le_refl _)
 have e:AnsY.mk 216 [Gl [(4,1),(6,3),(9,0)],Jc [9]] (.tuple [Kz [(4,1),(6,3),(9,0)],.int .i64 0]) false=Awf:=by kernel_rfl
 rw [<-e]
 exact (Fj h).mono (by decide)
theorem Awi:YOk T 2000 Awg:=by
 have h:=Ei (Gy [(4,1),(6,3),(9,0)] ⟨by decide,by decide,by unfold Nc; decide⟩ [] (by decide) (by decide)) (Nat.le_refl _)
 have e:AnsY.mk 216 [Gl [(4,1),(6,3),(9,0)],Jc []] (.tuple [Kz [(4,1),(6,3),(9,0)],.int .i64 0]) false=Awg:=by kernel_rfl
 rw [<-e]
 exact (Fj h).mono (by decide)
theorem Awj:YOk T 2000 Awh:=by
 have h:=Ei (Gy [(4,1),(6,2)] ⟨by decide,by decide,by unfold Nc; decide⟩ [] (by decide) (by decide)) (Nat.le_refl _)
 have e:AnsY.mk 216 [Gl [(4,1),(6,2)],Jc []] (.tuple [Kz [(4,1),(6,2)],.int .i64 0]) false=Awh:=by kernel_rfl
 rw [<-e]
 exact (Fj h).mono (by decide)
theorem Bme:YOk T 2000 Anr:=by
 have h:=Ei (Gy [(4,1),(6,3),(9,0)] ⟨by decide,by decide,by unfold Nc; decide⟩ [10] (by decide) (by decide)) (Nat.le_refl _)
 have e:AnsY.mk 216 [Gl [(4,1),(6,3),(9,0)],Jc [10]] (.tuple [Kz [(4,1),(6,3),(9,0)],.int .i64 0]) false=Anr:=by kernel_rfl
 rw [<-e]
 exact (Fj h).mono (by decide)
theorem Bmg:YOk T 2000 Ant:=by
 have h:=Ei (Gy [(4,1),(6,3),(9,0)] ⟨by decide,by decide,by unfold Nc; decide⟩ [0,100] (by decide) (by decide)) (Nat.le_refl _)
 have e:AnsY.mk 216 [Gl [(4,1),(6,3),(9,0)],Jc [0,100]] (.tuple [Kz [(4,1),(6,3),(9,0)],.int .i64 0]) false=Ant:=by kernel_rfl
 rw [<-e]
 exact (Fj h).mono (by decide)
theorem Bmi:YOk T 2000 Anu:=by
 have h:=Ei (Gy [(4,1),(6,3),(9,0)] ⟨by decide,by decide,by unfold Nc; decide⟩ [5,4] (by decide) (by decide)) (Nat.le_refl _)
 have e:AnsY.mk 216 [Gl [(4,1),(6,3),(9,0)],Jc [5,4]] (.tuple [Kz [(4,1),(6,3),(9,0)],.int .i64 0]) false=Anu:=by kernel_rfl
 rw [<-e]
 exact (Fj h).mono (by decide)
theorem Anz:YOk T 2000 Anv:=by
 have h:=Ei (Gy [(4,1),(6,2),(3,0),(5,4)] ⟨by decide,by decide,by unfold Nc; decide⟩ [] (by decide) (by decide)) (Nat.le_refl _)
 have e:AnsY.mk 216 [Gl [(4,1),(6,2),(3,0),(5,4)],Jc []] (.tuple [Kz [(4,1),(6,2),(3,0),(5,4)],.int .i64 0]) false=Anv:=by kernel_rfl
 rw [<-e]
 exact (Fj h).mono (by decide)
theorem Bms:YOk T 2000 Anw:=by
 have h:=Ei (Gy [(4,1),(6,3),(9,0)] ⟨by decide,by decide,by unfold Nc; decide⟩ [0] (by decide) (by decide)) (Nat.le_refl _)
 have e:AnsY.mk 216 [Gl [(4,1),(6,3),(9,0)],Jc [0]] (.tuple [Kz [(4,1),(6,3),(9,0)],.int .i64 0]) false=Anw:=by kernel_rfl
 rw [<-e]
 exact (Fj h).mono (by decide)
theorem Bmu:YOk T 2000 Anx:=by
 have h:=Ei (Gy [(2,0),(2,1)] ⟨by decide,by decide,by unfold Nc; decide⟩ [0] (by decide) (by decide)) (Nat.le_refl _)
 have e:AnsY.mk 216 [Gl [(2,0),(2,1)],Jc [0]] (.tuple [Kz [(2,0),(2,1)],.int .i64 0]) false=Anx:=by kernel_rfl
 rw [<-e]
 exact (Fj h).mono (by decide)
end Go.Ev.YtbgodhhdojjbmaaGreatC
