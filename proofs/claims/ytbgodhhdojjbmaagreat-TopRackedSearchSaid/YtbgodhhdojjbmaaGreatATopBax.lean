/- Entries of the works' calls that are proved by walks. The first time at which all pins sound, and the common period, as the barrel reckons them. What small functions of the barrel answer: within, CheckPins, open, First. Valid pins: CheckPins, open and First. The drums of the examples of layer 7. No condition but those that stand in each. -/
import Derived.Test.YtbgodhhdojjbmaaGreatATopW
import Derived.Test.YtbgodhhdojjbmaaGreatATopBar2
import Derived.Test.YtbgodhhdojjbmaaGreatAEvOpen
set_option linter.unusedSimpArgs false
set_option linter.unusedVariables false
set_option maxRecDepth 100000
namespace Go.Ev.YtbgodhhdojjbmaaGreatC
open Go Go.Proofs
def B0l:AnsY:=⟨216,[(.slice (some 2) [.agg [wN 4,wN 1],.agg [wN 6,wN 3],.agg [wN 9,wN 0]] false),wI [9] false],(.tuple [(.ptr [(.slice (some 2) [.agg [wN 4,wN 1],.agg [wN 6,wN 3],.agg [wN 9,wN 0]] false),(.fmap [] [])] 0),wN 0]),false⟩
def B0m:AnsY:=⟨216,[(.slice (some 2) [.agg [wN 4,wN 1],.agg [wN 6,wN 3],.agg [wN 9,wN 0]] false),wI [] false],(.tuple [(.ptr [(.slice (some 2) [.agg [wN 4,wN 1],.agg [wN 6,wN 3],.agg [wN 9,wN 0]] false),(.fmap [] [])] 0),wN 0]),false⟩
def B0n:AnsY:=⟨216,[(.slice (some 2) [.agg [wN 4,wN 1],.agg [wN 6,wN 2]] false),wI [] false],(.tuple [(.ptr [(.slice (some 2) [.agg [wN 4,wN 1],.agg [wN 6,wN 2]] false),(.fmap [.agg [wN 0,wN 1]] [wN 2])] 0),wN 0]),false⟩
def Apv:AnsY:=⟨216,[(.slice (some 2) [.agg [wN 4,wN 1],.agg [wN 6,wN 3],.agg [wN 9,wN 0]] false),wI [10] false],(.tuple [(.ptr [(.slice (some 2) [.agg [wN 4,wN 1],.agg [wN 6,wN 3],.agg [wN 9,wN 0]] false),(.fmap [] [])] 0),wN 0]),false⟩
def Apw:AnsY:=⟨216,[(.slice (some 2) [.agg [wN 4,wN 1],.agg [wN 6,wN 3],.agg [wN 9,wN 0]] false),wI [0,100] false],(.tuple [(.ptr [(.slice (some 2) [.agg [wN 4,wN 1],.agg [wN 6,wN 3],.agg [wN 9,wN 0]] false),(.fmap [] [])] 0),wN 0]),false⟩
def Apx:AnsY:=⟨216,[(.slice (some 2) [.agg [wN 4,wN 1],.agg [wN 6,wN 3],.agg [wN 9,wN 0]] false),wI [5,4] false],(.tuple [(.ptr [(.slice (some 2) [.agg [wN 4,wN 1],.agg [wN 6,wN 3],.agg [wN 9,wN 0]] false),(.fmap [] [])] 0),wN 0]),false⟩
def Apy:AnsY:=⟨216,[(.slice (some 2) [.agg [wN 4,wN 1],.agg [wN 6,wN 2],.agg [wN 3,wN 0],.agg [wN 5,wN 4]] false),wI [] false],(.tuple [(.ptr [(.slice (some 2) [.agg [wN 4,wN 1],.agg [wN 6,wN 2],.agg [wN 3,wN 0],.agg [wN 5,wN 4]] false),(.fmap [.agg [wN 0,wN 1],.agg [wN 1,wN 2]] [wN 2,wN 3])] 0),wN 0]),false⟩
def Apz:AnsY:=⟨216,[(.slice (some 2) [.agg [wN 4,wN 1],.agg [wN 6,wN 3],.agg [wN 9,wN 0]] false),wI [0] false],(.tuple [(.ptr [(.slice (some 2) [.agg [wN 4,wN 1],.agg [wN 6,wN 3],.agg [wN 9,wN 0]] false),(.fmap [] [])] 0),wN 0]),false⟩
def Aqa:AnsY:=⟨216,[(.slice (some 2) [.agg [wN 2,wN 0],.agg [wN 2,wN 1]] false),wI [0] false],(.tuple [(.ptr [(.slice (some 2) [.agg [wN 2,wN 0],.agg [wN 2,wN 1]] false),(.fmap [.agg [wN 0,wN 1]] [wN 2])] 0),wN 0]),false⟩
end Go.Ev.YtbgodhhdojjbmaaGreatC
namespace Go.Ev.YtbgodhhdojjbmaaGreatC
open Go Go.Proofs
attribute [local irreducible] Res.all evC Do Dr Bv Bd Dw Bg Bj G GO GV GP GC R
abbrev Is (l:List Int):AV:=.slice none (l.map (.int .i64)) false
theorem Aha {k f:Nat} {first cap:List AV} {p:Int->Bool} (xs:List Int) (hl:xs.length<=1000) (hc:∀x∈xs,Con T k f (first++[.int .i64 x]++cap) (.bool (p x))) (hz:∀h x,fz h (first++[.int .i64 x]++cap) = .ret (first++[.int .i64 x]++cap)) :
  Con T (k+1) 128 [Is xs,.clo f first cap] (.int .i64 (Kj p xs 0)):=by
 refine Dd t128 fun n hn V hV => ?_
 simp (disch:=first | assumption | omega) only [c128,go_sem,↓reduceIte]
 refine Dm (fun M s=>∃k:Nat,M=xs.length-k/\k<=xs.length/\At s.env [(0,Is xs),(1,.clo f first cap),(7,.int .i64 xs.length),(8,.int .i64 k)]/\Kj p xs 0=Kj p (xs.drop k) k) xs.length (by omega) ⟨0,by simp,by omega,by simp [go_sem,↓reduceIte],rfl⟩ ?_
 rintro M e h hM ⟨k,rfl,hk,hE,hA⟩ P hP
 simp only [Bz,Dc] at hE
 obtain ⟨h0,h1,h7,h8,-⟩:=hE
 by_cases hlt:k<xs.length
 ·obtain ⟨y,hy⟩:=Gy hlt
  rw [Hv hy,Kj] at hA
  simp (disch:=first | assumption | omega) only [go_sem,↓reduceIte,h0,h1,h7,h8,hlt,hy]
  refine Ee (hc y (List.mem_of_getElem? hy)) hn (hz _ _) (Kb _ _) ?_
  by_cases hp:p y=true
  ·simp (disch:=first | assumption | omega) only [go_sem,↓reduceIte,h0,h1,h7,h8,hp]
   exact hV _ _ (by rw [Bq,hA,if_pos hp])
  ·simp (disch:=first | assumption | omega) only [go_sem,↓reduceIte,h0,h1,h7,h8,hp]
   exact hP (xs.length-(k+1)) _ (by omega) ⟨k+1,rfl,by omega,by simp only [go_sem,↓reduceIte,h0,h1,h7],by rw [hA,if_neg hp]; rfl⟩
 ·simp (disch:=first | assumption | omega) only [go_sem,↓reduceIte,h0,h1,h7,h8,hlt]
  exact hV _ _ (by rw [Bq,hA,List.drop_eq_nil_of_le (by omega)]; rfl)
theorem Agy {k f:Nat} {first cap:List AV} {p:Int->Bool} (xs:List Int) (hl:xs.length<=1000) (hc:∀x∈xs,Con T k f (first++[.int .i64 x]++cap) (.bool (p x))) (hz:∀h x,fz h (first++[.int .i64 x]++cap) = .ret (first++[.int .i64 x]++cap))
  (hf:∀h,Bj h 8 (.clo f first cap) = .ret (.clo f first cap)):Con T (k+2) 79 [Is xs,.clo f first cap] (.bool (xs.any p)):=by
 refine Dd t79 fun n hn V hV => ?_
 simp (disch:=first | assumption | omega) only [c79,go_sem,↓reduceIte]
 refine Ee (Aha xs hl hc hz) hn (Fi _ _ _ _ (Dj (hf _) (Dt _))) (Gt _ _ _) ?_
 simp (disch:=first | assumption | omega) only [go_sem,↓reduceIte,Sg]
 exact hV _ _ (Ea _ _ _)
theorem A6m (x lo hi:Int):Con T 1 278 ([]++[.int .i64 x]++[.ptr [.int .i64 lo] 0,.ptr [.int .i64 hi] 0]) (.bool (decide (x<lo)||decide (x>hi))):=by
 refine Dd t278 fun n hn V hV => ?_
 by_cases g1:x<lo
 ·simp (disch:=first | assumption | omega) only [c278,go_sem,↓reduceIte,g1,List.cons_append]
  refine hV _ _ ?_
  simp [g1,Ea]
 ·simp (disch:=first | assumption | omega) only [c278,go_sem,↓reduceIte,g1,List.cons_append]
  refine hV _ _ ?_
  simp [g1,Ea]
def No (lo hi:Int) (xs:List Int):Bool:=!xs.any fun x=>decide (x<lo)||decide (x>hi)
theorem Aad (lo hi:Int) (xs:List Int) (hl:xs.length<=1000):Con T 4 220 [.int .i64 lo,.int .i64 hi,Is xs] (.bool (No lo hi xs)):=by
 refine Dd t220 fun n hn V hV => ?_
 simp (disch:=first | assumption | omega) only [c220,go_sem,↓reduceIte]
 refine Ee (Agy (p:=fun x=>decide (x<lo)||decide (x>hi)) xs hl (fun x _=>A6m x lo hi) (fun h x => ?_) (fun h => ?_)) hn (Fi _ _ _ _ (Dj (Nk (Dp _ _) (Db (Ge (cs:=[.int .i64 lo]) (by simp [go_sem,↓reduceIte]) (Db (Bq _ _ _ _) (Dp _ _))) (Db (Ge (cs:=[.int .i64 hi]) (by simp [go_sem,↓reduceIte]) (Db (Bq _ _ _ _) (Dp _ _))) (Dp _ _)))) (Dt _))) (Kb _ _) ?_
 ·exact Fw _ _ _ (Dj (Eq _ _ _ _) (Dj (Eq _ _ _ _) (Dt _)))
 ·exact Nk (Dp _ _) (Db (Eq _ _ _ _) (Db (Eq _ _ _ _) (Dp _ _)))
 simp (disch:=first | assumption | omega) only [go_sem,↓reduceIte]
 exact hV _ _ (Ea _ _ _)
section
variable {n base:Nat} {Q:EX×St->Prop} {d:Option Nat} {L:List IOper} {ks:List Kont} {e:Env} {h:Bc}
theorem A0j {lo hi:Int} {xs:List Int} {x:Bool} (hn:4<=n) (hl:xs.length<=1000) :
  GP (Bg T n) base Q d L ks e (Bg T n false (.fn 220) [.int .i64 lo,.int .i64 hi,.slice none (xs.map (.int .i64)) x] h)=GO (Bg T n) base Q L ks ⟨Bk e d (.bool (No lo hi xs)),h⟩:=
 Hb (Aad lo hi xs hl) hn (by repeat (first | exact Dt _ | refine Fi _ _ _ _ ?_ | refine Fw _ _ _ ?_)) rfl
theorem Yk {lo hi a:Int} {x:Bool} (hn:4<=n) :
  GP (Bg T n) base Q d L ks e (Bg T n false (.fn 220) [.int .i64 lo,.int .i64 hi,.slice none [.int .i64 a] x] h)=GO (Bg T n) base Q L ks ⟨Bk e d (.bool (!(decide (a<lo)||decide (a>hi)))),h⟩:=by
 have:=A0j (base:=base) (Q:=Q) (d:=d) (L:=L) (ks:=ks) (e:=e) (h:=h) (lo:=lo) (hi:=hi) (xs:=[a]) (x:=x) hn (by simp)
 rw [show No lo hi [a]=(!(decide (a<lo)||decide (a>hi))) by simp [No]] at this
 exact this
end
theorem Agz {k f:Nat} {first cap:List AV} {p:Nat×Nat->Bool} (xs:List (Nat×Nat)) (hl:xs.length<=1000) (hc:∀x∈xs,Con T k f (first++[edA x]++cap) (.bool (p x))) (hz:∀h x,fz h (first++[edA x]++cap) = .ret (first++[edA x]++cap)) :
  Con T (k+1) 327 [Gj xs,.clo f first cap] (.int .i64 (Kj p xs 0)):=by
 refine Dd t327 fun n hn V hV => ?_
 simp (disch:=first | assumption | omega) only [c327,go_sem,↓reduceIte]
 refine Dm (fun M s=>∃k:Nat,M=xs.length-k/\k<=xs.length/\At s.env [(0,.slice (some 2) (xs.map edA) false),(1,.clo f first cap),(7,.int .i64 xs.length),(8,.int .i64 k)]/\Kj p xs 0=Kj p (xs.drop k) k) xs.length (by omega) ⟨0,by simp,by omega,by simp [go_sem,↓reduceIte,Gj],rfl⟩ ?_
 rintro M e h hM ⟨k,rfl,hk,hE,hA⟩ P hP
 simp only [Bz,Dc] at hE
 obtain ⟨h0,h1,h7,h8,-⟩:=hE
 by_cases hlt:k<xs.length
 ·obtain ⟨⟨ya,yb⟩,hy⟩:=Gy hlt
  have hc':=hc (ya,yb) (List.mem_of_getElem? hy)
  have hz':=fun h=>hz h (ya,yb)
  have hy2:(xs.map edA)[k]? = some (.agg [.int .i64 (ya:Int),.int .i64 (yb:Int)]):=by rw [List.getElem?_map,hy]; rfl
  simp only [edA] at hc' hz'
  rw [Hv hy,Kj] at hA
  simp (disch:=first | assumption | omega) only [go_sem,↓reduceIte,h0,h1,h7,h8,hlt,hy2]
  refine Ee hc' hn (hz' _) (Kb _ _) ?_
  by_cases hp:p (ya,yb)=true
  ·simp (disch:=first | assumption | omega) only [go_sem,↓reduceIte,h0,h1,h7,h8,hp]
   exact hV _ _ (by rw [Bq,hA,if_pos hp])
  ·simp (disch:=first | assumption | omega) only [go_sem,↓reduceIte,h0,h1,h7,h8,hp]
   exact hP (xs.length-(k+1)) _ (by omega) ⟨k+1,rfl,by omega,by simp only [go_sem,↓reduceIte,h0,h1,h7],by rw [hA,if_neg hp]; rfl⟩
 ·simp (disch:=first | assumption | omega) only [go_sem,↓reduceIte,h0,h1,h7,h8,hlt]
  exact hV _ _ (by rw [Bq,hA,List.drop_eq_nil_of_le (by omega)]; rfl)
theorem Agx {k f:Nat} {first cap:List AV} {p:Nat×Nat->Bool} (xs:List (Nat×Nat)) (hl:xs.length<=1000) (hc:∀x∈xs,Con T k f (first++[edA x]++cap) (.bool (p x))) (hz:∀h x,fz h (first++[edA x]++cap) = .ret (first++[edA x]++cap))
  (hf:∀h,Bj h 8 (.clo f first cap) = .ret (.clo f first cap)):Con T (k+2) 282 [Gj xs,.clo f first cap] (.bool (xs.any p)):=by
 refine Dd t282 fun n hn V hV => ?_
 simp (disch:=first | assumption | omega) only [c282,go_sem,↓reduceIte]
 refine Ee (Agz xs hl hc hz) hn (Fi _ _ _ _ (Dj (hf _) (Dt _))) (Gt _ _ _) ?_
 simp (disch:=first | assumption | omega) only [go_sem,↓reduceIte,Sg]
 exact hV _ _ (Ea _ _ _)
def Mu (q:Nat×Nat):Prop:=1<=q.1/\q.1<=200/\q.2<q.1
structure PinsV (l:List (Nat×Nat)):Prop where
 lo:1<=l.length
 hi:l.length<=5
 ok:∀q∈l,Mu q
theorem Aqu (P o:Nat) (hv:Mu (P,o)):Con T 5 281 ([]++[edA (P,o)]++[]) (.bool false):=by
 obtain ⟨h1,h2,h3⟩:=hv
 simp only at h1 h2 h3
 refine Dd t281 fun n hn V hV => ?_
 have d1:decide ((P:Int)<1)=false:=decide_eq_false (by omega)
 have d2:decide ((P:Int)>200)=false:=decide_eq_false (by omega)
 have d3:decide ((o:Int)<0)=false:=decide_eq_false (by omega)
 have d4:decide ((o:Int)>(P:Int)-1)=false:=decide_eq_false (by omega)
 simp (disch:=first | assumption | omega) only [c281,go_sem,↓reduceIte,edA,List.cons_append,List.nil_append,List.append_nil,Yk,d1,d2,d3,d4,Bool.or_self,Bool.not_false,Bool.not_true,Bool.false_eq_true]
 exact hV _ _ (Ea _ _ _)
theorem A5a (l:List (Nat×Nat)) (hl:PinsV l):Con T 8 225 [Gj l] (.int .i64 0):=by
 have h1:=hl.lo
 have h2:=hl.hi
 refine Dd t225 fun n hn V hV => ?_
 have d1:decide ((l.length:Int)<1)=false:=decide_eq_false (by omega)
 have d2:decide ((l.length:Int)>5)=false:=decide_eq_false (by omega)
 have cs:∀{base:Nat} {Q:EX×St->Prop} {d:Option Nat} {L:List IOper} {ks:List Kont} {e:Env} {h:Bc},GP (Bg T n) base Q d L ks e (Bg T n false (.fn 282) [.slice (some 2) (l.map edA) false,.clo 281 [] []] h)=GO (Bg T n) base Q L ks ⟨Bk e d (.bool (l.any fun _=>false)),h⟩:=
  Hb (Agx (p:=fun _=>false) (k:=5) l (by omega) (fun q hq=>Aqu q.1 q.2 (hl.ok q hq)) (fun h q=>Dj (by repeat (first | exact Dp _ _ | exact Bq _ _ _ _ | exact Ea _ _ _ | exact Dv _ _ _ _ _ | exact Eq _ _ _ _ | exact Ex _ _ | refine Db ?_ ?_ | refine Eo ?_ | refine Ey ?_ ?_ | refine Fg ?_ ?_ ?_)) (Dt _)) (fun h=>Nk (Dp _ _) (Dp _ _))) (by omega) (Fi _ _ _ _ (Dj (Nk (Dp _ _) (Dp _ _)) (Dt _))) (Kb _ _)
 have hany:(l.any fun _=>false)=false:=by simp
 simp (disch:=first | assumption | omega) only [c225,go_sem,↓reduceIte,Gj,List.length_map,Yk,d1,d2,cs,hany,Bool.or_self,Bool.not_false,Bool.not_true,Bool.false_eq_true]
 exact hV _ _ (Bq _ _ _ _)
theorem Ia (l:List (Nat×Nat)) (hl:PinsV l) (ts:List Int) (ht:∀t∈ts,0<=t/\t<=1000000000000) (hn:ts.length<=1000):Con T 1010 216 [Gj l,Is ts] (.tuple [Kx l,.int .i64 0]):=by
 refine Dd t216 fun n hn' V hV => ?_
 have hw:No 0 1000000000000 ts=true:=by
  simp only [No,Bool.not_eq_true',List.any_eq_false,Bool.or_eq_true,decide_eq_true_eq]
  intro t htt
  have:=ht t htt
  omega
 have cs1:∀{base:Nat} {Q:EX×St->Prop} {d:Option Nat} {L:List IOper} {ks:List Kont} {e:Env} {h:Bc},GP (Bg T n) base Q d L ks e (Bg T n false (.fn 225) [Gj l] h)=GO (Bg T n) base Q L ks ⟨Bk e d (.int .i64 0),h⟩:=
  Hb (A5a l hl) (by omega) (by repeat (first | exact Dt _ | refine Fi _ _ _ _ ?_ | refine Fw _ _ _ ?_)) rfl
 have e0:((0:Int) != 0)=false:=rfl
 have hp:PinsOk l:=⟨hl.hi,fun q hq=>by have:=hl.ok q hq; unfold Mu at this; omega⟩
 simp (disch:=first | assumption | omega) only [c216,go_sem,↓reduceIte,cs1,A0j,hw,e0,Bool.false_eq_true,Bool.not_true]
 refine A1d (Qd (k:=1001) t226 (Ahq l hp)) (by omega) fun v h' hv => ?_
 simp (disch:=first | assumption | omega) only [go_sem,↓reduceIte]
 refine hV _ _ ?_
 have h4:=hv 3
 exact Ey h4 (Bq _ _ _ _)
end Go.Ev.YtbgodhhdojjbmaaGreatC
namespace Go.Ev.YtbgodhhdojjbmaaGreatC
open Go Go.Proofs
theorem Cch:YOk T 2000 B0l:=by
 have h:=Dz (Ia [(4,1),(6,3),(9,0)] ⟨by decide,by decide,by unfold Mu; decide⟩ [9] (by decide) (by decide)) (Nat.le_refl _)
 have e:AnsY.mk 216 [Gj [(4,1),(6,3),(9,0)],Is [9]] (.tuple [Kx [(4,1),(6,3),(9,0)],.int .i64 0]) false=B0l:=by kernel_rfl
 rw [<-e]
 exact (Es h).mono (by decide)
theorem B0o:YOk T 2000 B0m:=by
 have h:=Dz (Ia [(4,1),(6,3),(9,0)] ⟨by decide,by decide,by unfold Mu; decide⟩ [] (by decide) (by decide)) (Nat.le_refl _)
 have e:AnsY.mk 216 [Gj [(4,1),(6,3),(9,0)],Is []] (.tuple [Kx [(4,1),(6,3),(9,0)],.int .i64 0]) false=B0m:=by kernel_rfl
 rw [<-e]
 exact (Es h).mono (by decide)
theorem B0p:YOk T 2000 B0n:=by
 have h:=Dz (Ia [(4,1),(6,2)] ⟨by decide,by decide,by unfold Mu; decide⟩ [] (by decide) (by decide)) (Nat.le_refl _)
 have e:AnsY.mk 216 [Gj [(4,1),(6,2)],Is []] (.tuple [Kx [(4,1),(6,2)],.int .i64 0]) false=B0n:=by kernel_rfl
 rw [<-e]
 exact (Es h).mono (by decide)
theorem Bvk:YOk T 2000 Apv:=by
 have h:=Dz (Ia [(4,1),(6,3),(9,0)] ⟨by decide,by decide,by unfold Mu; decide⟩ [10] (by decide) (by decide)) (Nat.le_refl _)
 have e:AnsY.mk 216 [Gj [(4,1),(6,3),(9,0)],Is [10]] (.tuple [Kx [(4,1),(6,3),(9,0)],.int .i64 0]) false=Apv:=by kernel_rfl
 rw [<-e]
 exact (Es h).mono (by decide)
theorem Bvm:YOk T 2000 Apw:=by
 have h:=Dz (Ia [(4,1),(6,3),(9,0)] ⟨by decide,by decide,by unfold Mu; decide⟩ [0,100] (by decide) (by decide)) (Nat.le_refl _)
 have e:AnsY.mk 216 [Gj [(4,1),(6,3),(9,0)],Is [0,100]] (.tuple [Kx [(4,1),(6,3),(9,0)],.int .i64 0]) false=Apw:=by kernel_rfl
 rw [<-e]
 exact (Es h).mono (by decide)
theorem Bvo:YOk T 2000 Apx:=by
 have h:=Dz (Ia [(4,1),(6,3),(9,0)] ⟨by decide,by decide,by unfold Mu; decide⟩ [5,4] (by decide) (by decide)) (Nat.le_refl _)
 have e:AnsY.mk 216 [Gj [(4,1),(6,3),(9,0)],Is [5,4]] (.tuple [Kx [(4,1),(6,3),(9,0)],.int .i64 0]) false=Apx:=by kernel_rfl
 rw [<-e]
 exact (Es h).mono (by decide)
theorem Aqb:YOk T 2000 Apy:=by
 have h:=Dz (Ia [(4,1),(6,2),(3,0),(5,4)] ⟨by decide,by decide,by unfold Mu; decide⟩ [] (by decide) (by decide)) (Nat.le_refl _)
 have e:AnsY.mk 216 [Gj [(4,1),(6,2),(3,0),(5,4)],Is []] (.tuple [Kx [(4,1),(6,2),(3,0),(5,4)],.int .i64 0]) false=Apy:=by kernel_rfl
 rw [<-e]
 exact (Es h).mono (by decide)
theorem Bvy:YOk T 2000 Apz:=by
 have h:=Dz (Ia [(4,1),(6,3),(9,0)] ⟨by decide,by decide,by unfold Mu; decide⟩ [0] (by decide) (by decide)) (Nat.le_refl _)
 have e:AnsY.mk 216 [Gj [(4,1),(6,3),(9,0)],Is [0]] (.tuple [Kx [(4,1),(6,3),(9,0)],.int .i64 0]) false=Apz:=by kernel_rfl
 rw [<-e]
 exact (Es h).mono (by decide)
theorem Bwa:YOk T 2000 Aqa:=by
 have h:=Dz (Ia [(2,0),(2,1)] ⟨by decide,by decide,by unfold Mu; decide⟩ [0] (by decide) (by decide)) (Nat.le_refl _)
 have e:AnsY.mk 216 [Gj [(2,0),(2,1)],Is [0]] (.tuple [Kx [(2,0),(2,1)],.int .i64 0]) false=Aqa:=by kernel_rfl
 rw [<-e]
 exact (Es h).mono (by decide)
end Go.Ev.YtbgodhhdojjbmaaGreatC
