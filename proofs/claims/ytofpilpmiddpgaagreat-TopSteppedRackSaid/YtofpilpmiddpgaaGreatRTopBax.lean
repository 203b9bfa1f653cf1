/- Entries of the works' calls that are proved by walks. The first time at which all pins sound, and the common period, as the barrel reckons them. What small functions of the barrel answer: within, CheckPins, open, First. Valid pins: CheckPins, open and First. The drums of the examples of layer 7. No condition but those that stand in each. -/
import Derived.Test.YtofpilpmiddpgaaGreatRTopW
import Derived.Test.YtofpilpmiddpgaaGreatRTopBar2
import Derived.Test.YtofpilpmiddpgaaGreatREvOpen
set_option linter.unusedSimpArgs false
set_option linter.unusedVariables false
set_option maxRecDepth 100000
namespace Go.Ev.YtofpilpmiddpgaaGreatC
open Go Go.Proofs
def Arz:AnsY:=⟨125,[(.slice (some 2) [.agg [wN 4,wN 1],.agg [wN 6,wN 3],.agg [wN 9,wN 0]] false),wI [9] false],(.tuple [(.ptr [(.slice (some 2) [.agg [wN 4,wN 1],.agg [wN 6,wN 3],.agg [wN 9,wN 0]] false),(.fmap [] [])] 0),wN 0]),false⟩
def Asa:AnsY:=⟨125,[(.slice (some 2) [.agg [wN 4,wN 1],.agg [wN 6,wN 3],.agg [wN 9,wN 0]] false),wI [] false],(.tuple [(.ptr [(.slice (some 2) [.agg [wN 4,wN 1],.agg [wN 6,wN 3],.agg [wN 9,wN 0]] false),(.fmap [] [])] 0),wN 0]),false⟩
def Asb:AnsY:=⟨125,[(.slice (some 2) [.agg [wN 4,wN 1],.agg [wN 6,wN 2]] false),wI [] false],(.tuple [(.ptr [(.slice (some 2) [.agg [wN 4,wN 1],.agg [wN 6,wN 2]] false),(.fmap [.agg [wN 0,wN 1]] [wN 2])] 0),wN 0]),false⟩
def Aki:AnsY:=⟨125,[(.slice (some 2) [.agg [wN 4,wN 1],.agg [wN 6,wN 3],.agg [wN 9,wN 0]] false),wI [10] false],(.tuple [(.ptr [(.slice (some 2) [.agg [wN 4,wN 1],.agg [wN 6,wN 3],.agg [wN 9,wN 0]] false),(.fmap [] [])] 0),wN 0]),false⟩
def Akj:AnsY:=⟨125,[(.slice (some 2) [.agg [wN 4,wN 1],.agg [wN 6,wN 3],.agg [wN 9,wN 0]] false),wI [0,100] false],(.tuple [(.ptr [(.slice (some 2) [.agg [wN 4,wN 1],.agg [wN 6,wN 3],.agg [wN 9,wN 0]] false),(.fmap [] [])] 0),wN 0]),false⟩
def Akk:AnsY:=⟨125,[(.slice (some 2) [.agg [wN 4,wN 1],.agg [wN 6,wN 3],.agg [wN 9,wN 0]] false),wI [5,4] false],(.tuple [(.ptr [(.slice (some 2) [.agg [wN 4,wN 1],.agg [wN 6,wN 3],.agg [wN 9,wN 0]] false),(.fmap [] [])] 0),wN 0]),false⟩
def Akl:AnsY:=⟨125,[(.slice (some 2) [.agg [wN 4,wN 1],.agg [wN 6,wN 2],.agg [wN 3,wN 0],.agg [wN 5,wN 4]] false),wI [] false],(.tuple [(.ptr [(.slice (some 2) [.agg [wN 4,wN 1],.agg [wN 6,wN 2],.agg [wN 3,wN 0],.agg [wN 5,wN 4]] false),(.fmap [.agg [wN 0,wN 1],.agg [wN 1,wN 2]] [wN 2,wN 3])] 0),wN 0]),false⟩
def Akm:AnsY:=⟨125,[(.slice (some 2) [.agg [wN 4,wN 1],.agg [wN 6,wN 3],.agg [wN 9,wN 0]] false),wI [0] false],(.tuple [(.ptr [(.slice (some 2) [.agg [wN 4,wN 1],.agg [wN 6,wN 3],.agg [wN 9,wN 0]] false),(.fmap [] [])] 0),wN 0]),false⟩
def Akn:AnsY:=⟨125,[(.slice (some 2) [.agg [wN 2,wN 0],.agg [wN 2,wN 1]] false),wI [0] false],(.tuple [(.ptr [(.slice (some 2) [.agg [wN 2,wN 0],.agg [wN 2,wN 1]] false),(.fmap [.agg [wN 0,wN 1]] [wN 2])] 0),wN 0]),false⟩
end Go.Ev.YtofpilpmiddpgaaGreatC
namespace Go.Ev.YtofpilpmiddpgaaGreatC
open Go Go.Proofs
attribute [local irreducible] Res.all evC Dd Dg Bo Bf Dl Bg Bi G GO GV GP GC R
abbrev Id (l:List Int):AV:=.slice none (l.map (.int .i64)) false
theorem Adb {k f:Nat} {first cap:List AV} {p:Int->Bool} (xs:List Int) (hl:xs.length<=1000) (hc:∀x∈xs,Con T k f (first++[.int .i64 x]++cap) (.bool (p x))) (hz:∀h x,fz h (first++[.int .i64 x]++cap) = .ret (first++[.int .i64 x]++cap)) :
  Con T (k+1) 235 [Id xs,.clo f first cap] (.int .i64 (Hk p xs 0)):=by
 refine Bs t235 fun n hn V hV => ?_
 simp (disch:=first | assumption | omega) only [c235,go_sem,↓reduceIte]
 refine Da (fun M s=>∃k:Nat,M=xs.length-k/\k<=xs.length/\At s.env [(0,Id xs),(1,.clo f first cap),(7,.int .i64 xs.length),(8,.int .i64 k)]/\Hk p xs 0=Hk p (xs.drop k) k) xs.length (by omega) ⟨0,by simp,by omega,by simp [go_sem,↓reduceIte],rfl⟩ ?_
 rintro M e h hM ⟨k,rfl,hk,hE,hA⟩ P hP
 simp only [Br,Bw] at hE
 obtain ⟨h0,h1,h7,h8,-⟩:=hE
 by_cases hlt:k<xs.length
 ·obtain ⟨y,hy⟩:=Fu hlt
  rw [Gc hy,Hk] at hA
  simp (disch:=first | assumption | omega) only [go_sem,↓reduceIte,h0,h1,h7,h8,hlt,hy]
  refine Dq (hc y (List.mem_of_getElem? hy)) hn (hz _ _) (Gs _ _) ?_
  by_cases hp:p y=true
  ·simp (disch:=first | assumption | omega) only [go_sem,↓reduceIte,h0,h1,h7,h8,hp]
   exact hV _ _ (by rw [Bm,hA,if_pos hp])
  ·simp (disch:=first | assumption | omega) only [go_sem,↓reduceIte,h0,h1,h7,h8,hp]
   exact hP (xs.length-(k+1)) _ (by omega) ⟨k+1,rfl,by omega,by simp only [go_sem,↓reduceIte,h0,h1,h7],by rw [hA,if_neg hp]; rfl⟩
 ·simp (disch:=first | assumption | omega) only [go_sem,↓reduceIte,h0,h1,h7,h8,hlt]
  exact hV _ _ (by rw [Bm,hA,List.drop_eq_nil_of_le (by omega)]; rfl)
theorem Acx {k f:Nat} {first cap:List AV} {p:Int->Bool} (xs:List Int) (hl:xs.length<=1000) (hc:∀x∈xs,Con T k f (first++[.int .i64 x]++cap) (.bool (p x))) (hz:∀h x,fz h (first++[.int .i64 x]++cap) = .ret (first++[.int .i64 x]++cap))
  (hf:∀h,Bi h 8 (.clo f first cap) = .ret (.clo f first cap)):Con T (k+2) 177 [Id xs,.clo f first cap] (.bool (xs.any p)):=by
 refine Bs t177 fun n hn V hV => ?_
 simp (disch:=first | assumption | omega) only [c177,go_sem,↓reduceIte]
 refine Dq (Adb xs hl hc hz) hn (Di _ _ _ _ (By (hf _) (Bx _))) (Gt _ _ _) ?_
 simp (disch:=first | assumption | omega) only [go_sem,↓reduceIte,Mw]
 exact hV _ _ (Dm _ _ _)
theorem A3p (x lo hi:Int):Con T 1 178 ([]++[.int .i64 x]++[.ptr [.int .i64 lo] 0,.ptr [.int .i64 hi] 0]) (.bool (decide (x<lo)||decide (x>hi))):=by
 refine Bs t178 fun n hn V hV => ?_
 by_cases g1:x<lo
 ·simp (disch:=first | assumption | omega) only [c178,go_sem,↓reduceIte,g1,List.cons_append]
  refine hV _ _ ?_
  simp [g1,Dm]
 ·simp (disch:=first | assumption | omega) only [c178,go_sem,↓reduceIte,g1,List.cons_append]
  refine hV _ _ ?_
  simp [g1,Dm]
def Mm (lo hi:Int) (xs:List Int):Bool:=!xs.any fun x=>decide (x<lo)||decide (x>hi)
theorem A6t (lo hi:Int) (xs:List Int) (hl:xs.length<=1000):Con T 4 129 [.int .i64 lo,.int .i64 hi,Id xs] (.bool (Mm lo hi xs)):=by
 refine Bs t129 fun n hn V hV => ?_
 simp (disch:=first | assumption | omega) only [c129,go_sem,↓reduceIte]
 refine Dq (Acx (p:=fun x=>decide (x<lo)||decide (x>hi)) xs hl (fun x _=>A3p x lo hi) (fun h x => ?_) (fun h => ?_)) hn (Di _ _ _ _ (By (Gk (Df _ _) (Bv (Eu (cs:=[.int .i64 lo]) (by simp [go_sem,↓reduceIte]) (Bv (Bm _ _ _ _) (Df _ _))) (Bv (Eu (cs:=[.int .i64 hi]) (by simp [go_sem,↓reduceIte]) (Bv (Bm _ _ _ _) (Df _ _))) (Df _ _)))) (Bx _))) (Gs _ _) ?_
 ·exact Fi _ _ _ (By (Ea _ _ _ _) (By (Ea _ _ _ _) (Bx _)))
 ·exact Gk (Df _ _) (Bv (Ea _ _ _ _) (Bv (Ea _ _ _ _) (Df _ _)))
 simp (disch:=first | assumption | omega) only [go_sem,↓reduceIte]
 exact hV _ _ (Dm _ _ _)
section
variable {n base:Nat} {Q:EX×St->Prop} {d:Option Nat} {L:List IOper} {ks:List Kont} {e:Env} {h:Bc}
theorem Yf {lo hi:Int} {xs:List Int} {x:Bool} (hn:4<=n) (hl:xs.length<=1000) :
  GP (Bg T n) base Q d L ks e (Bg T n false (.fn 129) [.int .i64 lo,.int .i64 hi,.slice none (xs.map (.int .i64)) x] h)=GO (Bg T n) base Q L ks ⟨Bj e d (.bool (Mm lo hi xs)),h⟩:=
 Fq (A6t lo hi xs hl) hn (by repeat (first | exact Bx _ | refine Di _ _ _ _ ?_ | refine Fi _ _ _ ?_)) rfl
theorem Wh {lo hi a:Int} {x:Bool} (hn:4<=n) :
  GP (Bg T n) base Q d L ks e (Bg T n false (.fn 129) [.int .i64 lo,.int .i64 hi,.slice none [.int .i64 a] x] h)=GO (Bg T n) base Q L ks ⟨Bj e d (.bool (!(decide (a<lo)||decide (a>hi)))),h⟩:=by
 have:=Yf (base:=base) (Q:=Q) (d:=d) (L:=L) (ks:=ks) (e:=e) (h:=h) (lo:=lo) (hi:=hi) (xs:=[a]) (x:=x) hn (by simp)
 rw [show Mm lo hi [a]=(!(decide (a<lo)||decide (a>hi))) by simp [Mm]] at this
 exact this
end
theorem Ada {k f:Nat} {first cap:List AV} {p:Nat×Nat->Bool} (xs:List (Nat×Nat)) (hl:xs.length<=1000) (hc:∀x∈xs,Con T k f (first++[edA x]++cap) (.bool (p x))) (hz:∀h x,fz h (first++[edA x]++cap) = .ret (first++[edA x]++cap)) :
  Con T (k+1) 236 [Fw xs,.clo f first cap] (.int .i64 (Hk p xs 0)):=by
 refine Bs t236 fun n hn V hV => ?_
 simp (disch:=first | assumption | omega) only [c236,go_sem,↓reduceIte]
 refine Da (fun M s=>∃k:Nat,M=xs.length-k/\k<=xs.length/\At s.env [(0,.slice (some 2) (xs.map edA) false),(1,.clo f first cap),(7,.int .i64 xs.length),(8,.int .i64 k)]/\Hk p xs 0=Hk p (xs.drop k) k) xs.length (by omega) ⟨0,by simp,by omega,by simp [go_sem,↓reduceIte,Fw],rfl⟩ ?_
 rintro M e h hM ⟨k,rfl,hk,hE,hA⟩ P hP
 simp only [Br,Bw] at hE
 obtain ⟨h0,h1,h7,h8,-⟩:=hE
 by_cases hlt:k<xs.length
 ·obtain ⟨⟨ya,yb⟩,hy⟩:=Fu hlt
  have hc':=hc (ya,yb) (List.mem_of_getElem? hy)
  have hz':=fun h=>hz h (ya,yb)
  have hy2:(xs.map edA)[k]? = some (.agg [.int .i64 (ya:Int),.int .i64 (yb:Int)]):=by rw [List.getElem?_map,hy]; rfl
  simp only [edA] at hc' hz'
  rw [Gc hy,Hk] at hA
  simp (disch:=first | assumption | omega) only [go_sem,↓reduceIte,h0,h1,h7,h8,hlt,hy2]
  refine Dq hc' hn (hz' _) (Gs _ _) ?_
  by_cases hp:p (ya,yb)=true
  ·simp (disch:=first | assumption | omega) only [go_sem,↓reduceIte,h0,h1,h7,h8,hp]
   exact hV _ _ (by rw [Bm,hA,if_pos hp])
  ·simp (disch:=first | assumption | omega) only [go_sem,↓reduceIte,h0,h1,h7,h8,hp]
   exact hP (xs.length-(k+1)) _ (by omega) ⟨k+1,rfl,by omega,by simp only [go_sem,↓reduceIte,h0,h1,h7],by rw [hA,if_neg hp]; rfl⟩
 ·simp (disch:=first | assumption | omega) only [go_sem,↓reduceIte,h0,h1,h7,h8,hlt]
  exact hV _ _ (by rw [Bm,hA,List.drop_eq_nil_of_le (by omega)]; rfl)
theorem Acw {k f:Nat} {first cap:List AV} {p:Nat×Nat->Bool} (xs:List (Nat×Nat)) (hl:xs.length<=1000) (hc:∀x∈xs,Con T k f (first++[edA x]++cap) (.bool (p x))) (hz:∀h x,fz h (first++[edA x]++cap) = .ret (first++[edA x]++cap))
  (hf:∀h,Bi h 8 (.clo f first cap) = .ret (.clo f first cap)):Con T (k+2) 182 [Fw xs,.clo f first cap] (.bool (xs.any p)):=by
 refine Bs t182 fun n hn V hV => ?_
 simp (disch:=first | assumption | omega) only [c182,go_sem,↓reduceIte]
 refine Dq (Ada xs hl hc hz) hn (Di _ _ _ _ (By (hf _) (Bx _))) (Gt _ _ _) ?_
 simp (disch:=first | assumption | omega) only [go_sem,↓reduceIte,Mw]
 exact hV _ _ (Dm _ _ _)
def Lt (q:Nat×Nat):Prop:=1<=q.1/\q.1<=200/\q.2<q.1
structure PinsV (l:List (Nat×Nat)):Prop where
 lo:1<=l.length
 hi:l.length<=5
 ok:∀q∈l,Lt q
theorem Akz (P o:Nat) (hv:Lt (P,o)):Con T 5 181 ([]++[edA (P,o)]++[]) (.bool false):=by
 obtain ⟨h1,h2,h3⟩:=hv
 simp only at h1 h2 h3
 refine Bs t181 fun n hn V hV => ?_
 have d1:decide ((P:Int)<1)=false:=decide_eq_false (by omega)
 have d2:decide ((P:Int)>200)=false:=decide_eq_false (by omega)
 have d3:decide ((o:Int)<0)=false:=decide_eq_false (by omega)
 have d4:decide ((o:Int)>(P:Int)-1)=false:=decide_eq_false (by omega)
 simp (disch:=first | assumption | omega) only [c181,go_sem,↓reduceIte,edA,List.cons_append,List.nil_append,List.append_nil,Wh,d1,d2,d3,d4,Bool.or_self,Bool.not_false,Bool.not_true,Bool.false_eq_true]
 exact hV _ _ (Dm _ _ _)
theorem A2k (l:List (Nat×Nat)) (hl:PinsV l):Con T 8 134 [Fw l] (.int .i64 0):=by
 have h1:=hl.lo
 have h2:=hl.hi
 refine Bs t134 fun n hn V hV => ?_
 have d1:decide ((l.length:Int)<1)=false:=decide_eq_false (by omega)
 have d2:decide ((l.length:Int)>5)=false:=decide_eq_false (by omega)
 have cs:∀{base:Nat} {Q:EX×St->Prop} {d:Option Nat} {L:List IOper} {ks:List Kont} {e:Env} {h:Bc},GP (Bg T n) base Q d L ks e (Bg T n false (.fn 182) [.slice (some 2) (l.map edA) false,.clo 181 [] []] h)=GO (Bg T n) base Q L ks ⟨Bj e d (.bool (l.any fun _=>false)),h⟩:=
  Fq (Acw (p:=fun _=>false) (k:=5) l (by omega) (fun q hq=>Akz q.1 q.2 (hl.ok q hq)) (fun h q=>By (by repeat (first | exact Df _ _ | exact Bm _ _ _ _ | exact Dm _ _ _ | exact Eg _ _ _ _ _ | exact Ea _ _ _ _ | exact Fp _ _ | refine Bv ?_ ?_ | refine Fh ?_ | refine Ex ?_ ?_ | refine Ft ?_ ?_ ?_)) (Bx _)) (fun h=>Gk (Df _ _) (Df _ _))) (by omega) (Di _ _ _ _ (By (Gk (Df _ _) (Df _ _)) (Bx _))) (Gs _ _)
 have hany:(l.any fun _=>false)=false:=by simp
 simp (disch:=first | assumption | omega) only [c134,go_sem,↓reduceIte,Fw,List.length_map,Wh,d1,d2,cs,hany,Bool.or_self,Bool.not_false,Bool.not_true,Bool.false_eq_true]
 exact hV _ _ (Bm _ _ _ _)
theorem Hf (l:List (Nat×Nat)) (hl:PinsV l) (ts:List Int) (ht:∀t∈ts,0<=t/\t<=1000000000000) (hn:ts.length<=1000):Con T 1010 125 [Fw l,Id ts] (.tuple [Kg l,.int .i64 0]):=by
 refine Bs t125 fun n hn' V hV => ?_
 have hw:Mm 0 1000000000000 ts=true:=by
  simp only [Mm,Bool.not_eq_true',List.any_eq_false,Bool.or_eq_true,decide_eq_true_eq]
  intro t htt
  have:=ht t htt
  omega
 have cs1:∀{base:Nat} {Q:EX×St->Prop} {d:Option Nat} {L:List IOper} {ks:List Kont} {e:Env} {h:Bc},GP (Bg T n) base Q d L ks e (Bg T n false (.fn 134) [Fw l] h)=GO (Bg T n) base Q L ks ⟨Bj e d (.int .i64 0),h⟩:=
  Fq (A2k l hl) (by omega) (by repeat (first | exact Bx _ | refine Di _ _ _ _ ?_ | refine Fi _ _ _ ?_)) rfl
 have e0:((0:Int) != 0)=false:=rfl
 have hp:PinsOk l:=⟨hl.hi,fun q hq=>by have:=hl.ok q hq; unfold Lt at this; omega⟩
 simp (disch:=first | assumption | omega) only [c125,go_sem,↓reduceIte,cs1,Yf,hw,e0,Bool.false_eq_true,Bool.not_true]
 refine Ue (Lr (k:=1001) t135 (Adq l hp)) (by omega) fun v h' hv => ?_
 simp (disch:=first | assumption | omega) only [go_sem,↓reduceIte]
 refine hV _ _ ?_
 have h4:=hv 3
 exact Ex h4 (Bm _ _ _ _)
end Go.Ev.YtofpilpmiddpgaaGreatC
namespace Go.Ev.YtofpilpmiddpgaaGreatC
open Go Go.Proofs
theorem Bra:YOk T 2000 Arz:=by
 have h:=En (Hf [(4,1),(6,3),(9,0)] ⟨by decide,by decide,by unfold Lt; decide⟩ [9] (by decide) (by decide)) (Nat.le_refl _)
 have e:AnsY.mk 125 [Fw [(4,1),(6,3),(9,0)],Id [9]] (.tuple [Kg [(4,1),(6,3),(9,0)],.int .i64 0]) false=Arz:=by kernel_rfl
 rw [<-e]
 exact (Fj h).mono (by decide)
theorem Asc:YOk T 2000 Asa:=by
 have h:=En (Hf [(4,1),(6,3),(9,0)] ⟨by decide,by decide,by unfold Lt; decide⟩ [] (by decide) (by decide)) (Nat.le_refl _)
 have e:AnsY.mk 125 [Fw [(4,1),(6,3),(9,0)],Id []] (.tuple [Kg [(4,1),(6,3),(9,0)],.int .i64 0]) false=Asa:=by kernel_rfl
 rw [<-e]
 exact (Fj h).mono (by decide)
theorem Asd:YOk T 2000 Asb:=by
 have h:=En (Hf [(4,1),(6,2)] ⟨by decide,by decide,by unfold Lt; decide⟩ [] (by decide) (by decide)) (Nat.le_refl _)
 have e:AnsY.mk 125 [Fw [(4,1),(6,2)],Id []] (.tuple [Kg [(4,1),(6,2)],.int .i64 0]) false=Asb:=by kernel_rfl
 rw [<-e]
 exact (Fj h).mono (by decide)
theorem Bhw:YOk T 2000 Aki:=by
 have h:=En (Hf [(4,1),(6,3),(9,0)] ⟨by decide,by decide,by unfold Lt; decide⟩ [10] (by decide) (by decide)) (Nat.le_refl _)
 have e:AnsY.mk 125 [Fw [(4,1),(6,3),(9,0)],Id [10]] (.tuple [Kg [(4,1),(6,3),(9,0)],.int .i64 0]) false=Aki:=by kernel_rfl
 rw [<-e]
 exact (Fj h).mono (by decide)
theorem Bhy:YOk T 2000 Akj:=by
 have h:=En (Hf [(4,1),(6,3),(9,0)] ⟨by decide,by decide,by unfold Lt; decide⟩ [0,100] (by decide) (by decide)) (Nat.le_refl _)
 have e:AnsY.mk 125 [Fw [(4,1),(6,3),(9,0)],Id [0,100]] (.tuple [Kg [(4,1),(6,3),(9,0)],.int .i64 0]) false=Akj:=by kernel_rfl
 rw [<-e]
 exact (Fj h).mono (by decide)
theorem Bia:YOk T 2000 Akk:=by
 have h:=En (Hf [(4,1),(6,3),(9,0)] ⟨by decide,by decide,by unfold Lt; decide⟩ [5,4] (by decide) (by decide)) (Nat.le_refl _)
 have e:AnsY.mk 125 [Fw [(4,1),(6,3),(9,0)],Id [5,4]] (.tuple [Kg [(4,1),(6,3),(9,0)],.int .i64 0]) false=Akk:=by kernel_rfl
 rw [<-e]
 exact (Fj h).mono (by decide)
theorem Ako:YOk T 2000 Akl:=by
 have h:=En (Hf [(4,1),(6,2),(3,0),(5,4)] ⟨by decide,by decide,by unfold Lt; decide⟩ [] (by decide) (by decide)) (Nat.le_refl _)
 have e:AnsY.mk 125 [Fw [(4,1),(6,2),(3,0),(5,4)],Id []] (.tuple [Kg [(4,1),(6,2),(3,0),(5,4)],.int .i64 0]) false=Akl:=by kernel_rfl
 rw [<-e]
 exact (Fj h).mono (by decide)
theorem Bik:YOk T 2000 Akm:=by
 have h:=En (Hf [(4,1),(6,3),(9,0)] ⟨by decide,by decide,by unfold Lt; decide⟩ [0] (by decide) (by decide)) (Nat.le_refl _)
 have e:AnsY.mk 125 [Fw [(4,1),(6,3),(9,0)],Id [0]] (.tuple [Kg [(4,1),(6,3),(9,0)],.int .i64 0]) false=Akm:=by kernel_rfl
 rw [<-e]
 exact (Fj h).mono (by decide)
theorem Bim:YOk T 2000 Akn:=by
 have h:=En (Hf [(2,0),(2,1)] ⟨by decide,by decide,by unfold Lt; decide⟩ [0] (by decide) (by decide)) (Nat.le_refl _)
 have e:AnsY.mk 125 [Fw [(2,0),(2,1)],Id [0]] (.tuple [Kg [(2,0),(2,1)],.int .i64 0]) false=Akn:=by kernel_rfl
 rw [<-e]
 exact (Fj h).mono (by decide)
end Go.Ev.YtofpilpmiddpgaaGreatC
