/- Entries of the works' calls that are proved by walks. The first time at which all pins sound, and the common period, as the barrel reckons them. What small functions of the barrel answer: within, CheckPins, open, First. Valid pins: CheckPins, open and First. The drums of the examples of layer 7. No condition but those that stand in each. -/
import Derived.Test.YtofpilpmiddpgaaGreatITopW
import Derived.Test.YtofpilpmiddpgaaGreatITopBar2
import Derived.Test.YtofpilpmiddpgaaGreatIEvOpen
set_option linter.unusedSimpArgs false
set_option linter.unusedVariables false
set_option maxRecDepth 100000
namespace Go.Ev.YtofpilpmiddpgaaGreatC
open Go Go.Proofs
def Atd:AnsY:=⟨125,[(.slice (some 2) [.agg [wN 4,wN 1],.agg [wN 6,wN 3],.agg [wN 9,wN 0]] false),wI [9] false],(.tuple [(.ptr [(.slice (some 2) [.agg [wN 4,wN 1],.agg [wN 6,wN 3],.agg [wN 9,wN 0]] false),(.fmap [] [])] 0),wN 0]),false⟩
def Ate:AnsY:=⟨125,[(.slice (some 2) [.agg [wN 4,wN 1],.agg [wN 6,wN 3],.agg [wN 9,wN 0]] false),wI [] false],(.tuple [(.ptr [(.slice (some 2) [.agg [wN 4,wN 1],.agg [wN 6,wN 3],.agg [wN 9,wN 0]] false),(.fmap [] [])] 0),wN 0]),false⟩
def Atf:AnsY:=⟨125,[(.slice (some 2) [.agg [wN 4,wN 1],.agg [wN 6,wN 2]] false),wI [] false],(.tuple [(.ptr [(.slice (some 2) [.agg [wN 4,wN 1],.agg [wN 6,wN 2]] false),(.fmap [.agg [wN 0,wN 1]] [wN 2])] 0),wN 0]),false⟩
def Alc:AnsY:=⟨125,[(.slice (some 2) [.agg [wN 4,wN 1],.agg [wN 6,wN 3],.agg [wN 9,wN 0]] false),wI [10] false],(.tuple [(.ptr [(.slice (some 2) [.agg [wN 4,wN 1],.agg [wN 6,wN 3],.agg [wN 9,wN 0]] false),(.fmap [] [])] 0),wN 0]),false⟩
def Ald:AnsY:=⟨125,[(.slice (some 2) [.agg [wN 4,wN 1],.agg [wN 6,wN 3],.agg [wN 9,wN 0]] false),wI [0,100] false],(.tuple [(.ptr [(.slice (some 2) [.agg [wN 4,wN 1],.agg [wN 6,wN 3],.agg [wN 9,wN 0]] false),(.fmap [] [])] 0),wN 0]),false⟩
def Ale:AnsY:=⟨125,[(.slice (some 2) [.agg [wN 4,wN 1],.agg [wN 6,wN 3],.agg [wN 9,wN 0]] false),wI [5,4] false],(.tuple [(.ptr [(.slice (some 2) [.agg [wN 4,wN 1],.agg [wN 6,wN 3],.agg [wN 9,wN 0]] false),(.fmap [] [])] 0),wN 0]),false⟩
def Alf:AnsY:=⟨125,[(.slice (some 2) [.agg [wN 4,wN 1],.agg [wN 6,wN 2],.agg [wN 3,wN 0],.agg [wN 5,wN 4]] false),wI [] false],(.tuple [(.ptr [(.slice (some 2) [.agg [wN 4,wN 1],.agg [wN 6,wN 2],.agg [wN 3,wN 0],.agg [wN 5,wN 4]] false),(.fmap [.agg [wN 0,wN 1],.agg [wN 1,wN 2]] [wN 2,wN 3])] 0),wN 0]),false⟩
def Alg:AnsY:=⟨125,[(.slice (some 2) [.agg [wN 4,wN 1],.agg [wN 6,wN 3],.agg [wN 9,wN 0]] false),wI [0] false],(.tuple [(.ptr [(.slice (some 2) [.agg [wN 4,wN 1],.agg [wN 6,wN 3],.agg [wN 9,wN 0]] false),(.fmap [] [])] 0),wN 0]),false⟩
def Alh:AnsY:=⟨125,[(.slice (some 2) [.agg [wN 2,wN 0],.agg [wN 2,wN 1]] false),wI [0] false],(.tuple [(.ptr [(.slice (some 2) [.agg [wN 2,wN 0],.agg [wN 2,wN 1]] false),(.fmap [.agg [wN 0,wN 1]] [wN 2])] 0),wN 0]),false⟩
end Go.Ev.YtofpilpmiddpgaaGreatC
namespace Go.Ev.YtofpilpmiddpgaaGreatC
open Go Go.Proofs
attribute [local irreducible] Res.all evC Dg Dj Bo Bg Dm Bf Bi G GO GV GP GC R
abbrev If (l:List Int):AV:=.slice none (l.map (.int .i64)) false
theorem Adr {k f:Nat} {first cap:List AV} {p:Int->Bool} (xs:List Int) (hl:xs.length<=1000) (hc:∀x∈xs,Con T k f (first++[.int .i64 x]++cap) (.bool (p x))) (hz:∀h x,fz h (first++[.int .i64 x]++cap) = .ret (first++[.int .i64 x]++cap)) :
  Con T (k+1) 235 [If xs,.clo f first cap] (.int .i64 (Ho p xs 0)):=by
 refine Br t235 fun n hn V hV => ?_
 simp (disch:=first | assumption | omega) only [c235,go_sem,↓reduceIte]
 refine Db (fun M s=>∃k:Nat,M=xs.length-k/\k<=xs.length/\At s.env [(0,If xs),(1,.clo f first cap),(7,.int .i64 xs.length),(8,.int .i64 k)]/\Ho p xs 0=Ho p (xs.drop k) k) xs.length (by omega) ⟨0,by simp,by omega,by simp [go_sem,↓reduceIte],rfl⟩ ?_
 rintro M e h hM ⟨k,rfl,hk,hE,hA⟩ P hP
 simp only [Bq,Bw] at hE
 obtain ⟨h0,h1,h7,h8,-⟩:=hE
 by_cases hlt:k<xs.length
 ·obtain ⟨y,hy⟩:=Fo hlt
  rw [Fa hy,Ho] at hA
  simp (disch:=first | assumption | omega) only [go_sem,↓reduceIte,h0,h1,h7,h8,hlt,hy]
  refine Dn (hc y (List.mem_of_getElem? hy)) hn (hz _ _) (Gl _ _) ?_
  by_cases hp:p y=true
  ·simp (disch:=first | assumption | omega) only [go_sem,↓reduceIte,h0,h1,h7,h8,hp]
   exact hV _ _ (by rw [Bm,hA,if_pos hp])
  ·simp (disch:=first | assumption | omega) only [go_sem,↓reduceIte,h0,h1,h7,h8,hp]
   exact hP (xs.length-(k+1)) _ (by omega) ⟨k+1,rfl,by omega,by simp only [go_sem,↓reduceIte,h0,h1,h7],by rw [hA,if_neg hp]; rfl⟩
 ·simp (disch:=first | assumption | omega) only [go_sem,↓reduceIte,h0,h1,h7,h8,hlt]
  exact hV _ _ (by rw [Bm,hA,List.drop_eq_nil_of_le (by omega)]; rfl)
theorem Ado {k f:Nat} {first cap:List AV} {p:Int->Bool} (xs:List Int) (hl:xs.length<=1000) (hc:∀x∈xs,Con T k f (first++[.int .i64 x]++cap) (.bool (p x))) (hz:∀h x,fz h (first++[.int .i64 x]++cap) = .ret (first++[.int .i64 x]++cap))
  (hf:∀h,Bi h 8 (.clo f first cap) = .ret (.clo f first cap)):Con T (k+2) 177 [If xs,.clo f first cap] (.bool (xs.any p)):=by
 refine Br t177 fun n hn V hV => ?_
 simp (disch:=first | assumption | omega) only [c177,go_sem,↓reduceIte]
 refine Dn (Adr xs hl hc hz) hn (Bz _ _ _ _ (Dc (hf _) (By _))) (Ge _ _ _) ?_
 simp (disch:=first | assumption | omega) only [go_sem,↓reduceIte,Mz]
 exact hV _ _ (Dl _ _ _)
theorem A3q (x lo hi:Int):Con T 1 178 ([]++[.int .i64 x]++[.ptr [.int .i64 lo] 0,.ptr [.int .i64 hi] 0]) (.bool (decide (x<lo)||decide (x>hi))):=by
 refine Br t178 fun n hn V hV => ?_
 by_cases g1:x<lo
 ·simp (disch:=first | assumption | omega) only [c178,go_sem,↓reduceIte,g1,List.cons_append]
  refine hV _ _ ?_
  simp [g1,Dl]
 ·simp (disch:=first | assumption | omega) only [c178,go_sem,↓reduceIte,g1,List.cons_append]
  refine hV _ _ ?_
  simp [g1,Dl]
def Mp (lo hi:Int) (xs:List Int):Bool:=!xs.any fun x=>decide (x<lo)||decide (x>hi)
theorem A6v (lo hi:Int) (xs:List Int) (hl:xs.length<=1000):Con T 4 129 [.int .i64 lo,.int .i64 hi,If xs] (.bool (Mp lo hi xs)):=by
 refine Br t129 fun n hn V hV => ?_
 simp (disch:=first | assumption | omega) only [c129,go_sem,↓reduceIte]
 refine Dn (Ado (p:=fun x=>decide (x<lo)||decide (x>hi)) xs hl (fun x _=>A3q x lo hi) (fun h x => ?_) (fun h => ?_)) hn (Bz _ _ _ _ (Dc (Gq (De _ _) (Bu (Et (cs:=[.int .i64 lo]) (by simp [go_sem,↓reduceIte]) (Bu (Bm _ _ _ _) (De _ _))) (Bu (Et (cs:=[.int .i64 hi]) (by simp [go_sem,↓reduceIte]) (Bu (Bm _ _ _ _) (De _ _))) (De _ _)))) (By _))) (Gl _ _) ?_
 ·exact Fd _ _ _ (Dc (Ds _ _ _ _) (Dc (Ds _ _ _ _) (By _)))
 ·exact Gq (De _ _) (Bu (Ds _ _ _ _) (Bu (Ds _ _ _ _) (De _ _)))
 simp (disch:=first | assumption | omega) only [go_sem,↓reduceIte]
 exact hV _ _ (Dl _ _ _)
section
variable {n base:Nat} {Q:EX×St->Prop} {d:Option Nat} {L:List IOper} {ks:List Kont} {e:Env} {h:Bc}
theorem Yj {lo hi:Int} {xs:List Int} {x:Bool} (hn:4<=n) (hl:xs.length<=1000) :
  GP (Bf T n) base Q d L ks e (Bf T n false (.fn 129) [.int .i64 lo,.int .i64 hi,.slice none (xs.map (.int .i64)) x] h)=GO (Bf T n) base Q L ks ⟨Bj e d (.bool (Mp lo hi xs)),h⟩:=
 Ex (A6v lo hi xs hl) hn (by repeat (first | exact By _ | refine Bz _ _ _ _ ?_ | refine Fd _ _ _ ?_)) rfl
theorem Wj {lo hi a:Int} {x:Bool} (hn:4<=n) :
  GP (Bf T n) base Q d L ks e (Bf T n false (.fn 129) [.int .i64 lo,.int .i64 hi,.slice none [.int .i64 a] x] h)=GO (Bf T n) base Q L ks ⟨Bj e d (.bool (!(decide (a<lo)||decide (a>hi)))),h⟩:=by
 have:=Yj (base:=base) (Q:=Q) (d:=d) (L:=L) (ks:=ks) (e:=e) (h:=h) (lo:=lo) (hi:=hi) (xs:=[a]) (x:=x) hn (by simp)
 rw [show Mp lo hi [a]=(!(decide (a<lo)||decide (a>hi))) by simp [Mp]] at this
 exact this
end
theorem Adq {k f:Nat} {first cap:List AV} {p:Nat×Nat->Bool} (xs:List (Nat×Nat)) (hl:xs.length<=1000) (hc:∀x∈xs,Con T k f (first++[edA x]++cap) (.bool (p x))) (hz:∀h x,fz h (first++[edA x]++cap) = .ret (first++[edA x]++cap)) :
  Con T (k+1) 236 [Fw xs,.clo f first cap] (.int .i64 (Ho p xs 0)):=by
 refine Br t236 fun n hn V hV => ?_
 simp (disch:=first | assumption | omega) only [c236,go_sem,↓reduceIte]
 refine Db (fun M s=>∃k:Nat,M=xs.length-k/\k<=xs.length/\At s.env [(0,.slice (some 2) (xs.map edA) false),(1,.clo f first cap),(7,.int .i64 xs.length),(8,.int .i64 k)]/\Ho p xs 0=Ho p (xs.drop k) k) xs.length (by omega) ⟨0,by simp,by omega,by simp [go_sem,↓reduceIte,Fw],rfl⟩ ?_
 rintro M e h hM ⟨k,rfl,hk,hE,hA⟩ P hP
 simp only [Bq,Bw] at hE
 obtain ⟨h0,h1,h7,h8,-⟩:=hE
 by_cases hlt:k<xs.length
 ·obtain ⟨⟨ya,yb⟩,hy⟩:=Fo hlt
  have hc':=hc (ya,yb) (List.mem_of_getElem? hy)
  have hz':=fun h=>hz h (ya,yb)
  have hy2:(xs.map edA)[k]? = some (.agg [.int .i64 (ya:Int),.int .i64 (yb:Int)]):=by rw [List.getElem?_map,hy]; rfl
  simp only [edA] at hc' hz'
  rw [Fa hy,Ho] at hA
  simp (disch:=first | assumption | omega) only [go_sem,↓reduceIte,h0,h1,h7,h8,hlt,hy2]
  refine Dn hc' hn (hz' _) (Gl _ _) ?_
  by_cases hp:p (ya,yb)=true
  ·simp (disch:=first | assumption | omega) only [go_sem,↓reduceIte,h0,h1,h7,h8,hp]
   exact hV _ _ (by rw [Bm,hA,if_pos hp])
  ·simp (disch:=first | assumption | omega) only [go_sem,↓reduceIte,h0,h1,h7,h8,hp]
   exact hP (xs.length-(k+1)) _ (by omega) ⟨k+1,rfl,by omega,by simp only [go_sem,↓reduceIte,h0,h1,h7],by rw [hA,if_neg hp]; rfl⟩
 ·simp (disch:=first | assumption | omega) only [go_sem,↓reduceIte,h0,h1,h7,h8,hlt]
  exact hV _ _ (by rw [Bm,hA,List.drop_eq_nil_of_le (by omega)]; rfl)
theorem Adn {k f:Nat} {first cap:List AV} {p:Nat×Nat->Bool} (xs:List (Nat×Nat)) (hl:xs.length<=1000) (hc:∀x∈xs,Con T k f (first++[edA x]++cap) (.bool (p x))) (hz:∀h x,fz h (first++[edA x]++cap) = .ret (first++[edA x]++cap))
  (hf:∀h,Bi h 8 (.clo f first cap) = .ret (.clo f first cap)):Con T (k+2) 182 [Fw xs,.clo f first cap] (.bool (xs.any p)):=by
 refine Br t182 fun n hn V hV => ?_
 simp (disch:=first | assumption | omega) only [c182,go_sem,↓reduceIte]
 refine Dn (Adq xs hl hc hz) hn (Bz _ _ _ _ (Dc (hf _) (By _))) (Ge _ _ _) ?_
 simp (disch:=first | assumption | omega) only [go_sem,↓reduceIte,Mz]
 exact hV _ _ (Dl _ _ _)
def Lw (q:Nat×Nat):Prop:=1<=q.1/\q.1<=200/\q.2<q.1
structure PinsV (l:List (Nat×Nat)):Prop where
 lo:1<=l.length
 hi:l.length<=5
 ok:∀q∈l,Lw q
theorem Alw (P o:Nat) (hv:Lw (P,o)):Con T 5 181 ([]++[edA (P,o)]++[]) (.bool false):=by
 obtain ⟨h1,h2,h3⟩:=hv
 simp only at h1 h2 h3
 refine Br t181 fun n hn V hV => ?_
 have d1:decide ((P:Int)<1)=false:=decide_eq_false (by omega)
 have d2:decide ((P:Int)>200)=false:=decide_eq_false (by omega)
 have d3:decide ((o:Int)<0)=false:=decide_eq_false (by omega)
 have d4:decide ((o:Int)>(P:Int)-1)=false:=decide_eq_false (by omega)
 simp (disch:=first | assumption | omega) only [c181,go_sem,↓reduceIte,edA,List.cons_append,List.nil_append,List.append_nil,Wj,d1,d2,d3,d4,Bool.or_self,Bool.not_false,Bool.not_true,Bool.false_eq_true]
 exact hV _ _ (Dl _ _ _)
theorem A2l (l:List (Nat×Nat)) (hl:PinsV l):Con T 8 134 [Fw l] (.int .i64 0):=by
 have h1:=hl.lo
 have h2:=hl.hi
 refine Br t134 fun n hn V hV => ?_
 have d1:decide ((l.length:Int)<1)=false:=decide_eq_false (by omega)
 have d2:decide ((l.length:Int)>5)=false:=decide_eq_false (by omega)
 have cs:∀{base:Nat} {Q:EX×St->Prop} {d:Option Nat} {L:List IOper} {ks:List Kont} {e:Env} {h:Bc},GP (Bf T n) base Q d L ks e (Bf T n false (.fn 182) [.slice (some 2) (l.map edA) false,.clo 181 [] []] h)=GO (Bf T n) base Q L ks ⟨Bj e d (.bool (l.any fun _=>false)),h⟩:=
  Ex (Adn (p:=fun _=>false) (k:=5) l (by omega) (fun q hq=>Alw q.1 q.2 (hl.ok q hq)) (fun h q=>Dc (by repeat (first | exact De _ _ | exact Bm _ _ _ _ | exact Dl _ _ _ | exact Ec _ _ _ _ _ | exact Ds _ _ _ _ | exact Fp _ _ | refine Bu ?_ ?_ | refine Fk ?_ | refine Fc ?_ ?_ | refine Fl ?_ ?_ ?_)) (By _)) (fun h=>Gq (De _ _) (De _ _))) (by omega) (Bz _ _ _ _ (Dc (Gq (De _ _) (De _ _)) (By _))) (Gl _ _)
 have hany:(l.any fun _=>false)=false:=by simp
 simp (disch:=first | assumption | omega) only [c134,go_sem,↓reduceIte,Fw,List.length_map,Wj,d1,d2,cs,hany,Bool.or_self,Bool.not_false,Bool.not_true,Bool.false_eq_true]
 exact hV _ _ (Bm _ _ _ _)
theorem Hj (l:List (Nat×Nat)) (hl:PinsV l) (ts:List Int) (ht:∀t∈ts,0<=t/\t<=1000000000000) (hn:ts.length<=1000):Con T 1010 125 [Fw l,If ts] (.tuple [Ki l,.int .i64 0]):=by
 refine Br t125 fun n hn' V hV => ?_
 have hw:Mp 0 1000000000000 ts=true:=by
  simp only [Mp,Bool.not_eq_true',List.any_eq_false,Bool.or_eq_true,decide_eq_true_eq]
  intro t htt
  have:=ht t htt
  omega
 have cs1:∀{base:Nat} {Q:EX×St->Prop} {d:Option Nat} {L:List IOper} {ks:List Kont} {e:Env} {h:Bc},GP (Bf T n) base Q d L ks e (Bf T n false (.fn 134) [Fw l] h)=GO (Bf T n) base Q L ks ⟨Bj e d (.int .i64 0),h⟩:=
  Ex (A2l l hl) (by omega) (by repeat (first | exact By _ | refine Bz _ _ _ _ ?_ | refine Fd _ _ _ ?_)) rfl
 have e0:((0:Int) != 0)=false:=rfl
 have hp:PinsOk l:=⟨hl.hi,fun q hq=>by have:=hl.ok q hq; unfold Lw at this; omega⟩
 simp (disch:=first | assumption | omega) only [c125,go_sem,↓reduceIte,cs1,Yj,hw,e0,Bool.false_eq_true,Bool.not_true]
 refine Zd (Nr (k:=1001) t135 (Aee l hp)) (by omega) fun v h' hv => ?_
 simp (disch:=first | assumption | omega) only [go_sem,↓reduceIte]
 refine hV _ _ ?_
 have h4:=hv 3
 exact Fc h4 (Bm _ _ _ _)
end Go.Ev.YtofpilpmiddpgaaGreatC
namespace Go.Ev.YtofpilpmiddpgaaGreatC
open Go Go.Proofs
theorem Bsd:YOk T 2000 Atd:=by
 have h:=Em (Hj [(4,1),(6,3),(9,0)] ⟨by decide,by decide,by unfold Lw; decide⟩ [9] (by decide) (by decide)) (Nat.le_refl _)
 have e:AnsY.mk 125 [Fw [(4,1),(6,3),(9,0)],If [9]] (.tuple [Ki [(4,1),(6,3),(9,0)],.int .i64 0]) false=Atd:=by kernel_rfl
 rw [<-e]
 exact (Fh h).mono (by decide)
theorem Atg:YOk T 2000 Ate:=by
 have h:=Em (Hj [(4,1),(6,3),(9,0)] ⟨by decide,by decide,by unfold Lw; decide⟩ [] (by decide) (by decide)) (Nat.le_refl _)
 have e:AnsY.mk 125 [Fw [(4,1),(6,3),(9,0)],If []] (.tuple [Ki [(4,1),(6,3),(9,0)],.int .i64 0]) false=Ate:=by kernel_rfl
 rw [<-e]
 exact (Fh h).mono (by decide)
theorem Ath:YOk T 2000 Atf:=by
 have h:=Em (Hj [(4,1),(6,2)] ⟨by decide,by decide,by unfold Lw; decide⟩ [] (by decide) (by decide)) (Nat.le_refl _)
 have e:AnsY.mk 125 [Fw [(4,1),(6,2)],If []] (.tuple [Ki [(4,1),(6,2)],.int .i64 0]) false=Atf:=by kernel_rfl
 rw [<-e]
 exact (Fh h).mono (by decide)
theorem Bja:YOk T 2000 Alc:=by
 have h:=Em (Hj [(4,1),(6,3),(9,0)] ⟨by decide,by decide,by unfold Lw; decide⟩ [10] (by decide) (by decide)) (Nat.le_refl _)
 have e:AnsY.mk 125 [Fw [(4,1),(6,3),(9,0)],If [10]] (.tuple [Ki [(4,1),(6,3),(9,0)],.int .i64 0]) false=Alc:=by kernel_rfl
 rw [<-e]
 exact (Fh h).mono (by decide)
theorem Bjc:YOk T 2000 Ald:=by
 have h:=Em (Hj [(4,1),(6,3),(9,0)] ⟨by decide,by decide,by unfold Lw; decide⟩ [0,100] (by decide) (by decide)) (Nat.le_refl _)
 have e:AnsY.mk 125 [Fw [(4,1),(6,3),(9,0)],If [0,100]] (.tuple [Ki [(4,1),(6,3),(9,0)],.int .i64 0]) false=Ald:=by kernel_rfl
 rw [<-e]
 exact (Fh h).mono (by decide)
theorem Bje:YOk T 2000 Ale:=by
 have h:=Em (Hj [(4,1),(6,3),(9,0)] ⟨by decide,by decide,by unfold Lw; decide⟩ [5,4] (by decide) (by decide)) (Nat.le_refl _)
 have e:AnsY.mk 125 [Fw [(4,1),(6,3),(9,0)],If [5,4]] (.tuple [Ki [(4,1),(6,3),(9,0)],.int .i64 0]) false=Ale:=by kernel_rfl
 rw [<-e]
 exact (Fh h).mono (by decide)
theorem Ali:YOk T 2000 Alf:=by
 have h:=Em (Hj [(4,1),(6,2),(3,0),(5,4)] ⟨by decide,by decide,by unfold Lw; decide⟩ [] (by decide) (by decide)) (Nat.le_refl _)
 have e:AnsY.mk 125 [Fw [(4,1),(6,2),(3,0),(5,4)],If []] (.tuple [Ki [(4,1),(6,2),(3,0),(5,4)],.int .i64 0]) false=Alf:=by kernel_rfl
 rw [<-e]
 exact (Fh h).mono (by decide)
theorem Bjo:YOk T 2000 Alg:=by
 have h:=Em (Hj [(4,1),(6,3),(9,0)] ⟨by decide,by decide,by unfold Lw; decide⟩ [0] (by decide) (by decide)) (Nat.le_refl _)
 have e:AnsY.mk 125 [Fw [(4,1),(6,3),(9,0)],If [0]] (.tuple [Ki [(4,1),(6,3),(9,0)],.int .i64 0]) false=Alg:=by kernel_rfl
 rw [<-e]
 exact (Fh h).mono (by decide)
theorem Bjq:YOk T 2000 Alh:=by
 have h:=Em (Hj [(2,0),(2,1)] ⟨by decide,by decide,by unfold Lw; decide⟩ [0] (by decide) (by decide)) (Nat.le_refl _)
 have e:AnsY.mk 125 [Fw [(2,0),(2,1)],If [0]] (.tuple [Ki [(2,0),(2,1)],.int .i64 0]) false=Alh:=by kernel_rfl
 rw [<-e]
 exact (Fh h).mono (by decide)
end Go.Ev.YtofpilpmiddpgaaGreatC
