/- The first steps of a path; within, CheckTree, CheckWeights of search, at the trees of paths. isTree and CheckTree of search at the trees of paths. CheckTree, CheckWeights, Trials and Cost of search at the trees of paths. Trials of search at the trees of paths. The walk of TopPathSearch. No condition but those that stand in each. -/
import Derived.Test.YtbgodhhdojjbmaaGreatPRsWlk
import Derived.Test.YtbgodhhdojjbmaaGreatPRsTrl
import Derived.Test.YtbgodhhdojjbmaaGreatPTopShd
import Derived.Test.YtbgodhhdojjbmaaGreatPStCir
set_option linter.unusedSimpArgs false
set_option linter.unusedVariables false
set_option maxRecDepth 100000
namespace Go.Ev.YtbgodhhdojjbmaaGreatC.P1
open Go.Ev
open Go Go.Proofs
attribute [local irreducible] Res.all evC Dg Di Bq Bg Do Bf Bj G GO GV GP GC R
theorem A8y (L:List Nat) (n:Nat) (hl:L.length<=40) (hn9:n<=100):Con T 1 11 [Ey (Bp L),.int .i64 (n:Nat)] (Ey (Bp (Fi L n))):=by
 refine Bs t11 fun nn hn V hV => ?_
 have hlen:(Bp L).length=L.length:=by simp [Bp]
 simp (disch:=first | assumption | omega) only [c11,go_sem,↓reduceIte,hlen]
 refine Dd (fun M st=>∃(k m:Nat) (P:List Nat) (x:AV),M=L.length-k/\k<=L.length/\m<=n/\P++Fi (L.drop k) m=Fi L n/\P.length<=k/\At st.env [(0,Ey (Bp L)),(5,x),(6,.int .i64 (m:Nat)),(7,.int .i64 (k:Nat))]/\Own 37 st.heap x .i64 (Bp P)/\37<=st.heap.length) L.length (by omega)
  ⟨0,n,[],_,by omega,by omega,by omega,by simp,by simp,by simp only [go_sem,↓reduceIte],Gx _ _ _,by simp⟩ ?_
 rintro M e h hM ⟨k,m,P,x,rfl,hk,hm,hP0,hPk,hE,hO,hl37⟩ Pp hPp
 simp only [Bt,By] at hE hO hl37
 obtain ⟨f0,f5,f6,f7,-⟩:=hE
 have fin:Fi (L.drop k) m=[]->∀e2,Df e2 5=x->True:=fun _ _ _=>trivial
 by_cases hlt:k<L.length
 ·have hlt':decide (k<L.length)=true:=decide_eq_true hlt
  have hg:(Bp L)[k]? = some ((L[k]:Nat):Int):=by simp [Bp,hlt]
  by_cases hm0:0<m
  ·have hm0':decide ((m:Int)>0)=true:=decide_eq_true (by omega)
   have hmn:mn ((L[k]:Nat):Int) (m:Int)=((min L[k] m:Nat):Int):=by unfold mn; split <;> omega
   have hstep:P++[min L[k] m]++Fi (L.drop (k+1)) (m-min L[k] m)=Fi L n:=by
    rw [<-hP0,List.drop_eq_getElem_cons hlt,Fi,if_neg (by omega)]
    simp
   have hlo:(Bp P).length=P.length:=by simp [Bp]
   simp (disch:=first | assumption | omega) only [go_sem,↓reduceIte,f0,f5,f6,f7,hlen,hlt',hg,hm0',Mx,hmn]
   refine Fm (b:=8) (by first | with_reducible rfl | (simp only [Be,List.length_append,List.length_replicate]; done) | (simp only [Be,List.length_append,List.length_replicate]; omega)) hO hl37 (by rw [hlo]; omega) fun x' h' hO' _ hL' _ _ => ?_
   have hsub:(m:Int)-((min L[k] m:Nat):Int)=((m-min L[k] m:Nat):Int):=by omega
   simp (disch:=first | assumption | omega) only [go_sem,↓reduceIte,f0,f6,f7,hg,Mx,hmn,hsub]
   exact hPp (L.length-(k+1)) _ (by omega) ⟨k+1,m-min L[k] m,P++[min L[k] m],x',rfl,by omega,by omega,hstep,by simp; omega,by simp only [go_sem,↓reduceIte,f0],by simpa [Bp] using hO',(show 37<=h'.length by omega)⟩
  ·obtain rfl:m=0:=by omega
   have e0:P=Fi L n:=by
    rw [<-hP0,List.drop_eq_getElem_cons hlt,Fi,if_pos rfl,List.append_nil]
   have d0:decide (((0:Nat):Int)>0)=false:=rfl
   have d1:decide ((0:Int)>0)=false:=rfl
   simp (disch:=first | assumption | omega) only [go_sem,↓reduceIte,f0,f5,f6,f7,hlen,hlt',d0,d1]
   refine hV _ _ ?_
   rw [<-e0]
   exact Hv hO
 ·obtain rfl:k=L.length:=by omega
  have e0:P=Fi L n:=by
   rw [<-hP0,List.drop_length]
   simp [Fi]
  have hlt':decide (L.length<L.length)=false:=decide_eq_false (by omega)
  simp (disch:=first | assumption | omega) only [go_sem,↓reduceIte,f0,f5,f6,f7,hlen,hlt',Bool.false_eq_true]
  refine hV _ _ ?_
  rw [<-e0]
  exact Hv hO
theorem Oe (x lo hi:Int):Con T 1 84 ([]++[.int .i64 x]++[.ptr [.int .i64 lo] 0,.ptr [.int .i64 hi] 0]) (.bool (decide (x<lo)||decide (x>hi))):=by
 refine Bs t84 fun n hn V hV => ?_
 by_cases g1:x<lo
 ·simp (disch:=first | assumption | omega) only [c84,go_sem,↓reduceIte,g1,List.cons_append]
  refine hV _ _ ?_
  simp [g1,Dk]
 ·simp (disch:=first | assumption | omega) only [c84,go_sem,↓reduceIte,g1,List.cons_append]
  refine hV _ _ ?_
  simp [g1,Dk]
theorem Qu (lo hi:Int) (xs:List Int) (hl:xs.length<=1000):Con T 4 37 [.int .i64 lo,.int .i64 hi,Ey xs] (.bool (Gd lo hi xs)):=by
 refine Bs t37 fun n hn V hV => ?_
 simp (disch:=first | assumption | omega) only [c37,go_sem,↓reduceIte]
 refine Dl (Od (p:=fun x=>decide (x<lo)||decide (x>hi)) xs hl (fun x _=>Oe x lo hi) (fun h x => ?_) (fun h => ?_)) hn (Dr _ _ _ _ (Dc (Iv (De _ _) (Br (Fh (cs:=[.int .i64 lo]) (by simp [go_sem,↓reduceIte]) (Br (Bk _ _ _ _) (De _ _))) (Br (Fh (cs:=[.int .i64 hi]) (by simp [go_sem,↓reduceIte]) (Br (Bk _ _ _ _) (De _ _))) (De _ _)))) (Bz _))) (Gk _ _) ?_
 ·exact Dz _ _ _ (Dc (Du _ _ _ _) (Dc (Du _ _ _ _) (Bz _)))
 ·exact Iv (De _ _) (Br (Du _ _ _ _) (Br (Du _ _ _ _) (De _ _)))
 simp (disch:=first | assumption | omega) only [go_sem,↓reduceIte]
 exact hV _ _ (Dk _ _ _)
theorem Kx {n base:Nat} {Q:EX×St->Prop} {d:Option Nat} {L:List IOper} {ks:List Kont} {e:Env} {h:Bc} {lo hi:Int} {xs:List Int} {x:Bool} (hn:4<=n) (hl:xs.length<=1000) :
  GP (Bf T n) base Q d L ks e (Bf T n false (.fn 37) [.int .i64 lo,.int .i64 hi,.slice none (xs.map (.int .i64)) x] h)=GO (Bf T n) base Q L ks ⟨Bl e d (.bool (Gd lo hi xs)),h⟩:=
 Eu (Qu lo hi xs hl) hn (by repeat (first | exact Bz _ | refine Dr _ _ _ _ ?_ | refine Dz _ _ _ ?_)) rfl
theorem It {n base:Nat} {Q:EX×St->Prop} {d:Option Nat} {L:List IOper} {ks:List Kont} {e:Env} {h:Bc} {lo hi a:Int} {x:Bool} (hn:4<=n) :
  GP (Bf T n) base Q d L ks e (Bf T n false (.fn 37) [.int .i64 lo,.int .i64 hi,.slice none [.int .i64 a] x] h)=GO (Bf T n) base Q L ks ⟨Bl e d (.bool (decide (lo<=a)&&decide (a<=hi))),h⟩:=by
 have:=Kx (Q:=Q) (d:=d) (L:=L) (ks:=ks) (e:=e) (h:=h) (base:=base) (lo:=lo) (hi:=hi) (xs:=[a]) (x:=x) hn (by simp)
 rw [show Gd lo hi [a]=(decide (lo<=a)&&decide (a<=hi)) by rw [Bool.eq_iff_iff]; simp [Gd]] at this
 exact this
theorem con_isTree0:Con T 1 38 [Fx []] (.bool true):=by
 refine Bs t38 fun n hn V hV => ?_
 simp (disch:=first | assumption | omega) only [c38,go_sem,↓reduceIte,List.map_nil,List.length_nil]
 exact hV _ _ (Dk _ _ _)
theorem Arb (R:List Nat):((nI6 (R.map (·+1))).any fun x=>(0:Int)==x)=false:=by
 rw [List.any_eq_false]
 intro x hx
 obtain ⟨y,hy,rfl⟩:=List.mem_map.1 hx
 obtain ⟨z,_,rfl⟩:=List.mem_map.1 hy
 simp; omega
end Go.Ev.YtbgodhhdojjbmaaGreatC.P1
namespace Go.Ev.YtbgodhhdojjbmaaGreatC.P1
open Go.Ev
open Go Go.Proofs
theorem Aax (R2:List Nat):∀(R:List Nat) (k:Int),Gi (fun x=>(0:Int)==x) (nI6 (R.map (·+1)++0::R2.map (·+1))) k=(R.length:Int)+k
 | [],k=>by simp [nI6,Gi]
 | a::R,k=>by
  have ih:=Aax R2 R (k+1)
  have hz:((0:Int)==((a+1:Nat):Int))=false:=by simp; omega
  rw [show nI6 ((a::R).map (·+1)++0::R2.map (·+1))=((a+1:Nat):Int)::nI6 (R.map (·+1)++0::R2.map (·+1)) by simp [nI6],Gi,if_neg (by rw [hz]; simp),ih,List.length_cons]
  omega
theorem Agv (w:List Nat) (k:Nat):(nI6 w).drop k=nI6 (w.drop k):=by simp [nI6]
theorem A4g {R:List Nat} {i:Nat} (h:i<R.length):nI6 (R.take i)++[((R[i]:Nat):Int)]=nI6 (R.take (i+1)):=by
 rw [List.take_succ_eq_append_getElem h]
 simp only [nI6,List.map_append,List.map_cons,List.map_nil]
theorem A7d (R1 R2:List Nat):(R1.map (·+1)++0::R2.map (·+1)).drop (R1.length+1)=R2.map (·+1):=by
 rw [<-List.drop_drop,List.drop_left' (by simp)]; rfl
theorem _root_.Go.Ev.Con.up {T:Cfg} {k m f:Nat} {xs:List AV} {r:AV} (h:Con T k f xs r) (hm:k<=m):Con T m f xs r:=fun n h' as0 V hn=>h n h' as0 V (Nat.le_trans hm hn)
attribute [local irreducible] Res.all evC Dg Di Bq Bg Do Bf Bj G GO GV GP GC R
set_option maxHeartbeats 1000000 in
theorem Qt {k:Nat} {R1 R2:List Nat} (h1:Con T k 38 [Fx (nI6 R1)] (.bool true)) (h2:Con T k 38 [Fx (nI6 R2)] (.bool true)) (hk2:2<=k) (hl:R1.length+R2.length<=20) (hb1:∀y∈R1,y<=1000) (hb2:∀y∈R2,y<=1000) :
  Con T (k+1) 38 [Fx (nI6 (R1.map (·+1)++0::R2.map (·+1)))] (.bool true):=by
 refine Bs t38 fun n hn V hV => ?_
 have hidx:=Aax R2 R1 0
 rw [Int.add_zero] at hidx
 have hWl:(R1.map (·+1)++0::R2.map (·+1)).length=R1.length+R2.length+1:=by simp; omega
 have hdr:(nI6 (R1.map (·+1)++0::R2.map (·+1))).drop (R1.length+1)=nI6 (R2.map (·+1)):=by rw [Agv,A7d]
 have hel:∀i,i<R1.length+R2.length+1->∃y:Nat,(nI6 (R1.map (·+1)++0::R2.map (·+1)))[i]? = some (y:Int)/\(∀h:i<R1.length,y=R1[i]+1)/\(∀h:i-(R1.length+1)<R2.length,R1.length<i->y=R2[i-(R1.length+1)]+1):=by
  intro i hi
  have hiW:i<(R1.map (·+1)++0::R2.map (·+1)).length:=by omega
  refine ⟨(R1.map (·+1)++0::R2.map (·+1))[i],Xx hiW,fun h => ?_,fun h hlt => ?_⟩
  ·rw [List.getElem_append_left (by simpa using h),List.getElem_map]
  ·have e1:(R1.map (·+1)++0::R2.map (·+1))[i]? = (R2.map (·+1))[i-(R1.length+1)]?:=by
    conv=>lhs; rw [show i=(R1.length+1)+(i-(R1.length+1)) by omega]
    rw [<-List.getElem?_drop,A7d]
   rw [List.getElem?_eq_getElem hiW,List.getElem?_eq_getElem (by simpa using h)] at e1
   have:=Option.some.inj e1
   rw [this,List.getElem_map]
 obtain ⟨w0,wr,hW0⟩:∃a r,R1.map (·+1)++0::R2.map (·+1)=a::r:=by
  cases R1 with
  | nil=>exact ⟨_,_,rfl⟩
  | cons a r=>exact ⟨_,_,rfl⟩
 have hmin:=Aij w0 wr (by have:=hWl; rw [hW0] at this; simp at this; omega)
 rw [<-hW0] at hmin
 have hnz:=Arb R2
 generalize R1.map (·+1)++0::R2.map (·+1)=W at *
 have hWl2:(nI6 W).length=R1.length+R2.length+1:=by rw [Eo,hWl]
 have hW1000:(nI6 W).length<=1000:=by omega
 have d0:decide (R1.length+R2.length+1=0)=false:=rfl
 have e0:((((R1.length+R2.length+1:Nat)):Int)==0)=false:=by simp; omega
 simp (disch:=first | assumption | omega) only [c38,go_sem,↓reduceIte,hWl2,e0]
 refine Dl (A0f (nI6 W) 0 hW1000) (by omega) (by repeat (first | exact Bz _ | refine Dr _ _ _ _ ?_ | refine Dz _ _ _ ?_)) (Es _ _ _) ?_
 rw [hidx]
 have dn:decide ((R1.length:Int)<0)=false:=decide_eq_false (by omega)
 have hle:R1.length+1<=R1.length+R2.length+1:=by omega
 simp (disch:=first | assumption | omega) only [go_sem,↓reduceIte,dn,hWl2]
 refine ⟨⟨by omega,by omega⟩,?_⟩
 have etn:((R1.length:Int)+1).toNat=R1.length+1:=by omega
 have hl2:(nI6 (R2.map (·+1))).length=R2.length:=by rw [Eo,List.length_map]
 rw [etn,<-List.map_drop,hdr]
 refine Dl (Uk (nI6 (R2.map (·+1))) 0 (by omega)) (by omega) (by repeat (first | exact Bz _ | refine Dr _ _ _ _ ?_ | refine Dz _ _ _ ?_)) (Gk _ _) ?_
 rw [hnz]
 simp (disch:=first | assumption | omega) only [go_sem,↓reduceIte]
 refine Dl hmin (by omega) (by repeat (first | exact Bz _ | refine Dr _ _ _ _ ?_ | refine Dz _ _ _ ?_)) (Es _ _ _) ?_
 have dm:decide (((mnL W:Nat):Int)<0)=false:=decide_eq_false (by omega)
 simp (disch:=first | assumption | omega) only [go_sem,↓reduceIte,dm,Bool.false_eq_true,hWl2]
 refine Dd (fun M st=>∃(i:Nat) (x y:AV),M=R1.length+R2.length+1-i/\i<=R1.length+R2.length+1/\At st.env [(0,Fx (nI6 W)),(3,.int .i64 (R1.length:Nat)),(4,x),(5,y),(27,Fx (nI6 W)),(28,.int .i64 ((R1.length+R2.length+1:Nat):Int)),(29,.int .i64 (i:Nat))]/\
   Own 59 st.heap x .i64 (nI6 (R1.take i))/\Own 59 st.heap y .i64 (nI6 (R2.take (i-(R1.length+1))))/\(∀j,Dw x=some j->Dw y≠some j)/\59<=st.heap.length) (R1.length+R2.length+1) (by omega)
  ⟨0,.slice none [] true,.slice none [] true,by omega,by omega,by (simp only [go_sem,↓reduceIte]) <;> simp,by simpa [nI6] using Gx _ _ _,by simpa [nI6] using Gx _ _ _,by simp [Dw],by simp⟩ ?_
 rintro M e h hM ⟨i,x,y,rfl,hi,hE,hO,hO2,hdis,hl59⟩ P hP
 simp only [Bt,By] at hE hO hO2 hl59
 obtain ⟨f0,f3,f4,f5,f27,f28,f29,-⟩:=hE
 by_cases hlt:i<R1.length+R2.length+1
 ·have hlt':decide ((i:Int)<((R1.length+R2.length+1:Nat):Int))=true:=decide_eq_true (by omega)
  have hlt2:decide ((i:Int)<(R1.length:Int)+((R2.length:Int)+1))=true:=decide_eq_true (by omega)
  have hlt3:decide (i<R1.length+R2.length+1)=true:=decide_eq_true hlt
  obtain ⟨z,hz,hz1,hz2⟩:=hel i hlt
  have hto1:(nI6 (R1.take i)).length<=20:=by rw [Eo,List.length_take]; omega
  have hto2:(nI6 (R2.take (i-(R1.length+1)))).length<=20:=by rw [Eo,List.length_take]; omega
  by_cases hc:i<R1.length
  ·have c1:decide (i<R1.length)=true:=decide_eq_true hc
   have hzz:=hz1 hc
   have hbb:=hb1 _ (List.getElem_mem hc)
   have hm1:(z:Int)-1=((R1[i]:Nat):Int):=by omega
   have htk:nI6 (R1.take i)++[((R1[i]:Nat):Int)]=nI6 (R1.take (i+1)):=A4g hc
   simp (disch:=first | assumption | omega) only [go_sem,↓reduceIte,f0,f3,f4,f5,f27,f28,f29,hlt',hlt2,hlt3,hz,c1,hm1]
   refine Fm (b:=8) (by first | with_reducible rfl | (simp only [Be,List.length_append,List.length_replicate]; done) | (simp only [Be,List.length_append,List.length_replicate]; omega)) hO hl59 (by omega) fun x' h' hO' hF hL' hF2 hK => ?_
   simp (disch:=first | assumption | omega) only [go_sem,↓reduceIte,f0,f3,f4,f5,f27,f28,f29]
   refine hP (R1.length+R2.length+1-(i+1)) _ (by omega) ⟨i+1,x',y,rfl,by omega,by (simp only [go_sem,↓reduceIte,f0,f3,f4,f5,f27,f28]) <;> simp,by rw [htk] at hO'; exact hO',?_,?_,(show 59<=h'.length by omega)⟩
   ·rw [show i+1-(R1.length+1)=i-(R1.length+1) by omega]
    exact hO2.other fun j hj=>hF2 j (hO2.keyLt j hj) (fun hx=>hdis j hx hj)
   ·intro j hj hy
    rcases hK j hj with h5 | h5
    ·exact hdis j h5 hy
    ·have:=hO2.keyLt j hy; omega
  ·have c1:decide (i<R1.length)=false:=decide_eq_false hc
   by_cases hc2:R1.length<i
   ·have c2:decide (i>R1.length)=true:=decide_eq_true hc2
    have c3:decide (R1.length<i)=true:=decide_eq_true hc2
    have hq:i-(R1.length+1)<R2.length:=by omega
    have hzz:=hz2 hq hc2
    have hbb:=hb2 _ (List.getElem_mem hq)
    have hm1:(z:Int)-1=((R2[i-(R1.length+1)]:Nat):Int):=by omega
    have htk:nI6 (R2.take (i-(R1.length+1)))++[((R2[i-(R1.length+1)]:Nat):Int)]=nI6 (R2.take (i+1-(R1.length+1))):=by
     rw [show i+1-(R1.length+1)=i-(R1.length+1)+1 by omega]; exact A4g hq
    simp (disch:=first | assumption | omega) only [go_sem,↓reduceIte,f0,f3,f4,f5,f27,f28,f29,hlt',hlt2,hlt3,hz,c1,c2,c3,hm1,Bool.false_eq_true]
    refine Fm (b:=8) (by first | with_reducible rfl | (simp only [Be,List.length_append,List.length_replicate]; done) | (simp only [Be,List.length_append,List.length_replicate]; omega)) hO2 hl59 (by omega) fun x' h' hO' hF hL' hF2 hK => ?_
    simp (disch:=first | assumption | omega) only [go_sem,↓reduceIte,f0,f3,f4,f5,f27,f28,f29]
    refine hP (R1.length+R2.length+1-(i+1)) _ (by omega) ⟨i+1,x,x',rfl,by omega,by (simp only [go_sem,↓reduceIte,f0,f3,f4,f5,f27,f28]) <;> simp,?_,by rw [htk] at hO'; exact hO',?_,(show 59<=h'.length by omega)⟩
    ·have e9:R1.take (i+1)=R1.take i:=by rw [List.take_of_length_le (show R1.length<=i+1 by omega),List.take_of_length_le (show R1.length<=i by omega)]
     show Own 59 h' x .i64 (nI6 (R1.take (i+1)))
     rw [e9]
     exact hO.other fun j hj=>hF2 j (hO.keyLt j hj) (fun hx=>hdis j hj hx)
    ·intro j hj hy
     rcases hK j hy with h5 | h5
     ·exact hdis j hj h5
     ·have:=hO.keyLt j hj; omega
   ·obtain rfl:i=R1.length:=by omega
    have c2:decide (R1.length>R1.length)=false:=decide_eq_false (by omega)
    have c3:decide (R1.length<R1.length)=false:=decide_eq_false (by omega)
    simp (disch:=first | assumption | omega) only [go_sem,↓reduceIte,f0,f3,f4,f5,f27,f28,f29,hlt',hlt2,hlt3,hz,c1,c2,c3,Bool.false_eq_true]
    refine hP (R1.length+R2.length+1-(R1.length+1)) _ (by omega) ⟨R1.length+1,x,y,rfl,by omega,by (simp only [go_sem,↓reduceIte,f0,f3,f4,f5,f27,f28]) <;> simp,?_,?_,hdis,hl59⟩
    ·have e9:R1.take (R1.length+1)=R1.take R1.length:=by rw [List.take_of_length_le (show R1.length<=R1.length+1 by omega),List.take_of_length_le (Nat.le_refl _)]
     show Own 59 h x .i64 (nI6 (R1.take (R1.length+1)))
     rw [e9]
     exact hO
    ·have e5:R1.length-(R1.length+1)=0:=by omega
     rw [e5] at hO2
     rw [Nat.sub_self]
     exact hO2
 ·obtain rfl:i=R1.length+R2.length+1:=by omega
  have hlt':decide (((R1.length+R2.length+1:Nat):Int)<((R1.length+R2.length+1:Nat):Int))=false:=decide_eq_false (by omega)
  have hlt2:decide ((((R1.length+R2.length+1:Nat):Nat):Int)<(R1.length:Int)+((R2.length:Int)+1))=false:=decide_eq_false (by omega)
  have hlt3:decide (R1.length+R2.length+1<R1.length+R2.length+1)=false:=decide_eq_false (by omega)
  rw [List.take_of_length_le (by omega)] at hO hO2
  simp (disch:=first | assumption | omega) only [go_sem,↓reduceIte,f0,f3,f4,f5,f27,f28,f29,hlt',hlt2,hlt3,Bool.false_eq_true,Int.lt_irrefl,decide_false]
  refine Dl h1 (by omega) (Dc (Hv hO) (Bz _)) (Gk _ _) ?_
  simp (disch:=first | assumption | omega) only [go_sem,↓reduceIte,f5]
  refine Dl h2 (by omega) (Dc (Hv hO2) (Bz _)) (Gk _ _) ?_
  simp (disch:=first | assumption | omega) only [go_sem,↓reduceIte]
  exact hV _ _ (Dk _ _ _)
theorem A0g:∀D:List Bool,D.length<=12->Con T (3+D.length) 38 [Fx (nI6 (Dy D))] (.bool true)
 | [],_=>Qt (R1:=[]) (R2:=[]) (con_isTree0.up (by omega)) (con_isTree0.up (by omega)) (Nat.le_refl 2) (by simp) (by simp) (by simp)
 | l::D,hl=>by
  have hl':D.length<=12:=by simp only [List.length_cons] at hl; omega
  have ih:=A0g D hl'
  have hn:=Hb D
  have hb:∀y∈Dy D,y<=1000:=fun y hy=>by
   obtain ⟨i,hi⟩:=List.mem_iff_getElem?.1 hy
   have:=A2x hi
   omega
  rw [Dy,show 3+(l::D).length=3+D.length+1 from rfl]
  simp only [List.length_cons] at hl
  cases l with
  | true =>
   rw [if_pos rfl]
   exact Qt (R1:=Dy D) (R2:=[]) ih (con_isTree0.up (by omega)) (by omega) (by simp only [List.length_nil]; omega) hb (by simp)
  | false =>
   rw [if_neg (by simp)]
   exact Qt (R1:=[]) (R2:=Dy D) (con_isTree0.up (by omega)) ih (by omega) (by simp only [List.length_nil]; omega) (by simp) hb
end Go.Ev.YtbgodhhdojjbmaaGreatC.P1
namespace Go.Ev.YtbgodhhdojjbmaaGreatC.P1
open Go.Ev
open Go Go.Proofs
def dpA (D:List Bool):List Int:=nI6 (Dy D)++List.replicate (11-D.length) 0
theorem Aoy {D:List Bool} (h:D.length<=11):(dpA D).length=12:=by
 have:=Hb D
 rw [dpA,List.length_append,Eo,List.length_replicate]; omega
theorem Afj {D:List Bool} {i:Nat} (h:i<=D.length):∃y:Nat,(dpA D)[i]? = some (y:Int)/\(Dy D)[i]? = some y:=by
 have hn:=Hb D
 have hi:i<(Dy D).length:=by omega
 refine ⟨(Dy D)[i],?_,List.getElem?_eq_getElem hi⟩
 rw [dpA,List.getElem?_append_left (by rw [Eo]; exact hi),Xx hi]
theorem Air {D:List Bool} (h:D.length<=11) (hz:dpA D=List.replicate 12 0):D.length=0:=by
 refine Classical.byContradiction fun hne => ?_
 have h1:=Nx (D:=D) (k:=1) (by omega)
 have h2:=Mf (D:=D) (k:=1) (by omega)
 obtain ⟨y,e1,e2⟩:=Afj h2
 rw [h1] at e2
 cases e2
 rw [hz,List.getElem?_replicate,if_pos (by omega)] at e1
 cases e1
attribute [local irreducible] Res.all evC Dg Di Bq Bg Do Bf Bj G GO GV GP GC R
theorem Ls {D:List Bool} (hD:D.length<=11):Con T 20 13 [Fx (nI6 (Dy D))] (.int .i64 0):=by
 refine Bs t13 fun n hn V hV => ?_
 have hl:(nI6 (Dy D)).length=D.length+1:=by rw [Eo,Hb]
 have d1:decide ((1:Int)<=((D.length+1:Nat):Int))=true:=decide_eq_true (by omega)
 have d2:decide ((((D.length+1:Nat):Nat):Int)<=12)=true:=decide_eq_true (by omega)
 have d3:decide ((1:Int)<=(D.length:Int)+1)=true:=decide_eq_true (by omega)
 have d4:decide ((D.length:Int)+1<=12)=true:=decide_eq_true (by omega)
 simp (disch:=first | assumption | omega) only [c13,go_sem,↓reduceIte,hl,It,d1,d2,d3,d4,Bool.and_self,Bool.not_true,Bool.false_eq_true]
 refine Dl (A0g D (by omega)) (by omega) (by repeat (first | exact Bz _ | refine Dr _ _ _ _ ?_ | refine Dz _ _ _ ?_)) (Gk _ _) ?_
 simp (disch:=first | assumption | omega) only [go_sem,↓reduceIte]
 exact hV _ _ (Bk _ _ _ _)
theorem Ye {w:List Int} (h1:1<=w.length) (h12:w.length<=12) (hr:Gd 0 1000 w=true):Con T 6 40 [Fx w] (.int .i64 0):=by
 refine Bs t40 fun n hn V hV => ?_
 have d1:decide ((1:Int)<=(w.length:Int))=true:=decide_eq_true (by omega)
 have d2:decide ((w.length:Int)<=12)=true:=decide_eq_true (by omega)
 have d3:decide (1<=w.length)=true:=decide_eq_true (by omega)
 have d4:decide (w.length<=12)=true:=decide_eq_true (by omega)
 have hw:w.length<=1000:=by omega
 simp (disch:=first | assumption | omega) only [c40,go_sem,↓reduceIte,It,Kx,hr,d1,d2,d3,d4,Bool.and_self,Bool.not_true,Bool.false_eq_true]
 exact hV _ _ (Bk _ _ _ _)
theorem Aez {D:List Bool} {w:List Int} {at':Nat} (hD:D.length<=11) (hw:w=Vx (D.length+1) (Db D at')) (ha:at'<=D.length):Con T 22 15 [Fx w,Fx (nI6 (Dy D))] (.tuple [.int .i64 ((at'+1:Nat):Int),.int .i64 0]):=by
 refine Bs t15 fun n hn V hV => ?_
 have hwl:w.length=D.length+1:=by rw [hw,Akr]
 have hl:(nI6 (Dy D)).length=D.length+1:=by rw [Eo,Hb]
 have hr:Gd 0 1000 w=true:=by
  simp only [Gd,Bool.not_eq_true',List.any_eq_false,Bool.or_eq_true,decide_eq_true_eq]
  intro x hx
  rw [hw] at hx
  have:=Aks x hx
  omega
 have hp:=Mf ha
 have e0:((0:Int) != 0)=false:=rfl
 have eL:((((D.length+1:Nat):Nat):Int) != ((D.length+1:Nat):Int))=false:=by simp
 have eL2:(((D.length:Int)+1) != ((D.length:Int)+1))=false:=by simp
 simp (disch:=first | assumption | omega) only [c15,go_sem,↓reduceIte]
 refine Dl (Ye (by omega) (by omega) hr) (by omega) (by repeat (first | exact Bz _ | refine Dr _ _ _ _ ?_ | refine Dz _ _ _ ?_)) (Es _ _ _) ?_
 simp (disch:=first | assumption | omega) only [go_sem,↓reduceIte,e0]
 refine Dl (Ls hD) (by omega) (by repeat (first | exact Bz _ | refine Dr _ _ _ _ ?_ | refine Dz _ _ _ ?_)) (Es _ _ _) ?_
 simp (disch:=first | assumption | omega) only [go_sem,↓reduceIte,e0,hl,hwl,eL,eL2]
 refine Dd (fun M st=>∃i:Nat,M=D.length+1-i/\i<=D.length+1/\At st.env [(0,Fx w),(8,.int .i64 (if Db D at'<i then ((at'+1:Nat):Int) else 0)),(26,Fx (nI6 (Dy D))),(27,.int .i64 ((D.length+1:Nat):Int)),(28,.int .i64 (i:Nat))]) (D.length+1) (by omega)
  ⟨0,by omega,by omega,by (simp only [go_sem,↓reduceIte]) <;> simp⟩ ?_
 rintro M e h hM ⟨i,rfl,hi,hE⟩ P hP
 simp only [Bt,By] at hE
 obtain ⟨f0,f8,f26,f27,f28,-⟩:=hE
 by_cases hlt:i<D.length+1
 ·obtain ⟨y,hy1,hy2⟩:∃y:Nat,(nI6 (Dy D))[i]? = some (y:Int)/\(Dy D)[i]? = some y:=by
   have hi2:i<(Dy D).length:=by rw [Hb]; exact hlt
   exact ⟨_,Xx hi2,List.getElem?_eq_getElem hi2⟩
  have hyl:=A2x hy2
  have hwi:w[i]? = some (if i=Db D at' then (1:Int) else 0):=by rw [hw]; exact Arl hlt
  have hval:(if Db D at'<i then ((at'+1:Nat):Int) else 0)+((y:Int)+1)*(if i=Db D at' then (1:Int) else 0)=if Db D at'<i+1 then ((at'+1:Nat):Int) else 0:=by
   by_cases c:i=Db D at'
   ·have:y=at':=by
     have h9:=Nx ha
     rw [<-c,hy2] at h9
     exact Option.some.inj h9
    subst this
    rw [if_neg (by omega),if_pos c,if_pos (by omega)]
    omega
   ·rw [if_neg c,Int.mul_zero,Int.add_zero]
    by_cases c2:Db D at'<i
    ·rw [if_pos c2,if_pos (by omega)]
    ·rw [if_neg c2,if_neg (by omega)]
  have hlt':decide ((i:Int)<((D.length+1:Nat):Int))=true:=decide_eq_true (by omega)
  have hlt2:decide ((i:Int)<(D.length:Int)+1)=true:=decide_eq_true (by omega)
  have hlt3:decide (i<D.length+1)=true:=decide_eq_true hlt
  obtain ⟨A,hA⟩:∃A:Int,(if Db D at'<i then ((at'+1:Nat):Int) else 0)=A:=⟨_,rfl⟩
  obtain ⟨B,hB⟩:∃B:Int,(if i=Db D at' then (1:Int) else 0)=B:=⟨_,rfl⟩
  have hA2:0<=A/\A<=20:=by rw [<-hA]; split <;> omega
  have hB2:B=0\/B=1:=by rw [<-hB]; split <;> simp
  rw [hA] at f8 hval
  rw [hB] at hwi hval
  have hm2:0<=((y:Int)+1)*B/\((y:Int)+1)*B<=20:=by rcases hB2 with rfl | rfl <;> omega
  simp (disch:=first | assumption | omega) only [go_sem,↓reduceIte,f0,f8,f26,f27,f28,hlt',hlt2,hlt3,hy1,hwi]
  rw [hval]
  exact hP (D.length+1-(i+1)) _ (by omega) ⟨i+1,rfl,by omega,by (simp only [go_sem,↓reduceIte,f0,f26,f27]) <;> simp⟩
 ·obtain rfl:i=D.length+1:=by omega
  have hlt':decide (((D.length+1:Nat):Int)<((D.length+1:Nat):Int))=false:=decide_eq_false (by omega)
  have hlt3:decide (D.length+1<D.length+1)=false:=decide_eq_false (by omega)
  rw [if_pos (by omega)] at f8
  simp (disch:=first | assumption | omega) only [go_sem,↓reduceIte,f0,f8,f26,f27,f28,hlt',hlt3,Int.lt_irrefl,decide_false,Bool.false_eq_true]
  exact hV _ _ (Ed (Bk _ _ _ _) (Bk _ _ _ _))
end Go.Ev.YtbgodhhdojjbmaaGreatC.P1
namespace Go.Ev.YtbgodhhdojjbmaaGreatC.P1
open Go.Ev
open Go Go.Proofs
theorem A1o:∀(new b a:List AV),new.length<=b.length->Ds (a++b) a.length new=a++new++b.drop new.length
 | [],b,a,_=>by simp [Ds]
 | c::r,y::b,a,h=>by
  have ih:=A1o r b (a++[c]) (by simpa using h)
  have e:(a++y::b).set a.length c=(a++[c])++b:=by rw [List.set_append_right _ _ (Nat.le_refl _),Nat.sub_self]; simp
  rw [Ds,e]
  rw [List.length_append,List.length_singleton] at ih
  rw [ih]
  simp
 | _::_,[],_,h=>by simp at h
theorem Aea (a b:List AV) (n:Nat) (h:a.length<=b.length):Ds b 0 a=a++b.drop a.length:=by
 have:=A1o a b [] h
 simpa using this
theorem Alc {lo lo':Nat} {h:Bc} {v:AV} {k:IntKind} {l:List Int} (ho:Own lo h v k l) (hl:lo'<=lo):Own lo' h v k l:=by
 rcases ho with h1 | ⟨key,ver,h1,h2⟩
 ·exact .inl h1
 ·exact .inr ⟨key,ver,Nat.le_trans hl h1,h2⟩
theorem gJ {call:Bo} {base:Nat} {Q:EX×St->Prop} {c:IC} {ks:List Kont} {goal:Prop} (I:Env->Bc->Prop) (main:(∀e h,I e h->G call base Q c ks ⟨e,h⟩)->goal) (key:∀e h,I e h->G call base Q c ks ⟨e,h⟩):goal:=main key
attribute [local irreducible] Res.all evC Dg Di Bq Bg Do Bf Bj G GO GV GP GC R
set_option maxHeartbeats 2000000 in
theorem Ado {D:List Bool} {K n:Nat} (hD:D.length<=11) (hK:K<=D.length) {h:Bc} {V:AV×Bc->Prop}
  (hV:∀x h',Own h.length h' x .i64 (nI6 (trl D (K+1)))->V (x,h')):(Bf T (n+1) true (.fn 39) [Fx (nI6 (Dy D)),.int .i64 ((Db D K:Nat):Int)] h).all V:=by
 rw [Fg t39]
 have hl:(nI6 (Dy D)).length=D.length+1:=by rw [Eo,Hb]
 have gN5:Bb (h++List.replicate 59 .none) (h.length+5) = .none:=Gh _ _ _
 simp (disch:=first | assumption | omega) only [c39,go_sem,↓reduceIte,gN5,next_none]
 refine Si (cs:=(List.replicate 12 (0:Int)).map (.int .i64)) (ver:=0) (k:=h.length+5) (by simp only [go_sem,↓reduceIte]) (by simp only [go_sem,↓reduceIte]; rfl) (by simp) ?_
 have hzl:((List.replicate 12 (0:Int)).map (AV.int .i64)).length=12:=by simp
 have htl:((nI6 (Dy D)).map (AV.int .i64)).length=D.length+1:=by rw [List.length_map,hl]
 have hmin:Nat.min (D.length+1) 12=D.length+1:=Nat.min_eq_left (by omega)
 have hne0:¬D.length+1=0:=by omega
 have hsp:Ds ((List.replicate 12 (0:Int)).map (AV.int .i64)) 0 ((nI6 (Dy D)).map (.int .i64))=(dpA D).map (.int .i64):=by
  rw [Aea _ _ 0 (by rw [hzl,htl]; omega),htl,<-List.map_drop,List.drop_replicate,<-List.map_append,dpA]
  congr 3
  omega
 have hcp:∀H:Bc,Bb H (h.length+5) = .cells 0 ((List.replicate 12 (0:Int)).map (.int .i64))->cpA none H (.oslice (h.length+5) 0 none 0 12 (some 12)) (some (none,D.length+1,(nI6 (Dy D)).map (.int .i64))) = .ret (.int .i64 ((D.length+1:Nat):Int),setH H (h.length+5) (.cells 0 ((dpA D).map (.int .i64)))):=by
  intro H hH
  simp only [cpA,hH,Bh,Nat.mul_one,Nat.zero_add,hzl,Nat.le_refl,and_self,if_true,hmin,hne0,if_false]
  rw [List.take_of_length_le (by rw [htl]; omega),hsp]
 have hcs:∀H:Bc,Dm H (Fx (nI6 (Dy D)))=some (none,D.length+1,(nI6 (Dy D)).map (.int .i64)):=fun H=>by
  simp [Dm,hl,Ep]
 simp (disch:=first | assumption | omega) only [go_sem,↓reduceIte]
 rw [hcs,hcp _ (by simp only [go_sem,↓reduceIte]; rfl)]
 have hdl:=Aoy hD
 have hdl2:((dpA D).map (AV.int .i64)).length=12:=by rw [List.length_map,hdl]
 have hz12:[AV.int .i64 0,.int .i64 0,.int .i64 0,.int .i64 0,.int .i64 0,.int .i64 0,.int .i64 0,.int .i64 0,.int .i64 0,.int .i64 0,.int .i64 0,.int .i64 0]=(List.replicate 12 (0:Int)).map (.int .i64):=rfl
 have heq:eaA 12 false (.agg ((dpA D).map (.int .i64))) (.agg ((List.replicate 12 (0:Int)).map (.int .i64))) = .ret (.bool (decide (dpA D=List.replicate 12 0))):=by
  simp only [eaA]
  rw [if_pos hdl2,Kd .i64 _ _ (by rw [hdl]; simp)]
  simp
 simp (disch:=first | assumption | omega) only [go_sem,↓reduceIte,hdl2]
 rw [List.take_of_length_le (show ((dpA D).map (AV.int .i64)).length<=12 by omega),hz12,heq]
 apply gJ (call:=Bf T n) (base:=h.length) (Q:=Fin [.tmp 4] V) fun e h'=>At e [(0,Fx (nI6 (Dy D))),(1,.int .i64 ((Db D K:Nat):Int)),(5,.optr (h.length+5) 0 0),(6,.slice none [] true),(7,.int .i64 0),(8,.int .i64 ((D.length+1:Nat):Int)),(9,.int .i64 0)]/\Bb h' (h.length+5) = .cells 0 ((dpA D).map (.int .i64))/\h.length+59<=h'.length
 ·intro hJ
  by_cases hd0:D.length=0
  ·have q1:decide ((D.length:Int)+1>1)=false:=decide_eq_false (by omega)
   have q2:decide (D.length+1>1)=false:=decide_eq_false (by omega)
   have q3:decide (1<D.length+1)=false:=decide_eq_false (by omega)
   have q4:decide (((D.length+1:Nat):Int)>1)=false:=decide_eq_false (by omega)
   generalize decide (dpA D=List.replicate 12 0)=b
   cases b
   ·simp (disch:=first | assumption | omega) only [go_sem,↓reduceIte,A1a,hl,q1,q2,q3,q4,Bool.false_eq_true]
    exact hJ _ _ ⟨by (simp only [go_sem,↓reduceIte]) <;> simp,by simp only [go_sem,↓reduceIte],by simp only [Be,List.length_append,List.length_replicate]; omega⟩
   ·simp (disch:=first | assumption | omega) only [go_sem,↓reduceIte,A1a,hl,q1,q2,q3,q4,Bool.false_eq_true]
    exact hJ _ _ ⟨by (simp only [go_sem,↓reduceIte]) <;> simp,by simp only [go_sem,↓reduceIte],by simp only [Be,List.length_append,List.length_replicate]; omega⟩
  ·have hb:decide (dpA D=List.replicate 12 0)=false:=decide_eq_false fun hz=>hd0 (Air hD hz)
   rw [hb]
   simp (disch:=first | assumption | omega) only [go_sem,↓reduceIte,A1a,hl,Bool.false_eq_true]
   exact hJ _ _ ⟨by (simp only [go_sem,↓reduceIte]) <;> simp,by simp only [go_sem,↓reduceIte],by simp only [Be,List.length_append,List.length_replicate]; omega⟩
 rintro e h1 ⟨hE,g5,hl1⟩
 simp only [Bt,By] at hE
 obtain ⟨f0,f1,f5,f6,f7,f8,f9,-⟩:=hE
 clear hcp hcs hsp heq hzl
 refine Dd (fun M st=>∃(k a b:Nat) (x:AV),M=K-k/\k<=K/\A2i D k a b/\At st.env [(0,Fx (nI6 (Dy D))),(1,.int .i64 ((Db D K:Nat):Int)),(5,.optr (h.length+5) 0 0),(6,x),(7,.int .i64 (a:Nat)),(8,.int .i64 (b:Nat)),(9,.int .i64 (k:Nat))]/\Bb st.heap (h.length+5) = .cells 0 ((dpA D).map (.int .i64))/\
   Own (h.length+59) st.heap x .i64 (nI6 (trl D k))/\h.length+59<=st.heap.length) K (by omega)
  ⟨0,0,D.length+1,.slice none [] true,by omega,by omega,Apx D,by (simp only [go_sem,↓reduceIte,f0,f1,f5,f6,f7,f8,f9]) <;> simp,g5,by simpa [trl,nI6] using Gx _ _ _,hl1⟩ ?_
 clear f0 f1 f5 f6 f7 f8 f9 g5 hl1 e h1
 rintro M e h1 hM ⟨k,a,b,x,rfl,hk,hin,hE,g5,hO,hl1⟩ P hP
 simp only [Bt,By] at hE g5 hO hl1
 obtain ⟨f0,f1,f5,f6,f7,f8,f9,-⟩:=hE
 have hkin:=hin k (Nat.le_refl _) (by omega)
 have hpl:=Mf (D:=D) (k:=k) (by omega)
 simp (disch:=first | assumption | omega) only [go_sem,↓reduceIte,f0,f1,f5,f6,f7,f8,f9]
 refine Dd (fun M st=>∃i:Nat,M=Db D k-i/\a<=i/\i<=Db D k/\At st.env [(0,Fx (nI6 (Dy D))),(1,.int .i64 ((Db D K:Nat):Int)),(5,.optr (h.length+5) 0 0),(6,x),(7,.int .i64 (a:Nat)),(8,.int .i64 (b:Nat)),(9,.int .i64 (k:Nat)),(10,.int .i64 (i:Nat))]/\st.heap=h1) (Db D k-a) (by omega)
  ⟨a,rfl,Nat.le_refl _,by omega,by simp only [go_sem,↓reduceIte,f0,f1,f5,f6,f7,f8,f9],rfl⟩ ?_
 clear f0 f1 f5 f6 f7 f8 f9 e
 rintro M2 e h2 hM2 ⟨i,rfl,hai,hik,hE,hh2⟩ P2 hP2
 obtain rfl:h2=h1:=hh2
 simp only [Bt,By] at hE
 obtain ⟨f0,f1,f5,f6,f7,f8,f9,f10,-⟩:=hE
 obtain ⟨y,hy1,hy2⟩:=Afj (D:=D) (i:=i) (by omega)
 have hyl:=A2x hy2
 have hib:decide ((i:Int)<(b:Int))=true:=decide_eq_true (by omega)
 have hib2:decide (i<b)=true:=decide_eq_true (by omega)
 have hi12:i<12:=by omega
 by_cases hyk:y=k
 ·subst hyk
  have hip:i=Db D y:=A8h (by omega) hy2
  subst hip
  have hbn:((y:Int) != (y:Int))=false:=by simp
  have hto:(nI6 (trl D y)).length<=12:=by rw [Eo,Abt]; omega
  simp (disch:=first | assumption | omega) only [go_sem,↓reduceIte,f0,f1,f5,f6,f7,f8,f9,f10,hib,hib2,g5,hy1,hbn,hi12,hdl,Bool.false_eq_true,hO.lenA]
  rw [A8a hO (k1:=.i64) (k2:=.i64) (by simp only [go_sem,↓reduceIte]) (by simp only [go_sem,↓reduceIte])]
  simp (disch:=first | assumption | omega) only [go_sem,↓reduceIte,f0,f1,f5,f6,f7,f8,f9,f10]
  refine On (m:=1) (b:=8) (l2:=[((Db D y:Nat):Int)]) (by first | with_reducible rfl | (simp only [Be,List.length_append,List.length_replicate]; done) | (simp only [Be,List.length_append,List.length_replicate]; omega)) hO hl1 rfl rfl Nat.one_pos (by omega) fun x' h' hO' hF hL _ => ?_
  have hO2:Own (h.length+59) h' x' .i64 (nI6 (trl D (y+1))):=by
   rw [Alx]
   have e9:nI6 (trl D y++[Db D y])=nI6 (trl D y)++[((Db D y:Nat):Int)]:=by simp [nI6]
   rw [e9]; exact hO'
  have g52:Bb h' (h.length+5) = .cells 0 ((dpA D).map (.int .i64)):=by rw [hF _ (by omega),g5]
  rcases Nat.lt_or_ge y K with hyK | hyK
  ·have hne:=Arx hyK hK
   rcases Nat.lt_or_ge (Db D y) (Db D K) with hpp | hpp
   ·have c1:decide (Db D y<Db D K)=true:=decide_eq_true hpp
    simp (disch:=first | assumption | omega) only [go_sem,↓reduceIte,f0,f1,f5,f6,f7,f8,f9,f10,c1]
    exact hP (K-(y+1)) _ (by omega) ⟨y+1,Db D y+1,b,x',rfl,by omega,Aul hin hyK hK hpp,by (simp only [go_sem,↓reduceIte,f0,f1,f5,f8]) <;> simp,g52,hO2,(show h.length+59<=h'.length by omega)⟩
   ·have hpp':Db D K<Db D y:=by omega
    have c1:decide (Db D y<Db D K)=false:=decide_eq_false (by omega)
    have c2:decide (Db D y>Db D K)=true:=decide_eq_true hpp'
    have c3:decide (Db D K<Db D y)=true:=decide_eq_true hpp'
    simp (disch:=first | assumption | omega) only [go_sem,↓reduceIte,f0,f1,f5,f6,f7,f8,f9,f10,c1,c2,c3,Bool.false_eq_true]
    exact hP (K-(y+1)) _ (by omega) ⟨y+1,a,Db D y,x',rfl,by omega,Auk hin hyK hK hpp',by (simp only [go_sem,↓reduceIte,f0,f1,f5,f7]) <;> simp,g52,hO2,(show h.length+59<=h'.length by omega)⟩
  ·obtain rfl:y=K:=by omega
   have c1:decide (Db D y<Db D y)=false:=decide_eq_false (by omega)
   have c2:decide (Db D y>Db D y)=false:=decide_eq_false (by omega)
   simp (disch:=first | assumption | omega) only [go_sem,↓reduceIte,f0,f1,f5,f6,f7,f8,f9,f10,c1,c2,Bool.false_eq_true,Hr,mapR]
   exact hV _ _ (Alc hO2 (by omega))
 ·have hbn:((y:Int) != (k:Int))=true:=by simp; omega
  have hne:i≠Db D k:=fun hc=>hyk (by
   have h9:=Nx (D:=D) (k:=k) (by omega)
   rw [<-hc,hy2] at h9
   exact Option.some.inj h9)
  simp (disch:=first | assumption | omega) only [go_sem,↓reduceIte,f0,f1,f5,f6,f7,f8,f9,f10,hib,hib2,g5,hy1,hbn,hi12,hdl]
  exact hP2 (Db D k-(i+1)) _ (by omega) ⟨i+1,rfl,by omega,by omega,by (simp only [go_sem,↓reduceIte,f0,f1,f5,f6,f7,f8,f9]) <;> simp,rfl⟩
theorem A8x {D:List Bool} {K:Nat} (hD:D.length<=11) (hK:K<=D.length):Aib T 22 14 [Fx (nI6 (Dy D)),.int .i64 ((Db D K:Nat):Int)] (.tuple [Fx (nI6 (trl D (K+1))),.int .i64 0]):=by
 refine Acb t14 fun n hn V hV => ?_
 obtain ⟨n,rfl⟩:∃m,n=m+1:=⟨n-1,by omega⟩
 have hl:(nI6 (Dy D)).length=D.length+1:=by rw [Eo,Hb]
 have hp:=Mf hK
 have e0:((0:Int) != 0)=false:=rfl
 have d1:decide ((0:Int)<=((Db D K:Nat):Int))=true:=decide_eq_true (by omega)
 have d2:decide (((Db D K:Nat):Int)<=(D.length:Int))=true:=decide_eq_true (by omega)
 have d3:decide (Db D K<=D.length)=true:=decide_eq_true hp
 have d4:decide (((Db D K:Nat):Int)<=(D.length:Int)+1-1)=true:=decide_eq_true (by omega)
 have es:(D.length:Int)+1-1=(D.length:Int):=by omega
 simp (disch:=first | assumption | omega) only [c14,go_sem,↓reduceIte]
 refine Dl (Ls hD) (by omega) (by repeat (first | exact Bz _ | refine Dr _ _ _ _ ?_ | refine Dz _ _ _ ?_)) (Es _ _ _) ?_
 simp (disch:=first | assumption | omega) only [go_sem,↓reduceIte,e0,hl,It,d1,d2,d3,d4,es,Bool.and_self,Bool.not_true,Bool.false_eq_true]
 refine Hc (Ado hD hK fun x h' hO => ?_)
 simp (disch:=first | assumption | omega) only [go_sem,↓reduceIte,Hr,mapR]
 exact hV _ _ (Ed (Hv hO) (Bk _ _ _ _)) (Afv (Afs hO) (Aft _ _ _ _))
end Go.Ev.YtbgodhhdojjbmaaGreatC.P1
namespace Go.Ev.YtbgodhhdojjbmaaGreatC.P1
open Go.Ev
open Go Go.Proofs
theorem Xy {lo:Nat} {h:Bc} {v:AV} {g:Option Nat} {n:Nat} {cs:List AV} (ho:OwnG lo h v g n cs):∀j,Dw v=some j->j<h.length:=by
 rcases ho with ⟨_,_,rfl⟩ | ⟨key,ver,_,rfl,hH,_⟩
 ·intro j hj; simp [Dw] at hj
 ·intro j hj
  obtain rfl:key=j:=by simpa [Dw] using hj
  exact Fe hH (by simp)
theorem Xw {l:List Nat} {i y:Nat} (h:l[i]? = some y):(nI6 l)[i]? = some (y:Int):=by simp [nI6,h]
theorem Rq {k1 k2 v1 v2:Nat} {g1 g2:Option Nat} {o1 o2 l1 l2:Nat} {c1 c2:Option Nat} (h:k1≠k2) {j:Nat} (hj:Dw (.oslice k1 v1 g1 o1 l1 c1)=some j):Dw (.oslice k2 v2 g2 o2 l2 c2)≠some j:=by
 intro hc
 have h1:k1=j:=by simpa [Dw] using hj
 have h2:k2=j:=by simpa [Dw] using hc
 omega
def Fn (D:List Bool):Nat->List Nat
 | 0=>[]
 | n+1=>Gs D n
def plN (D:List Bool):Nat->Nat
 | 0=>0
 | n+1=>plc D n
def fcL (D:List Bool) (n:Nat):List AV:=(List.range n).flatMap fun j=>[.int .i64 (frP D j).num,.int .i64 (frP D j).den]
theorem Zh (D:List Bool) (n:Nat):fcL D (n+1)=fcL D n++[.int .i64 (frP D n).num,.int .i64 (frP D n).den]:=by simp [fcL,List.range_succ]
theorem Xl (D:List Bool):∀n,(fcL D n).length=n*2
 | 0=>rfl
 | n+1=>by rw [Zh,List.length_append,Xl D n]; simp; omega
theorem A0n (D:List Bool) {j:Nat}:∀{n:Nat},j<n->((fcL D n).drop (j*2)).take 2=[.int .i64 (frP D j).num,.int .i64 (frP D j).den]
 | 0,h=>by omega
 | n+1,h=>by
  have hl:=Xl D n
  rw [Zh]
  rcases Nat.lt_or_ge j n with h1 | h1
  ·rw [List.drop_append_of_le_length (by omega),List.take_append_of_le_length (by rw [List.length_drop]; omega)]
   exact A0n D h1
  ·obtain rfl:j=n:=by omega
   rw [List.drop_left' hl]
   rfl
theorem Ss {D:List Bool} {n:Nat} (h:n<=D.length+1):(Fn D n).length=n:=by
 cases n with
 | zero=>rfl
 | succ m=>exact Akz (by omega)
theorem Abl {D:List Bool} {n:Nat} (h:n<=D.length):Fn D (n+1)=inA (Fn D n) (plN D n) n:=by
 cases n with
 | zero=>rfl
 | succ m=>exact Avf (by omega)
theorem Avj {D:List Bool} {n:Nat} (h:n<=D.length):plN D n<=n:=by
 cases n with
 | zero=>exact Nat.le_refl _
 | succ m=>exact Avl (by omega)
theorem Aru {D:List Bool} {n i j:Nat} (hn:0<n) (h:n<=D.length) (hj:(Fn D n)[i]? = some j):0<Lc (frP D n) (frP D j)↔plN D n<=i:=by
 cases n with
 | zero=>omega
 | succ m=>exact Arp (by omega) hj
theorem Ala {D:List Bool} {n i j:Nat} (h:n<=D.length+1) (hj:(Fn D n)[i]? = some j):j<n:=by
 cases n with
 | zero=>simp [Fn] at hj
 | succ m =>
  have hm:=List.mem_of_getElem? hj
  have:=(My m (by omega)).mem_iff.1 hm
  exact List.mem_range.1 this
attribute [local irreducible] Res.all evC Dg Di Bq Bg Do Bf Bj G GO GV GP GC R
set_option maxHeartbeats 4000000 in
theorem topPath_at (n0 kw:Nat) (hn:20000<=n0) (hkw:kw<=n0) (hW:Con T kw 6 [] (.bool true)) (x:Frac) (wh:Int) (hw0:0<=wh) (hw1:wh<=255):(Do (Bf T n0) c3 [rAV x,.int .u8 wh] []).all fun p=>p.1 = .bool true:=by
 rw [A6x]
 have e00:((0:Int) != 0)=false:=rfl
 have hWs:∀{base:Nat} {Q:EX×St->Prop} {d:Option Nat} {L:List IOper} {ks:List Kont} {e:Env} {h:Bc},GP (Bf T n0) base Q d L ks e (Bf T n0 false (.fn 6) [] h)=GO (Bf T n0) base Q L ks ⟨Bl e d (.bool true),h⟩:=Eu hW hkw (Bz _) rfl
 by_cases hc:He x=0
 case neg =>
  have hc':(He x != 0)=true:=by simp [hc]
  simp (disch:=first | assumption | omega) only [c3,go_sem,↓reduceIte,Qw,hc',hWs]
 have hx:=(Qd x).1 hc
 have g1:=hx.n1
 have g2:=hx.n2
 have g3:=hx.d1
 have g4:=hx.d2
 have hpr:=hx.pr
 unfold Oa at hpr
 obtain ⟨U,hU⟩:=Int.eq_ofNat_of_zero_le (show 0<=x.num by omega)
 obtain ⟨W,hWd⟩:=Int.eq_ofNat_of_zero_le (show 0<=x.den by omega)
 have e1:x.num.toNat=U:=by omega
 have e2:x.den.toNat=W:=by omega
 have hpth:=Avm hx
 have hfst:=fun n=>Asy (n:=n) hx
 have hlast:=Apl hx
 have hple:=Abm (u:=U) (v:=W) (N:=10000) (by omega) (by omega)
 have hpl:=Rc (u:=U) (v:=W) (by omega)
 rw [e1,e2] at hpth hpr hlast
 rw [e1,e2] at hfst
 have hPO:=Acd U W (by omega) (by omega) (by omega) (by omega) hpr
 have hxe:(⟨(U:Int),(W:Int)⟩:Frac)=x:=Frac.ext' (by simp only; omega) (by simp only; omega)
 rw [hxe] at hPO
 obtain ⟨N,hN⟩:∃N,En U W=N:=⟨_,rfl⟩
 rw [hN] at hpth hfst hlast hPO hple hpl
 have hNl:(Bp N).length=N.length:=by simp [Bp]
 have hNl2:(Bp N).length<1152921504606846976:=by omega
 simp (disch:=first | assumption | omega) only [c3,go_sem,↓reduceIte,Qw,hc,e00,Aou,hpth]
 refine Dl hPO (by omega) (by repeat (first | exact Bz _ | refine Dc (by repeat (first | exact De _ _ | exact Bk _ _ _ _ | exact Dk _ _ _ | exact Dn _ _ _ _ _ | exact Du _ _ _ _ | exact Eh _ _ | refine Br ?_ ?_ | refine Ec ?_ | refine Ed ?_ ?_ | refine Eq ?_ ?_ ?_)) ?_)) rfl ?_
 have hdt:decide (Bp N=Bp N)=true:=decide_eq_true rfl
 simp (disch:=first | assumption | omega) only [go_sem,↓reduceIte,Aip,hNl2,hdt,Bool.not_true,Bool.false_eq_true]
 have hget:∀i,(h:i<N.length)->(Bp N)[i]? = some ((N[i]:Nat):Int):=fun i h=>by simp [Bp,h]
 have hsum:∀i,(N.take i).sum<=N.sum:=fun i=>by
  have:=congrArg List.sum (List.take_append_drop i N)
  rw [List.sum_append] at this
  omega
 have hsumN:N.sum<=280000:=by
  have:∀l:List Nat,(∀n∈l,n<=10000)->l.sum<=l.length*10000:=by
   intro l
   induction l with
   | nil=>intro _; simp
   | cons a r ih=>intro h; have:=ih fun n hn=>h n (by simp [hn]); have:=h a (by simp); simp only [List.sum_cons,List.length_cons]; omega
  have:=this N hple
  omega
 refine Dd (fun M st=>∃i:Nat,M=N.length-i/\i<=N.length/\At st.env [(0,rAV x),(1,.int .u8 wh),(2,.optr 2 0 0),(5,Ey (Bp N)),(7,.int .i64 (((N.take i).sum:Nat):Int)),(8,.int .i64 (i:Nat))]/\Bb st.heap 2 = .cells 0 [.int .i64 x.num,.int .i64 x.den]/\243<=st.heap.length) N.length (by omega)
  ⟨0,by omega,by omega,by (simp only [go_sem,↓reduceIte]) <;> simp,by simp only [go_sem,↓reduceIte],by simp only [Be,List.length_append,List.length_replicate]; omega⟩ ?_
 rintro M e h hM ⟨i,rfl,hi,hE,g2',hl243⟩ P hP
 simp only [Bt,By] at hE g2' hl243
 obtain ⟨f0,f1,f2,f5,f7,f8,-⟩:=hE
 have hsi:=hsum i
 by_cases hlt:i<N.length
 ·have hsi1:=hsum (i+1)
  rw [List.take_succ_eq_append_getElem hlt,List.sum_append,List.sum_singleton] at hsi1
  have d1:decide (i<N.length)=true:=decide_eq_true hlt
  have hgi:=hget i hlt
  have hts:((((N.take (i+1)).sum:Nat)):Int)=(((N.take i).sum:Nat):Int)+((N[i]:Nat):Int):=by rw [List.take_succ_eq_append_getElem hlt,List.sum_append,List.sum_singleton]; omega
  simp (disch:=first | assumption | omega) only [go_sem,↓reduceIte,f0,f1,f2,f5,f7,f8,hNl,d1,hgi]
  exact hP (N.length-(i+1)) _ (by omega) ⟨i+1,rfl,by omega,by (simp only [go_sem,↓reduceIte,f0,f1,f2,f5,hts]) <;> simp,g2',hl243⟩
 obtain rfl:i=N.length:=by omega
 rw [List.take_length] at f7
 have d1:decide (N.length<N.length)=false:=decide_eq_false (by omega)
 by_cases h12:12<=N.sum
 ·have d2:decide (((N.sum:Nat):Int)>=12)=true:=decide_eq_true (by omega)
  have d3:decide (12<=N.sum)=true:=decide_eq_true h12
  have d4:decide ((12:Int)<=(N.sum:Int))=true:=decide_eq_true (by omega)
  simp (disch:=first | assumption | omega) only [go_sem,↓reduceIte,f0,f1,f2,f5,f7,f8,hNl,d1,d2,d3,d4,hWs,Bool.false_eq_true]
 have d2:decide (((N.sum:Nat):Int)>=12)=false:=decide_eq_false (by omega)
 have d3:decide (12<=N.sum)=false:=decide_eq_false h12
 have d4:decide ((12:Int)<=(N.sum:Int))=false:=decide_eq_false (by omega)
 simp (disch:=first | assumption | omega) only [go_sem,↓reduceIte,f0,f1,f2,f5,f7,f8,hNl,d1,d2,d3,d4,Bool.false_eq_true]
 have hDl:=Mu N 0
 generalize Ge 0 N=D at *
 rw [<-hDl] at f7 hfst hlast h12 d2 d3 d4
 have hD11:D.length<=11:=by omega
 have hDN:N.sum=D.length:=hDl.symm
 refine Dd (fun M st=>∃(n:Nat) (xa xo xt:AV),M=D.length+1-n/\n<=D.length+1/\At st.env [(0,rAV x),(1,.int .u8 wh),(2,.optr 2 0 0),(5,Ey (Bp N)),(7,.int .i64 (D.length:Nat)),(9,xa),(10,xt),(11,xo),(12,.int .i64 (n:Nat))]/\
   OwnG 243 st.heap xa (some 2) n (fcL D n)/\Own 243 st.heap xo .i64 (nI6 (Fn D n))/\Own 243 st.heap xt .i64 (nI6 (Fn D n))/\(∀j,Dw xa=some j->Dw xo≠some j/\Dw xt≠some j)/\(∀j,Dw xo=some j->Dw xt≠some j)/\
   Bb st.heap 2 = .cells 0 [.int .i64 x.num,.int .i64 x.den]/\243<=st.heap.length) (D.length+1) (by omega)
  ⟨0,.slice (some 2) [] true,.slice none [] true,.slice none [] true,by omega,by omega,by (simp only [go_sem,↓reduceIte,f0,f1,f2,f5,f7]) <;> simp,A7n _ _ _,Gx _ _ _,Gx _ _ _,by simp [Dw],by simp [Dw],g2',hl243⟩ ?_
 clear f0 f1 f2 f5 f7 f8 g2' hl243 e h hM hsi hP P
 rintro M e h hM ⟨n,xa,xo,xt,rfl,hn1,hE,hA,hO,hT,hd1,hd2,g2',hl243⟩ P hP
 simp only [Bt,By] at hE hA hO hT g2' hl243
 obtain ⟨f0,f1,f2,f5,f7,f9,f10,f11,f12,-⟩:=hE
 by_cases hlt:n<=D.length
 ·have c1:decide (n<=D.length)=true:=decide_eq_true hlt
  have c2:decide ((n:Int)<=(D.length:Int))=true:=decide_eq_true (by omega)
  obtain ⟨hw1',hok⟩:=hfst n hlt
  have hck:=(Qd _).2 hok
  simp (disch:=first | assumption | omega) only [go_sem,↓reduceIte,f0,f1,f2,f5,f7,f9,f10,f11,f12,c1,c2]
  refine Dl (A8y N n (by omega) (by omega)) (by omega) (by repeat (first | exact Bz _ | refine Dc (by repeat (first | exact De _ _ | exact Bk _ _ _ _ | exact Dk _ _ _ | exact Dn _ _ _ _ _ | exact Du _ _ _ _ | exact Eh _ _ | refine Br ?_ ?_ | refine Ec ?_ | refine Ed ?_ ?_ | refine Eq ?_ ?_ ?_)) ?_)) rfl ?_
  simp (disch:=first | assumption | omega) only [go_sem,↓reduceIte,Aov,hw1',Qw,hck,e00,Bool.false_eq_true,f9,f10,f11,f12]
  have hol:=Ss (D:=D) (n:=n) (by omega)
  have hnl:(nI6 (Fn D n)).length=n:=by rw [Eo,hol]
  have hA13:∀o o',OwnG 243 (setH (setH h 13 o) 13 o') xa (some 2) n (fcL D n):=fun o o'=>(hA.setH (by omega)).setH (by omega)
  have hO13:∀o o',Own 243 (setH (setH h 13 o) 13 o') xo .i64 (nI6 (Fn D n)):=fun o o'=>(hO.setH (by omega)).setH (by omega)
  have hT13:∀o o',Own 243 (setH (setH h 13 o) 13 o') xt .i64 (nI6 (Fn D n)):=fun o o'=>(hT.setH (by omega)).setH (by omega)
  have hl13:∀o o',243<=(setH (setH h 13 o) 13 o').length:=fun o o'=>by simp only [Be]; omega
  have g213:∀o o',Bb (setH (setH h 13 o) 13 o') 2 = .cells 0 [.int .i64 x.num,.int .i64 x.den]:=fun o o'=>by rw [Ba _ _ _ _ (by omega),Ba _ _ _ _ (by omega),g2']
  refine A0x (lo:=243) (n:=n) (m:=1) (b:=16) (c2:=[.int .i64 (frP D n).num,.int .i64 (frP D n).den]) (by first | with_reducible rfl | (simp only [Be,List.length_append,List.length_replicate]; done) | (simp only [Be,List.length_append,List.length_replicate]; omega)) (hA13 _ _) (by decide) (hl13 _ _) rfl rfl Nat.one_pos (by omega) fun xa' h1 hA1 hF1 hL1 hG1 hK1 => ?_
  have hl1:243<=h1.length:=Nat.le_trans (hl13 _ _) hL1
  have hO1:Own 243 h1 xo .i64 (nI6 (Fn D n)):=(hO13 _ _).other fun j hj=>hG1 j ((hO13 _ _).keyLt j hj) fun hc=>(hd1 j hc).1 hj
  have hT1:Own 243 h1 xt .i64 (nI6 (Fn D n)):=(hT13 _ _).other fun j hj=>hG1 j ((hT13 _ _).keyLt j hj) fun hc=>(hd1 j hc).2 hj
  have g21:Bb h1 2 = .cells 0 [.int .i64 x.num,.int .i64 x.den]:=by rw [hF1 2 (by omega)]; exact g213 _ _
  have hd11:∀j,Dw xa'=some j->Dw xo≠some j/\Dw xt≠some j:=fun j hj=>by
   rcases hK1 j hj with h5 | h5
   ·exact hd1 j h5
   ·have h6:h.length<=j:=by rw [h5]; simp only [Be]; omega
    exact ⟨fun hc=>by have:=hO.keyLt j hc; omega,fun hc=>by have:=hT.keyLt j hc; omega⟩
  clear hF1 hL1 hG1 hK1 hA13 hO13 hT13 hl13 g213
  rw [<-Zh] at hA1
  simp (disch:=first | assumption | omega) only [go_sem,↓reduceIte,f0,f1,f2,f5,f7,f9,f10,f11,f12]
  refine Fm (lo:=243) (b:=8) (by first | with_reducible rfl | (simp only [Be,List.length_append,List.length_replicate]; done) | (simp only [Be,List.length_append,List.length_replicate]; omega)) hO1 hl1 (by omega) fun xo' h2 hO2 hF2 hL2 hG2 hK2 => ?_
  have hl2:243<=h2.length:=Nat.le_trans hl1 hL2
  have hA2:OwnG 243 h2 xa' (some 2) (n+1) (fcL D (n+1)):=hA1.other fun j hj=>hG2 j (Xy hA1 j hj) (hd11 j hj).1
  have hT2:Own 243 h2 xt .i64 (nI6 (Fn D n)):=hT1.other fun j hj=>hG2 j (hT1.keyLt j hj) fun hc=>hd2 j hc hj
  have g22:Bb h2 2 = .cells 0 [.int .i64 x.num,.int .i64 x.den]:=by rw [hF2 2 (by omega)]; exact g21
  have hd12:∀j,Dw xa'=some j->Dw xo'≠some j/\Dw xt≠some j:=fun j hj=>⟨fun hc=>by
   rcases hK2 j hc with h5 | h5
   ·exact (hd11 j hj).1 h5
   ·have:=Xy hA1 j hj; omega,(hd11 j hj).2⟩
  have hd22:∀j,Dw xo'=some j->Dw xt≠some j:=fun j hj hc=>by
   rcases hK2 j hj with h5 | h5
   ·exact hd2 j h5 hc
   ·have:=hT1.keyLt j hc; omega
  clear hF2 hL2 hG2 hK2 hO1 hT1 hA1 g21 hd11 hl1
  simp (disch:=first | assumption | omega) only [go_sem,↓reduceIte,f0,f1,f2,f5,f7,f9,f10,f11,f12]
  refine Fm (lo:=243) (b:=8) (by first | with_reducible rfl | (simp only [Be,List.length_append,List.length_replicate]; done) | (simp only [Be,List.length_append,List.length_replicate]; omega)) hT2 hl2 (by omega) fun xt' h3 hT3 hF3 hL3 hG3 hK3 => ?_
  have hl3:243<=h3.length:=Nat.le_trans hl2 hL3
  have hA3:OwnG 243 h3 xa' (some 2) (n+1) (fcL D (n+1)):=hA2.other fun j hj=>hG3 j (Xy hA2 j hj) (hd12 j hj).2
  have hO3:Own 243 h3 xo' .i64 (nI6 (Fn D n)++[((n:Nat):Int)]):=hO2.other fun j hj=>hG3 j (hO2.keyLt j hj) fun hc=>hd22 j hj hc
  have g23:Bb h3 2 = .cells 0 [.int .i64 x.num,.int .i64 x.den]:=by rw [hF3 2 (by omega)]; exact g22
  have hd13:∀j,Dw xa'=some j->Dw xo'≠some j/\Dw xt'≠some j:=fun j hj=>⟨(hd12 j hj).1,fun hc=>by
   rcases hK3 j hc with h5 | h5
   ·exact (hd12 j hj).2 h5
   ·have:=Xy hA2 j hj; omega⟩
  have hd23:∀j,Dw xo'=some j->Dw xt'≠some j:=fun j hj hc=>by
   rcases hK3 j hc with h5 | h5
   ·exact hd22 j hj h5
   ·have:=hO2.keyLt j hj; omega
  clear hF3 hL3 hG3 hK3 hO2 hT2 hA2 g22 hd12 hd22 hl2 hA hO hT hd1 hd2 g2' hl243
  have hin0:nI6 (Fn D n)++[((n:Nat):Int)]=nI6 (inA (Fn D n) n n):=by
   have:=Apv (l:=Fn D n) (x:=n)
   rw [hol] at this
   rw [this]; simp [nI6]
  rw [hin0] at hO3 hT3
  rcases hA3 with ⟨h0,_,_⟩ | ⟨Ka,Va,ha243,rfl,hHa,_⟩
  ·omega
  have hil:(inA (Fn D n) n n).length=n+1:=by rw [A2h (by omega),hol]
  rcases hO3 with ⟨h0,_⟩ | ⟨Ko,Vo,ho243,rfl,hHo⟩
  ·rw [<-List.length_eq_zero_iff,Eo,hil] at h0; omega
  rcases hT3 with ⟨h0,_⟩ | ⟨Kt,Vt,ht243,rfl,hHt⟩
  ·rw [<-List.length_eq_zero_iff,Eo,hil] at h0; omega
  rw [Eo,hil]
  have nao:Ka≠Ko:=fun hc=>(hd13 Ka rfl).1 (by rw [hc]; rfl)
  have nat':Ka≠Kt:=fun hc=>(hd13 Ka rfl).2 (by rw [hc]; rfl)
  have not':Ko≠Kt:=fun hc=>hd23 Ko rfl (by rw [hc]; rfl)
  clear hd13 hd23
  simp (disch:=first | assumption | omega) only [go_sem,↓reduceIte,f0,f1,f2,f5,f7,f9,f10,f11,f12]
  have hfl:=Xl D (n+1)
  have hfn:=A0n D (show n<n+1 by omega)
  refine Dd (fun M st=>∃k:Nat,M=k/\plN D n<=k/\k<=n/\At st.env [(0,rAV x),(1,.int .u8 wh),(2,.optr 2 0 0),(5,Ey (Bp N)),(7,.int .i64 (D.length:Nat)),(9,.oslice Ka Va (some 2) 0 (n+1) none),(10,.oslice Kt Vt none 0 (n+1) none),(11,.oslice Ko Vo none 0 (n+1) none),(12,.int .i64 (n:Nat)),(15,.int .i64 (k:Nat))]/\
    Bb st.heap Ka = .cells Va (fcL D (n+1))/\Bb st.heap Ko = .cells Vo ((nI6 (inA (Fn D n) k n)).map (.int .i64))/\Bb st.heap Kt = .cells Vt ((nI6 (inA (Fn D n) k n)).map (.int .i64))/\Bb st.heap 2 = .cells 0 [.int .i64 x.num,.int .i64 x.den]/\243<=st.heap.length) n (by omega)
   ⟨n,rfl,Avj hlt,Nat.le_refl _,by (simp only [go_sem,↓reduceIte,f0,f1,f2,f5,f7,f9,f10,f11,f12]) <;> simp,hHa,hHo,hHt,g23,hl3⟩ ?_
  clear f0 f1 f2 f5 f7 f9 f10 f11 f12 hHa hHo hHt g23 hl3
  rintro M e2 h4 hM2 ⟨k,hMk,hkp,hkn,hE2,gA,gO,gT,g24,hl4⟩ P2 hP2
  simp only [Bt,By] at hE2 gA gO gT g24 hl4
  obtain ⟨f0,f1,f2,f5,f7,f9,f10,f11,f12,f15,-⟩:=hE2
  rcases Nat.eq_zero_or_pos k with hk0 | hk0
  ·subst hk0
   have d0:decide (((0:Nat):Int)>0)=false:=rfl
   have d1:decide ((0:Int)>0)=false:=rfl
   have hpl0:plN D n=0:=by omega
   simp (disch:=first | assumption | omega) only [go_sem,↓reduceIte,f0,f1,f2,f5,f7,f9,f10,f11,f12,f15,d0,d1,Bool.false_eq_true]
   have ho9:=Abl hlt
   rw [hpl0] at ho9
   rw [<-ho9] at gO gT
   have hll:=Ss (D:=D) (n:=n+1) (by omega)
   exact hP (D.length+1-(n+1)) _ (by omega) ⟨n+1,.oslice Ka Va (some 2) 0 (n+1) none,.oslice Ko Vo none 0 (n+1) none,.oslice Kt Vt none 0 (n+1) none,rfl,by omega,by (simp only [go_sem,↓reduceIte,f0,f1,f2,f5,f7,f9,f10,f11]) <;> simp,.inr ⟨Ka,Va,ha243,rfl,gA,hfl⟩,.inr ⟨Ko,Vo,ho243,by rw [Eo,hll],gO⟩,.inr ⟨Kt,Vt,ht243,by rw [Eo,hll],gT⟩,fun j hj=>⟨Rq nao hj,Rq nat' hj⟩,fun j hj=>Rq not' hj,g24,hl4⟩
  ·obtain ⟨q,rfl⟩:∃q,k=q+1:=⟨k-1,by omega⟩
   have hqO:q<(Fn D n).length:=by omega
   have hjq:(Fn D n)[q]? = some (Fn D n)[q]:=List.getElem?_eq_getElem hqO
   obtain ⟨j,hj⟩:∃j,(Fn D n)[q]=j:=⟨_,rfl⟩
   rw [hj] at hjq
   have hjn:=Ala (by omega) hjq
   have hgap:=Aru (show 0<n by omega) hlt hjq
   obtain ⟨-,hokj⟩:=hfst j (by omega)
   have hfj:=A0n D (show j<n+1 by omega)
   have w1:(nI6 (inA (Fn D n) (q+1) n))[q+1]? = some ((n:Nat):Int):=Xw (Auj (by omega))
   have w0:(nI6 (inA (Fn D n) (q+1) n))[q]? = some ((j:Nat):Int):=Xw (by rw [Apw (by omega)]; exact hjq)
   have es:(((q+1:Nat)):Int)-1=(q:Int):=by omega
   have es2:((q:Int)+1)-1=(q:Int):=by omega
   have d0:decide ((((q+1:Nat)):Int)>0)=true:=decide_eq_true (by omega)
   have d1:decide (((q:Int)+1)>0)=true:=decide_eq_true (by omega)
   have b1:=hok.bf
   have b2:=hokj.bf
   have q1:(q+1<n+1)=True:=eq_true (by omega)
   have q2:(q<n+1)=True:=eq_true (by omega)
   have q3:(n<n+1)=True:=eq_true (by omega)
   have q4:(j<n+1)=True:=eq_true (by omega)
   simp (disch:=first | assumption | omega) only [go_sem,↓reduceIte,f0,f1,f2,f5,f7,f9,f10,f11,f12,f15,d0,d1,gA,gO,gT,w1,w0,es,es2,q1,q2,q3,q4,hfl,hfn,hfj]
   refine ⟨by omega,by omega,?_⟩
   rw [Aio (by omega) b1 b2]
   by_cases hg:0<Lc (frP D n) (frP D j)
   ·have dg:decide (Lc (frP D n) (frP D j)>0)=true:=decide_eq_true hg
    have hdn:nI6 (((inA (Fn D n) (q+1) n).set (q+1) j).set q n)=nI6 (inA (Fn D n) q n):=by rw [Ajn hjq]
    have hst:((nI6 (inA (Fn D n) (q+1) n)).set (q+1) ((j:Nat):Int)).set q ((n:Nat):Int)=nI6 (inA (Fn D n) q n):=by
     rw [<-hdn]; simp [nI6,List.map_set]
    have w2:((nI6 (inA (Fn D n) (q+1) n)).set (q+1) ((j:Nat):Int)).length=n+1:=by rw [List.length_set,Eo,A2h (by omega),hol]
    have w3:(nI6 (inA (Fn D n) (q+1) n)).length=n+1:=by rw [Eo,A2h (by omega),hol]
    have n1:(Ko=Kt)=False:=eq_false not'
    have n2:(Kt=Ko)=False:=eq_false fun hc=>not' hc.symm
    simp (disch:=first | assumption | omega) only [go_sem,↓reduceIte,f0,f1,f2,f5,f7,f9,f10,f11,f12,f15,dg,gA,gO,gT,w1,w0,es,es2,q1,q2,q3,q4,w2,w3,n1,n2,Gf,List.length_map,List.length_set,if_false]
    refine ⟨by omega,by omega,by omega,by omega,hP2 q _ (by omega) ⟨q,rfl,hgap.1 hg,by omega,by (simp only [go_sem,↓reduceIte,f0,f1,f2,f5,f7,f9,f10,f11,f12]) <;> simp,?_,?_,?_,?_,?_⟩⟩
    ·simp only [Ba _ _ _ _ (Ne.symm nao),Ba _ _ _ _ (Ne.symm nat'),gA]
    ·simp only [Ba _ _ _ _ (Ne.symm not'),Qf,hst,if_true]
    ·simp only [Qf,hst,if_true]
    ·simp only [Ba _ _ _ _ (show Ko≠2 by omega),Ba _ _ _ _ (show Kt≠2 by omega),g24]
    ·simp only [Be]; omega
   ·have dg:decide (Lc (frP D n) (frP D j)>0)=false:=decide_eq_false hg
    have hpq:plN D n=q+1:=by
     have h9:¬plN D n<=q:=fun hc=>hg (hgap.2 hc)
     omega
    simp (disch:=first | assumption | omega) only [go_sem,↓reduceIte,f0,f1,f2,f5,f7,f9,f10,f11,f12,f15,dg,Bool.false_eq_true]
    have ho9:=Abl hlt
    rw [hpq] at ho9
    rw [<-ho9] at gO gT
    have hll:=Ss (D:=D) (n:=n+1) (by omega)
    exact hP (D.length+1-(n+1)) _ (by omega) ⟨n+1,.oslice Ka Va (some 2) 0 (n+1) none,.oslice Ko Vo none 0 (n+1) none,.oslice Kt Vt none 0 (n+1) none,rfl,by omega,by (simp only [go_sem,↓reduceIte,f0,f1,f2,f5,f7,f9,f10,f11]) <;> simp,.inr ⟨Ka,Va,ha243,rfl,gA,hfl⟩,.inr ⟨Ko,Vo,ho243,by rw [Eo,hll],gO⟩,.inr ⟨Kt,Vt,ht243,by rw [Eo,hll],gT⟩,fun j hj=>⟨Rq nao hj,Rq nat' hj⟩,fun j hj=>Rq not' hj,g24,hl4⟩
 ·obtain rfl:n=D.length+1:=by omega
  have c1:decide (D.length+1<=D.length)=false:=decide_eq_false (by omega)
  have c2:decide (((D.length+1:Nat):Int)<=(D.length:Int))=false:=decide_eq_false (by omega)
  have c3:decide ((D.length:Int)+1<=(D.length:Int))=false:=decide_eq_false (by omega)
  have hol:=Ss (D:=D) (n:=D.length+1) (by omega)
  have hOt:Fn D (D.length+1)=Dy D:=Ou D
  rw [hOt] at hO hT hol
  rcases hA with ⟨h0,_,_⟩ | ⟨Ka,Va,ha243,rfl,hHa,_⟩
  ·omega
  have hfl:=Xl D (D.length+1)
  have hfn:=A0n D (show D.length<D.length+1 by omega)
  rw [hlast] at hfn
  have q1:(D.length<D.length+1)=True:=eq_true (by omega)
  have heqx:eaA 2 true (.agg [.int .i64 x.num,.int .i64 x.den]) (.agg [.int .i64 x.num,.int .i64 x.den]) = .ret (.bool false):=by simp [eaA,Eg]
  simp (disch:=first | assumption | omega) only [go_sem,↓reduceIte,f0,f1,f2,f5,f7,f9,f10,f11,f12,c1,c2,c3,hHa,hfl,hfn,q1,g2',heqx,Bool.false_eq_true]
  refine ⟨by omega,?_⟩
  refine Dl (Ls hD11) (by omega) (Dc (Hv hT) (Bz _)) (Es _ _ _) ?_
  obtain ⟨w,rfl⟩:=Int.eq_ofNat_of_zero_le hw0
  obtain ⟨dp,hdp⟩:∃dp,w%(D.length+1)=dp:=⟨_,rfl⟩
  have hdpl:dp<=D.length:=by have:=Nat.mod_lt w (show 0<D.length+1 by omega); omega
  have hem:((w:Int)%((D.length:Int)+1))=(dp:Int):=by rw [<-hdp]; simp
  have hem2:((w:Int)%((D.length+1:Nat):Int))=(dp:Int):=by rw [<-hdp]; simp
  have gN:Bb h h.length = .none:=Ef _ _ (Nat.le_refl _)
  simp (disch:=first | assumption | omega) only [go_sem,↓reduceIte,e00,f0,f1,f2,f5,f7,f9,f10,f11,f12,Aep,hem,hem2,gN,next_none,Bool.false_eq_true]
  have hz9:(List.replicate (D.length+1) [AV.int .i64 0]).flatten=(List.replicate (D.length+1) (0:Int)).map (.int .i64):=by simp
  rw [hz9]
  have hpl:=Mf hdpl
  have hOw:=hO
  rcases hO with ⟨h0,_⟩ | ⟨Ko,Vo,ho243,rfl,hHo⟩
  ·rw [<-List.length_eq_zero_iff,Eo,hol] at h0; omega
  rw [Eo,hol] at f11
  have hKol:=Fe hHo (by simp)
  have hel:∀i,i<D.length+1->∃y:Nat,(nI6 (Dy D))[i]? = some (y:Int)/\(Dy D)[i]? = some y:=fun i hi=>by
   have hi2:i<(Dy D).length:=by rw [Hb]; exact hi
   exact ⟨_,Xx hi2,List.getElem?_eq_getElem hi2⟩
  refine Dd (fun M st=>∃i:Nat,M=D.length+1-i/\i<=D.length+1/\At st.env [(10,xt),(11,.oslice Ko Vo none 0 (D.length+1) none),(16,.int .i64 (dp:Nat)),(17,.oslice h.length 0 none 0 (D.length+1) (some (D.length+1))),(18,.int .i64 (if Db D dp<i then ((Db D dp:Nat):Int) else 0)),(19,.int .i64 (i:Nat))]/\st.heap=setH h h.length (.cells 0 ((List.replicate (D.length+1) (0:Int)).map (.int .i64)))) (D.length+1) (by omega)
   ⟨0,by omega,by omega,by (simp only [go_sem,↓reduceIte,f10,f11]) <;> simp,rfl⟩ ?_
  clear f0 f1 f2 f5 f7 f9 f10 f11 f12
  rintro M e2 h4 hM2 ⟨i,hMi,hi,hE2,hh4⟩ P2 hP2
  obtain rfl:h4=setH h h.length (.cells 0 ((List.replicate (D.length+1) (0:Int)).map (.int .i64))):=hh4
  simp only [Bt,By] at hE2
  obtain ⟨f10,f11,f16,f17,f18,f19,-⟩:=hE2
  have gO4:Bb (setH h h.length (.cells 0 ((List.replicate (D.length+1) (0:Int)).map (.int .i64)))) Ko = .cells Vo ((nI6 (Dy D)).map (.int .i64)):=by rw [Ba _ _ _ _ (by omega),hHo]
  by_cases hi1:i<D.length+1
  ·obtain ⟨y,y1,y2⟩:=hel i hi1
   have r1:decide (i<D.length+1)=true:=decide_eq_true hi1
   have r2:decide ((i:Int)<(D.length:Int)+1)=true:=decide_eq_true (by omega)
   have r3:(i<D.length+1)=True:=eq_true hi1
   by_cases hyd:y=dp
   ·subst hyd
    have hip:=A8h hdpl y2
    have r4:((y:Int)==(y:Int))=true:=by simp
    simp (disch:=first | assumption | omega) only [go_sem,↓reduceIte,f10,f11,f16,f17,f18,f19,r1,r2,r3,gO4,y1,r4]
    exact hP2 (D.length+1-(i+1)) _ (by omega) ⟨i+1,rfl,by omega,by rw [if_pos (show Db D y<i+1 by omega),<-hip]; (simp only [go_sem,↓reduceIte,f10,f11,f16,f17]) <;> simp,rfl⟩
   ·have r4:((y:Int)==(dp:Int))=false:=by simp; omega
    have hip:i≠Db D dp:=fun hc=>hyd (by
     have h9:=Nx hdpl
     rw [<-hc,y2] at h9
     exact Option.some.inj h9)
    have hif:(if Db D dp<i+1 then ((Db D dp:Nat):Int) else 0)=if Db D dp<i then ((Db D dp:Nat):Int) else 0:=by
     by_cases c:Db D dp<i
     ·rw [if_pos c,if_pos (by omega)]
     ·rw [if_neg c,if_neg (by omega)]
    simp (disch:=first | assumption | omega) only [go_sem,↓reduceIte,f10,f11,f16,f17,f18,f19,r1,r2,r3,gO4,y1,r4,Bool.false_eq_true]
    exact hP2 (D.length+1-(i+1)) _ (by omega) ⟨i+1,rfl,by omega,by rw [hif]; (simp only [go_sem,↓reduceIte,f10,f11,f16,f17,f18]) <;> simp,rfl⟩
  obtain rfl:i=D.length+1:=by omega
  rw [if_pos (by omega)] at f18
  have r1:decide (D.length+1<D.length+1)=false:=decide_eq_false (by omega)
  have r3:(Db D dp<D.length+1)=True:=eq_true (by omega)
  have hrl:(List.replicate (D.length+1) (0:Int)).length=D.length+1:=by simp
  have hone:(List.replicate (D.length+1) (0:Int)).set (Db D dp) 1=Vx (D.length+1) (Db D dp):=rfl
  simp (disch:=first | assumption | omega) only [go_sem,↓reduceIte,f10,f11,f16,f17,f18,f19,r1,r3,hrl,Gf,List.length_map,Int.lt_irrefl,decide_false,Bool.false_eq_true]
  refine ⟨hpl,?_⟩
  have hT4:∀a b,Own 243 (setH (setH h h.length a) h.length b) xt .i64 (nI6 (Dy D)):=fun a b=>hT.other fun j hj=>by
   have:=hT.keyLt j hj
   rw [Ba _ _ _ _ (by omega),Ba _ _ _ _ (by omega)]
  have gO5:∀a b,Bb (setH (setH h h.length a) h.length b) Ko = .cells Vo ((nI6 (Dy D)).map (.int .i64)):=fun a b=>by rw [Ba _ _ _ _ (by omega),Ba _ _ _ _ (by omega),hHo]
  refine Apq (A8x hD11 hdpl) (by omega) (Dc (Hv (hT4 _ _)) (Dz _ _ _ (Bz _))) ?_
  simp (disch:=first | assumption | omega) only [go_sem,↓reduceIte,f10,f11,f16,f17,f18,f19]
  have hwl:((List.replicate (D.length+1) (0:Int)).set (Db D dp) 1).length=D.length+1:=by simp
  refine Dl (Aez (w:=(List.replicate (D.length+1) (0:Int)).set (Db D dp) 1) hD11 hone hdpl) (by omega) (Dc (Nv (ver:=0) (by simp only [Qf,if_true]) hwl.symm) (Dc (Hv (hT4 _ _)) (Bz _))) (by simp [Er,depth]) ?_
  have htl:(nI6 (trl D (dp+1))).length=dp+1:=by rw [Eo,Abt]
  have s1:(((dp+1:Nat):Int) != (dp:Int)+1)=false:=by simp
  have s2:(((dp:Int)+1) != (dp:Int)+1)=false:=by simp
  simp (disch:=first | assumption | omega) only [go_sem,↓reduceIte,f10,f11,f16,f17,f18,f19,e00,htl,s1,s2,Bool.false_eq_true]
  generalize hHH:setH (setH h h.length (.cells 0 ((List.replicate (D.length+1) (0:Int)).map (.int .i64)))) h.length (.cells 0 (((List.replicate (D.length+1) (0:Int)).set (Db D dp) 1).map (.int .i64)))=H
  have gOH:Bb H Ko = .cells Vo ((nI6 (Dy D)).map (.int .i64)):=by rw [<-hHH]; exact gO5 _ _
  refine Dd (fun M st=>∃i:Nat,M=dp+1-i/\i<=dp+1/\At st.env [(11,.oslice Ko Vo none 0 (D.length+1) none),(20,Fx (nI6 (trl D (dp+1)))),(24,.int .i64 (i:Nat))]/\Bb st.heap Ko = .cells Vo ((nI6 (Dy D)).map (.int .i64))) (dp+1) (by omega)
   ⟨0,by omega,by omega,by (simp only [go_sem,↓reduceIte,f11]) <;> simp,gOH⟩ ?_
  clear f10 f11 f16 f17 f18 f19
  rintro M e3 h5 hM3 ⟨i,hMi3,hi3,hE3,gO6⟩ P3 hP3
  simp only [Bt,By] at hE3 gO6
  obtain ⟨f11,f20,f24,-⟩:=hE3
  by_cases hi4:i<dp+1
  ·have r4:decide (i<dp+1)=true:=decide_eq_true hi4
   have r5:decide ((i:Int)<(dp:Int)+1)=true:=decide_eq_true (by omega)
   have t1:(nI6 (trl D (dp+1)))[i]? = some ((Db D i:Nat):Int):=Xw (Awa hi4)
   have hpi:=Mf (D:=D) (k:=i) (by omega)
   have t2:(nI6 (Dy D))[Db D i]? = some ((i:Nat):Int):=Xw (Nx (by omega))
   have r6:decide (((Db D i:Nat):Int)<0)=false:=decide_eq_false (by omega)
   have r7:decide (((Db D i:Nat):Int)>=(D.length:Int)+1)=false:=decide_eq_false (by omega)
   have r8:decide (Db D i>=D.length+1)=false:=decide_eq_false (by omega)
   have r9:decide (D.length+1<=Db D i)=false:=decide_eq_false (by omega)
   have r10:(Db D i<D.length+1)=True:=eq_true (by omega)
   have r11:((i:Int) != (i:Int))=false:=by simp
   simp (disch:=first | assumption | omega) only [go_sem,↓reduceIte,f11,f20,f24,htl,r4,r5,t1,t2,r6,r7,r8,r9,r10,r11,gO6,Bool.false_eq_true]
   exact hP3 (dp+1-(i+1)) _ (by omega) ⟨i+1,rfl,by omega,by (simp only [go_sem,↓reduceIte,f11,f20]) <;> simp,gO6⟩
  ·obtain rfl:i=dp+1:=by omega
   have r4:decide (dp+1<dp+1)=false:=decide_eq_false (by omega)
   simp (disch:=first | assumption | omega) only [go_sem,↓reduceIte,f11,f20,f24,htl,r4,hWs,Int.lt_irrefl,decide_false,Bool.false_eq_true]
end Go.Ev.YtbgodhhdojjbmaaGreatC.P1
