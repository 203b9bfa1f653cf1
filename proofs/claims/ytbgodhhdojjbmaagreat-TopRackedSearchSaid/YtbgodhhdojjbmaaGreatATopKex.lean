/- Entries of the works' calls that are proved by walks. The orders by their Due, as the program sorts them. The desk: orders with their work on a side. The kept orders, as the program finds them: a map of those that are kept, in whatever order it is ranged over. kept of layer 5 at the examples. No condition but those that stand in each. -/
import Derived.Test.YtbgodhhdojjbmaaGreatATopW
import Derived.Test.YtbgodhhdojjbmaaGreatAL5Prog2
import Derived.Test.YtbgodhhdojjbmaaGreatAEvKer3
set_option linter.unusedSimpArgs false
set_option linter.unusedVariables false
set_option maxRecDepth 100000
namespace Go.Ev.YtbgodhhdojjbmaaGreatC
open Go Go.Proofs
def Apq:AnsY:=⟨316,[(.ptr [(.slice (some 3) [.agg [wN 2,wN 3,wN 4],.agg [wN 1,wN 2,wN 3],.agg [wN 4,wN 4,wN 7],.agg [wN 3,wN 5,wN 8]] false),wI [2,1,4,3] false] 0)],.agg [wN 1,wN 1,wN 0,wN 1,wN 0,wN 0,wN 0,wN 0,wN 0,wN 0],false⟩
def Apr:AnsY:=⟨316,[(.ptr [(.slice (some 3) [.agg [wN 2,wN 3,wN 4],.agg [wN 1,wN 2,wN 3],.agg [wN 4,wN 4,wN 7],.agg [wN 3,wN 5,wN 8]] false),wI [3,2,4,5] false] 0)],.agg [wN 0,wN 1,wN 1,wN 0,wN 0,wN 0,wN 0,wN 0,wN 0,wN 0],false⟩
end Go.Ev.YtbgodhhdojjbmaaGreatC
namespace Go.Ev.YtbgodhhdojjbmaaGreatC.P5
open Go
open Go Go.Proofs
attribute [local irreducible] Res.all evC Do Dr Bv Bd Dw Bg Bj G GO GV GP GC R
def Hz (x y:Int):Int:=if x<y then -1 else if x>y then 1 else 0
theorem Adn {n base:Nat} {Q:EX×St->Prop} {d:Option Nat} {L:List IOper} {ks:List Kont} {e:Env} {h:Bc} {x:Int} (hn:1<=n):GP (Bg T n) base Q d L ks e (Bg T n false (.fn 463) [.int .i64 x] h)=GO (Bg T n) base Q L ks ⟨Bk e d (.bool false),h⟩:=by
 have c:Con T 1 463 [.int .i64 x] (.bool false):=by
  refine Dd t97 fun n hn V hV => ?_
  have hb:(x != x)=false:=by simp
  simp (disch:=first | assumption | omega) only [c97,go_sem,↓reduceIte,hb]
  exact hV _ _ (Ea _ _ _)
 exact Hb c hn (by repeat (first | exact Dt _ | refine Fi _ _ _ _ ?_ | refine Fw _ _ _ ?_)) rfl
theorem Ado {n base:Nat} {Q:EX×St->Prop} {d:Option Nat} {L:List IOper} {ks:List Kont} {e:Env} {h:Bc} {x:Int} (hn:1<=n):GP (Bg T n) base Q d L ks e (Bg T n false (.fn 130) [.int .i64 x] h)=GO (Bg T n) base Q L ks ⟨Bk e d (.bool false),h⟩:=by
 have c:Con T 1 130 [.int .i64 x] (.bool false):=by
  refine Dd t99 fun n hn V hV => ?_
  have hb:(x != x)=false:=by simp
  simp (disch:=first | assumption | omega) only [c99,go_sem,↓reduceIte,hb]
  exact hV _ _ (Ea _ _ _)
 exact Hb c hn (by repeat (first | exact Dt _ | refine Fi _ _ _ _ ?_ | refine Fw _ _ _ ?_)) rfl
theorem Aol {n base:Nat} {Q:EX×St->Prop} {d:Option Nat} {L:List IOper} {ks:List Kont} {e:Env} {h:Bc} {x y:Int} (hn:2<=n):GP (Bg T n) base Q d L ks e (Bg T n false (.fn 395) [.int .i64 x,.int .i64 y] h)=GO (Bg T n) base Q L ks ⟨Bk e d (.int .i64 (Hz x y)),h⟩:=by
 have c:Con T 2 395 [.int .i64 x,.int .i64 y] (.int .i64 (Hz x y)):=by
  refine Dd t87 fun n hn V hV => ?_
  unfold Hz at hV
  by_cases g1:x<y
  ·simp (disch:=first | assumption | omega) only [c87,go_sem,↓reduceIte,Adn,g1]
   exact hV _ _ (by rw [if_pos g1,Bq])
  by_cases g2:x>y
  ·simp (disch:=first | assumption | omega) only [c87,go_sem,↓reduceIte,Adn,g1,g2]
   exact hV _ _ (by rw [if_neg g1,if_pos g2,Bq])
  ·simp (disch:=first | assumption | omega) only [c87,go_sem,↓reduceIte,Adn,g1,g2]
   exact hV _ _ (by rw [if_neg g1,if_neg g2,Bq])
 exact Hb c hn (by repeat (first | exact Dt _ | refine Fi _ _ _ _ ?_ | refine Fw _ _ _ ?_)) rfl
theorem B1r {n base:Nat} {Q:EX×St->Prop} {d:Option Nat} {L:List IOper} {ks:List Kont} {e:Env} {h:Bc} {x y:Int} (hn:2<=n):GP (Bg T n) base Q d L ks e (Bg T n false (.fn 91) [.int .i64 x,.int .i64 y] h)=GO (Bg T n) base Q L ks ⟨Bk e d (.int .i64 (Hz x y)),h⟩:=by
 have c:Con T 2 91 [.int .i64 x,.int .i64 y] (.int .i64 (Hz x y)):=by
  refine Dd t92 fun n hn V hV => ?_
  unfold Hz at hV
  by_cases g1:x<y
  ·simp (disch:=first | assumption | omega) only [c92,go_sem,↓reduceIte,Ado,g1]
   exact hV _ _ (by rw [if_pos g1,Bq])
  by_cases g2:x>y
  ·simp (disch:=first | assumption | omega) only [c92,go_sem,↓reduceIte,Ado,g1,g2]
   exact hV _ _ (by rw [if_neg g1,if_pos g2,Bq])
  ·simp (disch:=first | assumption | omega) only [c92,go_sem,↓reduceIte,Ado,g1,g2]
   exact hV _ _ (by rw [if_neg g1,if_neg g2,Bq])
 exact Hb c hn (by repeat (first | exact Dt _ | refine Fi _ _ _ _ ?_ | refine Fw _ _ _ ?_)) rfl
theorem Avy (l:List Order) (x y:Int) (hx:0<=x/\x<l.length) (hy:0<=y/\y<l.length):Con T 3 394 [.int .i64 x,.int .i64 y,.ptr [Zi l] 0] (.int .i64 (Hz (Eu l x) (Eu l y))):=by
 refine Dd t86 fun n hn V hV => ?_
 obtain ⟨i,rfl⟩:=Int.eq_ofNat_of_zero_le hx.1
 obtain ⟨j,rfl⟩:=Int.eq_ofNat_of_zero_le hy.1
 obtain ⟨a,ha⟩:=Gy (l:=l) (i:=i) (by omega)
 obtain ⟨b,hb⟩:=Gy (l:=l) (i:=j) (by omega)
 simp (disch:=first | assumption | omega) only [c86,go_sem,↓reduceIte,ha,hb,oAV,Aol]
 refine hV _ _ ?_
 rw [Bq]
 simp [Eu,ha,hb]
theorem Abt (x y:Int):decide (Hz x y<0)=decide (x<y):=by
 rw [Bool.eq_iff_iff]
 simp only [decide_eq_true_eq,Hz]
 split
 ·simp_all
 ·split <;> simp_all <;> omega
theorem Aod (a:List Int) (y x:Int) (b:List Int) (j:Nat) (hj:j=a.length):((a++y::x::b).set (j+1) y).set j x=a++x::y::b:=by
 subst hj
 rw [List.set_append_right _ _ (by omega),List.set_append_right _ _ (by omega)]
 simp
def A6b (l:List Order) (xs:List Int) (key ver k1 v1:Nat) (h:Bc):Prop:=Bb h key = .cells ver (xs.map (.int .i64))/\Bb h k1 = .cells v1 [Zi l]/\key≠k1/\key<h.length/\k1<h.length
def A1y (ys:List Int) (key ver:Nat) (h h':Bc):Prop:=Bb h' key = .cells ver (ys.map (.int .i64))/\h.length<=h'.length/\∀k,k<h.length->k≠key->Bb h' k=Bb h k
theorem Aui (l:List Order) (xs:List Int) (key ver k1 v1:Nat) (cap:Option Nat) (hl:xs.length<=15) (hx:∀x∈xs,0<=x/\x<l.length) {n:Nat} (hn:4<=n) (h:Bc) (V:AV×Bc->Prop) (hpre:A6b l xs key ver k1 v1 h)
  (hV:∀v h',A1y (Fa (Eu l) [] xs) key ver h h'->V (v,h')):(Bg T n true (.fn 501) [.oslice key ver none 0 xs.length cap,.int .i64 0,.int .i64 xs.length,.clo 394 [] [.optr k1 v1 0]] h).all V:=by
 obtain ⟨m,rfl⟩:∃m,n=m+1:=⟨n-1,by omega⟩
 rw [Ew t100]
 obtain ⟨p1,p2,p3,p4,p5⟩:=hpre
 have hfin:∀(h':Bc) (v:AV),Bb h' key = .cells ver ((Fa (Eu l) [] xs).map (.int .i64))->h.length<=h'.length->(∀k,k<h.length->k≠key->Bb h' k=Bb h k)->V (v,h'):=fun h' v a b c=>hV v h' ⟨a,b,c⟩
 clear hV
 match xs,hl,hx,p1,hfin with
 | [],hl,hx,p1,hfin =>
  have hlt:¬((1:Int)<0):=by omega
  simp (disch:=first | assumption | omega) only [c100,go_sem,↓reduceIte,hlt]
  refine Ls fun P => ?_
  simp (disch:=first | assumption | omega) only [go_sem,↓reduceIte,hlt]
  refine hfin _ _ ?_ ?_ ?_
  ·rw [Bi,p1]; rfl
  ·simp
  ·intro k hk hne
   rw [Bi]
 | x0::xs,hl,hx,p1,hfin =>
 simp (disch:=first | assumption | omega) only [c100,go_sem,↓reduceIte]
 simp only [List.length_cons] at hl
 refine Dm (fun M st=>∃(c done rest:List Int),M=xs.length+1-done.length/\c=done++rest/\c.length=xs.length+1/\(∀x∈c,0<=x/\x<l.length)/\Fa (Eu l) done rest=Fa (Eu l) [] (x0::xs)/\
  At st.env [(0,.oslice key ver none 0 (xs.length+1) cap),(1,.int .i64 0),(2,.int .i64 (xs.length+1:Nat)),(3,.clo 394 [] [.optr k1 v1 0]),(8,.int .i64 done.length)]/\Bb st.heap key = .cells ver (c.map (.int .i64))/\h.length<=st.heap.length/\(∀k,k<h.length->k≠key->Bb st.heap k=Bb h k)) xs.length (by omega) ⟨x0::xs,[x0],xs,by simp,rfl,rfl,hx,rfl,by simp [go_sem,↓reduceIte],by rw [Bi,p1],by simp,fun k hk hne=>Bi _ _ _⟩ ?_
 rintro M e h2 hM ⟨c,done,rest,rfl,hc,hcl,hcx,hiso,hE,hH,hlen,hoth⟩ P hP
 simp only [Bz,Dc] at hE hH hlen hoth
 obtain ⟨h0,h1,h2',h3,h8,-⟩:=hE
 have hdl:done.length+rest.length=xs.length+1:=by rw [<-hcl,hc,List.length_append]
 by_cases hlt:done.length<xs.length+1
 ·match rest,hc,hiso,hdl with
  | [],hc,hiso,hdl=>simp at hdl; omega
  | x::rest,hc,hiso,hdl =>
  have hlt':(done.length:Int)<(xs.length:Int)+1:=by omega
  simp (disch:=first | assumption | omega) only [go_sem,↓reduceIte,h0,h1,h2',h3,h8,hlt']
  simp only [List.length_cons] at hdl
  refine Dm (fun M st=>∃(pr post c:List Int),M=pr.length/\c=pr.reverse++x::(post++rest)/\c.length=xs.length+1/\(∀x∈c,0<=x/\x<l.length)/\bub (Eu l) pr x post=bub (Eu l) done.reverse x []/\pr.length+post.length=done.length/\
   At st.env [(0,.oslice key ver none 0 (xs.length+1) cap),(1,.int .i64 0),(2,.int .i64 (xs.length+1:Nat)),(3,.clo 394 [] [.optr k1 v1 0]),(8,.int .i64 done.length),(9,.int .i64 pr.length)]/\Bb st.heap key = .cells ver (c.map (.int .i64))/\h.length<=st.heap.length/\(∀k,k<h.length->k≠key->Bb st.heap k=Bb h k)) done.length (by omega)
   ⟨done.reverse,[],c,by simp,by simp [hc],hcl,hcx,rfl,by simp,by simp [go_sem,↓reduceIte,h0,h1,h2',h3,h8],hH,hlen,hoth⟩ ?_
  rintro M e h4 hM ⟨pr,post,c,rfl,hc,hcl,hcx,hbub,hpl,hE,hH,hlen,hoth⟩ P2 hP2
  simp only [Bz,Dc] at hE hH hlen hoth
  obtain ⟨h0,h1,h2',h3,h8,h9,-⟩:=hE
  have hk1:Bb h4 k1 = .cells v1 [Zi l]:=by rw [hoth k1 p5 (Ne.symm p3),p2]
  have hdone:∀ys,ys=bub (Eu l) done.reverse x []->ys.length=done.length+1/\Fa (Eu l) ys rest=Fa (Eu l) [] (x0::xs):=fun ys hy=>by
   constructor
   ·rw [hy,A0d]; simp
   ·rw [hy,<-hiso]; rfl
  have hstop:∀e:Env,At e [(0,.oslice key ver none 0 (xs.length+1) cap),(1,.int .i64 0),(2,.int .i64 (xs.length+1:Nat)),(3,.clo 394 [] [.optr k1 v1 0]),(8,.int .i64 ((done.length:Int)+1))]->pr.reverse++x::post=bub (Eu l) done.reverse x []->P ⟨e,h4⟩:=fun e he hb=>by
   obtain ⟨g1,g2⟩:=hdone _ hb
   refine hP (xs.length+1-(done.length+1)) _ (by simp; omega) ⟨c,pr.reverse++x::post,rest,by rw [g1],by rw [hc]; simp,hcl,hcx,g2,?_,hH,hlen,hoth⟩
   rw [g1]
   exact he
  match pr,hM,hc,hbub,hpl,h9,hP2,hstop with
  | [],hM,hc,hbub,hpl,h9,hP2,hstop =>
   have z:¬((0:Int)>0):=by omega
   simp (disch:=first | assumption | omega) only [go_sem,↓reduceIte,h0,h1,h2',h3,h8,h9,z]
   refine hstop _ (by simp only [go_sem,↓reduceIte,h0,h1,h2',h3]) ?_
   rw [<-hbub]
   rfl
  | y::r,hM,hc,hbub,hpl,h9,hP2,hstop =>
   have hcl':r.length+1+1+(post++rest).length=xs.length+1:=by rw [<-hcl,hc]; simp; omega
   have hy:c[r.length]? = some y:=by rw [hc]; simp
   have hx':c[r.length+1]? = some x:=by rw [hc]; simp
   have hyb:=hcx y (List.mem_of_getElem? hy)
   have hxb:=hcx x (List.mem_of_getElem? hx')
   simp only [List.length_append] at hcl'
   simp only [List.length_cons] at h9 hpl
   have z:((r.length:Int)+1>0):=by omega
   simp (disch:=first | assumption | omega) only [go_sem,↓reduceIte,h0,h1,h2',h3,h8,h9,z,hH,hx',hy,Int.add_sub_cancel]
   first | refine ⟨by omega,by omega,?_⟩ | refine ⟨by omega,?_⟩ | skip
   refine Ee (Avy l x y hxb hyb) (show 3<=m by omega) (Fw _ _ _ (Fw _ _ _ (Dj (Ge hk1 (Db (Dv _ _ _ _ _) (Dp _ _))) (Dt _)))) (Gt _ _ _) ?_
   by_cases hf:Eu l x<Eu l y
   ·have hf':decide (Hz (Eu l x) (Eu l y)<0)=true:=by rw [Abt]; simp [hf]
    simp (disch:=first | assumption | omega) only [go_sem,↓reduceIte,h0,h1,h2',h3,h8,h9,hf',hH,hx',hy,Int.add_sub_cancel]
    have hswap:(c.set (r.length+1) y).set r.length x=r.reverse++x::(y::post++rest):=by
     rw [hc,List.reverse_cons,List.append_assoc]
     exact Aod r.reverse y x (post++rest) r.length (by simp)
    iterate 8 (try refine And.intro (by first | omega | (rw [List.length_set]; omega)) ?_)
    refine hP2 r.length _ (by simp) ⟨r,y::post,(c.set (r.length+1) y).set r.length x,rfl,hswap,by simp [hcl],?_,?_,by simp; omega,by simp only [go_sem,↓reduceIte,h0,h1,h2',h3,h8],by simp only [go_sem,↓reduceIte],by simp only [go_sem,↓reduceIte]; omega,?_⟩
    ·intro z hz
     rw [hswap] at hz
     apply hcx
     rw [hc]
     simp only [List.mem_append,List.mem_cons,List.mem_reverse,List.reverse_cons] at hz ⊢
     rcases hz with h | h | (h | h) | h <;> simp [h]
    ·rw [<-hbub]
     conv=>rhs; rw [bub,if_pos hf]
    ·intro k hk hne
     have hne':¬key=k:=fun h=>hne h.symm
     simp only [go_sem,↓reduceIte,hne']
     exact hoth k hk hne
   ·have hf':decide (Hz (Eu l x) (Eu l y)<0)=false:=by rw [Abt]; simp; omega
    simp (disch:=first | assumption | omega) only [go_sem,↓reduceIte,h0,h1,h2',h3,h8,h9,hf']
    refine hstop _ (by simp only [go_sem,↓reduceIte,h0,h1,h2',h3]) ?_
    rw [<-hbub,bub,if_neg hf]
    simp
 ·have hlt':¬(done.length:Int)<(xs.length:Int)+1:=by omega
  simp (disch:=first | assumption | omega) only [go_sem,↓reduceIte,h0,h1,h2',h3,h8,hlt']
  have:rest=[]:=by cases rest with | nil=>rfl | cons a b=>simp at hdl; omega
  subst this
  exact hfin _ _ (by rw [hH,hc,<-hiso,List.append_nil]; rfl) hlen hoth
theorem Azv (l:List Order) (xs:List Int) (key ver k1 v1:Nat) (cap:Option Nat) (hl:xs.length<=15) (hx:∀x∈xs,0<=x/\x<l.length) {n:Nat} (hn:5<=n) (h:Bc) (V:AV×Bc->Prop) (hpre:A6b l xs key ver k1 v1 h)
  (hV:∀v h',A1y (Fa (Eu l) [] xs) key ver h h'->V (v,h')):(Bg T n true (.fn 462) [.oslice key ver none 0 xs.length cap,.int .i64 xs.length,.clo 394 [] [.optr k1 v1 0]] h).all V:=by
 obtain ⟨m,rfl⟩:∃m,n=m+1:=⟨n-1,by omega⟩
 rw [Ew t96]
 obtain ⟨p1,p2,p3,p4,p5⟩:=hpre
 have g20:¬((20:Int)<=xs.length):=by omega
 simp (disch:=first | assumption | omega) only [c96,go_sem,↓reduceIte]
 refine Ls fun P => ?_
 simp (disch:=first | assumption | omega) only [go_sem,↓reduceIte,g20]
 refine Gi (Aui l xs key ver k1 v1 cap hl hx (n:=m) (by omega) (h++List.replicate 63 .none) _ ⟨by rw [Bi]; exact p1,by rw [Bi]; exact p2,p3,by rw [List.length_append]; omega,by rw [List.length_append]; omega⟩ ?_)
 rintro v h' ⟨q1,q2,q3⟩
 have g21:¬((20:Int)<xs.length):=by omega
 simp (disch:=first | assumption | omega) only [go_sem,↓reduceIte]
 refine Ls fun P => ?_
 simp (disch:=first | assumption | omega) only [go_sem,↓reduceIte,g21]
 rw [List.length_append] at q2
 refine hV _ _ ⟨q1,by omega,fun k hk hne => ?_⟩
 rw [q3 k (by rw [List.length_append]; omega) hne,Bi]
theorem Azu (l:List Order) (xs:List Int) (key ver k1 v1:Nat) (cap:Option Nat) (hl:xs.length<=15) (hx:∀x∈xs,0<=x/\x<l.length) {n:Nat} (hn:6<=n) (h:Bc) (V:AV×Bc->Prop) (hpre:A6b l xs key ver k1 v1 h)
  (hV:∀v h',A1y (Fa (Eu l) [] xs) key ver h h'->V (v,h')):(Bg T n true (.fn 393) [.oslice key ver none 0 xs.length cap,.clo 394 [] [.optr k1 v1 0]] h).all V:=by
 obtain ⟨m,rfl⟩:∃m,n=m+1:=⟨n-1,by omega⟩
 rw [Ew t85]
 obtain ⟨p1,p2,p3,p4,p5⟩:=hpre
 simp (disch:=first | assumption | omega) only [c85,go_sem,↓reduceIte]
 refine Gi (Azv l xs key ver k1 v1 cap hl hx (n:=m) (by omega) (h++List.replicate 9 .none) _ ⟨by rw [Bi]; exact p1,by rw [Bi]; exact p2,p3,by rw [List.length_append]; omega,by rw [List.length_append]; omega⟩ ?_)
 rintro v h' ⟨q1,q2,q3⟩
 simp (disch:=first | assumption | omega) only [go_sem,↓reduceIte]
 rw [List.length_append] at q2
 refine hV _ _ ⟨q1,by omega,fun k hk hne => ?_⟩
 rw [q3 k (by rw [List.length_append]; omega) hne,Bi]
theorem Abj (c:AV) {n:Nat} (hn:4<=n) (h:Bc) (V:AV×Bc->Prop) (hV:∀v h',(∀k,k<h.length->Bb h' k=Bb h k)->V (v,h')):(Bg T n true (.fn 501) [.slice none [] true,.int .i64 0,.int .i64 0,c] h).all V:=by
 obtain ⟨m,rfl⟩:∃m,n=m+1:=⟨n-1,by omega⟩
 rw [Ew t100]
 have hlt:¬((1:Int)<0):=by omega
 simp (disch:=first | assumption | omega) only [c100,go_sem,↓reduceIte]
 refine Ls fun P => ?_
 simp (disch:=first | assumption | omega) only [go_sem,↓reduceIte,hlt]
 refine hV _ _ fun k hk => ?_
 rw [Bi]
theorem Afr (c:AV) {n:Nat} (hn:5<=n) (h:Bc) (V:AV×Bc->Prop) (hV:∀v h',(∀k,k<h.length->Bb h' k=Bb h k)->V (v,h')):(Bg T n true (.fn 462) [.slice none [] true,.int .i64 0,c] h).all V:=by
 obtain ⟨m,rfl⟩:∃m,n=m+1:=⟨n-1,by omega⟩
 rw [Ew t96]
 have hlt:¬((20:Int)<=0):=by omega
 have hlt2:¬((20:Int)<0):=by omega
 simp (disch:=first | assumption | omega) only [c96,go_sem,↓reduceIte]
 refine Ls fun P => ?_
 simp (disch:=first | assumption | omega) only [go_sem,↓reduceIte,hlt]
 refine Gi (Abj c (n:=m) (by omega) (h++List.replicate 63 .none) _ fun v h' hh => ?_)
 simp (disch:=first | assumption | omega) only [go_sem,↓reduceIte]
 refine Ls fun P => ?_
 simp (disch:=first | assumption | omega) only [go_sem,↓reduceIte,hlt2]
 refine hV _ _ fun k hk => ?_
 rw [hh k (by rw [List.length_append]; omega),Bi]
theorem Afq (c:AV) {n:Nat} (hn:6<=n) (h:Bc) (V:AV×Bc->Prop) (hV:∀v h',(∀k,k<h.length->Bb h' k=Bb h k)->V (v,h')):(Bg T n true (.fn 393) [.slice none [] true,c] h).all V:=by
 obtain ⟨m,rfl⟩:∃m,n=m+1:=⟨n-1,by omega⟩
 rw [Ew t85]
 simp (disch:=first | assumption | omega) only [c85,go_sem,↓reduceIte]
 refine Gi (Afr c (n:=m) (by omega) (h++List.replicate 9 .none) _ fun v h' hh => ?_)
 simp (disch:=first | assumption | omega) only [go_sem,↓reduceIte]
 refine hV _ _ fun k hk => ?_
 rw [hh k (by rw [List.length_append]; omega),Bi]
theorem Alh {n k:Nat} (hk:k<n):(idx n).take (k+1)=(idx n).take k++[(k:Int)]:=by
 rw [List.take_add_one,show (idx n)[k]? = some (k:Int) by simp [idx,hk]]
 rfl
theorem Avx (l:List Order) (hl:l.length<=15):Con T 7 307 [.agg [Zi l]] (Wo (Eb l)):=by
 refine Dd t68 fun n hn V hV => ?_
 simp (disch:=first | assumption | omega) only [c68,go_sem,↓reduceIte]
 refine Dm (fun M st=>∃(k:Nat) (v:AV),M=l.length-k/\k<=l.length/\At st.env [(1,.optr 1 0 0),(3,v),(7,.int .i64 l.length),(8,.int .i64 k)]/\Own 20 st.heap v .i64 ((idx l.length).take k)/\Bb st.heap 1 = .cells 0 [Zi l]/\20<=st.heap.length) l.length (by omega)
  ⟨0,.slice none [] true,by simp,by omega,by simp [go_sem,↓reduceIte],Il ..,by simp [go_sem,↓reduceIte],by simp [go_sem,↓reduceIte]⟩ ?_
 rintro M e h hM ⟨k,v,rfl,hk,hE,hO,hH,hlen⟩ P hP
 simp only [Bz,Dc] at hE hO hH hlen
 obtain ⟨h1,h3,h7,h8,-⟩:=hE
 by_cases hlt:k<l.length
 ·simp (disch:=first | assumption | omega) only [go_sem,↓reduceIte,h1,h3,h7,h8,hlt]
  refine Gq (by first | with_reducible rfl | (simp only [Bh,List.length_append,List.length_replicate]; done) | (simp only [Bh,List.length_append,List.length_replicate]; omega)) hO hlen (by simp; omega) fun x' h' hO' hF hL _ _ => ?_
  simp (disch:=first | assumption | omega) only [go_sem,↓reduceIte,h1,h3,h7,h8]
  exact hP (l.length-(k+1)) _ (by omega) ⟨k+1,x',rfl,by omega,by simp only [go_sem,↓reduceIte,h1,h7],by rw [Alh hlt]; exact hO',by rw [hF 1 (by omega)]; exact hH,Nat.le_trans hlen hL⟩
 ·simp (disch:=first | assumption | omega) only [go_sem,↓reduceIte,h1,h3,h7,h8,hlt]
  obtain rfl:k=l.length:=by omega
  rw [List.take_of_length_le (by rw [Gr]; omega)] at hO
  rcases hO with ⟨hnil,rfl⟩ | ⟨key,ver,hk20,rfl,hH2⟩
  ·refine Gi (Afq _ (n:=n) (by omega) h _ fun v h' hh => ?_)
   simp (disch:=first | assumption | omega) only [go_sem,↓reduceIte,h3]
   have h0:l.length=0:=by rw [<-Gr l.length,hnil]; rfl
   exact hV _ _ (by rw [Dv,Eb,h0]; rfl)
  ·rw [Gr]
   rw [Gr] at h3
   have:=Azu l (idx l.length) key ver 1 0 none (by rw [Gr]; omega) (fun x hx=>Xy.1 hx) (n:=n) (by omega) h
   rw [Gr] at this
   refine Gi (this _ ⟨hH2,hH,by omega,Fm hH2 (by simp),Fm hH (by simp)⟩ ?_)
   rintro v h' ⟨q1,q2,q3⟩
   simp (disch:=first | assumption | omega) only [go_sem,↓reduceIte,h3]
   exact hV _ _ (by rw [A2h q1 (Xb l).symm]; rfl)
theorem B1p {n base:Nat} {Q:EX×St->Prop} {d:Option Nat} {L:List IOper} {ks:List Kont} {e:Env} {h:Bc} {l:List Order} (hn:7<=n) (hl:l.length<=15):GP (Bg T n) base Q d L ks e (Bg T n false (.fn 307) [.agg [.slice (some 3) (l.map oAV) false]] h)=GO (Bg T n) base Q L ks ⟨Bk e d (Wo (Eb l)),h⟩:=by
 refine Hb (Avx l hl) hn (Dj ?_ (Dt _)) rfl
 rw [Bj]
 simp only [Db (Dv _ _ _ _ _) (Dp _ _)]
 rfl
def deskV (l:List Order) (s:Int):AV:=.ptr [Zi l,Wo (Ha l s)] 0
theorem Abm (l:List Order) (s:Int):(Ha l s).length=l.length:=by simp [Ha]
theorem Ald (h:Bc) (n:Nat) (l:List Order) (s:Int):Bj h (n+1) (deskV l s) = .ret (deskV l s):=Eq _ _ _ _
theorem Awb (a b:Int):Con T 1 400 [Wo [a,b]] (.int .i64 (if a≠0 then a else b)):=by
 refine Dd t91 fun n hn V hV => ?_
 simp (disch:=first | assumption | omega) only [c91,go_sem,↓reduceIte]
 refine Dm (fun M st=>∃k:Nat,M=2-k/\k<=2/\At st.env [(3,.int .i64 0),(6,Wo [a,b]),(7,.int .i64 2),(8,.int .i64 k)]/\(0<k->a=0)/\(1<k->b=0)) 2 (by omega) ⟨0,by simp,by omega,by simp [go_sem,↓reduceIte],by simp,by simp⟩ ?_
 rintro M e h hM ⟨k,rfl,hk,hE,hA,hB⟩ P hP
 simp only [Bz,Dc] at hE
 obtain ⟨h3,h6,h7,h8,-⟩:=hE
 match k,hk with
 | 0,_ =>
  have hlt:((0:Int)<2):=by omega
  by_cases ha:a=0
  ·have ha':(a != 0)=false:=by simp [ha]
   simp (disch:=first | assumption | omega) only [go_sem,↓reduceIte,h3,h6,h7,h8,hlt,ha']
   exact hP 1 _ (by omega) ⟨1,rfl,by omega,by simp only [go_sem,↓reduceIte,h3,h6,h7],fun _=>ha,by simp⟩
  ·have ha':(a != 0)=true:=by simp [ha]
   simp (disch:=first | assumption | omega) only [go_sem,↓reduceIte,h3,h6,h7,h8,hlt,ha']
   exact hV _ _ (by rw [Bq,if_pos ha])
 | 1,_ =>
  have hlt:((1:Int)<2):=by omega
  by_cases hb:b=0
  ·have hb':(b != 0)=false:=by simp [hb]
   simp (disch:=first | assumption | omega) only [go_sem,↓reduceIte,h3,h6,h7,h8,hlt,hb',Int.natCast_one]
   exact hP 0 _ (by omega) ⟨2,rfl,by omega,by simp only [go_sem,↓reduceIte,h3,h6,h7]; rfl,fun _=>hA (by omega),fun _=>hb⟩
  ·have hb':(b != 0)=true:=by simp [hb]
   simp (disch:=first | assumption | omega) only [go_sem,↓reduceIte,h3,h6,h7,h8,hlt,hb',Int.natCast_one]
   exact hV _ _ (by rw [Bq,if_neg (by simpa using hA (by omega))])
 | 2,_ =>
  have hlt:¬(((2:Nat):Int)<2):=by omega
  simp (disch:=first | assumption | omega) only [go_sem,↓reduceIte,h3,h6,h7,h8,hlt]
  exact hV _ _ (by rw [Bq,hA (by omega),hB (by omega)]; rfl)
def Vu (w:List Int) (rk:Int->Nat) (a b:Int):Bool:=decide (wk w a>wk w b)||(decide (wk w a=wk w b)&&decide (rk a>rk b))
theorem Ass (h:Bc) (n:Nat) (l:List Int):mapR (Bj h (n+2)) (kz l) = .ret (kz l):=by
 induction l with
 | nil=>rfl
 | cons a r ih=>exact Db (Eo (Db (Bq _ _ _ _) (Dp _ _))) ih
theorem B1q {n base:Nat} {Q:EX×St->Prop} {d:Option Nat} {L:List IOper} {ks:List Kont} {e:Env} {h:Bc} {a b:Int} {x:Bool} (hn:1<=n):GP (Bg T n) base Q d L ks e (Bg T n false (.fn 400) [.slice none [.int .i64 a,.int .i64 b] x] h)=GO (Bg T n) base Q L ks ⟨Bk e d (.int .i64 (if a≠0 then a else b)),h⟩:=
 Hb (Awb a b) hn (Fi _ _ _ _ (Dt _)) rfl
theorem A6j (x y:Int):Hz x y>0↔x>y:=by
 unfold Hz
 by_cases h1:x<y
 ·simp [h1]; omega
 ·by_cases h2:x>y
  ·simp [h1,h2]
  ·simp [h1,h2]
theorem A3r (x y:Int):Hz x y=0↔x=y:=by
 unfold Hz
 by_cases h1:x<y
 ·simp [h1]; omega
 ·by_cases h2:x>y
  ·simp [h1,h2]; omega
  ·simp [h1,h2]; omega
theorem Agp (w:List Int) (rk:Int->Nat) (a b:Int):decide ((if Hz (wk w a) (wk w b)≠0 then Hz (wk w a) (wk w b) else Hz (rk a) (rk b))>0)=Vu w rk a b:=by
 rw [Bool.eq_iff_iff]
 simp only [decide_eq_true_eq,Vu,Bool.or_eq_true,Bool.and_eq_true]
 by_cases h0:Hz (wk w a) (wk w b)=0
 ·rw [if_neg (by simpa using h0),A6j]
  rw [A3r] at h0
  omega
 ·rw [if_pos h0,A6j]
  rw [A3r] at h0
  omega
theorem A1u {w:List Int} {i:Nat} {x:Int} (h:w[i]? = some x):x=wk w (i:Int):=by
 simp [wk,h]
theorem Awa (l:List Order) (w:List Int) (ks:List Int) (rk:Int->Nat) (a b:Int) (hw:w.length=l.length) (hk:∀x∈ks,0<=x/\x<l.length) (ha:a∈ks) (hb:b∈ks) :
  Con T 4 399 ([]++[.agg [.int .i64 a],.agg [.int .i64 b]]++[.ptr [.ptr [Zi l,Wo w] 0] 0,.ptr [.fmap (kz ks) (ks.map fun i => .int .i64 (rk i))] 0]) (.bool (Vu w rk a b)):=by
 refine Dd t90 fun n hn V hV => ?_
 have ha':=hk a ha
 have hb':=hk b hb
 obtain ⟨i,rfl⟩:=Int.eq_ofNat_of_zero_le ha'.1
 obtain ⟨j,rfl⟩:=Int.eq_ofNat_of_zero_le hb'.1
 obtain ⟨x,hx⟩:=Gy (l:=w) (i:=i) (by omega)
 obtain ⟨y,hy⟩:=Gy (l:=w) (i:=j) (by omega)
 have ex:=A1u hx
 have ey:=A1u hy
 subst ex ey
 have g:∀c:Int,c∈ks->(ks.map fun i=>AV.int .i64 (rk i))[0+ks.idxOf c]? = some (.int .i64 (rk c)):=fun c hc=>by
  rw [Nat.zero_add,List.getElem?_map,List.getElem?_eq_getElem (List.idxOf_lt_length_of_mem hc),List.getElem_idxOf]
  rfl
 have k1:lkA (some 1) (.int .i64 0) false (.agg [.int .i64 (i:Int)]) (some (kz ks,ks.map fun i => .int .i64 (rk i))) = .ret (.int .i64 (rk i)):=by
  simp only [lkA,Nw,Qb,if_pos ha,g _ ha]
  rfl
 have k2:lkA (some 1) (.int .i64 0) false (.agg [.int .i64 (j:Int)]) (some (kz ks,ks.map fun i => .int .i64 (rk i))) = .ret (.int .i64 (rk j)):=by
  simp only [lkA,Nw,Qb,if_pos hb,g _ hb]
  rfl
 simp (disch:=first | assumption | omega) only [c90,go_sem,↓reduceIte,Bw,hx,hy,Aol,B1r,B1q,Gb,k1,k2]
 refine hV _ _ ?_
 rw [Ea,Agp]
theorem Avz {k f:Nat} {first cap:List AV} {p:Int->Int->Bool} (xs:List Int) (r:Int) (hl:xs.length<=1000) (h0:0<xs.length) (hc:∀x∈xs,∀y∈xs,Con T k f (first++[.agg [.int .i64 x],.agg [.int .i64 y]]++cap) (.bool (p x y)))
  (hz:∀h x y,fz h (first++[.agg [.int .i64 x],.agg [.int .i64 y]]++cap) = .ret (first++[.agg [.int .i64 x],.agg [.int .i64 y]]++cap)) (hr:xs.tail.foldl (fun m x=>if p x m then x else m) (xs.headD 0)=r) :
  Con T (k+1) 398 [.slice (some 1) (kz xs) false,.clo f first cap] (.agg [.int .i64 r]):=by
 refine Dd t89 fun n hn V hV => ?_
 obtain ⟨a,ha⟩:=Gy h0
 have h1:(1:Int)<=xs.length:=by omega
 have hz1:(0:Int)<=1:=by omega
 have hn1:Int.toNat 1=1:=rfl
 have hkl:(kz xs).length=xs.length:=by simp [kz]
 have hka:(kz xs)[0]? = some (.agg [.int .i64 a]):=by simp only [kz,List.getElem?_map,ha]; rfl
 have hle:(1:Nat)<=1:=by omega
 simp (disch:=first | assumption | omega) only [c89,go_sem,↓reduceIte,hka,h1,hz1,hn1,hkl,List.length_drop]
 have hal:∀(m:Int),m∈xs->m∈xs:=fun _ h=>h
 have ham:a∈xs:=List.mem_of_getElem? ha
 refine Dm (fun M st=>∃(k:Nat) (m:Int) (v5:Nat),M=xs.length-1-k/\k<=xs.length-1/\m∈xs/\At st.env [(0,.slice (some 1) (kz xs) false),(1,.clo f first cap),(4,.optr 4 0 0),(5,.optr 5 v5 0),(12,.slice (some 1) ((kz xs).drop 1) false),(13,.int .i64 (xs.length-1:Nat)),(14,.int .i64 k)]/\
  Bb st.heap 4 = .cells 0 [.int .i64 0]/\Bb st.heap 5 = .cells v5 [.int .i64 m]/\
  ((xs.drop 1).drop k).foldl (fun m x=>if p x m then x else m) m=r) (xs.length-1) (by omega) ⟨0,a,0,by simp,by omega,ham,by simp [go_sem,↓reduceIte],by simp [go_sem,↓reduceIte],by simp [go_sem,↓reduceIte],?_⟩ ?_
 ·rw [<-hr]
  have:=Hv ha
  rw [List.drop_zero] at this
  conv=>rhs; rw [this]
  simp
 rintro M e h hM ⟨k,m,v5,rfl,hk,hmm,hE,hH4,hH5,hR⟩ P hP
 simp only [Bz,Dc] at hE hH4 hH5
 obtain ⟨h0,h1,h4,h5,h12,h13,h14,-⟩:=hE
 by_cases hlt:k<xs.length-1
 ·obtain ⟨x,hx⟩:=Gy (l:=xs.drop 1) (i:=k) (by simp; omega)
  rw [Hv hx,List.foldl_cons] at hR
  have hxm:x∈xs:=List.mem_of_mem_drop (List.mem_of_getElem? hx)
  have hkx:(List.drop 1 (kz xs))[k]? = some (.agg [.int .i64 x]):=by
   rw [kz,<-List.map_drop,List.getElem?_map,hx]; rfl
  have hlt':(k:Int)<((xs.length-1:Nat):Int):=by omega
  simp (disch:=first | assumption | omega) only [go_sem,↓reduceIte,h0,h1,h4,h5,h12,h13,h14,hlt,hkx,hH5,List.length_drop]
  refine Ee (hc x hxm m hmm) (by omega) (hz _ _ _) (Kb _ _) ?_
  by_cases hgt:p x m=true
  ·rw [if_pos hgt] at hR
   simp (disch:=first | assumption | omega) only [go_sem,↓reduceIte,h0,h1,h4,h5,h12,h13,h14,hgt,hH5]
   exact hP (xs.length-1-(k+1)) _ (by omega) ⟨k+1,_,v5,rfl,by omega,hxm,by simp only [go_sem,↓reduceIte,h0,h1,h4,h5,h12,h13],by simp only [go_sem,↓reduceIte]; exact hH4,by simp only [go_sem,↓reduceIte],hR⟩
  ·rw [if_neg hgt] at hR
   simp (disch:=first | assumption | omega) only [go_sem,↓reduceIte,h0,h1,h4,h5,h12,h13,h14,hgt]
   exact hP (xs.length-1-(k+1)) _ (by omega) ⟨k+1,_,v5,rfl,by omega,hmm,by simp only [go_sem,↓reduceIte,h0,h1,h4,h5,h12,h13],by simp only [go_sem,↓reduceIte]; exact hH4,by simp only [go_sem,↓reduceIte]; exact hH5,hR⟩
 ·rw [List.drop_eq_nil_of_le (by simp; omega)] at hR
  have hR':m=r:=hR
  subst hR'
  simp (disch:=first | assumption | omega) only [go_sem,↓reduceIte,h0,h1,h4,h5,h12,h13,h14,hlt,hH4,hH5]
  exact hV _ _ (Eo (Db (Bq _ _ _ _) (Dp _ _)))
def rkV (rk:Int->Nat) (ks:List Int):List AV:=ks.map fun i => .int .i64 (rk i)
theorem A3m (rk:Int->Nat):∀E:List (Int×Nat),(kz (E.map Prod.fst)).zip ((rkV rk (E.map Prod.fst)).zip (E.map Prod.snd))=E.map fun t=>(AV.agg [.int .i64 t.1],AV.int .i64 (rk t.1),t.2)
 | []=>rfl
 | t::r=>by
  have:=A3m rk r
  simp only [kz,rkV,List.map_cons,List.zip_cons_cons] at this ⊢
  rw [this]
theorem A7i (rk:Int->Nat) (E:List (Int×Nat)) (seen:List Nat):Hh (kz (E.map Prod.fst)) (rkV rk (E.map Prod.fst)) (E.map Prod.snd) seen=(E.filter fun t => !seen.contains t.2).map fun t=>(AV.agg [.int .i64 t.1],AV.int .i64 (rk t.1),t.2):=by
 rw [Hh,A3m,List.filter_map]
 rfl
theorem Akv (rk:Int->Nat):∀(E:List (Int×Nat)) (t:Int×Nat),(E.map Prod.snd).Nodup->t∈E->((kz (E.map Prod.fst)).zip ((rkV rk (E.map Prod.fst)).zip (E.map Prod.snd))).find? (fun u=>u.2.2==t.2)=some (AV.agg [.int .i64 t.1],AV.int .i64 (rk t.1),t.2):=by
 intro E t hn ht
 rw [A3m]
 induction E with
 | nil=>cases ht
 | cons a r ih =>
  rw [List.map_cons,List.find?_cons]
  rw [List.map_cons,List.nodup_cons] at hn
  rcases List.mem_cons.1 ht with rfl | ht
  ·simp
  ·have hne:(a.2==t.2)=false:=by
    have:a.2≠t.2:=fun h=>hn.1 (h ▸ List.mem_map_of_mem ht)
    simpa using this
   simp only [hne]
   exact ih hn.2 ht
theorem Id {n base:Nat} {Q:EX×St->Prop} {d:Option Nat} {L:List IOper} {kk:List Kont} {e:Env} {h:Bc} {key ver mk mv clock:Nat} {E:List (Int×Nat)} {rk:Int->Nat} {seen:List Nat}
  (hi:Bb h key = .iter ver mk mv clock seen clock) (hm:Bb h mk = .map mv clock (kz (E.map Prod.fst)) (rkV rk (E.map Prod.fst)) (E.map Prod.snd)) (hb:∀t∈E,t.2<clock)
  (hE:(∀t∈E,t.2∈seen)->GO (Bg T n) base Q L kk ⟨Bk e d (.tuple [.bool false]),h⟩)
  (hN:∀t∈E,t.2∉seen->GO (Bg T n) base Q L kk ⟨Bk e d (.tuple [.bool true,.agg [.int .i64 t.1],.int .i64 (rk t.1)]),setH h key (.iter ver mk mv clock (seen++[t.2]) clock)⟩) :
  GP (Bg T n) base Q d L kk e (nxA h (.iter key ver)):=by
 refine Xw hi hm ?_ (Nat.le_refl _) ?_ ?_
 ·intro b hb'
  obtain ⟨t,ht,rfl⟩:=List.mem_map.1 hb'
  exact hb t ht
 ·intro hl
  rw [A7i] at hl
  refine hE fun t ht => ?_
  have:=List.map_eq_nil_iff.1 hl
  rw [List.filter_eq_nil_iff] at this
  simpa using this t ht
 ·intro k v b hmem
  rw [A7i] at hmem
  obtain ⟨t,ht,he⟩:=List.mem_map.1 hmem
  obtain ⟨h1,h2⟩:=List.mem_filter.1 ht
  cases he
  exact hN t h1 (by simpa using h2)
theorem A2b {h:Bc} {key ver mk mv clock since:Nat} {E:List (Int×Nat)} {rk:Int->Nat} {seen:List Nat} {t:Int×Nat}
  (hi:Bb h key = .iter ver mk mv since (seen++[t.2]) clock) (hm:Bb h mk = .map mv clock (kz (E.map Prod.fst)) (rkV rk (E.map Prod.fst)) (E.map Prod.snd)) (hn:(E.map Prod.snd).Nodup) (ht:t∈E) :
  enA h (.iter key ver) = .ret (.tuple [.agg [.int .i64 t.1],.int .i64 (rk t.1)]):=by
 simp only [enA,hi,hm,List.getLast?_append,List.getLast?_singleton,Option.some_or]
 rw [if_pos ⟨trivial,trivial,trivial⟩,Akv rk E t hn ht]
theorem Aia (a b:List Int):kz (a++b)=kz a++kz b:=by simp [kz]
theorem Aan (xs:List Int):Ej (some 1) xs.length (xs.map (.int .i64))=kz xs:=by
 apply List.ext_getElem?
 intro i
 simp only [Ej,kz,List.getElem?_map]
 by_cases hi:i<xs.length
 ·have h1:(List.range xs.length)[i]? = some i:=by simp [hi]
  obtain ⟨x,hx⟩:=Gy hi
  rw [h1,hx]
  simp only [Option.map_some]
  have hd:(xs.map (AV.int .i64)).drop i = .int .i64 x::(xs.map (AV.int .i64)).drop (i+1):=Hv (by simp [hx])
  rw [Nat.mul_one,hd]
  rfl
 ·have h1:(List.range xs.length)[i]? = none:=by simp; omega
  rw [h1,List.getElem?_eq_none (by omega)]
  rfl
theorem Aih (h:Bc) (n:Nat) (rk:Int->Nat) (l:List Int):mapR (Bj h (n+1)) (rkV rk l) = .ret (rkV rk l):=by
 induction l with
 | nil=>rfl
 | cons a r ih=>exact Db (Bq _ _ _ _) ih
abbrev z10:List AV:=[.int .i64 0,.int .i64 0,.int .i64 0,.int .i64 0,.int .i64 0,.int .i64 0,.int .i64 0,.int .i64 0,.int .i64 0,.int .i64 0]
structure EntOk (l:List Order) (k:Nat) (E:List (Int×Nat)) (clock:Nat):Prop where
 sub:∀t∈E,t.1∈(Eb l).take k
 pw:(E.map Prod.fst).Pairwise fun a b=>(Eb l).idxOf a<(Eb l).idxOf b
 bn:(E.map Prod.snd).Nodup
 bc:∀t∈E,t.2<clock
theorem EntOk.add {l:List Order} {k clock:Nat} {E:List (Int×Nat)} (h:EntOk l k E clock) {x:Int} (hx:(Eb l)[k]? = some x):EntOk l (k+1) (E++[(x,clock)]) (clock+1) where
 sub:=fun t ht=>by
  rw [List.take_add_one,hx]
  rcases List.mem_append.1 ht with ht | ht
  ·exact List.mem_append_left _ (h.sub t ht)
  ·obtain rfl:t=(x,clock):=by simpa using ht
   simp
 pw:=by
  rw [List.map_append,List.pairwise_append]
  refine ⟨h.pw,by simp,fun a ha b hb => ?_⟩
  obtain rfl:b=x:=by simpa using hb
  obtain ⟨t,ht,rfl⟩:=List.mem_map.1 ha
  rw [Zf (Qu l) hx]
  exact Aut (Qu l) (h.sub t ht)
 bn:=by
  rw [List.map_append,List.nodup_append]
  refine ⟨h.bn,by simp,fun a ha b hb => ?_⟩
  obtain rfl:b=clock:=by simpa using hb
  obtain ⟨t,ht,rfl⟩:=List.mem_map.1 ha
  have:=h.bc t ht
  omega
 bc:=fun t ht=>by
  rcases List.mem_append.1 ht with ht | ht
  ·have:=h.bc t ht; omega
  ·obtain rfl:t=(x,clock):=by simpa using ht
   simp
theorem EntOk.erase {l:List Order} {k clock:Nat} {E:List (Int×Nat)} (h:EntOk l k E clock) (i:Nat):EntOk l k (E.eraseIdx i) clock where
 sub:=fun t ht=>h.sub t (List.mem_of_mem_eraseIdx ht)
 pw:=h.pw.sublist ((List.eraseIdx_sublist E i).map _)
 bn:=h.bn.sublist ((List.eraseIdx_sublist E i).map _)
 bc:=fun t ht=>h.bc t (List.mem_of_mem_eraseIdx ht)
theorem EntOk.nodup {l:List Order} {k clock:Nat} {E:List (Int×Nat)} (h:EntOk l k E clock):(E.map Prod.fst).Nodup:=by
 have:=h.pw
 refine List.Pairwise.imp (fun {a b} hab => ?_) this
 intro e
 rw [e] at hab
 omega
structure In75 (l:List Order) (s:Int) (k:Nat) (E:List (Int×Nat)) (day:Int) (clock:Nat):Prop where
 ent:EntOk l k E clock
 sum:day=Fl (Ha l s) (E.map Prod.fst)
 bd:day<=1000*k
 go:Mq l (Ha l s) ((Eb l).drop k) (E.map Prod.fst) day=keptOf l s
theorem con_75 (l:List Order) (s:Int) (hv:Valid l) (hs:s=0\/s=1):Con T 8 316 [deskV l s] (.agg ((marks (keptOf l s)).map (.int .i64))):=by
 refine Dd t75 fun n hn V hV => ?_
 have hl:=hv.len
 have hsl:=Xb l
 have hnd:=Qu l
 have hwl:=Abm l s
 have hwb:∀x∈Ha l s,0<=x/\x<=100:=fun x hx=>by
  obtain ⟨o,ho,rfl⟩:=List.mem_map.1 hx
  have:=hv.ok o ho
  have h1:=this.lo
  have h2:=this.lh
  have h3:=this.hi
  split <;> omega
 simp (disch:=first | assumption | omega) only [c75,go_sem,↓reduceIte,Bw,deskV,B1p]
 refine Dm (fun M st=>∃(k:Nat) (E:List (Int×Nat)) (day:Int) (clock:Nat),M=l.length-k/\k<=l.length/\In75 l s k E day clock/\
  At st.env [(1,.optr 1 0 0),(2,.optr 2 0 0),(3,.optr 3 0 0),(4,.int .i64 day),(17,Wo (Eb l)),(18,.int .i64 l.length),(19,.int .i64 k)]/\
  Bb st.heap 1 = .cells 0 [deskV l s]/\Bb st.heap 2 = .cells 0 z10/\Bb st.heap 3 = .cells 0 [.omap 88 0]/\Bb st.heap 88 = .map 0 clock (kz (E.map Prod.fst)) (rkV (fun i=>(Eb l).idxOf i) (E.map Prod.fst)) (E.map Prod.snd)/\89<=st.heap.length) l.length (by omega) ⟨0,[],0,0,by simp,by omega,?_,?_,?_⟩ ?_
 ·exact ⟨⟨by simp,by simp,by simp,by simp⟩,by simp [Fl],by simp,rfl⟩
 ·simp [go_sem,↓reduceIte,hsl]
 ·refine ⟨by simp only [go_sem,↓reduceIte,deskV],by simp only [go_sem,↓reduceIte],by simp only [go_sem,↓reduceIte],?_,?_⟩
  ·simp only [go_sem,↓reduceIte]; rfl
  ·simp [Bh]
 rintro M e h hM ⟨k,E,day,clock,rfl,hk,hin,hE,g1,g2,g3,g88,hlen⟩ P hP
 simp only [Bz,Dc] at hE g1 g2 g3 g88 hlen
 obtain ⟨h1,h2,h3,h4,h17,h18,h19,-⟩:=hE
 by_cases hlt:k<l.length
 ·obtain ⟨i,hi⟩:=Gy (l:=Eb l) (i:=k) (by omega)
  have him:=Ms.1 (List.mem_of_getElem? hi)
  obtain ⟨o,ho⟩:=Gy (l:=l) (i:=i.toNat) (by omega)
  obtain ⟨x,hx⟩:=Gy (l:=Ha l s) (i:=i.toNat) (by omega)
  obtain ⟨j,rfl⟩:=Int.eq_ofNat_of_zero_le him.1
  simp only [Int.toNat_natCast] at ho hx
  have hxw:=A1u hx
  have hxb:=hwb x (List.mem_of_getElem? hx)
  have hod:Eu l (j:Int)=o.due:=by simp [Eu,ho]
  have hsum0:=Mo (fun x hx=>(hwb x hx).1) (E.map Prod.fst)
  have hbd:=hin.bd
  have hsm:=hin.sum
  have hgo:=hin.go
  rw [Hv hi,Aap,hod,<-hxw] at hgo
  have hidx:(Eb l).idxOf (j:Int)=k:=Zf hnd hi
  have hnotin:(j:Int)∉E.map Prod.fst:=fun hmem=>by
   obtain ⟨t,ht,e1⟩:=List.mem_map.1 hmem
   have:=hin.ent.sub t ht
   rw [e1] at this
   exact Alx hnd hi this
  -- the map with one more
  have hmu:muA (some 1) h (.agg [.int .i64 (j:Int)]) (.int .i64 k) (.omap 88 0) = .ret (.undef,setH h 88 (.map 0 (clock+1) (kz ((E++[((j:Int),clock)]).map Prod.fst)) (rkV (fun i=>(Eb l).idxOf i) ((E++[((j:Int),clock)]).map Prod.fst)) ((E++[((j:Int),clock)]).map Prod.snd))):=by
   simp only [muA,g88,Nw,if_neg hnotin,Qb]
   rw [if_pos ⟨trivial,trivial⟩]
   simp only [List.map_append,List.map_cons,List.map_nil,Aia,kz,rkV,hidx]
  simp (disch:=first | assumption | omega) only [go_sem,↓reduceIte,Bw,h1,h2,h3,h4,h17,h18,h19,g1,g3,hlt,hi,hmu,deskV,hx,ho,oAV]
  have hent:=hin.ent.add hi
  by_cases hle:day+x<=o.due
  ·rw [if_pos hle] at hgo
   simp (disch:=first | assumption | omega) only [hle]
   refine hP (l.length-(k+1)) _ (by omega) ⟨k+1,E++[((j:Int),clock)],day+x,clock+1,rfl,by omega,⟨hent,?_,by omega,?_⟩,?_,?_,?_,?_,?_,?_⟩
   ·rw [List.map_append,Mm,<-hsm,hxw]; simp [Fl]
   ·rw [List.map_append]; exact hgo
   ·simp only [go_sem,↓reduceIte,h1,h2,h3,h17,h18]
   ·simp only [go_sem,↓reduceIte]; exact g1
   ·simp only [go_sem,↓reduceIte]; exact g2
   ·simp only [go_sem,↓reduceIte]; exact g3
   ·simp only [go_sem,↓reduceIte]
   ·simp only [Bh]; omega
  ·rw [if_neg hle] at hgo
   simp (disch:=first | assumption | omega) only [go_sem,↓reduceIte,Bw,hle]
   have a1:Bb (setH h 88 (.map 0 (clock+1) (kz ((E++[((j:Int),clock)]).map Prod.fst)) (rkV (fun i=>(Eb l).idxOf i) ((E++[((j:Int),clock)]).map Prod.fst)) ((E++[((j:Int),clock)]).map Prod.snd))) 1 = .cells 0 [deskV l s]:=by simp only [go_sem,↓reduceIte]; exact g1
   have a2:Bb (setH h 88 (.map 0 (clock+1) (kz ((E++[((j:Int),clock)]).map Prod.fst)) (rkV (fun i=>(Eb l).idxOf i) ((E++[((j:Int),clock)]).map Prod.fst)) ((E++[((j:Int),clock)]).map Prod.snd))) 2 = .cells 0 z10:=by simp only [go_sem,↓reduceIte]; exact g2
   have a3:Bb (setH h 88 (.map 0 (clock+1) (kz ((E++[((j:Int),clock)]).map Prod.fst)) (rkV (fun i=>(Eb l).idxOf i) ((E++[((j:Int),clock)]).map Prod.fst)) ((E++[((j:Int),clock)]).map Prod.snd))) 3 = .cells 0 [.omap 88 0]:=by simp only [go_sem,↓reduceIte]; exact g3
   have a4:Bb (setH h 88 (.map 0 (clock+1) (kz ((E++[((j:Int),clock)]).map Prod.fst)) (rkV (fun i=>(Eb l).idxOf i) ((E++[((j:Int),clock)]).map Prod.fst)) ((E++[((j:Int),clock)]).map Prod.snd))) 88 = .map 0 (clock+1) (kz ((E++[((j:Int),clock)]).map Prod.fst)) (rkV (fun i=>(Eb l).idxOf i) ((E++[((j:Int),clock)]).map Prod.fst)) ((E++[((j:Int),clock)]).map Prod.snd):=by simp only [go_sem,↓reduceIte]
   have a5:89<=(setH h 88 (.map 0 (clock+1) (kz ((E++[((j:Int),clock)]).map Prod.fst)) (rkV (fun i=>(Eb l).idxOf i) ((E++[((j:Int),clock)]).map Prod.fst)) ((E++[((j:Int),clock)]).map Prod.snd))).length:=by rw [Bh]; omega
   have a6:Bb (setH h 88 (.map 0 (clock+1) (kz ((E++[((j:Int),clock)]).map Prod.fst)) (rkV (fun i=>(Eb l).idxOf i) ((E++[((j:Int),clock)]).map Prod.fst)) ((E++[((j:Int),clock)]).map Prod.snd))) (setH h 88 (.map 0 (clock+1) (kz ((E++[((j:Int),clock)]).map Prod.fst)) (rkV (fun i=>(Eb l).idxOf i) ((E++[((j:Int),clock)]).map Prod.fst)) ((E++[((j:Int),clock)]).map Prod.snd))).length = .none:=Eh _ _ (Nat.le_refl _)
   have hsumE:Fl (Ha l s) ((E++[((j:Int),clock)]).map Prod.fst)=day+x:=by rw [List.map_append,Mm,<-hsm,hxw]; simp [Fl]
   have hgoE:Mq l (Ha l s) ((Eb l).drop (k+1)) (((E++[((j:Int),clock)]).map Prod.fst).erase (Jp (Ha l s) ((E++[((j:Int),clock)]).map Prod.fst))) (day+x-wk (Ha l s) (Jp (Ha l s) ((E++[((j:Int),clock)]).map Prod.fst)))=keptOf l s:=by rw [List.map_append]; exact hgo
   have hE0:E++[((j:Int),clock)]≠[]:=by simp
   have hElen:(E++[((j:Int),clock)]).length<=10:=by
    have h1:=hent.nodup
    have h2:((E++[((j:Int),clock)]).map Prod.fst).length<=(idx l.length).length:=List.Nodup.length_le_of_subset h1 (fun a ha=>by
     obtain ⟨t,ht,rfl⟩:=List.mem_map.1 ha
     exact Xy.2 (Ms.1 (List.mem_of_mem_take (hent.sub t ht))))
    rw [List.length_map,Gr] at h2
    omega
   clear hgo g1 g2 g3 g88 hmu hin hnotin
   generalize E++[((j:Int),clock)]=E1 at *
   generalize setH h 88 (.map 0 (clock+1) (kz (E1.map Prod.fst)) (rkV (fun i=>(Eb l).idxOf i) (E1.map Prod.fst)) (E1.map Prod.snd))=hA at *
   have hrg:rgA hA (.omap 88 0) = .ret (.iter hA.length 0,setH hA hA.length (.iter 0 88 0 (clock+1) [] (clock+1))):=by
    simp only [rgA,a4,a6,next_none,if_true]
   have n1:¬hA.length=1:=by omega
   have n2:¬hA.length=2:=by omega
   have n3:¬hA.length=3:=by omega
   have n8:¬hA.length=8:=by omega
   have n9:¬hA.length=9:=by omega
   have n88:¬hA.length=88:=by omega
   have m8:¬8=hA.length:=by omega
   simp (disch:=first | assumption | omega) only [go_sem,↓reduceIte,Bw,hle,hrg]
   refine Dm (fun M st=>∃(done:List (Int×Nat)) (v:AV),M=(E1.filter fun t => !(done.map Prod.snd).contains t.2).length/\done.length+M<=E1.length/\(∀t∈done,t∈E1)/\
    At st.env [(1,.optr 1 0 0),(2,.optr 2 0 0),(3,.optr 3 0 0),(4,.int .i64 (day+x)),(7,v),(17,Wo (Eb l)),(18,.int .i64 l.length),(19,.int .i64 k),(49,.iter hA.length 0)]/\
    Bb st.heap 1 = .cells 0 [deskV l s]/\Bb st.heap 2 = .cells 0 z10/\Bb st.heap 3 = .cells 0 [.omap 88 0]/\Bb st.heap 88 = .map 0 (clock+1) (kz (E1.map Prod.fst)) (rkV (fun i=>(Eb l).idxOf i) (E1.map Prod.fst)) (E1.map Prod.snd)/\
    Bb st.heap hA.length = .iter 0 88 0 (clock+1) (done.map Prod.snd) (clock+1)/\OwnG 89 st.heap v (some 1) done.length ((done.map Prod.fst).map (.int .i64))/\Fn v≠some hA.length/\hA.length<st.heap.length) E1.length (by omega)
    ⟨[],.slice (some 1) [] true,by rw [List.filter_eq_self.2 (by simp)],by simp,by simp,by simp [go_sem,↓reduceIte,h1,h2,h3,h17,h18,h19],?_,?_,?_,?_,?_,Amz ..,by simp [Fn],?_⟩ ?_
   ·simp only [go_sem,↓reduceIte,n1,n2,n3,n8,n9,n88]; exact a1
   ·simp only [go_sem,↓reduceIte,n1,n2,n3,n8,n9,n88]; exact a2
   ·simp only [go_sem,↓reduceIte,n1,n2,n3,n8,n9,n88]; exact a3
   ·simp only [go_sem,↓reduceIte,n1,n2,n3,n8,n9,n88]; exact a4
   ·simp only [go_sem,↓reduceIte]
   ·simp only [Bh]; omega
   clear h1 h2 h3 h4 h17 h18 h19 hlen a1 a2 a3 a4 a6 hrg
   rintro M e h hM ⟨done,v,rfl,hdl,hsub,hE,g1,g2,g3,g88,gI,hO,hko,hlen⟩ P2 hP2
   simp only [Bz,Dc] at hE g1 g2 g3 g88 gI hO hlen
   obtain ⟨h1,h2,h3,h4,h7,h17,h18,h19,h49,-⟩:=hE
   simp (disch:=first | assumption | omega) only [go_sem,↓reduceIte,Bw,h49]
   refine Id gI g88 hent.bc (fun hall => ?_) (fun t ht hnt => ?_)
   ·-- all have been looked at
    have hmem:∀a,a∈done.map Prod.fst↔a∈E1.map Prod.fst:=fun a=>by
     constructor
     ·intro ha
      obtain ⟨t,ht,rfl⟩:=List.mem_map.1 ha
      exact List.mem_map_of_mem (hsub t ht)
     ·intro ha
      obtain ⟨t,ht,rfl⟩:=List.mem_map.1 ha
      obtain ⟨u,hu,e2⟩:=List.mem_map.1 (hall t ht)
      have:u=t:=Adc hent.bn (hsub u hu) ht e2
      exact List.mem_map_of_mem (this ▸ hu)
    have hd0:done.map Prod.fst≠[]:=fun h0=>by
     cases hE1:E1 with
     | nil=>exact hE0 hE1
     | cons a r =>
      have:=(hmem a.1).2 (by rw [hE1]; simp)
      rw [h0] at this
      cases this
    have hbest:=Ago (Ha l s) (fun i=>(Eb l).idxOf i) (Vu (Ha l s) fun i=>(Eb l).idxOf i) (fun a b=>rfl) (E1.map Prod.fst) (done.map Prod.fst) hent.pw hmem hd0
    have hpm:=A4r (Ha l s) (E1.map Prod.fst) (fun h=>hE0 (List.map_eq_nil_iff.1 h))
    generalize Jp (Ha l s) (E1.map Prod.fst)=r at *
    have hrm:=hent.sub
    have hrb:0<=r/\r<l.length:=by
     obtain ⟨t,ht,rfl⟩:=List.mem_map.1 hpm
     exact Ms.1 (List.mem_of_mem_take (hent.sub t ht))
    have hkb:∀a∈E1.map Prod.fst,0<=a/\a<l.length:=fun a ha=>by
     obtain ⟨t,ht,rfl⟩:=List.mem_map.1 ha
     exact Ms.1 (List.mem_of_mem_take (hent.sub t ht))
    simp (disch:=first | assumption | omega) only [go_sem,↓reduceIte,Bw,h1,h2,h3,h4,h7,h17,h18,h19,h49]
    have hfv:Bj h 8 v = .ret (.slice (some 1) (kz (done.map Prod.fst)) false):=by
     rw [Alc hO (Mf _ _ _ _),<-Aan]
     simp
    have hdes:Bj h 6 (deskV l s) = .ret (deskV l s):=Ald _ _ _ _
    have hclo:Bj h 8 (.clo 399 [] [.optr 1 0 0,.optr 3 0 0]) = .ret (.clo 399 [] [.ptr [deskV l s] 0,.ptr [.fmap (kz (E1.map Prod.fst)) (rkV (fun i=>(Eb l).idxOf i) (E1.map Prod.fst))] 0]):=
     Nk (Dp _ _) (Db (Ge g1 (Db hdes (Dp _ _))) (Db (Ge g3 (Db (Nx g88 (Ass _ _ _) (Aih _ _ _ _)) (Dp _ _))) (Dp _ _)))
    refine Ee (Avz (p:=Vu (Ha l s) fun i=>(Eb l).idxOf i) (done.map Prod.fst) r (by simp; omega) (List.length_pos_iff.2 hd0) (fun a ha b hb=>Awa l (Ha l s) (E1.map Prod.fst) (fun i=>(Eb l).idxOf i) a b hwl hkb ((hmem a).1 ha) ((hmem b).1 hb)) (fun h a b => ?_) hbest) (by omega) (Dj hfv (Dj hclo (Dt _))) (Amy rfl) ?_
    ·exact Dj (Eo (Db (Bq _ _ _ _) (Dp _ _))) (Dj (Eo (Db (Bq _ _ _ _) (Dp _ _))) (Dj (Eq _ _ _ _) (Dj (Eq _ _ _ _) (Dt _))))
    obtain ⟨rn,rfl⟩:=Int.eq_ofNat_of_zero_le hrb.1
    obtain ⟨y,hy⟩:=Gy (l:=Ha l s) (i:=rn) (by omega)
    have hyw:=A1u hy
    have hyb:=hwb y (List.mem_of_getElem? hy)
    have hdlA:∀h':Bc,Bb h' 88 = .map 0 (clock+1) (kz (E1.map Prod.fst)) (rkV (fun i=>(Eb l).idxOf i) (E1.map Prod.fst)) (E1.map Prod.snd)->
      dlA (some 1) h' (.agg [.int .i64 (rn:Int)]) (.omap 88 0) = .ret (.undef,setH h' 88 (.map 0 (clock+1) (kz ((E1.eraseIdx ((E1.map Prod.fst).idxOf (rn:Int))).map Prod.fst)) (rkV (fun i=>(Eb l).idxOf i) ((E1.eraseIdx ((E1.map Prod.fst).idxOf (rn:Int))).map Prod.fst)) ((E1.eraseIdx ((E1.map Prod.fst).idxOf (rn:Int))).map Prod.snd))):=fun h' hh=>by
     simp only [dlA,hh,Nw,if_pos hpm,Qb]
     rw [if_pos ⟨trivial,trivial⟩]
     simp only [Nat.zero_add,kz,rkV,Ka]
    have hdl9:∀c:AObj,Bb (setH h 9 c) 88 = .map 0 (clock+1) (kz (E1.map Prod.fst)) (rkV (fun i=>(Eb l).idxOf i) (E1.map Prod.fst)) (E1.map Prod.snd):=fun c=>by rw [Ba _ _ _ _ (by omega),g88]
    have hdl99:∀c c':AObj,Bb (setH (setH h 9 c) 9 c') 88 = .map 0 (clock+1) (kz (E1.map Prod.fst)) (rkV (fun i=>(Eb l).idxOf i) (E1.map Prod.fst)) (E1.map Prod.snd):=fun c c'=>by rw [Ba _ _ _ _ (by omega),hdl9]
    have hdlB:∀c c':AObj,dlA (some 1) (setH (setH h 9 c) 9 c') (.agg [.int .i64 (rn:Int)]) (.omap 88 0)=_:=fun c c'=>hdlA _ (hdl99 c c')
    have hs1:Fl (Ha l s) (E1.map Prod.fst)>=wk (Ha l s) (rn:Int):=by
     have h1:=Sz (Ha l s) (E1.map Prod.fst) rn hpm
     have h2:=Mo (fun x hx=>(hwb x hx).1) ((E1.map Prod.fst).erase (rn:Int))
     omega
    simp (disch:=first | assumption | omega) only [go_sem,↓reduceIte,Bw,deskV,g1,g3,h1,h2,h3,h4,h7,h17,h18,h19,h49,hy,hdlB]
    refine hP (l.length-(k+1)) _ (by omega) ⟨k+1,E1.eraseIdx ((E1.map Prod.fst).idxOf (rn:Int)),day+x-y,clock+1,rfl,by omega,⟨hent.erase _,?_,by omega,?_⟩,?_,?_,?_,?_,?_,?_⟩
    ·rw [<-Ka,Ql,Sz _ _ _ hpm,hsumE,hyw]
    ·rw [<-Ka,Ql,hyw]; exact hgoE
    ·simp only [go_sem,↓reduceIte,h1,h2,h3,h17,h18]
    ·simp only [go_sem,↓reduceIte]; exact g1
    ·simp only [go_sem,↓reduceIte]; exact g2
    ·simp only [go_sem,↓reduceIte]; exact g3
    ·simp only [go_sem,↓reduceIte]
    ·simp only [Bh]; omega
   ·have hen:enA (setH h hA.length (.iter 0 88 0 (clock+1) (done.map Prod.snd++[t.2]) (clock+1))) (.iter hA.length 0) = .ret (.tuple [.agg [.int .i64 t.1],.int .i64 ((Eb l).idxOf t.1)]):=
     A2b (E:=E1) (rk:=fun i=>(Eb l).idxOf i) (mk:=88) (mv:=0) (clock:=clock+1) (since:=clock+1) (seen:=done.map Prod.snd) (getH_setH_self _ _ _) (by rw [Ba _ _ _ _ n88]; exact g88) hent.bn ht
    have hen8:∀c:AObj,enA (setH (setH h hA.length (.iter 0 88 0 (clock+1) (done.map Prod.snd++[t.2]) (clock+1))) 8 c) (.iter hA.length 0) = .ret (.tuple [.agg [.int .i64 t.1],.int .i64 ((Eb l).idxOf t.1)]):=fun c=>by
     refine A2b (E:=E1) (rk:=fun i=>(Eb l).idxOf i) (mk:=88) (mv:=0) (clock:=clock+1) (since:=clock+1) (seen:=done.map Prod.snd) ?_ ?_ hent.bn ht
     ·simp only [go_sem,↓reduceIte,n1,n2,n3,n8,n9,n88,m8]
     ·simp only [go_sem,↓reduceIte,n1,n2,n3,n8,n9,n88,m8]; exact g88
    simp (disch:=first | assumption | omega) only [go_sem,↓reduceIte,Bw,h1,h2,h3,h4,h7,h17,h18,h19,h49,hen,hen8,n8]
    have hO1:OwnG 89 (setH h hA.length (.iter 0 88 0 (clock+1) (done.map Prod.snd++[t.2]) (clock+1))) v (some 1) done.length ((done.map Prod.fst).map (.int .i64)):=hO.other fun j hj=>Ba _ _ _ _ (fun h=>hko (h ▸ hj))
    refine Aeb (m:=1) (c2:=[.int .i64 t.1]) (by first | with_reducible rfl | (simp only [Bh,List.length_append,List.length_replicate]; done) | (simp only [Bh,List.length_append,List.length_replicate]; omega)) ((hO1.setH (by omega)).setH (by omega)) (by simp [Be]) (by simp only [Bh]; omega) rfl (by simp [Be]) (by omega) (by omega) fun x' h' hO' hF hL hF2 hF3 => ?_
    have q1:=hF 1 (by omega)
    have q2:=hF 2 (by omega)
    have q3:=hF 3 (by omega)
    have q88:=hF 88 (by omega)
    have qI:=hF2 hA.length (by simp only [Bh]; omega) hko
    simp only [go_sem,↓reduceIte,n1,n2,n3,n8,n88,g1,g2,g3,g88,(show ¬8=hA.length by omega)] at q1 q2 q3 q88 qI
    have hml:(E1.filter fun u => !((done++[t]).map Prod.snd).contains u.2).length<(E1.filter fun u => !(done.map Prod.snd).contains u.2).length:=by
     refine Wa _ _ (fun u hu => ?_) t ?_ ?_ E1 ht
     ·simp at hu ⊢
      exact hu.1
     ·simpa using hnt
     ·simp
    simp (disch:=first | assumption | omega) only [go_sem,↓reduceIte,Bw,h1,h2,h3,h4,h7,h17,h18,h19,h49]
    refine hP2 _ _ hml ⟨done++[t],x',rfl,by rw [List.length_append,List.length_singleton]; omega,?_,by simp only [go_sem,↓reduceIte,h1,h2,h3,h4,h17,h18,h19,h49],q1,q2,q3,q88,?_,?_,?_,?_⟩
    ·intro u hu
     rcases List.mem_append.1 hu with hu | hu
     ·exact hsub u hu
     ·obtain rfl:u=t:=by simpa using hu
      exact ht
    ·rw [qI]; simp
    ·simpa using hO'
    ·intro hx
     rcases hF3 _ hx with h | h
     ·exact hko h
     ·simp only [Bh] at h; omega
    ·simp only [Bh] at hL
     show hA.length<h'.length
     omega
 ·obtain rfl:k=l.length:=by omega
  have hks:E.map Prod.fst=keptOf l s:=by
   rw [<-hin.go,List.drop_eq_nil_of_le (by omega)]; rfl
  have hent:=hin.ent
  have hkb:∀a∈E.map Prod.fst,0<=a/\a<l.length:=fun a ha=>by
   obtain ⟨t,ht,rfl⟩:=List.mem_map.1 ha
   exact Ms.1 (List.mem_of_mem_take (hent.sub t ht))
  have hElen:E.length<=10:=by
   have h1:=hent.nodup
   have h2:(E.map Prod.fst).length<=(idx l.length).length:=List.Nodup.length_le_of_subset h1 (fun a ha=>Xy.2 (hkb a ha))
   rw [List.length_map,Gr] at h2
   omega
  have a10:∀c:AObj,Bb (setH h 10 c) 88 = .map 0 clock (kz (E.map Prod.fst)) (rkV (fun i=>(Eb l).idxOf i) (E.map Prod.fst)) (E.map Prod.snd):=fun c=>by rw [Ba _ _ _ _ (by omega),g88]
  have l10:∀c:AObj,(setH h 10 c).length=h.length:=fun c=>by rw [Bh]; omega
  have a11:∀c:AObj,Bb (setH h 10 c) h.length = .none:=fun c=>Eh _ _ (by rw [l10]; omega)
  have hrg:∀c:AObj,rgA (setH h 10 c) (.omap 88 0) = .ret (.iter h.length 0,setH (setH h 10 c) h.length (.iter 0 88 0 clock [] clock)):=fun c=>by
   simp only [rgA,a10,l10,a11,next_none,if_true]
  have n1:¬h.length=1:=by omega
  have n2:¬h.length=2:=by omega
  have n3:¬h.length=3:=by omega
  have n10:¬h.length=10:=by omega
  have n11:¬h.length=11:=by omega
  have n88:¬h.length=88:=by omega
  have m10:¬10=h.length:=by omega
  have m11:¬11=h.length:=by omega
  simp (disch:=first | assumption | omega) only [go_sem,↓reduceIte,Bw,h1,h2,h3,h4,h17,h18,h19,g3,hlt,hrg]
  refine Dm (fun M st=>∃(done:List (Int×Nat)) (v11:Nat),M=(E.filter fun t => !(done.map Prod.snd).contains t.2).length/\(∀t∈done,t∈E)/\
    At st.env [(2,.optr 2 0 0),(10,.optr 10 (Bb h 10).next 0),(75,.iter h.length 0)]/\
    Bb st.heap 2 = .cells 0 z10/\Bb st.heap 88 = .map 0 clock (kz (E.map Prod.fst)) (rkV (fun i=>(Eb l).idxOf i) (E.map Prod.fst)) (E.map Prod.snd)/\
    Bb st.heap h.length = .iter 0 88 0 clock (done.map Prod.snd) clock/\Bb st.heap 10 = .cells (Bb h 10).next ((marks (done.map Prod.fst)).map (.int .i64))) E.length (by omega)
    ⟨[],0,by rw [List.filter_eq_self.2 (by simp)],by simp,by simp [go_sem,↓reduceIte,h2],?_,?_,?_,?_⟩ ?_
  ·simp only [go_sem,↓reduceIte,n2]; exact g2
  ·simp only [go_sem,↓reduceIte,n88]; exact g88
  ·simp only [go_sem,↓reduceIte]
  ·simp only [go_sem,↓reduceIte,n10]; rfl
  generalize hv10:(Bb h 10).next=v10
  generalize hK:h.length=K at *
  clear h1 h2 h3 h4 h17 h18 h19 g1 g2 g3 g88 a10 l10 a11 hrg
  rintro M e h hM ⟨done,v11,rfl,hsub,hE,g2,g88,gI,g10⟩ P2 hP2
  simp only [Bz,Dc] at hE g2 g88 gI g10
  obtain ⟨h2,h10,h75,-⟩:=hE
  simp (disch:=first | assumption | omega) only [go_sem,↓reduceIte,Bw,h75]
  refine Id gI g88 hent.bc (fun hall => ?_) (fun t ht hnt => ?_)
  ·have hmem:∀a,a∈done.map Prod.fst↔a∈E.map Prod.fst:=fun a=>by
    constructor
    ·intro ha
     obtain ⟨t,ht,rfl⟩:=List.mem_map.1 ha
     exact List.mem_map_of_mem (hsub t ht)
    ·intro ha
     obtain ⟨t,ht,rfl⟩:=List.mem_map.1 ha
     obtain ⟨u,hu,e2⟩:=List.mem_map.1 (hall t ht)
     have:u=t:=Adc hent.bn (hsub u hu) ht e2
     exact List.mem_map_of_mem (this ▸ hu)
   rw [Aaw hmem,hks] at g10
   have hml:=Ja (keptOf l s)
   have ht10:List.take 10 ((marks (keptOf l s)).map (AV.int .i64))=(marks (keptOf l s)).map (.int .i64):=List.take_of_length_le (by simp [hml])
   have hle10:(10:Nat)<=10:=by omega
   have hz:z10=((List.replicate 10 (0:Int)).map (AV.int .i64)):=rfl
   have hea:eaA 10 false (.agg ((marks (keptOf l s)).map (.int .i64))) (.agg z10) = .ret (.bool (decide (marks (keptOf l s)=List.replicate 10 0))):=by
    simp only [eaA,List.length_map,hml,if_true]
    rw [hz,Me _ _ _ (by simp [hml])]
    simp
   have hsp:Dk z10 0 ((marks (keptOf l s)).map (.int .i64))=(marks (keptOf l s)).map (.int .i64):=Qw _ _ (by simp [hml])
   by_cases hq:marks (keptOf l s)=List.replicate 10 0
   ·have hq':decide (marks (keptOf l s)=List.replicate 10 0)=true:=decide_eq_true hq
    simp (disch:=first | assumption | omega) only [go_sem,↓reduceIte,Bw,h2,h10,h75,g2,g10,ht10,hml,hle10,hea,hq']
    refine hV _ _ ?_
    rw [hq]
    exact Eo (Mf _ _ .i64 (List.replicate 10 0))
   ·have hq':decide (marks (keptOf l s)=List.replicate 10 0)=false:=decide_eq_false hq
    simp (disch:=first | assumption | omega) only [go_sem,↓reduceIte,Bw,h2,h10,h75,g2,g10,ht10,hml,hle10,hea,hq',hsp,Iu]
    exact hV _ _ (Eo (Mf _ _ _ _))
  ·have htb:=hkb t.1 (List.mem_map_of_mem ht)
   obtain ⟨tn,htn⟩:=Int.eq_ofNat_of_zero_le htb.1
   have h10':tn<10:=by omega
   have h10'':tn+1<=10:=by omega
   have hen:enA (setH h K (.iter 0 88 0 clock (done.map Prod.snd++[t.2]) clock)) (.iter K 0) = .ret (.tuple [.agg [.int .i64 t.1],.int .i64 ((Eb l).idxOf t.1)]):=
    A2b (E:=E) (rk:=fun i=>(Eb l).idxOf i) (mk:=88) (mv:=0) (clock:=clock) (since:=clock) (seen:=done.map Prod.snd) (getH_setH_self _ _ _) (by rw [Ba _ _ _ _ n88]; exact g88) hent.bn ht
   rw [htn] at hen
   have hml:=Ja (done.map Prod.fst)
   have hmset:((marks (done.map Prod.fst)).map (AV.int .i64)).set tn (.int .i64 1)=(marks ((done++[t]).map Prod.fst)).map (.int .i64):=by
    rw [A3g,Aii _ _ h10',List.map_append,<-htn]
    rfl
   have hflt:(E.filter fun u => !((done++[t]).map Prod.snd).contains u.2).length<(E.filter fun u => !(done.map Prod.snd).contains u.2).length:=by
    refine Wa _ _ (fun u hu => ?_) t ?_ ?_ E ht
    ·simp at hu ⊢
     exact hu.1
    ·simpa using hnt
    ·simp
   rw [htn]
   simp (disch:=first | assumption | omega) only [go_sem,↓reduceIte,Bw,h2,h10,h75,g2,g10,hen,n1,n2,n3,n10,n11,n88,m10,m11,h10',h10'',hml]
   refine hP2 _ _ hflt ⟨done++[t],v11,rfl,?_,by simp only [go_sem,↓reduceIte,h2,h10,h75],?_,?_,?_,?_⟩
   ·intro u hu
    rcases List.mem_append.1 hu with hu | hu
    ·exact hsub u hu
    ·obtain rfl:u=t:=by simpa using hu
     exact ht
   ·simp only [go_sem,↓reduceIte,n2]; exact g2
   ·simp only [go_sem,↓reduceIte,n88]; exact g88
   ·simp only [go_sem,↓reduceIte,m10,m11,List.map_append]
   ·simp only [go_sem,↓reduceIte]
    rw [A3g] at hmset
    rw [hmset]
end Go.Ev.YtbgodhhdojjbmaaGreatC.P5
namespace Go.Ev.YtbgodhhdojjbmaaGreatC
open Go Go.Proofs
def keL:List P5.Order:=[⟨2,3,4⟩,⟨1,2,3⟩,⟨4,4,7⟩,⟨3,5,8⟩]
theorem keV:P5.Valid keL:=(P5.chk_zero keL).1 (by kernel_rfl)
theorem Bpo:YOk T 2000 Apq:=by
 have h:=Dz (P5.con_75 keL 0 keV (Or.inl rfl)) (Nat.le_refl _)
 have e:AnsY.mk 316 [P5.deskV keL 0] (.agg ((P5.marks (P5.keptOf keL 0)).map (.int .i64))) false=Apq:=by kernel_rfl
 rw [<-e]
 exact (Es h).mono (by decide)
theorem Bpq:YOk T 2000 Apr:=by
 have h:=Dz (P5.con_75 keL 1 keV (Or.inr rfl)) (Nat.le_refl _)
 have e:AnsY.mk 316 [P5.deskV keL 1] (.agg ((P5.marks (P5.keptOf keL 1)).map (.int .i64))) false=Apr:=by kernel_rfl
 rw [<-e]
 exact (Es h).mono (by decide)
end Go.Ev.YtbgodhhdojjbmaaGreatC
