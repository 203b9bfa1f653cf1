/- The code of functions that are walked, compiled for the evaluator, as text. Circles of a list that leads each place to one: plain lists, no program. What is done several times; exchanges that put circles right; how often until all is as before. What small functions of layer 6 answer: within, the checks of joints, the program's and the reference's. Steps of neighbours put a list in its order; each takes away one wrong pair. The bench of valid joints, handed over; flutes; the first of several; neighbours exchanged. What the reference's check of joints answers, and what it means. No condition but those that stand in each. -/
import Derived.Test.YtofpilpmiddpgaaGreatITopW
import Derived.Test.YtofpilpmiddpgaaGreatIEvComp
import Derived.Test.YtofpilpmiddpgaaGreatITopShd
import Derived.Test.YtofpilpmiddpgaaGreatITopKnx
set_option linter.unusedSimpArgs false
set_option linter.unusedVariables false
set_option maxRecDepth 100000
namespace Go.Ev.YtofpilpmiddpgaaGreatC
open Go.Proofs
def c5:IFunc:=⟨5,[.tmp 2],sO [dO 2 (.mv (cI 0))] (sO [mV 3 0,dO 4 (.callF false 19 [tM 3,cI 0]),mV 2 4] .ret)⟩
theorem k5:(Bp Tryz.prog byr).fns 5=some c5:=by kernel_rfl
theorem t5:T.fns 5=some c5:=Bt k5 (by decide) (by decide)
def c19:IFunc:=⟨64,[.tmp 4],sO [dO 4 (.mv (cI 0))] (.seq (sO [mV 8 0,lN 9 8,bC 10 .lss 9 1,mV 11 10,gV 12 0 11 false,gO 13 (.len (tM 12)) 11 false,gO 14 (.bin .gtr (tM 13) (cI 10)) 11 false,dO 15 (.pick (tM 11) (cB true) (tM 14))] (.cond (tM 15) (sO [dO 4 (.mv (cI 6))] .ret) .skip)) (.seq (sO [dO 5 (.mv (cI 0))] (.block 0 (.loop (.seq (sO [mV 16 5,mV 17 0,lN 18 17,bB 19 .lss 16 18] (.cond (tM 19) .skip (.exit 0))) (.seq (.block 1 (sO [mV 22 0,mV 23 5,iA 24 22 23,lD 25 24,mV 26 1,bB 27 .lss 25 26,mV 28 27,gV 29 0 28 false,gV 30 5 28 false,gO 31 (.indexAddr 1 (tM 29) (tM 30)) 28 false,gO 32 (.load none (tM 31)) 28 false,gV 33 0 28 false,gO 34 (.len (tM 33)) 28 false,gO 35 (.bin .geq (tM 32) (tM 34)) 28 false,dO 36 (.pick (tM 28) (cB true) (tM 35))] (.cond (tM 36) (sO [dO 4 (.mv (cI 3))] .ret) .skip))) (.ops [mV 20 5,bC 21 .add 20 1,mV 5 21])))))) (.seq (sO [dO 6 (.mv (cI 0))] (.block 2 (.loop (.seq (sO [mV 37 6,mV 38 0,lN 39 38,bB 40 .lss 37 39] (.cond (tM 40) .skip (.exit 2))) (.seq (.block 3 (sO [dO 7 (.mv (cI 0))] (.block 4 (.loop (.seq (sO [mV 43 7,mV 44 6,bB 45 .lss 43 44] (.cond (tM 45) .skip (.exit 4))) (.seq (.block 5 (sO [mV 48 0,mV 49 7,iA 50 48 49,lD 51 50,mV 52 0,mV 53 6,iA 54 52 53,lD 55 54,bB 56 .eql 51 55,mV 57 56,gV 58 0 57 true,gV 59 6 57 true,gO 60 (.indexAddr 1 (tM 58) (tM 59)) 57 true,gO 61 (.load none (tM 60)) 57 true,gO 62 (.bin .geq (tM 61) (cI 0)) 57 true,dO 63 (.pick (tM 57) (tM 62) (cB false))] (.cond (tM 63) (sO [dO 4 (.mv (cI 11))] .ret) .skip))) (.ops [mV 46 7,bC 47 .add 46 1,mV 7 47]))))))) (.ops [mV 41 6,bC 42 .add 41 1,mV 6 42])))))) (sO [dO 4 (.mv (cI 0))] .ret))))⟩
theorem k19:(Bp Tryz.prog byr).fns 19=some c19:=by kernel_rfl
theorem t19:T.fns 19=some c19:=Bt k19 (by decide) (by decide)
def c12:IFunc:=⟨26,[.tmp 4],sO [dO 4 (.mv (cB false))] (.seq (sO [mV 6 0,lN 7 6,mV 8 1,lN 9 8,bB 10 .neq 7 9] (.cond (tM 10) (sO [dO 4 (.mv (cB false))] .ret) .skip)) (.seq (sO [dO 5 (.mv (cI 0))] (.block 0 (.loop (.seq (sO [mV 11 5,mV 12 0,lN 13 12,bB 14 .lss 11 13] (.cond (tM 14) .skip (.exit 0))) (.seq (.block 1 (sO [mV 17 0,mV 18 5,iA 19 17 18,lD 20 19,mV 21 1,mV 22 5,iA 23 21 22,lD 24 23,bB 25 .neq 20 24] (.cond (tM 25) (sO [dO 4 (.mv (cB false))] .ret) .skip))) (.ops [mV 15 5,bC 16 .add 15 1,mV 5 16])))))) (sO [dO 4 (.mv (cB true))] .ret)))⟩
theorem k12:(Bp Tryz.prog byr).fns 12=some c12:=by kernel_rfl
theorem t12:T.fns 12=some c12:=Bt k12 (by decide) (by decide)
def c55:IFunc:=⟨5,[.tmp 2],sO [dO 2 (.mv (cI 0))] (sO [mV 3 0,dO 4 (.callF false 100 [tM 3,cI 0]),mV 2 4] .ret)⟩
theorem k55:(Bp Tryz.prog byr).fns 55=some c55:=by kernel_rfl
theorem t55:T.fns 55=some c55:=Bt k55 (by decide) (by decide)
def c100:IFunc:=⟨38,[.tmp 4],sO [dO 4 (.mv (cI 0))] (.seq (.block 0 (sO [mV 8 0,lN 9 8,dO 10 (.buildSlice none [.int .i64 0] [(0,(1,tM 9))]),dO 11 (.callF false 145 [cI 1,cI 10,tM 10]),dO 12 (.un .not (tM 11)),mV 7 12] (.cond (tM 7) (sO [dO 4 (.mv (cI 6))] .ret) (sO [mV 14 1,mV 15 0,lN 16 15,bC 17 .sub 16 1,mV 18 0,dO 19 (.callF false 145 [tM 14,tM 17,tM 18]),dO 20 (.un .not (tM 19)),mV 13 20] (.cond (tM 13) (sO [dO 4 (.mv (cI 3))] .ret) .skip))))) (.seq (sO [mV 21 0,lN 22 21,dO 23 (.mv (cI 0))] (.block 1 (.loop (sO [bB 24 .lss 23 22] (.seq (.cond (tM 24) .skip (.exit 1)) (.seq (.block 2 (sO [mV 25 23,iA 26 21 23,lD 27 26,mV 5 25,mV 6 27] (sO [mV 28 6,bC 29 .geq 28 0,mV 30 29,gV 31 0 30 true,gV 32 5 30 true,gO 33 (.slice none (tM 31) none (some (tM 32)) none) 30 true,gV 34 6 30 true,gO 35 (.callF false 87 [tM 33,tM 34]) 30 true,dO 36 (.pick (tM 30) (tM 35) (cB false))] (.cond (tM 36) (sO [dO 4 (.mv (cI 11))] .ret) .skip)))) (.ops [bC 37 .add 23 1,mV 23 37]))))))) (sO [dO 4 (.mv (cI 0))] .ret)))⟩
theorem k100:(Bp Tryz.prog byr).fns 100=some c100:=by kernel_rfl
theorem t100:T.fns 100=some c100:=Bt k100 (by decide) (by decide)
def c145:IFunc:=⟨11,[.tmp 6],sO [dO 3 (.box (tM 0)),dO 4 (.box (tM 1)),dO 6 (.mv (cB false))] (sO [mV 7 2,dO 8 (.mkFunc 195 [] [tM 3,tM 4]),dO 9 (.callF false 101 [tM 7,tM 8]),dO 10 (.un .not (tM 9)),mV 6 10] .ret)⟩
theorem k145:(Bp Tryz.prog byr).fns 145=some c145:=by kernel_rfl
theorem t145:T.fns 145=some c145:=Bt k145 (by decide) (by decide)
def c195:IFunc:=⟨13,[.tmp 4],sO [dO 4 (.mv (cB false))] (sO [mV 5 0,lD 6 1,bB 7 .lss 5 6,mV 8 7,gV 9 0 8 false,gO 10 (.load none (tM 2)) 8 false,gO 11 (.bin .gtr (tM 9) (tM 10)) 8 false,dO 12 (.pick (tM 8) (cB true) (tM 11)),mV 4 12] .ret)⟩
theorem k195:(Bp Tryz.prog byr).fns 195=some c195:=by kernel_rfl
theorem t195:T.fns 195=some c195:=Bt k195 (by decide) (by decide)
def c22:IFunc:=⟨12,[.tmp 2,.tmp 3],sO [dO 2 (.mv (.const .nilptr)),dO 3 (.mv (cI 0))] (.seq (sO [mV 5 0,dO 6 (.callF false 55 [tM 5]),mV 4 6] (sO [mV 7 4,bC 8 .neq 7 0] (.cond (tM 8) (sO [mV 9 4,dO 2 (.mv (.const .nilptr)),mV 3 9] .ret) .skip))) (sO [mV 10 0,dO 11 (.callF true 56 [tM 10]),mV 2 11,dO 3 (.mv (cI 0))] .ret))⟩
theorem k22:(Bp Tryz.prog byr).fns 22=some c22:=by kernel_rfl
theorem t22:T.fns 22=some c22:=Bt k22 (by decide) (by decide)
def c56:IFunc:=⟨8,[.tmp 2],sO [dO 2 (.mv (.const .nilptr))] (sO [mV 3 0,dO 4 (.callF true 61 [tM 3]),dO 5 (.build [.slice none [] true] [(0,(1,tM 4))]),dO 6 (.build [.slice none [] true] [(0,(1,tM 5))]),dO 7 (.box (tM 6)),mV 2 7] .ret)⟩
theorem k56:(Bp Tryz.prog byr).fns 56=some c56:=by kernel_rfl
theorem t56:T.fns 56=some c56:=Bt k56 (by decide) (by decide)
def c24:IFunc:=⟨20,[.tmp 2],sO [dO 1 (.box (tM 0)),dO 2 (.mv (.const (.slice none [] true)))] (sO [dO 5 (.fieldAddr 0 (tM 1)),lD 6 5,lN 7 6,dO 8 (.mkSlice none [.int .i64 0] 8 (tM 7) (tM 7)),mV 3 8] (.seq (sO [mV 9 3,lN 10 9,dO 11 (.mv (cI 0))] (.block 0 (.loop (sO [bB 12 .lss 11 10] (.seq (.cond (tM 12) .skip (.exit 0)) (.seq (.block 1 (sO [mV 13 11,mV 4 13] (.ops [mV 14 3,mV 15 4,mV 16 4,iA 17 14 15,eO (.store 1 (tM 17) (tM 16))]))) (.ops [bC 18 .add 11 1,mV 11 18]))))))) (sO [mV 19 3,mV 2 19] .ret)))⟩
theorem k24:(Bp Tryz.prog byr).fns 24=some c24:=by kernel_rfl
theorem t24:T.fns 24=some c24:=Bt k24 (by decide) (by decide)
structure PermN (p:List Nat):Prop where
 nd:p.Nodup
 lt:∀x∈p,x<p.length
def stp (p:List Nat) (i:Nat):Nat:=p.getD i 0
def itp (p:List Nat):Nat->Nat->Nat
 | 0,x=>x
 | k+1,x=>itp p k (stp p x)
theorem Jd {p:List Nat} {i:Nat} (h:i<p.length):stp p i=p[i]:=by
 simp only [stp,List.getD_eq_getElem?_getD,List.getElem?_eq_getElem h,Option.getD_some]
theorem Xk {p:List Nat}:p.Nodup↔∀{i j:Nat} (hi:i<p.length) (hj:j<p.length),p[i]=p[j]->i=j:=by
 rw [List.Nodup,List.pairwise_iff_getElem]
 constructor
 ·intro h i j hi hj he
  rcases Nat.lt_trichotomy i j with hlt | heq | hgt
  ·exact absurd he (h i j hi hj hlt)
  ·exact heq
  ·exact absurd he.symm (h j i hj hi hgt)
 ·intro h i j hi hj hij he
  have:=h hi hj he
  omega
theorem A5d:∀(n:Nat) (l:List Nat),l.Nodup->(∀x∈l,x<n)->l.length<=n
 | 0,l,_,h=>by
  cases l with
  | nil=>simp
  | cons a r=>exact absurd (h a (by simp)) (by omega)
 | n+1,l,hn,h=>by
  have h1:=A5d n (l.erase n) (hn.erase n) fun x hx=>by
   have:=h x (List.mem_of_mem_erase hx)
   have hne:x≠n:=fun e=>by
    subst e
    exact (List.Nodup.mem_erase_iff hn).1 hx |>.1 rfl
   omega
  rw [List.length_erase] at h1
  split at h1 <;> omega
theorem Ni {p:List Nat} (hp:PermN p) {i:Nat} (h:i<p.length):stp p i<p.length:=by
 rw [Jd h]
 exact hp.lt _ (List.getElem_mem h)
theorem A9v {p:List Nat} (hp:PermN p) {i j:Nat} (hi:i<p.length) (hj:j<p.length) (h:stp p i=stp p j):i=j:=by
 rw [Jd hi,Jd hj] at h
 exact (Xk.1 hp.nd) hi hj h
theorem Lt {p:List Nat} (hp:PermN p):∀(k i:Nat),i<p.length->itp p k i<p.length
 | 0,_,h=>h
 | k+1,_,h=>Lt hp k _ (Ni hp h)
theorem Hv (p:List Nat):∀(a b i:Nat),itp p (a+b) i=itp p b (itp p a i)
 | 0,b,i=>by rw [Nat.zero_add]; rfl
 | a+1,b,i=>by
  rw [Nat.add_right_comm]
  exact Hv p a b _
theorem A4k (p:List Nat) (k i:Nat):itp p (k+1) i=stp p (itp p k i):=Hv p k 1 i
theorem Vx {p:List Nat} (hp:PermN p):∀(k:Nat) {i j:Nat},i<p.length->j<p.length->itp p k i=itp p k j->i=j
 | 0,_,_,_,_,h=>h
 | k+1,_,_,hi,hj,h=>A9v hp hi hj (Vx hp k (Ni hp hi) (Ni hp hj) h)
theorem Nb:∀{a b:List Nat},a.Nodup->(∀x∈a,x∈b)->a.length<=b.length
 | [],b,_,_=>by simp
 | x::r,b,hn,h=>by
  rw [List.nodup_cons] at hn
  have h1:=Nb (a:=r) (b:=b.erase x) hn.2 fun y hy=>by
   refine (List.mem_erase_of_ne ?_).2 (h y (by simp [hy]))
   intro e
   exact hn.1 (e ▸ hy)
  have hx:=h x (by simp)
  rw [List.length_erase_of_mem hx] at h1
  have:=List.length_pos_of_mem hx
  simp only [List.length_cons]
  omega
theorem Asi (f:Nat->Nat) (n:Nat) (h:∀k,k<=n->f k<n):∃a b,a<b/\b<=n/\f a=f b:=by
 apply Classical.byContradiction
 intro hne
 have hnd:((List.range (n+1)).map f).Nodup:=by
  refine List.pairwise_map.2 ?_
  refine List.Pairwise.imp_of_mem ?_ (List.pairwise_lt_range (n:=n+1))
  intro a b ha hb hab he
  exact hne ⟨a,b,hab,by have:=List.mem_range.1 hb; omega,he⟩
 have hsub:∀x∈(List.range (n+1)).map f,x<n:=fun x hx=>by
  obtain ⟨k,hk,rfl⟩:=List.mem_map.1 hx
  have:=List.mem_range.1 hk
  exact h k (by omega)
 have:=A5d n _ hnd hsub
 simp at this
 omega
theorem Xi (q:Nat->Bool):∀n,(∃k,k<=n/\q k=true)->∃k,k<=n/\q k=true/\∀j,j<k->q j=false
 | 0,⟨k,hk,h⟩=>by
  obtain rfl:k=0:=by omega
  exact ⟨0,by omega,h,fun j hj=>by omega⟩
 | n+1,⟨k,hk,h⟩=>by
  by_cases hn:∃k,k<=n/\q k=true
  ·obtain ⟨k',a,b,c⟩:=Xi q n hn
   exact ⟨k',by omega,b,c⟩
  ·have hk':k=n+1:=by
    apply Classical.byContradiction
    intro hne
    exact hn ⟨k,by omega,h⟩
   refine ⟨k,hk,h,fun j hj => ?_⟩
   cases hq:q j with
   | false=>rfl
   | true=>exact absurd ⟨j,by omega,hq⟩ hn
theorem Ash {p:List Nat} (hp:PermN p) {i:Nat} (hi:i<p.length):∃k,0<k/\k<=p.length/\itp p k i=i/\∀j,0<j->j<k->itp p j i≠i:=by
 obtain ⟨a,b,hab,hb,he⟩:=Asi (fun k=>itp p k i) p.length fun k _=>Lt hp k i hi
 have hback:itp p (b-a) i=i:=by
  have h1:itp p b i=itp p a (itp p (b-a) i):=by
   rw [<-Hv]
   congr 1
   omega
  rw [<-he] at h1
  exact (Vx hp a hi (Lt hp _ i hi) h1).symm
 obtain ⟨k,h1,h2,h3⟩:=Xi (fun k=>decide (0<k)&&decide (itp p k i=i)) p.length ⟨b-a,by omega,by simp [hback]; omega⟩
 simp only [Bool.and_eq_true,decide_eq_true_eq] at h2
 refine ⟨k,h2.1,h1,h2.2,fun j hj hjk he => ?_⟩
 have:=h3 j hjk
 simp [hj,he] at this
def Sq (p:List Nat) (i:Nat):Nat->Nat->List Nat
 | 0,_=>[]
 | f+1,a=>if a=i then [] else a::Sq p i f (stp p a)
def cyc (p:List Nat) (i:Nat):List Nat:=i::Sq p i p.length (stp p i)
def per (p:List Nat) (i:Nat):Nat:=(cyc p i).length
theorem A8i {p:List Nat} {i k:Nat} (hk:itp p k i=i) (hl:∀j,0<j->j<k->itp p j i≠i):∀(f m:Nat),0<m->m<=k->k-m<f->Sq p i f (itp p m i)=(List.range' m (k-m)).map fun j=>itp p j i
 | 0,m,_,_,h=>by omega
 | f+1,m,h0,hm,h=>by
  unfold Sq
  by_cases he:m=k
  ·subst he
   rw [if_pos hk,Nat.sub_self]
   rfl
  ·have hlt:m<k:=by omega
   rw [if_neg (hl m h0 hlt),<-A4k,A8i hk hl f (m+1) (by omega) (by omega) (by omega)]
   have:k-m=(k-(m+1))+1:=by omega
   rw [this,List.range'_succ,List.map_cons]
theorem Alz {p:List Nat} {i k:Nat} (hk0:0<k) (hkn:k<=p.length) (hk:itp p k i=i) (hl:∀j,0<j->j<k->itp p j i≠i):cyc p i=(List.range k).map fun j=>itp p j i:=by
 have h1:=A8i hk hl p.length 1 (by omega) hk0 (by omega)
 have h2:itp p 1 i=stp p i:=rfl
 rw [h2] at h1
 rw [cyc,h1]
 obtain ⟨m,rfl⟩:∃m,k=m+1:=⟨k-1,by omega⟩
 rw [Nat.add_sub_cancel,List.range_eq_range',List.range'_succ,List.map_cons]
 rfl
theorem Ip {p:List Nat} (hp:PermN p) {i:Nat} (hi:i<p.length):0<per p i/\per p i<=p.length/\itp p (per p i) i=i/\(∀j,0<j->j<per p i->itp p j i≠i)/\cyc p i=(List.range (per p i)).map fun j=>itp p j i:=by
 obtain ⟨k,h1,h2,h3,h4⟩:=Ash hp hi
 have h5:=Alz h1 h2 h3 h4
 have:per p i=k:=by rw [per,h5,List.length_map,List.length_range]
 rw [this]
 exact ⟨h1,h2,h3,h4,h5⟩
theorem A8u {p:List Nat} {i k:Nat} (h:itp p k i=i):∀m,itp p (k*m) i=i
 | 0=>rfl
 | m+1=>by rw [Nat.mul_succ,Hv,A8u h m,h]
theorem Mm {p:List Nat} (hp:PermN p) {i:Nat} (hi:i<p.length) (m:Nat):itp p m i=itp p (m%per p i) i:=by
 obtain ⟨_,_,h,_⟩:=Ip hp hi
 conv=>lhs; rw [<-Nat.div_add_mod m (per p i),Hv,A8u h]
theorem Oq {p:List Nat} (hp:PermN p) {i:Nat} (hi:i<p.length) (j:Nat):j∈cyc p i↔∃k,j=itp p k i:=by
 obtain ⟨h0,_,_,_,h⟩:=Ip hp hi
 rw [h]
 constructor
 ·intro hj
  obtain ⟨k,_,rfl⟩:=List.mem_map.1 hj
  exact ⟨k,rfl⟩
 ·rintro ⟨k,rfl⟩
  rw [Mm hp hi]
  exact List.mem_map.2 ⟨_,List.mem_range.2 (Nat.mod_lt _ h0),rfl⟩
theorem Oi {p:List Nat} (hp:PermN p) {i j:Nat} (hi:i<p.length) (hj:j∈cyc p i):j<p.length:=by
 obtain ⟨k,rfl⟩:=(Oq hp hi j).1 hj
 exact Lt hp k i hi
theorem A4j {p:List Nat} (hp:PermN p) {i:Nat} (hi:i<p.length) (a b:Nat):itp p a i=itp p b i↔a%per p i=b%per p i:=by
 obtain ⟨h0,hn,hk,hl,_⟩:=Ip hp hi
 constructor
 ·intro h
  have key:∀a b,a<per p i->b<per p i->a<b->itp p a i≠itp p b i:=fun a b ha hb hab he=>by
   have h1:itp p b i=itp p a (itp p (b-a) i):=by
    rw [<-Hv]
    congr 1
    omega
   rw [<-he] at h1
   exact hl (b-a) (by omega) (by omega) (Vx hp a hi (Lt hp _ i hi) h1).symm
  rw [Mm hp hi a,Mm hp hi b] at h
  have ha:=Nat.mod_lt a h0
  have hb:=Nat.mod_lt b h0
  rcases Nat.lt_trichotomy (a%per p i) (b%per p i) with hlt | heq | hgt
  ·exact absurd h (key _ _ ha hb hlt)
  ·exact heq
  ·exact absurd h.symm (key _ _ hb ha hgt)
 ·intro h
  rw [Mm hp hi a,Mm hp hi b,h]
theorem Sr {p:List Nat} (hp:PermN p) {i:Nat} (hi:i<p.length):(cyc p i).Nodup:=by
 obtain ⟨h0,hn,hk,hl,h⟩:=Ip hp hi
 rw [h]
 refine List.pairwise_map.2 ?_
 refine List.Pairwise.imp_of_mem ?_ (List.pairwise_lt_range (n:=per p i))
 intro a b ha hb hab he
 rw [A4j hp hi,Nat.mod_eq_of_lt (List.mem_range.1 ha),Nat.mod_eq_of_lt (List.mem_range.1 hb)] at he
 omega
theorem Vp {p:List Nat} (hp:PermN p) {i j:Nat} (hi:i<p.length) (hj:j∈cyc p i):i∈cyc p j:=by
 have hjl:=Oi hp hi hj
 obtain ⟨h0,hn,hk,hl,h⟩:=Ip hp hi
 rw [h] at hj
 obtain ⟨k,hkr,rfl⟩:=List.mem_map.1 hj
 refine (Oq hp hjl i).2 ⟨per p i-k,?_⟩
 have:=List.mem_range.1 hkr
 rw [<-Hv]
 have:k+(per p i-k)=per p i:=by omega
 rw [this,hk]
theorem Nl {p:List Nat} (hp:PermN p) {i j k:Nat} (hi:i<p.length) (hj:j∈cyc p i) (hk:k∈cyc p j):k∈cyc p i:=by
 have hjl:=Oi hp hi hj
 obtain ⟨a,rfl⟩:=(Oq hp hi j).1 hj
 obtain ⟨b,rfl⟩:=(Oq hp hjl k).1 hk
 exact (Oq hp hi _).2 ⟨a+b,(Hv p a b i).symm⟩
theorem Ago (p:List Nat) (i:Nat):i∈cyc p i:=by simp [cyc]
def Iv (p:List Nat) (i:Nat):Bool:=(cyc p i).all fun j=>decide (i<=j)
def Ze (p:List Nat):List Nat:=(List.range p.length).filter (Iv p)
def Js (p:List Nat):List (List Nat):=(Ze p).map (cyc p)
theorem Aey {p:List Nat} (hp:PermN p) {i:Nat} (hi:i<p.length):∃j∈cyc p i,Iv p j=true:=by
 obtain ⟨k,h1,h2,h3⟩:=Xi (fun j=>(cyc p i).contains j) i ⟨i,Nat.le_refl _,by simpa using Ago p i⟩
 have hk:k∈cyc p i:=by simpa using h2
 refine ⟨k,hk,List.all_eq_true.2 fun j hj=>decide_eq_true ?_⟩
 apply Classical.byContradiction
 intro hlt
 have:=h3 j (by omega)
 have hj':=Nl hp hi hk hj
 simp [hj'] at this
theorem Aog {p:List Nat} (hp:PermN p) {i j:Nat} (hi:i<p.length) (h1:Iv p i=true) (h2:Iv p j=true) (hj:j∈cyc p i):i=j:=by
 have a:=of_decide_eq_true (List.all_eq_true.1 h1 j hj)
 have b:=of_decide_eq_true (List.all_eq_true.1 h2 i (Vp hp hi hj))
 omega
theorem Gv {p:List Nat} {i:Nat}:i∈Ze p↔i<p.length/\Iv p i=true:=by
 simp [Ze]
theorem A1a {p:List Nat} (hp:PermN p):(Js p).flatten.Perm (List.range p.length):=by
 have hnd:(Js p).flatten.Nodup:=by
  rw [List.Nodup,List.pairwise_flatten]
  constructor
  ·intro c hc
   obtain ⟨i,hi,rfl⟩:=List.mem_map.1 hc
   exact Sr hp (Gv.1 hi).1
  ·refine List.pairwise_map.2 ?_
   have:(Ze p).Nodup:=List.Pairwise.filter _ List.nodup_range
   refine List.Pairwise.imp_of_mem ?_ this
   intro a b ha hb hne x hxa y hxb he
   subst he
   obtain ⟨ha1,ha2⟩:=Gv.1 ha
   obtain ⟨hb1,hb2⟩:=Gv.1 hb
   exact hne (Aog hp ha1 ha2 hb2 (Nl hp ha1 hxa (Vp hp hb1 hxb)))
 refine (List.perm_ext_iff_of_nodup hnd List.nodup_range).2 fun x => ?_
 rw [List.mem_flatten,List.mem_range]
 constructor
 ·rintro ⟨c,hc,hx⟩
  obtain ⟨i,hi,rfl⟩:=List.mem_map.1 hc
  exact Oi hp (Gv.1 hi).1 hx
 ·intro hx
  obtain ⟨j,hj,hm⟩:=Aey hp hx
  have hjl:=Oi hp hx hj
  exact ⟨cyc p j,List.mem_map.2 ⟨j,Gv.2 ⟨hjl,hm⟩,rfl⟩,Vp hp hx hj⟩
theorem Agi {p:List Nat} (hp:PermN p):((Js p).map List.length).sum=p.length:=by
 rw [<-List.length_flatten,(A1a hp).length_eq,List.length_range]
theorem Zz (p:List Nat) (i:Nat):0<(cyc p i).length:=by simp [cyc]
def Fz (p:List Nat) (t:Nat):List Nat:=(List.range p.length).map fun i=>itp p t i
def Xj (p:List Nat):List Nat:=(Js p).map List.length
def agn (p:List Nat):Nat:=(Xj p).foldl Nat.lcm 1
theorem A8j {p:List Nat} (hp:PermN p) {i:Nat} (hi:i<p.length) {k:Nat} (hk:k<per p i):(cyc p i)[k]? = some (itp p k i):=by
 obtain ⟨_,_,_,_,h⟩:=Ip hp hi
 rw [h,List.getElem?_map,List.getElem?_range hk]
 rfl
theorem Aiu {p:List Nat} (hp:PermN p) {i j:Nat} (hi:i<p.length) (hj:j∈cyc p i):per p j=per p i:=by
 have hjl:=Oi hp hi hj
 have a:=Nb (Sr hp hi) fun x hx=>Nl hp hjl (Vp hp hi hj) hx
 have b:=Nb (Sr hp hjl) fun x hx=>Nl hp hi hj hx
 simp only [per]
 omega
theorem Afn {p:List Nat} (hp:PermN p) (a b:Nat):Fz p a=Fz p b↔∀n∈Xj p,a%n=b%n:=by
 constructor
 ·intro h n hn
  obtain ⟨c,hc,rfl⟩:=List.mem_map.1 hn
  obtain ⟨i,hi,rfl⟩:=List.mem_map.1 hc
  have hil:=(Gv.1 hi).1
  have h1:(Fz p a)[i]? = (Fz p b)[i]?:=by rw [h]
  simp only [Fz,List.getElem?_map,List.getElem?_range hil,Option.map_some,Option.some.injEq] at h1
  exact (A4j hp hil a b).1 h1
 ·intro h
  apply List.map_congr_left
  intro i hi
  have hil:=List.mem_range.1 hi
  obtain ⟨j,hj,hm⟩:=Aey hp hil
  have hjl:=Oi hp hil hj
  rw [A4j hp hil a b]
  have:=h (per p j) (List.mem_map.2 ⟨cyc p j,List.mem_map.2 ⟨j,Gv.2 ⟨hjl,hm⟩,rfl⟩,rfl⟩)
  rwa [Aiu hp hil hj] at this
theorem Lz:∀(l:List Nat) (m:Nat),m ∣ l.foldl Nat.lcm m/\∀n∈l,n ∣ l.foldl Nat.lcm m
 | [],m=>⟨Nat.dvd_refl _,fun n h=>by cases h⟩
 | a::r,m=>by
  obtain ⟨h1,h2⟩:=Lz r (Nat.lcm m a)
  refine ⟨Nat.dvd_trans (Nat.dvd_lcm_left m a) h1,fun n hn => ?_⟩
  rcases List.mem_cons.1 hn with rfl | hn
  ·exact Nat.dvd_trans (Nat.dvd_lcm_right m _) h1
  ·exact h2 n hn
theorem A4q {p:List Nat} {n:Nat} (hn:n∈Xj p):0<n:=by
 obtain ⟨c,hc,rfl⟩:=List.mem_map.1 hn
 obtain ⟨i,hi,rfl⟩:=List.mem_map.1 hc
 exact Zz p i
theorem A9o {p:List Nat} (hp:PermN p) (t:Nat):Fz p t=Fz p (t%agn p):=by
 rw [Afn hp]
 intro n hn
 exact (Nat.mod_mod_of_dvd t ((Lz (Xj p) 1).2 n hn)).symm
end Go.Ev.YtofpilpmiddpgaaGreatC
namespace Go.Ev.YtofpilpmiddpgaaGreatC
open Go Go.Proofs
abbrev Bx (l:List Int):AV:=.slice none (l.map (.int .i64)) false
def nI6 (p:List Nat):List Int:=p.map fun x:Nat=>(x:Int)
attribute [local irreducible] Res.all evC Dg Dj Bo Bg Dm Bf Bi G GO GV GP GC R
theorem Ads {k f:Nat} {first cap:List AV} {p:Int->Bool} (xs:List Int) (hl:xs.length<=1000) (hc:∀x∈xs,Con T k f (first++[.int .i64 x]++cap) (.bool (p x))) (hz:∀h x,fz h (first++[.int .i64 x]++cap) = .ret (first++[.int .i64 x]++cap)) :
  Con T (k+1) 146 [Bx xs,.clo f first cap] (.int .i64 (Ho p xs 0)):=by
 refine Br t146 fun n hn V hV => ?_
 simp (disch:=omega) only [c146,go_sem,↓reduceIte]
 refine Db (fun M s=>∃k:Nat,M=xs.length-k/\k<=xs.length/\At s.env [(0,Bx xs),(1,.clo f first cap),(7,.int .i64 xs.length),(8,.int .i64 k)]/\Ho p xs 0=Ho p (xs.drop k) k) xs.length (by omega) ⟨0,by simp,by omega,by simp [go_sem,↓reduceIte],rfl⟩ ?_
 rintro M e h hM ⟨k,rfl,hk,hE,hA⟩ P hP
 simp only [Bq,Bw] at hE
 obtain ⟨h0,h1,h7,h8,-⟩:=hE
 by_cases hlt:k<xs.length
 ·obtain ⟨y,hy⟩:=Fo hlt
  rw [Fa hy,Ho] at hA
  simp (disch:=omega) only [go_sem,↓reduceIte,h0,h1,h7,h8,hlt,hy]
  refine Dn (hc y (List.mem_of_getElem? hy)) hn (hz _ _) (Gl _ _) ?_
  by_cases hp:p y=true
  ·simp (disch:=omega) only [go_sem,↓reduceIte,h0,h1,h7,h8,hp]
   exact hV _ _ (by rw [Bm,hA,if_pos hp])
  ·simp (disch:=omega) only [go_sem,↓reduceIte,h0,h1,h7,h8,hp]
   exact hP (xs.length-(k+1)) _ (by omega) ⟨k+1,rfl,by omega,by simp only [go_sem,↓reduceIte,h0,h1,h7],by rw [hA,if_neg hp]; rfl⟩
 ·simp (disch:=omega) only [go_sem,↓reduceIte,h0,h1,h7,h8,hlt]
  exact hV _ _ (by rw [Bm,hA,List.drop_eq_nil_of_le (by omega)]; rfl)
theorem A1c {k f:Nat} {first cap:List AV} {p:Int->Bool} (xs:List Int) (hl:xs.length<=1000) (hc:∀x∈xs,Con T k f (first++[.int .i64 x]++cap) (.bool (p x))) (hz:∀h x,fz h (first++[.int .i64 x]++cap) = .ret (first++[.int .i64 x]++cap))
  (hf:∀h,Bi h 8 (.clo f first cap) = .ret (.clo f first cap)):Con T (k+2) 101 [Bx xs,.clo f first cap] (.bool (xs.any p)):=by
 refine Br t101 fun n hn V hV => ?_
 simp (disch:=omega) only [c101,go_sem,↓reduceIte]
 refine Dn (Ads xs hl hc hz) hn (Bz _ _ _ _ (Dc (hf _) (By _))) (Ge _ _ _) ?_
 simp (disch:=omega) only [go_sem,↓reduceIte,Mz]
 exact hV _ _ (Dl _ _ _)
theorem A3s (x lo hi:Int):Con T 1 195 ([]++[.int .i64 x]++[.ptr [.int .i64 lo] 0,.ptr [.int .i64 hi] 0]) (.bool (decide (x<lo)||decide (x>hi))):=by
 refine Br t195 fun n hn V hV => ?_
 by_cases g1:x<lo
 ·simp (disch:=omega) only [c195,go_sem,↓reduceIte,g1,List.cons_append]
  refine hV _ _ ?_
  simp [g1,Dl]
 ·simp (disch:=omega) only [c195,go_sem,↓reduceIte,g1,List.cons_append]
  refine hV _ _ ?_
  simp [g1,Dl]
def Je (lo hi:Int) (xs:List Int):Bool:=!xs.any fun x=>decide (x<lo)||decide (x>hi)
theorem A6x (lo hi:Int) (xs:List Int) (hl:xs.length<=1000):Con T 4 145 [.int .i64 lo,.int .i64 hi,Bx xs] (.bool (Je lo hi xs)):=by
 refine Br t145 fun n hn V hV => ?_
 simp (disch:=omega) only [c145,go_sem,↓reduceIte]
 refine Dn (A1c (p:=fun x=>decide (x<lo)||decide (x>hi)) xs hl (fun x _=>A3s x lo hi) (fun h x => ?_) (fun h => ?_)) hn (Bz _ _ _ _ (Dc (Gq (De _ _) (Bu (Et (cs:=[.int .i64 lo]) (by simp [go_sem,↓reduceIte]) (Bu (Bm _ _ _ _) (De _ _))) (Bu (Et (cs:=[.int .i64 hi]) (by simp [go_sem,↓reduceIte]) (Bu (Bm _ _ _ _) (De _ _))) (De _ _)))) (By _))) (Gl _ _) ?_
 ·exact Fd _ _ _ (Dc (Ds _ _ _ _) (Dc (Ds _ _ _ _) (By _)))
 ·exact Gq (De _ _) (Bu (Ds _ _ _ _) (Bu (Ds _ _ _ _) (De _ _)))
 simp (disch:=omega) only [go_sem,↓reduceIte]
 exact hV _ _ (Dl _ _ _)
section
variable {n base:Nat} {Q:EX×St->Prop} {d:Option Nat} {L:List IOper} {ks:List Kont} {e:Env} {h:Bc}
theorem Yk {lo hi:Int} {xs:List Int} {x:Bool} (hn:4<=n) (hl:xs.length<=1000) :
  GP (Bf T n) base Q d L ks e (Bf T n false (.fn 145) [.int .i64 lo,.int .i64 hi,.slice none (xs.map (.int .i64)) x] h)=GO (Bf T n) base Q L ks ⟨Bj e d (.bool (Je lo hi xs)),h⟩:=
 Ex (A6x lo hi xs hl) hn (by repeat (first | exact By _ | refine Bz _ _ _ _ ?_ | refine Fd _ _ _ ?_)) rfl
theorem A6z {lo hi a:Int} {x:Bool} (hn:4<=n) :
  GP (Bf T n) base Q d L ks e (Bf T n false (.fn 145) [.int .i64 lo,.int .i64 hi,.slice none [.int .i64 a] x] h)=GO (Bf T n) base Q L ks ⟨Bj e d (.bool (!(decide (a<lo)||decide (a>hi)))),h⟩:=by
 have:=Yk (base:=base) (Q:=Q) (d:=d) (L:=L) (ks:=ks) (e:=e) (h:=h) (lo:=lo) (hi:=hi) (xs:=[a]) (x:=x) hn (by simp)
 rw [show Je lo hi [a]=(!(decide (a<lo)||decide (a>hi))) by simp [Je]] at this
 exact this
end
theorem gdI {S:List Int} {k:Nat} (h:k<S.length):S[k]? = some (S.getD k 0):=by
 rw [List.getD_eq_getElem?_getD,List.getElem?_eq_getElem h]; rfl
theorem Dw (p:List Nat):(nI6 p).length=p.length:=by simp [nI6]
theorem Hw {p:List Nat} {i:Nat} (h:i<p.length):(nI6 p)[i]? = some ((p[i]:Nat):Int):=by
 rw [nI6,List.getElem?_map,List.getElem?_eq_getElem h]; rfl
theorem Acu {p:List Nat} (hp:PermN p):Je 0 ((p.length:Int)-1) (nI6 p)=true:=by
 simp only [Je,Bool.not_eq_true',List.any_eq_false,Bool.or_eq_true,decide_eq_true_eq]
 intro x hx
 obtain ⟨y,hy,rfl⟩:=List.mem_map.1 hx
 have:=hp.lt y hy
 omega
theorem Aam (p:List Nat) (hp:PermN p) (h1:1<=p.length) (h10:p.length<=10):Con T 6 100 [Bx (nI6 p),.int .i64 0] (.int .i64 0):=by
 refine Br t100 fun n hn V hV => ?_
 have hlen:=Dw p
 have w1:(!(decide ((p.length:Int)<1)||decide ((p.length:Int)>10)))=true:=by
  rw [decide_eq_false (by omega),decide_eq_false (by omega)]; rfl
 have w2:=Acu hp
 simp (disch:=omega) only [c100,go_sem,↓reduceIte,Yk,A6z,hlen,w1,w2]
 refine Db (fun M s=>∃k:Nat,M=p.length-k/\k<=p.length/\At s.env [(0,Bx (nI6 p)),(21,Bx (nI6 p)),(22,.int .i64 p.length),(23,.int .i64 k)]) p.length (by omega) ⟨0,by omega,by omega,by simp only [go_sem,↓reduceIte]⟩ ?_
 rintro M e h hM ⟨k,rfl,hk,hE⟩ P hP
 simp only [Bq,Bw] at hE
 obtain ⟨f0,f21,f22,f23,-⟩:=hE
 by_cases hlt:k<p.length
 ·have hlt':(k:Int)<(p.length:Int):=by omega
  have hg:=Hw hlt
  have hge:decide (((p[k]:Nat):Int)>=0)=true:=decide_eq_true (by omega)
  have htk:((nI6 p).map (AV.int .i64)).take k=((nI6 p).take k).map (.int .i64):=by rw [List.map_take]
  have hno:(((nI6 p).take k).any fun x=>((p[k]:Nat):Int)==x)=false:=by
   rw [List.any_eq_false]
   intro x hx he
   have he':((p[k]:Nat):Int)=x:=by simpa using he
   rw [nI6,<-List.map_take] at hx
   obtain ⟨y,hy,rfl⟩:=List.mem_map.1 hx
   obtain ⟨j,hj,hjy⟩:=List.getElem_of_mem hy
   have hjk:j<k:=by
    rw [List.length_take] at hj
    omega
   rw [List.getElem_take] at hjy
   have:=Xk.1 hp.nd (i:=j) (j:=k) (by omega) hlt (by omega)
   omega
  have hk0:0<=(k:Int)/\(k:Int)<=(nI6 p).length:=by omega
  have hcon:Con T 2 87 [.slice none (((nI6 p).take k).map (.int .i64)) false,.int .i64 ((p[k]:Nat):Int)] (.bool false):=by
   have hc:=Rg ((nI6 p).take k) ((p[k]:Nat):Int) (by rw [List.length_take,Dw]; omega)
   rw [hno] at hc
   exact hc
  have csC:∀{base:Nat} {Q:EX×St->Prop} {d:Option Nat} {L:List IOper} {ks:List Kont} {e:Env} {h:Bc} {x:Bool},GP (Bf T n) base Q d L ks e (Bf T n false (.fn 87) [.slice none (((nI6 p).take k).map (.int .i64)) x,.int .i64 ((p[k]:Nat):Int)] h)=GO (Bf T n) base Q L ks ⟨Bj e d (.bool false),h⟩:=fun {base Q d L ks e h x} =>
   Ex hcon (show 2<=n by omega) (Bz _ _ _ _ (Dc (Bm _ _ _ _) (By _))) (Gl _ _)
  simp (disch:=omega) only [go_sem,↓reduceIte,f0,f21,f22,f23,hlt',hg,hge,hk0,htk,Int.toNat_natCast,csC]
  exact hP (p.length-(k+1)) _ (by omega) ⟨k+1,rfl,by omega,by simp only [go_sem,↓reduceIte,f0,f21,f22]⟩
 ·have hlt':¬(k:Int)<(p.length:Int):=by omega
  simp (disch:=omega) only [go_sem,↓reduceIte,f22,f23,hlt']
  exact hV _ _ (Bm _ _ _ _)
theorem A6u (p:List Nat) (hp:PermN p) (h1:1<=p.length) (h10:p.length<=10):Con T 7 55 [Bx (nI6 p)] (.int .i64 0):=by
 refine Br t55 fun n hn V hV => ?_
 simp (disch:=omega) only [c55,go_sem,↓reduceIte]
 refine Dn (Aam p hp h1 h10) hn (Bz _ _ _ _ (Dc (Bm _ _ _ _) (By _))) (Ge _ _ _) ?_
 simp (disch:=omega) only [go_sem,↓reduceIte]
 exact hV _ _ (Bm _ _ _ _)
end Go.Ev.YtofpilpmiddpgaaGreatC
namespace Go.Ev.YtofpilpmiddpgaaGreatC
def inv:List Int->Nat
 | []=>0
 | a::r=>r.countP (fun x=>decide (a>x))+inv r
end Go.Ev.YtofpilpmiddpgaaGreatC
namespace Go.Ev.YtofpilpmiddpgaaGreatC
open Go Go.Proofs
def Aqd (p:List Nat) (h:Bc) (v:AV) (h':Bc):Prop:=
 ∃K key ver,v = .tuple [.optr K 0 0,.int .i64 0]/\Bb h' K = .cells 0 [.oslice key ver none 0 p.length none]/\Bb h' key = .cells ver ((nI6 p).map (.int .i64))/\h.length<=K/\h.length<=key/\K≠key/\K<h'.length/\key<h'.length/\(∀j,j<h.length->Bb h' j=Bb h j)/\h.length<=h'.length
theorem tCl:T.fns 61=some Kv:=Bt k61 (by decide) (by decide)
def flT (n k:Nat):List Int:=(List.range k).map (fun i:Nat=>(i:Int))++List.replicate (n-k) 0
theorem Amn {n k:Nat} (h:k<=n):(flT n k).length=n:=by simp [flT]; omega
theorem Amo {n k:Nat} (h:k<n):(flT n k).set k (k:Int)=flT n (k+1):=by
 obtain ⟨m,hm⟩:∃m,n-k=m+1:=⟨n-k-1,by omega⟩
 have hm2:n-(k+1)=m:=by omega
 rw [flT,flT,hm,hm2,List.set_append_right _ _ (by simp),List.length_map,List.length_range,Nat.sub_self,List.replicate_succ,List.set_cons_zero,List.range_succ,List.map_append,List.append_assoc]
 rfl
theorem Amm (n:Nat):flT n n=nI6 (List.range n):=by simp [flT,nI6]
theorem Agy (n:Nat):flT n 0=List.replicate n 0:=by simp [flT]
attribute [local irreducible] Res.all evC Dg Dj Bo Bg Dm Bf Bi G GO GV GP GC R
section
variable {n base:Nat} {Q:EX×St->Prop} {d:Option Nat} {L:List IOper} {ks:List Kont} {e:Env} {h:Bc}
theorem Aei {l:List Int} {ex:Bool} (h1:1<=l.length) (h10:l.length<=1000)
  (hq:∀key ver h',Bb h' key = .cells ver (l.map (.int .i64))->h.length<=key->key<h'.length->(∀j,j<h.length->Bb h' j=Bb h j)->h.length<=h'.length->GO (Bf T (n+1)) base Q L ks ⟨Bj e d (.oslice key ver none 0 l.length none),h'⟩) :
  GP (Bf T (n+1)) base Q d L ks e (Bf T (n+1) true (.fn 61) [.slice none (l.map (.int .i64)) ex] h):=by
 refine Fq ?_
 rw [Eg tCl]
 match l,h1,h10 with
 | a::r,_,h10 =>
  simp (disch:=omega) only [Kv,go_sem,↓reduceIte]
  refine A1q (m:=(a::r).length) (l2:=a::r) (kk:=h.length+8) (by simp only [List.length_append,List.length_replicate]) (Ja (h.length+8) _ .i64) (by simp only [List.length_append,List.length_replicate]; omega) (Aly _ (a::r) .i64 ex) rfl (by simp) (by simp only [List.length_nil,List.length_cons] at *; omega) fun x h' hO hk hlen _ _ => ?_
  rcases hO with ⟨hnil,_⟩ | ⟨key,ver,hkey,rfl,hH⟩
  ·simp at hnil
  rw [List.nil_append] at hH ⊢
  simp (disch:=omega) only [go_sem,↓reduceIte,Gf,mapR]
  have hlt:=Dz hH (by simp)
  refine hq key ver h' hH (by omega) hlt (fun j hj => ?_) ?_
  ·rw [hk j (by omega),Bh]
  ·simp only [List.length_append,List.length_replicate] at hlen; omega
end
end Go.Ev.YtofpilpmiddpgaaGreatC
namespace Go.Ev.YtofpilpmiddpgaaGreatC
open Go Go.Proofs
def Jq (l:List Int) (x:Int):Bool:=decide (x<0)||decide (x>=l.length)
def dqJ (l:List Int) (i k:Nat):Bool:=(l.getD k 0==l.getD i 0)&&decide (l.getD i 0>=0)
def Wz (l:List Int) (n:Nat):Bool:=(List.range n).any fun i=>(List.range i).any (dqJ l i)
def Jg (l:List Int):Int:=if l.length<1\/10<l.length then 6 else if l.any (Jq l) then 3 else if Wz l l.length then 11 else 0
theorem Adv (l:List Int) (i:Nat):Wz l (i+1)=(Wz l i||(List.range i).any (dqJ l i)):=by
 rw [Wz,List.range_succ,List.any_append,List.any_cons,List.any_nil,Bool.or_false]; rfl
theorem Og (p:Nat->Bool) (k:Nat):(List.range (k+1)).any p=((List.range k).any p||p k):=by
 rw [List.range_succ,List.any_append,List.any_cons,List.any_nil,Bool.or_false]
theorem Adj {l:List Int} (h:Jg l=0):∃p,l=nI6 p/\PermN p/\1<=p.length/\p.length<=10:=by
 unfold Jg at h
 by_cases h1:l.length<1\/10<l.length
 ·rw [if_pos h1] at h; cases h
 rw [if_neg h1] at h
 by_cases h2:l.any (Jq l)=true
 ·rw [if_pos h2] at h; cases h
 rw [if_neg h2] at h
 by_cases h3:Wz l l.length=true
 ·rw [if_pos h3] at h; cases h
 have hin:∀x∈l,0<=x/\x<l.length:=fun x hx=>by
  have:Jq l x=false:=by
   cases hb:Jq l x with
   | false=>rfl
   | true=>exact absurd (List.any_eq_true.2 ⟨x,hx,hb⟩) h2
  simp only [Jq,Bool.or_eq_false_iff,decide_eq_false_iff_not] at this
  omega
 have hl:l=nI6 (l.map Int.toNat):=by
  rw [nI6,List.map_map]
  have:∀m:List Int,(∀x∈m,0<=x)->m=m.map ((fun x:Nat=>(x:Int)) ∘ Int.toNat):=fun m=>by
   induction m with
   | nil=>intro _; rfl
   | cons a r ih =>
    intro hm
    have ha:=hm a (by simp)
    rw [List.map_cons,<-ih fun x hx=>hm x (by simp [hx])]
    congr 1
    simp only [Function.comp]
    omega
  exact this l fun x hx=>(hin x hx).1
 refine ⟨l.map Int.toNat,hl,⟨?_,fun y hy => ?_⟩,by rw [List.length_map]; omega,by rw [List.length_map]; omega⟩
 ·rw [List.Nodup,List.pairwise_map,List.pairwise_iff_getElem]
  intro i j hi hj hij he
  apply h3
  have hgi:=hin _ (List.getElem_mem hi)
  have hgj:=hin _ (List.getElem_mem hj)
  have e1:l.getD i 0=l[i]:=by rw [List.getD_eq_getElem?_getD,List.getElem?_eq_getElem hi]; rfl
  have e2:l.getD j 0=l[j]:=by rw [List.getD_eq_getElem?_getD,List.getElem?_eq_getElem hj]; rfl
  refine List.any_eq_true.2 ⟨j,List.mem_range.2 hj,List.any_eq_true.2 ⟨i,List.mem_range.2 hij,?_⟩⟩
  simp only [dqJ,e1,e2,Bool.and_eq_true,beq_iff_eq,decide_eq_true_eq]
  omega
 ·obtain ⟨x,hx,rfl⟩:=List.mem_map.1 hy
  have:=hin x hx
  rw [List.length_map]
  omega
theorem Alu {p:List Nat} (hp:PermN p) (h1:1<=p.length) (h10:p.length<=10):Jg (nI6 p)=0:=by
 have hl:=Dw p
 unfold Jg
 rw [if_neg (by omega),if_neg ?_,if_neg ?_]
 ·intro h
  obtain ⟨i,hi,h2⟩:=List.any_eq_true.1 h
  obtain ⟨k,hk,h3⟩:=List.any_eq_true.1 h2
  have hi':=List.mem_range.1 hi
  have hk':=List.mem_range.1 hk
  simp only [dqJ,Bool.and_eq_true,beq_iff_eq] at h3
  rw [hl] at hi'
  rw [List.getD_eq_getElem?_getD,List.getD_eq_getElem?_getD,Hw hi',Hw (by omega)] at h3
  have:=Xk.1 hp.nd (i:=k) (j:=i) (by omega) hi' (by have:=h3.1; simp at this; omega)
  omega
 ·intro h
  obtain ⟨x,hx,hb⟩:=List.any_eq_true.1 h
  obtain ⟨y,hy,rfl⟩:=List.mem_map.1 hx
  have:=hp.lt y hy
  simp only [Jq,Bool.or_eq_true,decide_eq_true_eq,hl] at hb
  omega
attribute [local irreducible] Res.all evC Dg Dj Bo Bg Dm Bf Bi G GO GV GP GC R
theorem Aai (l:List Int):Con T 1 19 [Bx l,.int .i64 0] (.int .i64 (Jg l)):=by
 refine Br t19 fun n hn V hV => ?_
 replace hV:∀c h,c=Jg l->V (.int .i64 c,h):=fun c h e=>hV _ _ (by rw [e]; exact Bm _ _ _ _)
 by_cases g1:l.length<1
 ·have d1:decide ((l.length:Int)<1)=true:=decide_eq_true (by omega)
  simp (disch:=omega) only [c19,go_sem,↓reduceIte,d1]
  exact hV _ _ (by rw [Jg,if_pos (.inl g1)])
 have d1:decide ((l.length:Int)<1)=false:=decide_eq_false (by omega)
 by_cases g2:10<l.length
 ·have d2:decide ((l.length:Int)>10)=true:=decide_eq_true (by omega)
  simp (disch:=omega) only [c19,go_sem,↓reduceIte,d1,d2]
  exact hV _ _ (by rw [Jg,if_pos (.inr g2)])
 have d2:decide ((l.length:Int)>10)=false:=decide_eq_false (by omega)
 have hch:Jg l=if l.any (Jq l) then 3 else if Wz l l.length then 11 else 0:=by rw [Jg,if_neg (by omega)]
 simp (disch:=omega) only [c19,go_sem,↓reduceIte,d1,d2]
 refine Db (fun M s=>∃k:Nat,M=l.length-k/\k<=l.length/\At s.env [(0,Bx l),(1,.int .i64 0),(5,.int .i64 k)]/\(l.take k).any (Jq l)=false) l.length (by omega) ⟨0,by omega,by omega,by simp only [go_sem,↓reduceIte],by simp⟩ ?_
 rintro M e h hM ⟨k,rfl,hk,hE,hA⟩ P hP
 simp only [Bq,Bw] at hE
 obtain ⟨f0,f1,f5,-⟩:=hE
 by_cases hlt:k<l.length
 ·have hlt':(k:Int)<(l.length:Int):=by omega
  have hg:l[k]? = some l[k]:=List.getElem?_eq_getElem hlt
  have htk:(l.take (k+1)).any (Jq l)=((l.take k).any (Jq l)||Jq l l[k]):=by
   rw [List.take_add_one,hg,List.any_append]
   simp only [Option.toList_some,List.any_cons,List.any_nil,Bool.or_false]
  have hbad:Jq l l[k]=true->V (.int .i64 3,h):=fun hb=>hV _ _ (by
   rw [hch,if_pos]
   exact List.any_eq_true.2 ⟨_,List.getElem_mem hlt,hb⟩)
  by_cases x1:l[k]<0
  ·have e1:decide (l[k]<0)=true:=decide_eq_true x1
   simp (disch:=omega) only [go_sem,↓reduceIte,f0,f1,f5,hlt',hg,e1]
   exact hV _ _ (by rw [hch,if_pos]; exact List.any_eq_true.2 ⟨_,List.getElem_mem hlt,by rw [Jq,e1]; rfl⟩)
  ·have e1:decide (l[k]<0)=false:=decide_eq_false x1
   by_cases x2:l[k]>=l.length
   ·have e2:decide (l[k]>=(l.length:Int))=true:=decide_eq_true x2
    simp (disch:=omega) only [go_sem,↓reduceIte,f0,f1,f5,hlt',hg,e1,e2]
    exact hV _ _ (by rw [hch,if_pos]; exact List.any_eq_true.2 ⟨_,List.getElem_mem hlt,by rw [Jq,e1,e2]; rfl⟩)
   ·have e2:decide (l[k]>=(l.length:Int))=false:=decide_eq_false x2
    simp (disch:=omega) only [go_sem,↓reduceIte,f0,f1,f5,hlt',hg,e1,e2]
    exact hP (l.length-(k+1)) _ (by omega) ⟨k+1,rfl,by omega,by simp only [go_sem,↓reduceIte,f0,f1],by rw [htk,hA,Jq,e1,e2]; rfl⟩
 ·obtain rfl:k=l.length:=by omega
  rw [List.take_of_length_le (Nat.le_refl _)] at hA
  rw [hA] at hch
  simp only [Bool.false_eq_true,if_false] at hch
  have hlt':¬(l.length:Int)<(l.length:Int):=by omega
  simp (disch:=omega) only [go_sem,↓reduceIte,f0,f5,hlt']
  refine Db (fun M s=>∃i:Nat,M=l.length-i/\i<=l.length/\At s.env [(0,Bx l),(6,.int .i64 i)]/\Wz l i=false) l.length (by omega) ⟨0,by omega,by omega,by simp only [go_sem,↓reduceIte,f0],rfl⟩ ?_
  clear f0 f1 f5
  rintro M e h hM ⟨i,rfl,hi,hE,hD⟩ P2 hP2
  simp only [Bq,Bw] at hE
  obtain ⟨f0,f6,-⟩:=hE
  by_cases hit:i<l.length
  ·have hit':(i:Int)<(l.length:Int):=by omega
   have hgi:l[i]? = some (l.getD i 0):=by rw [List.getD_eq_getElem?_getD,List.getElem?_eq_getElem hit]; rfl
   simp (disch:=omega) only [go_sem,↓reduceIte,f0,f6,hit']
   refine Db (fun M s=>∃k:Nat,M=i-k/\k<=i/\At s.env [(0,Bx l),(6,.int .i64 i),(7,.int .i64 k)]/\(List.range k).any (dqJ l i)=false) i (by omega) ⟨0,by omega,by omega,by simp only [go_sem,↓reduceIte,f0,f6],rfl⟩ ?_
   clear f0 f6
   rintro M e h hM ⟨k,rfl,hk,hE,hK⟩ P3 hP3
   simp only [Bq,Bw] at hE
   obtain ⟨f0,f6,f7,-⟩:=hE
   by_cases hki:k<i
   ·have hki':(k:Int)<(i:Int):=by omega
    have hgk:l[k]? = some (l.getD k 0):=gdI (by omega)
    by_cases y1:l.getD k 0=l.getD i 0
    ·have e1:(l.getD k 0==l.getD i 0)=true:=beq_iff_eq.2 y1
     by_cases y2:l.getD i 0>=0
     ·have e2:decide (l.getD i 0>=0)=true:=decide_eq_true y2
      simp (disch:=omega) only [go_sem,↓reduceIte,f0,f6,f7,hki',hgi,hgk,e1,e2]
      exact hV _ _ (by
       rw [hch,if_pos]
       exact List.any_eq_true.2 ⟨i,List.mem_range.2 hit,List.any_eq_true.2 ⟨k,List.mem_range.2 hki,by rw [dqJ,e1,e2]; rfl⟩⟩)
     ·have e2:decide (l.getD i 0>=0)=false:=decide_eq_false y2
      simp (disch:=omega) only [go_sem,↓reduceIte,f0,f6,f7,hki',hgi,hgk,e1,e2]
      exact hP3 (i-(k+1)) _ (by omega) ⟨k+1,rfl,by omega,by simp only [go_sem,↓reduceIte,f0,f6],by rw [Og,hK,dqJ,e1,e2]; rfl⟩
    ·have e1:(l.getD k 0==l.getD i 0)=false:=beq_eq_false_iff_ne.2 y1
     simp (disch:=omega) only [go_sem,↓reduceIte,f0,f6,f7,hki',hgi,hgk,e1]
     exact hP3 (i-(k+1)) _ (by omega) ⟨k+1,rfl,by omega,by simp only [go_sem,↓reduceIte,f0,f6],by rw [Og,hK,dqJ,e1]; rfl⟩
   ·obtain rfl:k=i:=by omega
    have hkk:¬(k:Int)<(k:Int):=by omega
    simp (disch:=omega) only [go_sem,↓reduceIte,f6,f7,hkk]
    exact hP2 (l.length-(k+1)) _ (by omega) ⟨k+1,rfl,by omega,by simp only [go_sem,↓reduceIte,f0],by rw [Adv,hD,hK]; rfl⟩
  ·obtain rfl:i=l.length:=by omega
   have hii:¬(l.length:Int)<(l.length:Int):=by omega
   simp (disch:=omega) only [go_sem,↓reduceIte,f0,f6,hii]
   exact hV _ _ (by rw [hch,hD]; rfl)
theorem A6t (l:List Int):Con T 2 5 [Bx l] (.int .i64 (Jg l)):=by
 refine Br t5 fun n hn V hV => ?_
 simp (disch:=omega) only [c5,go_sem,↓reduceIte]
 refine Dn (Aai l) hn (Bz _ _ _ _ (Dc (Bm _ _ _ _) (By _))) (Ge _ _ _) ?_
 simp (disch:=omega) only [go_sem,↓reduceIte]
 exact hV _ _ (Bm _ _ _ _)
end Go.Ev.YtofpilpmiddpgaaGreatC
