/- The code of functions that are walked, compiled for the evaluator, as text. Circles of a list that leads each place to one: plain lists, no program. What is done several times; exchanges that put circles right; how often until all is as before. What small functions of layer 6 answer: within, the checks of joints, the program's and the reference's. Steps of neighbours put a list in its order; each takes away one wrong pair. The bench of valid joints, handed over; flutes; the first of several; neighbours exchanged. What the reference's check of joints answers, and what it means. Steps of layer 6. Wrong of layer 6. No condition but those that stand in each. -/
import Derived.Test.YtgehhippjhealaaGreatDTopW
import Derived.Test.YtgehhippjhealaaGreatDEvComp
import Derived.Test.YtgehhippjhealaaGreatDTopShd
import Derived.Test.YtgehhippjhealaaGreatDTopKnx
set_option linter.unusedSimpArgs false
set_option linter.unusedVariables false
set_option maxRecDepth 100000
namespace Go.Ev.YtgehhippjhealaaGreatC
open Go.Proofs
def c7:IFunc:=⟨5,[.tmp 2],sO [dO 2 (.mv (cI 0))] (sO [mV 3 0,dO 4 (.callF false 33 [tM 3,cI 0]),mV 2 4] .ret)⟩
theorem k7:(Bt Tryz.prog byr).fns 7=some c7:=by kernel_rfl
theorem t7:T.fns 7=some c7:=Bw k7 (by decide) (by decide)
def c33:IFunc:=⟨64,[.tmp 4],sO [dO 4 (.mv (cI 0))] (.seq (sO [mV 8 0,lN 9 8,bC 10 .lss 9 1,mV 11 10,gV 12 0 11 false,gO 13 (.len (tM 12)) 11 false,gO 14 (.bin .gtr (tM 13) (cI 10)) 11 false,dO 15 (.pick (tM 11) (cB true) (tM 14))] (.cond (tM 15) (sO [dO 4 (.mv (cI 6))] .ret) .skip)) (.seq (sO [dO 5 (.mv (cI 0))] (.block 0 (.loop (.seq (sO [mV 16 5,mV 17 0,lN 18 17,bB 19 .lss 16 18] (.cond (tM 19) .skip (.exit 0))) (.seq (.block 1 (sO [mV 22 0,mV 23 5,iA 24 22 23,lD 25 24,mV 26 1,bB 27 .lss 25 26,mV 28 27,gV 29 0 28 false,gV 30 5 28 false,gO 31 (.indexAddr 1 (tM 29) (tM 30)) 28 false,gO 32 (.load none (tM 31)) 28 false,gV 33 0 28 false,gO 34 (.len (tM 33)) 28 false,gO 35 (.bin .geq (tM 32) (tM 34)) 28 false,dO 36 (.pick (tM 28) (cB true) (tM 35))] (.cond (tM 36) (sO [dO 4 (.mv (cI 3))] .ret) .skip))) (.ops [mV 20 5,bC 21 .add 20 1,mV 5 21])))))) (.seq (sO [dO 6 (.mv (cI 0))] (.block 2 (.loop (.seq (sO [mV 37 6,mV 38 0,lN 39 38,bB 40 .lss 37 39] (.cond (tM 40) .skip (.exit 2))) (.seq (.block 3 (sO [dO 7 (.mv (cI 0))] (.block 4 (.loop (.seq (sO [mV 43 7,mV 44 6,bB 45 .lss 43 44] (.cond (tM 45) .skip (.exit 4))) (.seq (.block 5 (sO [mV 48 0,mV 49 7,iA 50 48 49,lD 51 50,mV 52 0,mV 53 6,iA 54 52 53,lD 55 54,bB 56 .eql 51 55,mV 57 56,gV 58 0 57 true,gV 59 6 57 true,gO 60 (.indexAddr 1 (tM 58) (tM 59)) 57 true,gO 61 (.load none (tM 60)) 57 true,gO 62 (.bin .geq (tM 61) (cI 0)) 57 true,dO 63 (.pick (tM 57) (tM 62) (cB false))] (.cond (tM 63) (sO [dO 4 (.mv (cI 11))] .ret) .skip))) (.ops [mV 46 7,bC 47 .add 46 1,mV 7 47]))))))) (.ops [mV 41 6,bC 42 .add 41 1,mV 6 42])))))) (sO [dO 4 (.mv (cI 0))] .ret))))⟩
theorem k33:(Bt Tryz.prog byr).fns 33=some c33:=by kernel_rfl
theorem t33:T.fns 33=some c33:=Bw k33 (by decide) (by decide)
def c15:IFunc:=⟨6,[.tmp 2],sO [dO 2 (.mv (.const (.slice none [] true)))] (sO [dO 3 (.buildSlice none [] []),mV 4 0,dO 5 (.append none 8 (tM 3) (tM 4)),mV 2 5] .ret)⟩
theorem k15:(Bt Tryz.prog byr).fns 15=some c15:=by kernel_rfl
theorem t15:T.fns 15=some c15:=Bw k15 (by decide) (by decide)
def c14:IFunc:=⟨8,[.tmp 4],sO [dO 4 (.mv (cB false))] (sO [mV 5 0,mV 6 1,dO 7 (.callF false 32 [tM 5,tM 6]),mV 4 7] .ret)⟩
theorem k14:(Bt Tryz.prog byr).fns 14=some c14:=by kernel_rfl
theorem t14:T.fns 14=some c14:=Bw k14 (by decide) (by decide)
def c32:IFunc:=⟨26,[.tmp 4],sO [dO 4 (.mv (cB false))] (.seq (sO [mV 6 0,lN 7 6,mV 8 1,lN 9 8,bB 10 .neq 7 9] (.cond (tM 10) (sO [dO 4 (.mv (cB false))] .ret) .skip)) (.seq (sO [dO 5 (.mv (cI 0))] (.block 0 (.loop (.seq (sO [mV 11 5,mV 12 0,lN 13 12,bB 14 .lss 11 13] (.cond (tM 14) .skip (.exit 0))) (.seq (.block 1 (sO [mV 17 0,mV 18 5,iA 19 17 18,lD 20 19,mV 21 1,mV 22 5,iA 23 21 22,lD 24 23,bB 25 .neq 20 24] (.cond (tM 25) (sO [dO 4 (.mv (cB false))] .ret) .skip))) (.ops [mV 15 5,bC 16 .add 15 1,mV 5 16])))))) (sO [dO 4 (.mv (cB true))] .ret)))⟩
theorem k32:(Bt Tryz.prog byr).fns 32=some c32:=by kernel_rfl
theorem t32:T.fns 32=some c32:=Bw k32 (by decide) (by decide)
def c59:IFunc:=⟨5,[.tmp 2],sO [dO 2 (.mv (cI 0))] (sO [mV 3 0,dO 4 (.callF false 119 [tM 3,cI 0]),mV 2 4] .ret)⟩
theorem k59:(Bt Tryz.prog byr).fns 59=some c59:=by kernel_rfl
theorem t59:T.fns 59=some c59:=Bw k59 (by decide) (by decide)
def c119:IFunc:=⟨38,[.tmp 4],sO [dO 4 (.mv (cI 0))] (.seq (.block 0 (sO [mV 8 0,lN 9 8,dO 10 (.buildSlice none [.int .i64 0] [(0,(1,tM 9))]),dO 11 (.callF false 160 [cI 1,cI 10,tM 10]),dO 12 (.un .not (tM 11)),mV 7 12] (.cond (tM 7) (sO [dO 4 (.mv (cI 6))] .ret) (sO [mV 14 1,mV 15 0,lN 16 15,bC 17 .sub 16 1,mV 18 0,dO 19 (.callF false 160 [tM 14,tM 17,tM 18]),dO 20 (.un .not (tM 19)),mV 13 20] (.cond (tM 13) (sO [dO 4 (.mv (cI 3))] .ret) .skip))))) (.seq (sO [mV 21 0,lN 22 21,dO 23 (.mv (cI 0))] (.block 1 (.loop (sO [bB 24 .lss 23 22] (.seq (.cond (tM 24) .skip (.exit 1)) (.seq (.block 2 (sO [mV 25 23,iA 26 21 23,lD 27 26,mV 5 25,mV 6 27] (sO [mV 28 6,bC 29 .geq 28 0,mV 30 29,gV 31 0 30 true,gV 32 5 30 true,gO 33 (.slice none (tM 31) none (some (tM 32)) none) 30 true,gV 34 6 30 true,gO 35 (.callF false 112 [tM 33,tM 34]) 30 true,dO 36 (.pick (tM 30) (tM 35) (cB false))] (.cond (tM 36) (sO [dO 4 (.mv (cI 11))] .ret) .skip)))) (.ops [bC 37 .add 23 1,mV 23 37]))))))) (sO [dO 4 (.mv (cI 0))] .ret)))⟩
theorem k119:(Bt Tryz.prog byr).fns 119=some c119:=by kernel_rfl
theorem t119:T.fns 119=some c119:=Bw k119 (by decide) (by decide)
def c160:IFunc:=⟨11,[.tmp 6],sO [dO 3 (.box (tM 0)),dO 4 (.box (tM 1)),dO 6 (.mv (cB false))] (sO [mV 7 2,dO 8 (.mkFunc 215 [] [tM 3,tM 4]),dO 9 (.callF false 110 [tM 7,tM 8]),dO 10 (.un .not (tM 9)),mV 6 10] .ret)⟩
theorem k160:(Bt Tryz.prog byr).fns 160=some c160:=by kernel_rfl
theorem t160:T.fns 160=some c160:=Bw k160 (by decide) (by decide)
def c215:IFunc:=⟨13,[.tmp 4],sO [dO 4 (.mv (cB false))] (sO [mV 5 0,lD 6 1,bB 7 .lss 5 6,mV 8 7,gV 9 0 8 false,gO 10 (.load none (tM 2)) 8 false,gO 11 (.bin .gtr (tM 9) (tM 10)) 8 false,dO 12 (.pick (tM 8) (cB true) (tM 11)),mV 4 12] .ret)⟩
theorem k215:(Bt Tryz.prog byr).fns 215=some c215:=by kernel_rfl
theorem t215:T.fns 215=some c215:=Bw k215 (by decide) (by decide)
def c36:IFunc:=⟨12,[.tmp 2,.tmp 3],sO [dO 2 (.mv (.const .nilptr)),dO 3 (.mv (cI 0))] (.seq (sO [mV 5 0,dO 6 (.callF false 59 [tM 5]),mV 4 6] (sO [mV 7 4,bC 8 .neq 7 0] (.cond (tM 8) (sO [mV 9 4,dO 2 (.mv (.const .nilptr)),mV 3 9] .ret) .skip))) (sO [mV 10 0,dO 11 (.callF true 92 [tM 10]),mV 2 11,dO 3 (.mv (cI 0))] .ret))⟩
theorem k36:(Bt Tryz.prog byr).fns 36=some c36:=by kernel_rfl
theorem t36:T.fns 36=some c36:=Bw k36 (by decide) (by decide)
def c92:IFunc:=⟨8,[.tmp 2],sO [dO 2 (.mv (.const .nilptr))] (sO [mV 3 0,dO 4 (.callF true 97 [tM 3]),dO 5 (.build [.slice none [] true] [(0,(1,tM 4))]),dO 6 (.build [.slice none [] true] [(0,(1,tM 5))]),dO 7 (.box (tM 6)),mV 2 7] .ret)⟩
theorem k92:(Bt Tryz.prog byr).fns 92=some c92:=by kernel_rfl
theorem t92:T.fns 92=some c92:=Bw k92 (by decide) (by decide)
structure PermN (p:List Nat):Prop where
 nd:p.Nodup
 lt:∀x∈p,x<p.length
def stp (p:List Nat) (i:Nat):Nat:=p.getD i 0
def itp (p:List Nat):Nat->Nat->Nat
 | 0,x=>x
 | k+1,x=>itp p k (stp p x)
theorem Lp {p:List Nat} {i:Nat} (h:i<p.length):stp p i=p[i]:=by
 simp only [stp,List.getD_eq_getElem?_getD,List.getElem?_eq_getElem h,Option.getD_some]
theorem A2k {p:List Nat}:p.Nodup↔∀{i j:Nat} (hi:i<p.length) (hj:j<p.length),p[i]=p[j]->i=j:=by
 rw [List.Nodup,List.pairwise_iff_getElem]
 constructor
 ·intro h i j hi hj he
  rcases Nat.lt_trichotomy i j with hlt | heq | hgt
  ·exact absurd he (h i j hi hj hlt)
  ·exact heq
  ·exact absurd he.symm (h j i hj hi hgt)
 ·intro h i j hi hj hij he
  have:=h hi hj he
  omega
theorem A9s:∀(n:Nat) (l:List Nat),l.Nodup->(∀x∈l,x<n)->l.length<=n
 | 0,l,_,h=>by
  cases l with
  | nil=>simp
  | cons a r=>exact absurd (h a (by simp)) (by omega)
 | n+1,l,hn,h=>by
  have h1:=A9s n (l.erase n) (hn.erase n) fun x hx=>by
   have:=h x (List.mem_of_mem_erase hx)
   have hne:x≠n:=fun e=>by
    subst e
    exact (List.Nodup.mem_erase_iff hn).1 hx |>.1 rfl
   omega
  rw [List.length_erase] at h1
  split at h1 <;> omega
theorem Qo {p:List Nat} (hp:PermN p) {i:Nat} (h:i<p.length):stp p i<p.length:=by
 rw [Lp h]
 exact hp.lt _ (List.getElem_mem h)
theorem A6m {p:List Nat} (hp:PermN p) {i j:Nat} (hi:i<p.length) (hj:j<p.length) (h:stp p i=stp p j):i=j:=by
 rw [Lp hi,Lp hj] at h
 exact (A2k.1 hp.nd) hi hj h
theorem Jp {p:List Nat} (hp:PermN p):∀(k i:Nat),i<p.length->itp p k i<p.length
 | 0,_,h=>h
 | k+1,_,h=>Jp hp k _ (Qo hp h)
theorem Ln (p:List Nat):∀(a b i:Nat),itp p (a+b) i=itp p b (itp p a i)
 | 0,b,i=>by rw [Nat.zero_add]; rfl
 | a+1,b,i=>by
  rw [Nat.add_right_comm]
  exact Ln p a b _
theorem Js (p:List Nat) (k i:Nat):itp p (k+1) i=stp p (itp p k i):=Ln p k 1 i
theorem A5r {p:List Nat} (hp:PermN p):∀(k:Nat) {i j:Nat},i<p.length->j<p.length->itp p k i=itp p k j->i=j
 | 0,_,_,_,_,h=>h
 | k+1,_,_,hi,hj,h=>A6m hp hi hj (A5r hp k (Qo hp hi) (Qo hp hj) h)
theorem Ic:∀{a b:List Nat},a.Nodup->(∀x∈a,x∈b)->a.length<=b.length
 | [],b,_,_=>by simp
 | x::r,b,hn,h=>by
  rw [List.nodup_cons] at hn
  have h1:=Ic (a:=r) (b:=b.erase x) hn.2 fun y hy=>by
   refine (List.mem_erase_of_ne ?_).2 (h y (by simp [hy]))
   intro e
   exact hn.1 (e ▸ hy)
  have hx:=h x (by simp)
  rw [List.length_erase_of_mem hx] at h1
  have:=List.length_pos_of_mem hx
  simp only [List.length_cons]
  omega
theorem B0p (f:Nat->Nat) (n:Nat) (h:∀k,k<=n->f k<n):∃a b,a<b/\b<=n/\f a=f b:=by
 apply Classical.byContradiction
 intro hne
 have hnd:((List.range (n+1)).map f).Nodup:=by
  refine List.pairwise_map.2 ?_
  refine List.Pairwise.imp_of_mem ?_ (List.pairwise_lt_range (n:=n+1))
  intro a b ha hb hab he
  exact hne ⟨a,b,hab,by have:=List.mem_range.1 hb; omega,he⟩
 have hsub:∀x∈(List.range (n+1)).map f,x<n:=fun x hx=>by
  obtain ⟨k,hk,rfl⟩:=List.mem_map.1 hx
  have:=List.mem_range.1 hk
  exact h k (by omega)
 have:=A9s n _ hnd hsub
 simp at this
 omega
theorem A2p (q:Nat->Bool):∀n,(∃k,k<=n/\q k=true)->∃k,k<=n/\q k=true/\∀j,j<k->q j=false
 | 0,⟨k,hk,h⟩=>by
  obtain rfl:k=0:=by omega
  exact ⟨0,by omega,h,fun j hj=>by omega⟩
 | n+1,⟨k,hk,h⟩=>by
  by_cases hn:∃k,k<=n/\q k=true
  ·obtain ⟨k',a,b,c⟩:=A2p q n hn
   exact ⟨k',by omega,b,c⟩
  ·have hk':k=n+1:=by
    apply Classical.byContradiction
    intro hne
    exact hn ⟨k,by omega,h⟩
   refine ⟨k,hk,h,fun j hj => ?_⟩
   cases hq:q j with
   | false=>rfl
   | true=>exact absurd ⟨j,by omega,hq⟩ hn
theorem B1s {p:List Nat} (hp:PermN p) {i:Nat} (hi:i<p.length):∃k,0<k/\k<=p.length/\itp p k i=i/\∀j,0<j->j<k->itp p j i≠i:=by
 obtain ⟨a,b,hab,hb,he⟩:=B0p (fun k=>itp p k i) p.length fun k _=>Jp hp k i hi
 have hback:itp p (b-a) i=i:=by
  have h1:itp p b i=itp p a (itp p (b-a) i):=by
   rw [<-Ln]
   congr 1
   omega
  rw [<-he] at h1
  exact (A5r hp a hi (Jp hp _ i hi) h1).symm
 obtain ⟨k,h1,h2,h3⟩:=A2p (fun k=>decide (0<k)&&decide (itp p k i=i)) p.length ⟨b-a,by omega,by simp [hback]; omega⟩
 simp only [Bool.and_eq_true,decide_eq_true_eq] at h2
 refine ⟨k,h2.1,h1,h2.2,fun j hj hjk he => ?_⟩
 have:=h3 j hjk
 simp [hj,he] at this
def Zi (p:List Nat) (i:Nat):Nat->Nat->List Nat
 | 0,_=>[]
 | f+1,a=>if a=i then [] else a::Zi p i f (stp p a)
def cyc (p:List Nat) (i:Nat):List Nat:=i::Zi p i p.length (stp p i)
def per (p:List Nat) (i:Nat):Nat:=(cyc p i).length
theorem Aib {p:List Nat} {i k:Nat} (hk:itp p k i=i) (hl:∀j,0<j->j<k->itp p j i≠i):∀(f m:Nat),0<m->m<=k->k-m<f->Zi p i f (itp p m i)=(List.range' m (k-m)).map fun j=>itp p j i
 | 0,m,_,_,h=>by omega
 | f+1,m,h0,hm,h=>by
  unfold Zi
  by_cases he:m=k
  ·subst he
   rw [if_pos hk,Nat.sub_self]
   rfl
  ·have hlt:m<k:=by omega
   rw [if_neg (hl m h0 hlt),<-Js,Aib hk hl f (m+1) (by omega) (by omega) (by omega)]
   have:k-m=(k-(m+1))+1:=by omega
   rw [this,List.range'_succ,List.map_cons]
theorem Azm {p:List Nat} {i k:Nat} (hk0:0<k) (hkn:k<=p.length) (hk:itp p k i=i) (hl:∀j,0<j->j<k->itp p j i≠i):cyc p i=(List.range k).map fun j=>itp p j i:=by
 have h1:=Aib hk hl p.length 1 (by omega) hk0 (by omega)
 have h2:itp p 1 i=stp p i:=rfl
 rw [h2] at h1
 rw [cyc,h1]
 obtain ⟨m,rfl⟩:∃m,k=m+1:=⟨k-1,by omega⟩
 rw [Nat.add_sub_cancel,List.range_eq_range',List.range'_succ,List.map_cons]
 rfl
theorem Fk {p:List Nat} (hp:PermN p) {i:Nat} (hi:i<p.length):0<per p i/\per p i<=p.length/\itp p (per p i) i=i/\(∀j,0<j->j<per p i->itp p j i≠i)/\cyc p i=(List.range (per p i)).map fun j=>itp p j i:=by
 obtain ⟨k,h1,h2,h3,h4⟩:=B1s hp hi
 have h5:=Azm h1 h2 h3 h4
 have:per p i=k:=by rw [per,h5,List.length_map,List.length_range]
 rw [this]
 exact ⟨h1,h2,h3,h4,h5⟩
theorem Ahu {p:List Nat} {i k:Nat} (h:itp p k i=i):∀m,itp p (k*m) i=i
 | 0=>rfl
 | m+1=>by rw [Nat.mul_succ,Ln,Ahu h m,h]
theorem Qf {p:List Nat} (hp:PermN p) {i:Nat} (hi:i<p.length) (m:Nat):itp p m i=itp p (m%per p i) i:=by
 obtain ⟨_,_,h,_⟩:=Fk hp hi
 conv=>lhs; rw [<-Nat.div_add_mod m (per p i),Ln,Ahu h]
theorem Hb {p:List Nat} (hp:PermN p) {i:Nat} (hi:i<p.length) (j:Nat):j∈cyc p i↔∃k,j=itp p k i:=by
 obtain ⟨h0,_,_,_,h⟩:=Fk hp hi
 rw [h]
 constructor
 ·intro hj
  obtain ⟨k,_,rfl⟩:=List.mem_map.1 hj
  exact ⟨k,rfl⟩
 ·rintro ⟨k,rfl⟩
  rw [Qf hp hi]
  exact List.mem_map.2 ⟨_,List.mem_range.2 (Nat.mod_lt _ h0),rfl⟩
theorem Oi {p:List Nat} (hp:PermN p) {i j:Nat} (hi:i<p.length) (hj:j∈cyc p i):j<p.length:=by
 obtain ⟨k,rfl⟩:=(Hb hp hi j).1 hj
 exact Jp hp k i hi
theorem Adt {p:List Nat} (hp:PermN p) {i:Nat} (hi:i<p.length) (a b:Nat):itp p a i=itp p b i↔a%per p i=b%per p i:=by
 obtain ⟨h0,hn,hk,hl,_⟩:=Fk hp hi
 constructor
 ·intro h
  have key:∀a b,a<per p i->b<per p i->a<b->itp p a i≠itp p b i:=fun a b ha hb hab he=>by
   have h1:itp p b i=itp p a (itp p (b-a) i):=by
    rw [<-Ln]
    congr 1
    omega
   rw [<-he] at h1
   exact hl (b-a) (by omega) (by omega) (A5r hp a hi (Jp hp _ i hi) h1).symm
  rw [Qf hp hi a,Qf hp hi b] at h
  have ha:=Nat.mod_lt a h0
  have hb:=Nat.mod_lt b h0
  rcases Nat.lt_trichotomy (a%per p i) (b%per p i) with hlt | heq | hgt
  ·exact absurd h (key _ _ ha hb hlt)
  ·exact heq
  ·exact absurd h.symm (key _ _ hb ha hgt)
 ·intro h
  rw [Qf hp hi a,Qf hp hi b,h]
theorem Ob {p:List Nat} (hp:PermN p) {i:Nat} (hi:i<p.length):(cyc p i).Nodup:=by
 obtain ⟨h0,hn,hk,hl,h⟩:=Fk hp hi
 rw [h]
 refine List.pairwise_map.2 ?_
 refine List.Pairwise.imp_of_mem ?_ (List.pairwise_lt_range (n:=per p i))
 intro a b ha hb hab he
 rw [Adt hp hi,Nat.mod_eq_of_lt (List.mem_range.1 ha),Nat.mod_eq_of_lt (List.mem_range.1 hb)] at he
 omega
theorem Nq {p:List Nat} (hp:PermN p) {i j:Nat} (hi:i<p.length) (hj:j∈cyc p i):i∈cyc p j:=by
 have hjl:=Oi hp hi hj
 obtain ⟨h0,hn,hk,hl,h⟩:=Fk hp hi
 rw [h] at hj
 obtain ⟨k,hkr,rfl⟩:=List.mem_map.1 hj
 refine (Hb hp hjl i).2 ⟨per p i-k,?_⟩
 have:=List.mem_range.1 hkr
 rw [<-Ln]
 have:k+(per p i-k)=per p i:=by omega
 rw [this,hk]
theorem Jn {p:List Nat} (hp:PermN p) {i j k:Nat} (hi:i<p.length) (hj:j∈cyc p i) (hk:k∈cyc p j):k∈cyc p i:=by
 have hjl:=Oi hp hi hj
 obtain ⟨a,rfl⟩:=(Hb hp hi j).1 hj
 obtain ⟨b,rfl⟩:=(Hb hp hjl k).1 hk
 exact (Hb hp hi _).2 ⟨a+b,(Ln p a b i).symm⟩
theorem Li (p:List Nat) (i:Nat):i∈cyc p i:=by simp [cyc]
theorem A6i {p:List Nat} (hp:PermN p) {i j:Nat} (hi:i<p.length) (hj:j∈cyc p i):stp p j∈cyc p i:=by
 obtain ⟨a,rfl⟩:=(Hb hp hi j).1 hj
 exact (Hb hp hi _).2 ⟨a+1,(Js p a i).symm⟩
def Gb (p:List Nat) (i:Nat):Bool:=(cyc p i).all fun j=>decide (i<=j)
def Ry (p:List Nat):List Nat:=(List.range p.length).filter (Gb p)
def Et (p:List Nat):List (List Nat):=(Ry p).map (cyc p)
theorem Apb {p:List Nat} (hp:PermN p) {i:Nat} (hi:i<p.length):∃j∈cyc p i,Gb p j=true:=by
 obtain ⟨k,h1,h2,h3⟩:=A2p (fun j=>(cyc p i).contains j) i ⟨i,Nat.le_refl _,by simpa using Li p i⟩
 have hk:k∈cyc p i:=by simpa using h2
 refine ⟨k,hk,List.all_eq_true.2 fun j hj=>decide_eq_true ?_⟩
 apply Classical.byContradiction
 intro hlt
 have:=h3 j (by omega)
 have hj':=Jn hp hi hk hj
 simp [hj'] at this
theorem Ayt {p:List Nat} (hp:PermN p) {i j:Nat} (hi:i<p.length) (h1:Gb p i=true) (h2:Gb p j=true) (hj:j∈cyc p i):i=j:=by
 have a:=of_decide_eq_true (List.all_eq_true.1 h1 j hj)
 have b:=of_decide_eq_true (List.all_eq_true.1 h2 i (Nq hp hi hj))
 omega
theorem Ho {p:List Nat} {i:Nat}:i∈Ry p↔i<p.length/\Gb p i=true:=by
 simp [Ry]
theorem Amf {p:List Nat} (hp:PermN p):(Et p).flatten.Perm (List.range p.length):=by
 have hnd:(Et p).flatten.Nodup:=by
  rw [List.Nodup,List.pairwise_flatten]
  constructor
  ·intro c hc
   obtain ⟨i,hi,rfl⟩:=List.mem_map.1 hc
   exact Ob hp (Ho.1 hi).1
  ·refine List.pairwise_map.2 ?_
   have:(Ry p).Nodup:=List.Pairwise.filter _ List.nodup_range
   refine List.Pairwise.imp_of_mem ?_ this
   intro a b ha hb hne x hxa y hxb he
   subst he
   obtain ⟨ha1,ha2⟩:=Ho.1 ha
   obtain ⟨hb1,hb2⟩:=Ho.1 hb
   exact hne (Ayt hp ha1 ha2 hb2 (Jn hp ha1 hxa (Nq hp hb1 hxb)))
 refine (List.perm_ext_iff_of_nodup hnd List.nodup_range).2 fun x => ?_
 rw [List.mem_flatten,List.mem_range]
 constructor
 ·rintro ⟨c,hc,hx⟩
  obtain ⟨i,hi,rfl⟩:=List.mem_map.1 hc
  exact Oi hp (Ho.1 hi).1 hx
 ·intro hx
  obtain ⟨j,hj,hm⟩:=Apb hp hx
  have hjl:=Oi hp hx hj
  exact ⟨cyc p j,List.mem_map.2 ⟨j,Ho.2 ⟨hjl,hm⟩,rfl⟩,Nq hp hx hj⟩
theorem Ady {p:List Nat} (hp:PermN p):((Et p).map List.length).sum=p.length:=by
 rw [<-List.length_flatten,(Amf hp).length_eq,List.length_range]
theorem Uj (p:List Nat) (i:Nat):0<(cyc p i).length:=by simp [cyc]
theorem Vg {p:List Nat} (hp:PermN p) (h0:0<p.length):∃r,Et p=cyc p 0::r:=by
 obtain ⟨n,hn⟩:∃n,p.length=n+1:=⟨p.length-1,by omega⟩
 have hm:Gb p 0=true:=List.all_eq_true.2 fun j _=>decide_eq_true (by omega)
 refine ⟨((List.range' 1 n).filter (Gb p)).map (cyc p),?_⟩
 simp only [Et,Ry,hn]
 rw [List.range_eq_range',List.range'_succ,List.filter_cons,if_pos hm,List.map_cons]
theorem Uz {p:List Nat} (hp:PermN p) (h0:0<p.length):(Et p).length=1↔(cyc p 0).length=p.length:=by
 obtain ⟨r,hr⟩:=Vg hp h0
 have hs:=Ady hp
 rw [hr] at hs ⊢
 simp only [List.map_cons,List.sum_cons,List.length_cons] at hs ⊢
 constructor
 ·intro h
  obtain rfl:r=[]:=by simpa using h
  simpa using hs
 ·intro h
  have h2:(r.map List.length).sum=0:=by omega
  cases r with
  | nil=>rfl
  | cons c r =>
   exfalso
   have hc:c∈Et p:=by rw [hr]; simp
   obtain ⟨i,_,rfl⟩:=List.mem_map.1 hc
   have:=Uj p i
   simp only [List.map_cons,List.sum_cons] at h2
   omega
theorem Aym {p:List Nat} (hp:PermN p) {i:Nat} (hi:i<p.length) {k:Nat} (hk:k<per p i):(cyc p i)[k]? = some (itp p k i):=by
 obtain ⟨_,_,_,_,h⟩:=Fk hp hi
 rw [h,List.getElem?_map,List.getElem?_range hk]
 rfl
theorem Apu {p:List Nat} (hp:PermN p) {i j:Nat} (hi:i<p.length) (hj:j∈cyc p i):per p j=per p i:=by
 have hjl:=Oi hp hi hj
 have a:=Ic (Ob hp hi) fun x hx=>Jn hp hjl (Nq hp hi hj) hx
 have b:=Ic (Ob hp hjl) fun x hx=>Jn hp hi hj hx
 simp only [per]
 omega
def exC (c:List Nat):List (Nat×Nat):=c.tail.map fun x=>(c.headD 0,x)
def exL (p:List Nat):List (Nat×Nat):=(Et p).flatMap exC
theorem A6h {c:List Nat} (h:0<c.length):(exC c).length+1=c.length:=by
 rw [exC,List.length_map,List.length_tail]
 omega
theorem Ahj {p:List Nat} (hp:PermN p):(exL p).length+(Et p).length=p.length:=by
 rw [<-Ady hp,exL]
 have:∀L:List (List Nat),(∀c∈L,0<c.length)->(L.flatMap exC).length+L.length=(L.map List.length).sum:=fun L=>by
  induction L with
  | nil=>intro _; rfl
  | cons c r ih =>
   intro h
   have h1:=A6h (h c (by simp))
   have h2:=ih fun d hd=>h d (by simp [hd])
   simp only [List.flatMap_cons,List.length_append,List.length_cons,List.map_cons,List.sum_cons]
   omega
 exact this _ fun c hc=>by
  obtain ⟨i,_,rfl⟩:=List.mem_map.1 hc
  exact Uj p i
end Go.Ev.YtgehhippjhealaaGreatC
namespace Go.Ev.YtgehhippjhealaaGreatC
open Go Go.Proofs
abbrev Dv (l:List Int):AV:=.slice none (l.map (.int .i64)) false
def nI6 (p:List Nat):List Int:=p.map fun x:Nat=>(x:Int)
attribute [local irreducible] Res.all evC Dd Df Br Bh Dj Bd Bi G GO GV GP GC R
theorem Alw {k f:Nat} {first cap:List AV} {p:Int->Bool} (xs:List Int) (hl:xs.length<=1000) (hc:∀x∈xs,Con T k f (first++[.int .i64 x]++cap) (.bool (p x))) (hz:∀h x,fz h (first++[.int .i64 x]++cap) = .ret (first++[.int .i64 x]++cap)) :
  Con T (k+1) 176 [Dv xs,.clo f first cap] (.int .i64 (Iw p xs 0)):=by
 refine Bu t176 fun n hn V hV => ?_
 simp (disch:=omega) only [c176,go_sem,↓reduceIte]
 refine Da (fun M s=>∃k:Nat,M=xs.length-k/\k<=xs.length/\At s.env [(0,Dv xs),(1,.clo f first cap),(7,.int .i64 xs.length),(8,.int .i64 k)]/\Iw p xs 0=Iw p (xs.drop k) k) xs.length (by omega) ⟨0,by simp,by omega,by simp [go_sem,↓reduceIte],rfl⟩ ?_
 rintro M e h hM ⟨k,rfl,hk,hE,hA⟩ P hP
 simp only [Bp,Bx] at hE
 obtain ⟨h0,h1,h7,h8,-⟩:=hE
 by_cases hlt:k<xs.length
 ·obtain ⟨y,hy⟩:=Fm hlt
  rw [Fy hy,Iw] at hA
  simp (disch:=omega) only [go_sem,↓reduceIte,h0,h1,h7,h8,hlt,hy]
  refine Do (hc y (List.mem_of_getElem? hy)) hn (hz _ _) (Fn _ _) ?_
  by_cases hp:p y=true
  ·simp (disch:=omega) only [go_sem,↓reduceIte,h0,h1,h7,h8,hp]
   exact hV _ _ (by rw [Bl,hA,if_pos hp])
  ·simp (disch:=omega) only [go_sem,↓reduceIte,h0,h1,h7,h8,hp]
   exact hP (xs.length-(k+1)) _ (by omega) ⟨k+1,rfl,by omega,by simp only [go_sem,↓reduceIte,h0,h1,h7],by rw [hA,if_neg hp]; rfl⟩
 ·simp (disch:=omega) only [go_sem,↓reduceIte,h0,h1,h7,h8,hlt]
  exact hV _ _ (by rw [Bl,hA,List.drop_eq_nil_of_le (by omega)]; rfl)
theorem Anc {k f:Nat} {first cap:List AV} {p:Int->Bool} (xs:List Int) (hl:xs.length<=1000) (hc:∀x∈xs,Con T k f (first++[.int .i64 x]++cap) (.bool (p x))) (hz:∀h x,fz h (first++[.int .i64 x]++cap) = .ret (first++[.int .i64 x]++cap))
  (hf:∀h,Bi h 8 (.clo f first cap) = .ret (.clo f first cap)):Con T (k+2) 110 [Dv xs,.clo f first cap] (.bool (xs.any p)):=by
 refine Bu t110 fun n hn V hV => ?_
 simp (disch:=omega) only [c110,go_sem,↓reduceIte]
 refine Do (Alw xs hl hc hz) hn (Dm _ _ _ _ (Bv (hf _) (Bz _))) (Ga _ _ _) ?_
 simp (disch:=omega) only [go_sem,↓reduceIte,Qs]
 exact hV _ _ (Dk _ _ _)
theorem Add (x lo hi:Int):Con T 1 215 ([]++[.int .i64 x]++[.ptr [.int .i64 lo] 0,.ptr [.int .i64 hi] 0]) (.bool (decide (x<lo)||decide (x>hi))):=by
 refine Bu t215 fun n hn V hV => ?_
 by_cases g1:x<lo
 ·simp (disch:=omega) only [c215,go_sem,↓reduceIte,g1,List.cons_append]
  refine hV _ _ ?_
  simp [g1,Dk]
 ·simp (disch:=omega) only [c215,go_sem,↓reduceIte,g1,List.cons_append]
  refine hV _ _ ?_
  simp [g1,Dk]
def Qg (lo hi:Int) (xs:List Int):Bool:=!xs.any fun x=>decide (x<lo)||decide (x>hi)
theorem Aez (lo hi:Int) (xs:List Int) (hl:xs.length<=1000):Con T 4 160 [.int .i64 lo,.int .i64 hi,Dv xs] (.bool (Qg lo hi xs)):=by
 refine Bu t160 fun n hn V hV => ?_
 simp (disch:=omega) only [c160,go_sem,↓reduceIte]
 refine Do (Anc (p:=fun x=>decide (x<lo)||decide (x>hi)) xs hl (fun x _=>Add x lo hi) (fun h x => ?_) (fun h => ?_)) hn (Dm _ _ _ _ (Bv (Gj (Db _ _) (Bn (Dz (cs:=[.int .i64 lo]) (by simp [go_sem,↓reduceIte]) (Bn (Bl _ _ _ _) (Db _ _))) (Bn (Dz (cs:=[.int .i64 hi]) (by simp [go_sem,↓reduceIte]) (Bn (Bl _ _ _ _) (Db _ _))) (Db _ _)))) (Bz _))) (Fn _ _) ?_
 ·exact Fa _ _ _ (Bv (Eg _ _ _ _) (Bv (Eg _ _ _ _) (Bz _)))
 ·exact Gj (Db _ _) (Bn (Eg _ _ _ _) (Bn (Eg _ _ _ _) (Db _ _)))
 simp (disch:=omega) only [go_sem,↓reduceIte]
 exact hV _ _ (Dk _ _ _)
section
variable {n base:Nat} {Q:EX×St->Prop} {d:Option Nat} {L:List IOper} {ks:List Kont} {e:Env} {h:Bc}
theorem A4k {lo hi:Int} {xs:List Int} {x:Bool} (hn:4<=n) (hl:xs.length<=1000) :
  GP (Bd T n) base Q d L ks e (Bd T n false (.fn 160) [.int .i64 lo,.int .i64 hi,.slice none (xs.map (.int .i64)) x] h)=GO (Bd T n) base Q L ks ⟨Bj e d (.bool (Qg lo hi xs)),h⟩:=
 Ey (Aez lo hi xs hl) hn (by repeat (first | exact Bz _ | refine Dm _ _ _ _ ?_ | refine Fa _ _ _ ?_)) rfl
theorem Aej {lo hi a:Int} {x:Bool} (hn:4<=n) :
  GP (Bd T n) base Q d L ks e (Bd T n false (.fn 160) [.int .i64 lo,.int .i64 hi,.slice none [.int .i64 a] x] h)=GO (Bd T n) base Q L ks ⟨Bj e d (.bool (!(decide (a<lo)||decide (a>hi)))),h⟩:=by
 have:=A4k (base:=base) (Q:=Q) (d:=d) (L:=L) (ks:=ks) (e:=e) (h:=h) (lo:=lo) (hi:=hi) (xs:=[a]) (x:=x) hn (by simp)
 rw [show Qg lo hi [a]=(!(decide (a<lo)||decide (a>hi))) by simp [Qg]] at this
 exact this
end
theorem gdI {S:List Int} {k:Nat} (h:k<S.length):S[k]? = some (S.getD k 0):=by
 rw [List.getD_eq_getElem?_getD,List.getElem?_eq_getElem h]; rfl
theorem Gp (p:List Nat):(nI6 p).length=p.length:=by simp [nI6]
theorem A0g {p:List Nat} {i:Nat} (h:i<p.length):(nI6 p)[i]? = some ((p[i]:Nat):Int):=by
 rw [nI6,List.getElem?_map,List.getElem?_eq_getElem h]; rfl
theorem Ajr {p:List Nat} (hp:PermN p):Qg 0 ((p.length:Int)-1) (nI6 p)=true:=by
 simp only [Qg,Bool.not_eq_true',List.any_eq_false,Bool.or_eq_true,decide_eq_true_eq]
 intro x hx
 obtain ⟨y,hy,rfl⟩:=List.mem_map.1 hx
 have:=hp.lt y hy
 omega
theorem Aky (p:List Nat) (hp:PermN p) (h1:1<=p.length) (h10:p.length<=10):Con T 6 119 [Dv (nI6 p),.int .i64 0] (.int .i64 0):=by
 refine Bu t119 fun n hn V hV => ?_
 have hlen:=Gp p
 have w1:(!(decide ((p.length:Int)<1)||decide ((p.length:Int)>10)))=true:=by
  rw [decide_eq_false (by omega),decide_eq_false (by omega)]; rfl
 have w2:=Ajr hp
 simp (disch:=omega) only [c119,go_sem,↓reduceIte,A4k,Aej,hlen,w1,w2]
 refine Da (fun M s=>∃k:Nat,M=p.length-k/\k<=p.length/\At s.env [(0,Dv (nI6 p)),(21,Dv (nI6 p)),(22,.int .i64 p.length),(23,.int .i64 k)]) p.length (by omega) ⟨0,by omega,by omega,by simp only [go_sem,↓reduceIte]⟩ ?_
 rintro M e h hM ⟨k,rfl,hk,hE⟩ P hP
 simp only [Bp,Bx] at hE
 obtain ⟨f0,f21,f22,f23,-⟩:=hE
 by_cases hlt:k<p.length
 ·have hlt':(k:Int)<(p.length:Int):=by omega
  have hg:=A0g hlt
  have hge:decide (((p[k]:Nat):Int)>=0)=true:=decide_eq_true (by omega)
  have htk:((nI6 p).map (AV.int .i64)).take k=((nI6 p).take k).map (.int .i64):=by rw [List.map_take]
  have hno:(((nI6 p).take k).any fun x=>((p[k]:Nat):Int)==x)=false:=by
   rw [List.any_eq_false]
   intro x hx he
   have he':((p[k]:Nat):Int)=x:=by simpa using he
   rw [nI6,<-List.map_take] at hx
   obtain ⟨y,hy,rfl⟩:=List.mem_map.1 hx
   obtain ⟨j,hj,hjy⟩:=List.getElem_of_mem hy
   have hjk:j<k:=by
    rw [List.length_take] at hj
    omega
   rw [List.getElem_take] at hjy
   have:=A2k.1 hp.nd (i:=j) (j:=k) (by omega) hlt (by omega)
   omega
  have hk0:0<=(k:Int)/\(k:Int)<=(nI6 p).length:=by omega
  have hcon:Con T 2 112 [.slice none (((nI6 p).take k).map (.int .i64)) false,.int .i64 ((p[k]:Nat):Int)] (.bool false):=by
   have hc:=Wb ((nI6 p).take k) ((p[k]:Nat):Int) (by rw [List.length_take,Gp]; omega)
   rw [hno] at hc
   exact hc
  have csC:∀{base:Nat} {Q:EX×St->Prop} {d:Option Nat} {L:List IOper} {ks:List Kont} {e:Env} {h:Bc} {x:Bool},GP (Bd T n) base Q d L ks e (Bd T n false (.fn 112) [.slice none (((nI6 p).take k).map (.int .i64)) x,.int .i64 ((p[k]:Nat):Int)] h)=GO (Bd T n) base Q L ks ⟨Bj e d (.bool false),h⟩:=fun {base Q d L ks e h x} =>
   Ey hcon (show 2<=n by omega) (Dm _ _ _ _ (Bv (Bl _ _ _ _) (Bz _))) (Fn _ _)
  simp (disch:=omega) only [go_sem,↓reduceIte,f0,f21,f22,f23,hlt',hg,hge,hk0,htk,Int.toNat_natCast,csC]
  exact hP (p.length-(k+1)) _ (by omega) ⟨k+1,rfl,by omega,by simp only [go_sem,↓reduceIte,f0,f21,f22]⟩
 ·have hlt':¬(k:Int)<(p.length:Int):=by omega
  simp (disch:=omega) only [go_sem,↓reduceIte,f22,f23,hlt']
  exact hV _ _ (Bl _ _ _ _)
theorem Afg (p:List Nat) (hp:PermN p) (h1:1<=p.length) (h10:p.length<=10):Con T 7 59 [Dv (nI6 p)] (.int .i64 0):=by
 refine Bu t59 fun n hn V hV => ?_
 simp (disch:=omega) only [c59,go_sem,↓reduceIte]
 refine Do (Aky p hp h1 h10) hn (Dm _ _ _ _ (Bv (Bl _ _ _ _) (Bz _))) (Ga _ _ _) ?_
 simp (disch:=omega) only [go_sem,↓reduceIte]
 exact hV _ _ (Bl _ _ _ _)
end Go.Ev.YtgehhippjhealaaGreatC
namespace Go.Ev.YtgehhippjhealaaGreatC
def swp {α:Type}:Nat->List α->List α
 | 0,a::b::r=>b::a::r
 | k+1,a::r=>a::swp k r
 | _,l=>l
def inv:List Int->Nat
 | []=>0
 | a::r=>r.countP (fun x=>decide (a>x))+inv r
theorem Abi {α:Type}:∀(k:Nat) (l:List α),(swp k l).Perm l
 | 0,[] => .refl _
 | 0,[_] => .refl _
 | 0,a::b::r => .swap a b r
 | _+1,[] => .refl _
 | k+1,a::r=>(Abi k r).cons a
theorem Ahx {α β:Type} (f:α->β):∀(k:Nat) (l:List α),(swp k l).map f=swp k (l.map f)
 | 0,[]=>rfl
 | 0,[_]=>rfl
 | 0,_::_::_=>rfl
 | _+1,[]=>rfl
 | k+1,a::r=>by simp only [swp,List.map_cons,Ahx f k r]
end Go.Ev.YtgehhippjhealaaGreatC
namespace Go.Ev.YtgehhippjhealaaGreatC
open Go Go.Proofs
def B3h (p:List Nat) (h:Bc) (v:AV) (h':Bc):Prop:=
 ∃K key ver,v = .tuple [.optr K 0 0,.int .i64 0]/\Bb h' K = .cells 0 [.oslice key ver none 0 p.length none]/\Bb h' key = .cells ver ((nI6 p).map (.int .i64))/\h.length<=K/\h.length<=key/\K≠key/\K<h'.length/\key<h'.length/\(∀j,j<h.length->Bb h' j=Bb h j)/\h.length<=h'.length
theorem tCl:T.fns 97=some Na:=Bw k97 (by decide) (by decide)
theorem Ahw:∀{k:Nat} {l:List Int},k+1<l.length->(l.set k (l.getD (k+1) 0)).set (k+1) (l.getD k 0)=swp k l
 | 0,a::b::r,_=>rfl
 | 0,[_],h=>by simp at h
 | 0,[],h=>by simp at h
 | k+1,[],h=>by simp at h
 | k+1,a::r,h=>by
  have ih:=Ahw (k:=k) (l:=r) (by simpa using h)
  simp only [swp,List.getD_cons_succ,List.set_cons_succ]
  rw [ih]
attribute [local irreducible] Res.all evC Dd Df Br Bh Dj Bd Bi G GO GV GP GC R
section
variable {n base:Nat} {Q:EX×St->Prop} {d:Option Nat} {L:List IOper} {ks:List Kont} {e:Env} {h:Bc}
theorem A6z {l:List Int} {ex:Bool} (h1:1<=l.length) (h10:l.length<=1000)
  (hq:∀key ver h',Bb h' key = .cells ver (l.map (.int .i64))->h.length<=key->key<h'.length->(∀j,j<h.length->Bb h' j=Bb h j)->h.length<=h'.length->GO (Bd T (n+1)) base Q L ks ⟨Bj e d (.oslice key ver none 0 l.length none),h'⟩) :
  GP (Bd T (n+1)) base Q d L ks e (Bd T (n+1) true (.fn 97) [.slice none (l.map (.int .i64)) ex] h):=by
 refine Ex ?_
 rw [Dt tCl]
 match l,h1,h10 with
 | a::r,_,h10 =>
  simp (disch:=omega) only [Na,go_sem,↓reduceIte]
  refine Xu (m:=(a::r).length) (l2:=a::r) (kk:=h.length+8) (by simp only [List.length_append,List.length_replicate]) (Hj (h.length+8) _ .i64) (by simp only [List.length_append,List.length_replicate]; omega) (Aht _ (a::r) .i64 ex) rfl (by simp) (by simp only [List.length_nil,List.length_cons] at *; omega) fun x h' hO hk hlen _ _ => ?_
  rcases hO with ⟨hnil,_⟩ | ⟨key,ver,hkey,rfl,hH⟩
  ·simp at hnil
  rw [List.nil_append] at hH ⊢
  simp (disch:=omega) only [go_sem,↓reduceIte,Gs,mapR]
  have hlt:=El hH (by simp)
  refine hq key ver h' hH (by omega) hlt (fun j hj => ?_) ?_
  ·rw [hk j (by omega),Bg]
  ·simp only [List.length_append,List.length_replicate] at hlen; omega
end
end Go.Ev.YtgehhippjhealaaGreatC
namespace Go.Ev.YtgehhippjhealaaGreatC
open Go Go.Proofs
def Mg (l:List Int) (x:Int):Bool:=decide (x<0)||decide (x>=l.length)
def dqJ (l:List Int) (i k:Nat):Bool:=(l.getD k 0==l.getD i 0)&&decide (l.getD i 0>=0)
def A1p (l:List Int) (n:Nat):Bool:=(List.range n).any fun i=>(List.range i).any (dqJ l i)
def Nm (l:List Int):Int:=if l.length<1\/10<l.length then 6 else if l.any (Mg l) then 3 else if A1p l l.length then 11 else 0
theorem All (l:List Int) (i:Nat):A1p l (i+1)=(A1p l i||(List.range i).any (dqJ l i)):=by
 rw [A1p,List.range_succ,List.any_append,List.any_cons,List.any_nil,Bool.or_false]; rfl
theorem So (p:Nat->Bool) (k:Nat):(List.range (k+1)).any p=((List.range k).any p||p k):=by
 rw [List.range_succ,List.any_append,List.any_cons,List.any_nil,Bool.or_false]
theorem Amn {l:List Int} (h:Nm l=0):∃p,l=nI6 p/\PermN p/\1<=p.length/\p.length<=10:=by
 unfold Nm at h
 by_cases h1:l.length<1\/10<l.length
 ·rw [if_pos h1] at h; cases h
 rw [if_neg h1] at h
 by_cases h2:l.any (Mg l)=true
 ·rw [if_pos h2] at h; cases h
 rw [if_neg h2] at h
 by_cases h3:A1p l l.length=true
 ·rw [if_pos h3] at h; cases h
 have hin:∀x∈l,0<=x/\x<l.length:=fun x hx=>by
  have:Mg l x=false:=by
   cases hb:Mg l x with
   | false=>rfl
   | true=>exact absurd (List.any_eq_true.2 ⟨x,hx,hb⟩) h2
  simp only [Mg,Bool.or_eq_false_iff,decide_eq_false_iff_not] at this
  omega
 have hl:l=nI6 (l.map Int.toNat):=by
  rw [nI6,List.map_map]
  have:∀m:List Int,(∀x∈m,0<=x)->m=m.map ((fun x:Nat=>(x:Int)) ∘ Int.toNat):=fun m=>by
   induction m with
   | nil=>intro _; rfl
   | cons a r ih =>
    intro hm
    have ha:=hm a (by simp)
    rw [List.map_cons,<-ih fun x hx=>hm x (by simp [hx])]
    congr 1
    simp only [Function.comp]
    omega
  exact this l fun x hx=>(hin x hx).1
 refine ⟨l.map Int.toNat,hl,⟨?_,fun y hy => ?_⟩,by rw [List.length_map]; omega,by rw [List.length_map]; omega⟩
 ·rw [List.Nodup,List.pairwise_map,List.pairwise_iff_getElem]
  intro i j hi hj hij he
  apply h3
  have hgi:=hin _ (List.getElem_mem hi)
  have hgj:=hin _ (List.getElem_mem hj)
  have e1:l.getD i 0=l[i]:=by rw [List.getD_eq_getElem?_getD,List.getElem?_eq_getElem hi]; rfl
  have e2:l.getD j 0=l[j]:=by rw [List.getD_eq_getElem?_getD,List.getElem?_eq_getElem hj]; rfl
  refine List.any_eq_true.2 ⟨j,List.mem_range.2 hj,List.any_eq_true.2 ⟨i,List.mem_range.2 hij,?_⟩⟩
  simp only [dqJ,e1,e2,Bool.and_eq_true,beq_iff_eq,decide_eq_true_eq]
  omega
 ·obtain ⟨x,hx,rfl⟩:=List.mem_map.1 hy
  have:=hin x hx
  rw [List.length_map]
  omega
attribute [local irreducible] Res.all evC Dd Df Br Bh Dj Bd Bi G GO GV GP GC R
theorem Akz (l:List Int):Con T 1 33 [Dv l,.int .i64 0] (.int .i64 (Nm l)):=by
 refine Bu t33 fun n hn V hV => ?_
 replace hV:∀c h,c=Nm l->V (.int .i64 c,h):=fun c h e=>hV _ _ (by rw [e]; exact Bl _ _ _ _)
 by_cases g1:l.length<1
 ·have d1:decide ((l.length:Int)<1)=true:=decide_eq_true (by omega)
  simp (disch:=omega) only [c33,go_sem,↓reduceIte,d1]
  exact hV _ _ (by rw [Nm,if_pos (.inl g1)])
 have d1:decide ((l.length:Int)<1)=false:=decide_eq_false (by omega)
 by_cases g2:10<l.length
 ·have d2:decide ((l.length:Int)>10)=true:=decide_eq_true (by omega)
  simp (disch:=omega) only [c33,go_sem,↓reduceIte,d1,d2]
  exact hV _ _ (by rw [Nm,if_pos (.inr g2)])
 have d2:decide ((l.length:Int)>10)=false:=decide_eq_false (by omega)
 have hch:Nm l=if l.any (Mg l) then 3 else if A1p l l.length then 11 else 0:=by rw [Nm,if_neg (by omega)]
 simp (disch:=omega) only [c33,go_sem,↓reduceIte,d1,d2]
 refine Da (fun M s=>∃k:Nat,M=l.length-k/\k<=l.length/\At s.env [(0,Dv l),(1,.int .i64 0),(5,.int .i64 k)]/\(l.take k).any (Mg l)=false) l.length (by omega) ⟨0,by omega,by omega,by simp only [go_sem,↓reduceIte],by simp⟩ ?_
 rintro M e h hM ⟨k,rfl,hk,hE,hA⟩ P hP
 simp only [Bp,Bx] at hE
 obtain ⟨f0,f1,f5,-⟩:=hE
 by_cases hlt:k<l.length
 ·have hlt':(k:Int)<(l.length:Int):=by omega
  have hg:l[k]? = some l[k]:=List.getElem?_eq_getElem hlt
  have htk:(l.take (k+1)).any (Mg l)=((l.take k).any (Mg l)||Mg l l[k]):=by
   rw [List.take_add_one,hg,List.any_append]
   simp only [Option.toList_some,List.any_cons,List.any_nil,Bool.or_false]
  have hbad:Mg l l[k]=true->V (.int .i64 3,h):=fun hb=>hV _ _ (by
   rw [hch,if_pos]
   exact List.any_eq_true.2 ⟨_,List.getElem_mem hlt,hb⟩)
  by_cases x1:l[k]<0
  ·have e1:decide (l[k]<0)=true:=decide_eq_true x1
   simp (disch:=omega) only [go_sem,↓reduceIte,f0,f1,f5,hlt',hg,e1]
   exact hV _ _ (by rw [hch,if_pos]; exact List.any_eq_true.2 ⟨_,List.getElem_mem hlt,by rw [Mg,e1]; rfl⟩)
  ·have e1:decide (l[k]<0)=false:=decide_eq_false x1
   by_cases x2:l[k]>=l.length
   ·have e2:decide (l[k]>=(l.length:Int))=true:=decide_eq_true x2
    simp (disch:=omega) only [go_sem,↓reduceIte,f0,f1,f5,hlt',hg,e1,e2]
    exact hV _ _ (by rw [hch,if_pos]; exact List.any_eq_true.2 ⟨_,List.getElem_mem hlt,by rw [Mg,e1,e2]; rfl⟩)
   ·have e2:decide (l[k]>=(l.length:Int))=false:=decide_eq_false x2
    simp (disch:=omega) only [go_sem,↓reduceIte,f0,f1,f5,hlt',hg,e1,e2]
    exact hP (l.length-(k+1)) _ (by omega) ⟨k+1,rfl,by omega,by simp only [go_sem,↓reduceIte,f0,f1],by rw [htk,hA,Mg,e1,e2]; rfl⟩
 ·obtain rfl:k=l.length:=by omega
  rw [List.take_of_length_le (Nat.le_refl _)] at hA
  rw [hA] at hch
  simp only [Bool.false_eq_true,if_false] at hch
  have hlt':¬(l.length:Int)<(l.length:Int):=by omega
  simp (disch:=omega) only [go_sem,↓reduceIte,f0,f5,hlt']
  refine Da (fun M s=>∃i:Nat,M=l.length-i/\i<=l.length/\At s.env [(0,Dv l),(6,.int .i64 i)]/\A1p l i=false) l.length (by omega) ⟨0,by omega,by omega,by simp only [go_sem,↓reduceIte,f0],rfl⟩ ?_
  clear f0 f1 f5
  rintro M e h hM ⟨i,rfl,hi,hE,hD⟩ P2 hP2
  simp only [Bp,Bx] at hE
  obtain ⟨f0,f6,-⟩:=hE
  by_cases hit:i<l.length
  ·have hit':(i:Int)<(l.length:Int):=by omega
   have hgi:l[i]? = some (l.getD i 0):=by rw [List.getD_eq_getElem?_getD,List.getElem?_eq_getElem hit]; rfl
   simp (disch:=omega) only [go_sem,↓reduceIte,f0,f6,hit']
   refine Da (fun M s=>∃k:Nat,M=i-k/\k<=i/\At s.env [(0,Dv l),(6,.int .i64 i),(7,.int .i64 k)]/\(List.range k).any (dqJ l i)=false) i (by omega) ⟨0,by omega,by omega,by simp only [go_sem,↓reduceIte,f0,f6],rfl⟩ ?_
   clear f0 f6
   rintro M e h hM ⟨k,rfl,hk,hE,hK⟩ P3 hP3
   simp only [Bp,Bx] at hE
   obtain ⟨f0,f6,f7,-⟩:=hE
   by_cases hki:k<i
   ·have hki':(k:Int)<(i:Int):=by omega
    have hgk:l[k]? = some (l.getD k 0):=gdI (by omega)
    by_cases y1:l.getD k 0=l.getD i 0
    ·have e1:(l.getD k 0==l.getD i 0)=true:=beq_iff_eq.2 y1
     by_cases y2:l.getD i 0>=0
     ·have e2:decide (l.getD i 0>=0)=true:=decide_eq_true y2
      simp (disch:=omega) only [go_sem,↓reduceIte,f0,f6,f7,hki',hgi,hgk,e1,e2]
      exact hV _ _ (by
       rw [hch,if_pos]
       exact List.any_eq_true.2 ⟨i,List.mem_range.2 hit,List.any_eq_true.2 ⟨k,List.mem_range.2 hki,by rw [dqJ,e1,e2]; rfl⟩⟩)
     ·have e2:decide (l.getD i 0>=0)=false:=decide_eq_false y2
      simp (disch:=omega) only [go_sem,↓reduceIte,f0,f6,f7,hki',hgi,hgk,e1,e2]
      exact hP3 (i-(k+1)) _ (by omega) ⟨k+1,rfl,by omega,by simp only [go_sem,↓reduceIte,f0,f6],by rw [So,hK,dqJ,e1,e2]; rfl⟩
    ·have e1:(l.getD k 0==l.getD i 0)=false:=beq_eq_false_iff_ne.2 y1
     simp (disch:=omega) only [go_sem,↓reduceIte,f0,f6,f7,hki',hgi,hgk,e1]
     exact hP3 (i-(k+1)) _ (by omega) ⟨k+1,rfl,by omega,by simp only [go_sem,↓reduceIte,f0,f6],by rw [So,hK,dqJ,e1]; rfl⟩
   ·obtain rfl:k=i:=by omega
    have hkk:¬(k:Int)<(k:Int):=by omega
    simp (disch:=omega) only [go_sem,↓reduceIte,f6,f7,hkk]
    exact hP2 (l.length-(k+1)) _ (by omega) ⟨k+1,rfl,by omega,by simp only [go_sem,↓reduceIte,f0],by rw [All,hD,hK]; rfl⟩
  ·obtain rfl:i=l.length:=by omega
   have hii:¬(l.length:Int)<(l.length:Int):=by omega
   simp (disch:=omega) only [go_sem,↓reduceIte,f0,f6,hii]
   exact hV _ _ (by rw [hch,hD]; rfl)
theorem Afs (l:List Int):Con T 2 7 [Dv l] (.int .i64 (Nm l)):=by
 refine Bu t7 fun n hn V hV => ?_
 simp (disch:=omega) only [c7,go_sem,↓reduceIte]
 refine Do (Akz l) hn (Dm _ _ _ _ (Bv (Bl _ _ _ _) (Bz _))) (Ga _ _ _) ?_
 simp (disch:=omega) only [go_sem,↓reduceIte]
 exact hV _ _ (Bl _ _ _ _)
theorem Avm (p:List Nat) (hp:PermN p) (h1:1<=p.length) (h10:p.length<=10):∀n,9<=n->∀(h:Bc) (V:AV×Bc->Prop),(∀v h',B3h p h v h'->V (v,h'))->
  G (Bd T n) h.length (Fin c36.results V) c36.body [] ⟨[Dv (nI6 p)],h++List.replicate c36.ntmps .none⟩:=by
 intro n hn h V hV
 obtain ⟨n,rfl⟩:∃m,n=m+2:=⟨n-2,by omega⟩
 have e0:((0:Int) != 0)=false:=rfl
 have hl:=Gp p
 simp (disch:=omega) only [c36,go_sem,↓reduceIte]
 refine Do (Afg p hp h1 h10) (show 7<=n+2 by omega) (Dm _ _ _ _ (Bz _)) (Ga _ _ _) ?_
 simp (disch:=omega) only [go_sem,↓reduceIte,e0]
 refine Ex ?_
 rw [Dt t92]
 simp (disch:=omega) only [c92,go_sem,↓reduceIte]
 refine A6z (l:=nI6 p) (by omega) (by omega) fun key ver h' hH hk1 hk2 kp ln => ?_
 simp only [List.length_append,List.length_replicate] at hk1 kp ln
 have hb:∀j,h.length<=j->Bb (h++List.replicate 12 .none++List.replicate 8 .none) j = .none:=fun j hj=>by
  by_cases hlt:j<h.length+20
  ·rw [Bg]
   obtain ⟨i,rfl⟩:∃i,j=h.length+i:=⟨j-h.length,by omega⟩
   exact Hm _ _ _
  ·exact Ef _ _ (by simp; omega)
 have hK:Bb h' (h.length+12+7) = .none:=by rw [kp _ (by omega)]; exact hb _ (by omega)
 have hne:¬(h.length+12+7=key):=by omega
 simp (disch:=omega) only [go_sem,↓reduceIte,Gs,mapR,List.length_append,List.length_replicate,hK]
 rw [hl]
 refine hV _ _ ⟨h.length+19,key,ver,rfl,getH_setH_self _ _ _,?_,by omega,by omega,by omega,?_,?_,fun j hj => ?_,?_⟩
 ·rw [Ba _ _ _ _ (by omega)]; exact hH
 ·simp only [Be]; omega
 ·simp only [Be]; omega
 ·rw [Ba _ _ _ _ (by omega),kp j (by omega),Bg,Bg]
 ·simp only [Be]; omega
end Go.Ev.YtgehhippjhealaaGreatC
