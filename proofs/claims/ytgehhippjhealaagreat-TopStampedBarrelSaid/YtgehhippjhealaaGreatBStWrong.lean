/- Circles of a list that leads each place to one: plain lists, no program. What is done several times; exchanges that put circles right; how often until all is as before. The code of functions that are walked, compiled for the evaluator, as text. What small functions of layer 6 answer: within, the checks of joints, the program's and the reference's. Steps of neighbours put a list in its order; each takes away one wrong pair. The bench of valid joints, handed over; flutes; the first of several; neighbours exchanged. Steps of layer 6. Wrong of layer 6. What the reference's check of joints answers, and what it means. No condition but those that stand in each. -/
import Derived.Test.YtgehhippjhealaaGreatBEvComp
import Derived.Test.YtgehhippjhealaaGreatBTopW
import Derived.Test.YtgehhippjhealaaGreatBTopShd
import Derived.Test.YtgehhippjhealaaGreatBTopKnx
set_option linter.unusedSimpArgs false
set_option linter.unusedVariables false
namespace Go.Ev.YtgehhippjhealaaGreatC
structure PermN (p:List Nat):Prop where
 nd:p.Nodup
 lt:∀x∈p,x<p.length
def stp (p:List Nat) (i:Nat):Nat:=p.getD i 0
def itp (p:List Nat):Nat->Nat->Nat
 | 0,x=>x
 | k+1,x=>itp p k (stp p x)
theorem Vt {p:List Nat} {i:Nat} (h:i<p.length):stp p i=p[i]:=by
 simp only [stp,List.getD_eq_getElem?_getD,List.getElem?_eq_getElem h,Option.getD_some]
theorem A2u {p:List Nat}:p.Nodup↔∀{i j:Nat} (hi:i<p.length) (hj:j<p.length),p[i]=p[j]->i=j:=by
 rw [List.Nodup,List.pairwise_iff_getElem]
 constructor
 ·intro h i j hi hj he
  rcases Nat.lt_trichotomy i j with hlt | heq | hgt
  ·exact absurd he (h i j hi hj hlt)
  ·exact heq
  ·exact absurd he.symm (h j i hj hi hgt)
 ·intro h i j hi hj hij he
  have:=h hi hj he
  omega
theorem A3h:∀(n:Nat) (l:List Nat),l.Nodup->(∀x∈l,x<n)->l.length<=n
 | 0,l,_,h=>by
  cases l with
  | nil=>simp
  | cons a r=>exact absurd (h a (by simp)) (by omega)
 | n+1,l,hn,h=>by
  have h1:=A3h n (l.erase n) (hn.erase n) fun x hx=>by
   have:=h x (List.mem_of_mem_erase hx)
   have hne:x≠n:=fun e=>by
    subst e
    exact (List.Nodup.mem_erase_iff hn).1 hx |>.1 rfl
   omega
  rw [List.length_erase] at h1
  split at h1 <;> omega
theorem A3k {p:List Nat} (hp:PermN p) {i:Nat} (h:i<p.length):stp p i<p.length:=by
 rw [Vt h]
 exact hp.lt _ (List.getElem_mem h)
theorem Auy {p:List Nat} (hp:PermN p) {i j:Nat} (hi:i<p.length) (hj:j<p.length) (h:stp p i=stp p j):i=j:=by
 rw [Vt hi,Vt hj] at h
 exact (A2u.1 hp.nd) hi hj h
theorem Md {p:List Nat} (hp:PermN p):∀(k i:Nat),i<p.length->itp p k i<p.length
 | 0,_,h=>h
 | k+1,_,h=>Md hp k _ (A3k hp h)
theorem In (p:List Nat):∀(a b i:Nat),itp p (a+b) i=itp p b (itp p a i)
 | 0,b,i=>by rw [Nat.zero_add]; rfl
 | a+1,b,i=>by
  rw [Nat.add_right_comm]
  exact In p a b _
theorem A4j (p:List Nat) (k i:Nat):itp p (k+1) i=stp p (itp p k i):=In p k 1 i
theorem Yz {p:List Nat} (hp:PermN p):∀(k:Nat) {i j:Nat},i<p.length->j<p.length->itp p k i=itp p k j->i=j
 | 0,_,_,_,_,h=>h
 | k+1,_,_,hi,hj,h=>Auy hp hi hj (Yz hp k (A3k hp hi) (A3k hp hj) h)
theorem Mp:∀{a b:List Nat},a.Nodup->(∀x∈a,x∈b)->a.length<=b.length
 | [],b,_,_=>by simp
 | x::r,b,hn,h=>by
  rw [List.nodup_cons] at hn
  have h1:=Mp (a:=r) (b:=b.erase x) hn.2 fun y hy=>by
   refine (List.mem_erase_of_ne ?_).2 (h y (by simp [hy]))
   intro e
   exact hn.1 (e ▸ hy)
  have hx:=h x (by simp)
  rw [List.length_erase_of_mem hx] at h1
  have:=List.length_pos_of_mem hx
  simp only [List.length_cons]
  omega
theorem B1t (f:Nat->Nat) (n:Nat) (h:∀k,k<=n->f k<n):∃a b,a<b/\b<=n/\f a=f b:=by
 apply Classical.byContradiction
 intro hne
 have hnd:((List.range (n+1)).map f).Nodup:=by
  refine List.pairwise_map.2 ?_
  refine List.Pairwise.imp_of_mem ?_ (List.pairwise_lt_range (n:=n+1))
  intro a b ha hb hab he
  exact hne ⟨a,b,hab,by have:=List.mem_range.1 hb; omega,he⟩
 have hsub:∀x∈(List.range (n+1)).map f,x<n:=fun x hx=>by
  obtain ⟨k,hk,rfl⟩:=List.mem_map.1 hx
  have:=List.mem_range.1 hk
  exact h k (by omega)
 have:=A3h n _ hnd hsub
 simp at this
 omega
theorem Xc (q:Nat->Bool):∀n,(∃k,k<=n/\q k=true)->∃k,k<=n/\q k=true/\∀j,j<k->q j=false
 | 0,⟨k,hk,h⟩=>by
  obtain rfl:k=0:=by omega
  exact ⟨0,by omega,h,fun j hj=>by omega⟩
 | n+1,⟨k,hk,h⟩=>by
  by_cases hn:∃k,k<=n/\q k=true
  ·obtain ⟨k',a,b,c⟩:=Xc q n hn
   exact ⟨k',by omega,b,c⟩
  ·have hk':k=n+1:=by
    apply Classical.byContradiction
    intro hne
    exact hn ⟨k,by omega,h⟩
   refine ⟨k,hk,h,fun j hj => ?_⟩
   cases hq:q j with
   | false=>rfl
   | true=>exact absurd ⟨j,by omega,hq⟩ hn
theorem B1h {p:List Nat} (hp:PermN p) {i:Nat} (hi:i<p.length):∃k,0<k/\k<=p.length/\itp p k i=i/\∀j,0<j->j<k->itp p j i≠i:=by
 obtain ⟨a,b,hab,hb,he⟩:=B1t (fun k=>itp p k i) p.length fun k _=>Md hp k i hi
 have hback:itp p (b-a) i=i:=by
  have h1:itp p b i=itp p a (itp p (b-a) i):=by
   rw [<-In]
   congr 1
   omega
  rw [<-he] at h1
  exact (Yz hp a hi (Md hp _ i hi) h1).symm
 obtain ⟨k,h1,h2,h3⟩:=Xc (fun k=>decide (0<k)&&decide (itp p k i=i)) p.length ⟨b-a,by omega,by simp [hback]; omega⟩
 simp only [Bool.and_eq_true,decide_eq_true_eq] at h2
 refine ⟨k,h2.1,h1,h2.2,fun j hj hjk he => ?_⟩
 have:=h3 j hjk
 simp [hj,he] at this
def Mr (p:List Nat) (i:Nat):Nat->Nat->List Nat
 | 0,_=>[]
 | f+1,a=>if a=i then [] else a::Mr p i f (stp p a)
def cyc (p:List Nat) (i:Nat):List Nat:=i::Mr p i p.length (stp p i)
def per (p:List Nat) (i:Nat):Nat:=(cyc p i).length
theorem A7z {p:List Nat} {i k:Nat} (hk:itp p k i=i) (hl:∀j,0<j->j<k->itp p j i≠i):∀(f m:Nat),0<m->m<=k->k-m<f->Mr p i f (itp p m i)=(List.range' m (k-m)).map fun j=>itp p j i
 | 0,m,_,_,h=>by omega
 | f+1,m,h0,hm,h=>by
  unfold Mr
  by_cases he:m=k
  ·subst he
   rw [if_pos hk,Nat.sub_self]
   rfl
  ·have hlt:m<k:=by omega
   rw [if_neg (hl m h0 hlt),<-A4j,A7z hk hl f (m+1) (by omega) (by omega) (by omega)]
   have:k-m=(k-(m+1))+1:=by omega
   rw [this,List.range'_succ,List.map_cons]
theorem Ayc {p:List Nat} {i k:Nat} (hk0:0<k) (hkn:k<=p.length) (hk:itp p k i=i) (hl:∀j,0<j->j<k->itp p j i≠i):cyc p i=(List.range k).map fun j=>itp p j i:=by
 have h1:=A7z hk hl p.length 1 (by omega) hk0 (by omega)
 have h2:itp p 1 i=stp p i:=rfl
 rw [h2] at h1
 rw [cyc,h1]
 obtain ⟨m,rfl⟩:∃m,k=m+1:=⟨k-1,by omega⟩
 rw [Nat.add_sub_cancel,List.range_eq_range',List.range'_succ,List.map_cons]
 rfl
theorem He {p:List Nat} (hp:PermN p) {i:Nat} (hi:i<p.length):0<per p i/\per p i<=p.length/\itp p (per p i) i=i/\(∀j,0<j->j<per p i->itp p j i≠i)/\cyc p i=(List.range (per p i)).map fun j=>itp p j i:=by
 obtain ⟨k,h1,h2,h3,h4⟩:=B1h hp hi
 have h5:=Ayc h1 h2 h3 h4
 have:per p i=k:=by rw [per,h5,List.length_map,List.length_range]
 rw [this]
 exact ⟨h1,h2,h3,h4,h5⟩
theorem A6x {p:List Nat} {i k:Nat} (h:itp p k i=i):∀m,itp p (k*m) i=i
 | 0=>rfl
 | m+1=>by rw [Nat.mul_succ,In,A6x h m,h]
theorem Lv {p:List Nat} (hp:PermN p) {i:Nat} (hi:i<p.length) (m:Nat):itp p m i=itp p (m%per p i) i:=by
 obtain ⟨_,_,h,_⟩:=He hp hi
 conv=>lhs; rw [<-Nat.div_add_mod m (per p i),In,A6x h]
theorem Ox {p:List Nat} (hp:PermN p) {i:Nat} (hi:i<p.length) (j:Nat):j∈cyc p i↔∃k,j=itp p k i:=by
 obtain ⟨h0,_,_,_,h⟩:=He hp hi
 rw [h]
 constructor
 ·intro hj
  obtain ⟨k,_,rfl⟩:=List.mem_map.1 hj
  exact ⟨k,rfl⟩
 ·rintro ⟨k,rfl⟩
  rw [Lv hp hi]
  exact List.mem_map.2 ⟨_,List.mem_range.2 (Nat.mod_lt _ h0),rfl⟩
theorem Oy {p:List Nat} (hp:PermN p) {i j:Nat} (hi:i<p.length) (hj:j∈cyc p i):j<p.length:=by
 obtain ⟨k,rfl⟩:=(Ox hp hi j).1 hj
 exact Md hp k i hi
theorem A1z {p:List Nat} (hp:PermN p) {i:Nat} (hi:i<p.length) (a b:Nat):itp p a i=itp p b i↔a%per p i=b%per p i:=by
 obtain ⟨h0,hn,hk,hl,_⟩:=He hp hi
 constructor
 ·intro h
  have key:∀a b,a<per p i->b<per p i->a<b->itp p a i≠itp p b i:=fun a b ha hb hab he=>by
   have h1:itp p b i=itp p a (itp p (b-a) i):=by
    rw [<-In]
    congr 1
    omega
   rw [<-he] at h1
   exact hl (b-a) (by omega) (by omega) (Yz hp a hi (Md hp _ i hi) h1).symm
  rw [Lv hp hi a,Lv hp hi b] at h
  have ha:=Nat.mod_lt a h0
  have hb:=Nat.mod_lt b h0
  rcases Nat.lt_trichotomy (a%per p i) (b%per p i) with hlt | heq | hgt
  ·exact absurd h (key _ _ ha hb hlt)
  ·exact heq
  ·exact absurd h.symm (key _ _ hb ha hgt)
 ·intro h
  rw [Lv hp hi a,Lv hp hi b,h]
theorem Uw {p:List Nat} (hp:PermN p) {i:Nat} (hi:i<p.length):(cyc p i).Nodup:=by
 obtain ⟨h0,hn,hk,hl,h⟩:=He hp hi
 rw [h]
 refine List.pairwise_map.2 ?_
 refine List.Pairwise.imp_of_mem ?_ (List.pairwise_lt_range (n:=per p i))
 intro a b ha hb hab he
 rw [A1z hp hi,Nat.mod_eq_of_lt (List.mem_range.1 ha),Nat.mod_eq_of_lt (List.mem_range.1 hb)] at he
 omega
theorem Vp {p:List Nat} (hp:PermN p) {i j:Nat} (hi:i<p.length) (hj:j∈cyc p i):i∈cyc p j:=by
 have hjl:=Oy hp hi hj
 obtain ⟨h0,hn,hk,hl,h⟩:=He hp hi
 rw [h] at hj
 obtain ⟨k,hkr,rfl⟩:=List.mem_map.1 hj
 refine (Ox hp hjl i).2 ⟨per p i-k,?_⟩
 have:=List.mem_range.1 hkr
 rw [<-In]
 have:k+(per p i-k)=per p i:=by omega
 rw [this,hk]
theorem Ni {p:List Nat} (hp:PermN p) {i j k:Nat} (hi:i<p.length) (hj:j∈cyc p i) (hk:k∈cyc p j):k∈cyc p i:=by
 have hjl:=Oy hp hi hj
 obtain ⟨a,rfl⟩:=(Ox hp hi j).1 hj
 obtain ⟨b,rfl⟩:=(Ox hp hjl k).1 hk
 exact (Ox hp hi _).2 ⟨a+b,(In p a b i).symm⟩
theorem Aif (p:List Nat) (i:Nat):i∈cyc p i:=by simp [cyc]
def Hv (p:List Nat) (i:Nat):Bool:=(cyc p i).all fun j=>decide (i<=j)
def Vd (p:List Nat):List Nat:=(List.range p.length).filter (Hv p)
def Ee (p:List Nat):List (List Nat):=(Vd p).map (cyc p)
theorem Acm {p:List Nat} (hp:PermN p) {i:Nat} (hi:i<p.length):∃j∈cyc p i,Hv p j=true:=by
 obtain ⟨k,h1,h2,h3⟩:=Xc (fun j=>(cyc p i).contains j) i ⟨i,Nat.le_refl _,by simpa using Aif p i⟩
 have hk:k∈cyc p i:=by simpa using h2
 refine ⟨k,hk,List.all_eq_true.2 fun j hj=>decide_eq_true ?_⟩
 apply Classical.byContradiction
 intro hlt
 have:=h3 j (by omega)
 have hj':=Ni hp hi hk hj
 simp [hj'] at this
theorem Aum {p:List Nat} (hp:PermN p) {i j:Nat} (hi:i<p.length) (h1:Hv p i=true) (h2:Hv p j=true) (hj:j∈cyc p i):i=j:=by
 have a:=of_decide_eq_true (List.all_eq_true.1 h1 j hj)
 have b:=of_decide_eq_true (List.all_eq_true.1 h2 i (Vp hp hi hj))
 omega
theorem Gk {p:List Nat} {i:Nat}:i∈Vd p↔i<p.length/\Hv p i=true:=by
 simp [Vd]
theorem A0y {p:List Nat} (hp:PermN p):(Ee p).flatten.Perm (List.range p.length):=by
 have hnd:(Ee p).flatten.Nodup:=by
  rw [List.Nodup,List.pairwise_flatten]
  constructor
  ·intro c hc
   obtain ⟨i,hi,rfl⟩:=List.mem_map.1 hc
   exact Uw hp (Gk.1 hi).1
  ·refine List.pairwise_map.2 ?_
   have:(Vd p).Nodup:=List.Pairwise.filter _ List.nodup_range
   refine List.Pairwise.imp_of_mem ?_ this
   intro a b ha hb hne x hxa y hxb he
   subst he
   obtain ⟨ha1,ha2⟩:=Gk.1 ha
   obtain ⟨hb1,hb2⟩:=Gk.1 hb
   exact hne (Aum hp ha1 ha2 hb2 (Ni hp ha1 hxa (Vp hp hb1 hxb)))
 refine (List.perm_ext_iff_of_nodup hnd List.nodup_range).2 fun x => ?_
 rw [List.mem_flatten,List.mem_range]
 constructor
 ·rintro ⟨c,hc,hx⟩
  obtain ⟨i,hi,rfl⟩:=List.mem_map.1 hc
  exact Oy hp (Gk.1 hi).1 hx
 ·intro hx
  obtain ⟨j,hj,hm⟩:=Acm hp hx
  have hjl:=Oy hp hx hj
  exact ⟨cyc p j,List.mem_map.2 ⟨j,Gk.2 ⟨hjl,hm⟩,rfl⟩,Vp hp hx hj⟩
theorem Afm {p:List Nat} (hp:PermN p):((Ee p).map List.length).sum=p.length:=by
 rw [<-List.length_flatten,(A0y hp).length_eq,List.length_range]
theorem Yw (p:List Nat) (i:Nat):0<(cyc p i).length:=by simp [cyc]
end Go.Ev.YtgehhippjhealaaGreatC
set_option linter.unusedSimpArgs false
set_option linter.unusedVariables false
namespace Go.Ev.YtgehhippjhealaaGreatC
def Fz (p:List Nat) (t:Nat):List Nat:=(List.range p.length).map fun i=>itp p t i
def Ex (p:List Nat):List Nat:=(Ee p).map List.length
def agn (p:List Nat):Nat:=(Ex p).foldl Nat.lcm 1
theorem A7p {p:List Nat} (hp:PermN p) {i:Nat} (hi:i<p.length) {k:Nat} (hk:k<per p i):(cyc p i)[k]? = some (itp p k i):=by
 obtain ⟨_,_,_,_,h⟩:=He hp hi
 rw [h,List.getElem?_map,List.getElem?_range hk]
 rfl
theorem Agm {p:List Nat} (hp:PermN p) {i j:Nat} (hi:i<p.length) (hj:j∈cyc p i):per p j=per p i:=by
 have hjl:=Oy hp hi hj
 have a:=Mp (Uw hp hi) fun x hx=>Ni hp hjl (Vp hp hi hj) hx
 have b:=Mp (Uw hp hjl) fun x hx=>Ni hp hi hj hx
 simp only [per]
 omega
theorem Acp {p:List Nat} (hp:PermN p) (a b:Nat):Fz p a=Fz p b↔∀n∈Ex p,a%n=b%n:=by
 constructor
 ·intro h n hn
  obtain ⟨c,hc,rfl⟩:=List.mem_map.1 hn
  obtain ⟨i,hi,rfl⟩:=List.mem_map.1 hc
  have hil:=(Gk.1 hi).1
  have h1:(Fz p a)[i]? = (Fz p b)[i]?:=by rw [h]
  simp only [Fz,List.getElem?_map,List.getElem?_range hil,Option.map_some,Option.some.injEq] at h1
  exact (A1z hp hil a b).1 h1
 ·intro h
  apply List.map_congr_left
  intro i hi
  have hil:=List.mem_range.1 hi
  obtain ⟨j,hj,hm⟩:=Acm hp hil
  have hjl:=Oy hp hil hj
  rw [A1z hp hil a b]
  have:=h (per p j) (List.mem_map.2 ⟨cyc p j,List.mem_map.2 ⟨j,Gk.2 ⟨hjl,hm⟩,rfl⟩,rfl⟩)
  rwa [Agm hp hil hj] at this
theorem Sm:∀(l:List Nat) (m:Nat),m ∣ l.foldl Nat.lcm m/\∀n∈l,n ∣ l.foldl Nat.lcm m
 | [],m=>⟨Nat.dvd_refl _,fun n h=>by cases h⟩
 | a::r,m=>by
  obtain ⟨h1,h2⟩:=Sm r (Nat.lcm m a)
  refine ⟨Nat.dvd_trans (Nat.dvd_lcm_left m a) h1,fun n hn => ?_⟩
  rcases List.mem_cons.1 hn with rfl | hn
  ·exact Nat.dvd_trans (Nat.dvd_lcm_right m _) h1
  ·exact h2 n hn
theorem Rf {p:List Nat} {n:Nat} (hn:n∈Ex p):0<n:=by
 obtain ⟨c,hc,rfl⟩:=List.mem_map.1 hn
 obtain ⟨i,hi,rfl⟩:=List.mem_map.1 hc
 exact Yw p i
theorem Awu {p:List Nat} (hp:PermN p) (t:Nat):Fz p t=Fz p (t%agn p):=by
 rw [Acp hp]
 intro n hn
 exact (Nat.mod_mod_of_dvd t ((Sm (Ex p) 1).2 n hn)).symm
end Go.Ev.YtgehhippjhealaaGreatC
set_option linter.unusedSimpArgs false
set_option linter.unusedVariables false
set_option maxRecDepth 100000
namespace Go.Ev.YtgehhippjhealaaGreatC
open Go.Proofs
def c7:IFunc:=⟨5,[.tmp 2],.seq (.ops [dO 2 (.mv (cI 0))]) (.seq (.ops [dO 3 (.mv (tM 0)),dO 4 (.callF false 33 [tM 3,cI 0]),dO 2 (.mv (tM 4))]) .ret)⟩
theorem k7:(Bt Tryz.prog byr).fns 7=some c7:=by kernel_rfl
theorem t7:T.fns 7=some c7:=Bx k7 (by decide) (by decide)
def c33:IFunc:=⟨64,[.tmp 4],.seq (.ops [dO 4 (.mv (cI 0))]) (.seq (.seq (.ops [dO 8 (.mv (tM 0)),dO 9 (.len (tM 8)),dO 10 (.bin .lss (tM 9) (cI 1)),dO 11 (.mv (tM 10)),gO 12 (.mv (tM 0)) 11 false,gO 13 (.len (tM 12)) 11 false,gO 14 (.bin .gtr (tM 13) (cI 10)) 11 false,dO 15 (.pick (tM 11) (cB true) (tM 14))]) (.cond (tM 15) (.seq (.ops [dO 4 (.mv (cI 6))]) .ret) .skip)) (.seq (.seq (.ops [dO 5 (.mv (cI 0))]) (.block 0 (.loop (.seq (.seq (.ops [dO 16 (.mv (tM 5)),dO 17 (.mv (tM 0)),dO 18 (.len (tM 17)),dO 19 (.bin .lss (tM 16) (tM 18))]) (.cond (tM 19) .skip (.exit 0))) (.seq (.block 1 (.seq (.ops [dO 22 (.mv (tM 0)),dO 23 (.mv (tM 5)),dO 24 (.indexAddr 1 (tM 22) (tM 23)),dO 25 (.load none (tM 24)),dO 26 (.mv (tM 1)),dO 27 (.bin .lss (tM 25) (tM 26)),dO 28 (.mv (tM 27)),gO 29 (.mv (tM 0)) 28 false,gO 30 (.mv (tM 5)) 28 false,gO 31 (.indexAddr 1 (tM 29) (tM 30)) 28 false,gO 32 (.load none (tM 31)) 28 false,gO 33 (.mv (tM 0)) 28 false,gO 34 (.len (tM 33)) 28 false,gO 35 (.bin .geq (tM 32) (tM 34)) 28 false,dO 36 (.pick (tM 28) (cB true) (tM 35))]) (.cond (tM 36) (.seq (.ops [dO 4 (.mv (cI 3))]) .ret) .skip))) (.ops [dO 20 (.mv (tM 5)),dO 21 (.bin .add (tM 20) (cI 1)),dO 5 (.mv (tM 21))])))))) (.seq (.seq (.ops [dO 6 (.mv (cI 0))]) (.block 2 (.loop (.seq (.seq (.ops [dO 37 (.mv (tM 6)),dO 38 (.mv (tM 0)),dO 39 (.len (tM 38)),dO 40 (.bin .lss (tM 37) (tM 39))]) (.cond (tM 40) .skip (.exit 2))) (.seq (.block 3 (.seq (.ops [dO 7 (.mv (cI 0))]) (.block 4 (.loop (.seq (.seq (.ops [dO 43 (.mv (tM 7)),dO 44 (.mv (tM 6)),dO 45 (.bin .lss (tM 43) (tM 44))]) (.cond (tM 45) .skip (.exit 4))) (.seq (.block 5 (.seq (.ops [dO 48 (.mv (tM 0)),dO 49 (.mv (tM 7)),dO 50 (.indexAddr 1 (tM 48) (tM 49)),dO 51 (.load none (tM 50)),dO 52 (.mv (tM 0)),dO 53 (.mv (tM 6)),dO 54 (.indexAddr 1 (tM 52) (tM 53)),dO 55 (.load none (tM 54)),dO 56 (.bin .eql (tM 51) (tM 55)),dO 57 (.mv (tM 56)),gO 58 (.mv (tM 0)) 57 true,gO 59 (.mv (tM 6)) 57 true,gO 60 (.indexAddr 1 (tM 58) (tM 59)) 57 true,gO 61 (.load none (tM 60)) 57 true,gO 62 (.bin .geq (tM 61) (cI 0)) 57 true,dO 63 (.pick (tM 57) (tM 62) (cB false))]) (.cond (tM 63) (.seq (.ops [dO 4 (.mv (cI 11))]) .ret) .skip))) (.ops [dO 46 (.mv (tM 7)),dO 47 (.bin .add (tM 46) (cI 1)),dO 7 (.mv (tM 47))]))))))) (.ops [dO 41 (.mv (tM 6)),dO 42 (.bin .add (tM 41) (cI 1)),dO 6 (.mv (tM 42))])))))) (.seq (.ops [dO 4 (.mv (cI 0))]) .ret))))⟩
theorem k33:(Bt Tryz.prog byr).fns 33=some c33:=by kernel_rfl
theorem t33:T.fns 33=some c33:=Bx k33 (by decide) (by decide)
def c32:IFunc:=⟨26,[.tmp 4],.seq (.ops [dO 4 (.mv (cB false))]) (.seq (.seq (.ops [dO 6 (.mv (tM 0)),dO 7 (.len (tM 6)),dO 8 (.mv (tM 1)),dO 9 (.len (tM 8)),dO 10 (.bin .neq (tM 7) (tM 9))]) (.cond (tM 10) (.seq (.ops [dO 4 (.mv (cB false))]) .ret) .skip)) (.seq (.seq (.ops [dO 5 (.mv (cI 0))]) (.block 0 (.loop (.seq (.seq (.ops [dO 11 (.mv (tM 5)),dO 12 (.mv (tM 0)),dO 13 (.len (tM 12)),dO 14 (.bin .lss (tM 11) (tM 13))]) (.cond (tM 14) .skip (.exit 0))) (.seq (.block 1 (.seq (.ops [dO 17 (.mv (tM 0)),dO 18 (.mv (tM 5)),dO 19 (.indexAddr 1 (tM 17) (tM 18)),dO 20 (.load none (tM 19)),dO 21 (.mv (tM 1)),dO 22 (.mv (tM 5)),dO 23 (.indexAddr 1 (tM 21) (tM 22)),dO 24 (.load none (tM 23)),dO 25 (.bin .neq (tM 20) (tM 24))]) (.cond (tM 25) (.seq (.ops [dO 4 (.mv (cB false))]) .ret) .skip))) (.ops [dO 15 (.mv (tM 5)),dO 16 (.bin .add (tM 15) (cI 1)),dO 5 (.mv (tM 16))])))))) (.seq (.ops [dO 4 (.mv (cB true))]) .ret)))⟩
theorem k32:(Bt Tryz.prog byr).fns 32=some c32:=by kernel_rfl
theorem t32:T.fns 32=some c32:=Bx k32 (by decide) (by decide)
def c59:IFunc:=⟨5,[.tmp 2],.seq (.ops [dO 2 (.mv (cI 0))]) (.seq (.ops [dO 3 (.mv (tM 0)),dO 4 (.callF false 119 [tM 3,cI 0]),dO 2 (.mv (tM 4))]) .ret)⟩
theorem k59:(Bt Tryz.prog byr).fns 59=some c59:=by kernel_rfl
theorem t59:T.fns 59=some c59:=Bx k59 (by decide) (by decide)
def c119:IFunc:=⟨38,[.tmp 4],.seq (.ops [dO 4 (.mv (cI 0))]) (.seq (.block 0 (.seq (.ops [dO 8 (.mv (tM 0)),dO 9 (.len (tM 8)),dO 10 (.buildSlice none [.int .i64 0] [(0,(1,tM 9))]),dO 11 (.callF false 160 [cI 1,cI 10,tM 10]),dO 12 (.un .not (tM 11)),dO 7 (.mv (tM 12))]) (.cond (tM 7) (.seq (.ops [dO 4 (.mv (cI 6))]) .ret) (.seq (.ops [dO 14 (.mv (tM 1)),dO 15 (.mv (tM 0)),dO 16 (.len (tM 15)),dO 17 (.bin .sub (tM 16) (cI 1)),dO 18 (.mv (tM 0)),dO 19 (.callF false 160 [tM 14,tM 17,tM 18]),dO 20 (.un .not (tM 19)),dO 13 (.mv (tM 20))]) (.cond (tM 13) (.seq (.ops [dO 4 (.mv (cI 3))]) .ret) .skip))))) (.seq (.seq (.ops [dO 21 (.mv (tM 0)),dO 22 (.len (tM 21)),dO 23 (.mv (cI 0))]) (.block 1 (.loop (.seq (.ops [dO 24 (.bin .lss (tM 23) (tM 22))]) (.seq (.cond (tM 24) .skip (.exit 1)) (.seq (.block 2 (.seq (.ops [dO 25 (.mv (tM 23)),dO 26 (.indexAddr 1 (tM 21) (tM 23)),dO 27 (.load none (tM 26)),dO 5 (.mv (tM 25)),dO 6 (.mv (tM 27))]) (.seq (.ops [dO 28 (.mv (tM 6)),dO 29 (.bin .geq (tM 28) (cI 0)),dO 30 (.mv (tM 29)),gO 31 (.mv (tM 0)) 30 true,gO 32 (.mv (tM 5)) 30 true,gO 33 (.slice none (tM 31) none (some (tM 32)) none) 30 true,gO 34 (.mv (tM 6)) 30 true,gO 35 (.callF false 112 [tM 33,tM 34]) 30 true,dO 36 (.pick (tM 30) (tM 35) (cB false))]) (.cond (tM 36) (.seq (.ops [dO 4 (.mv (cI 11))]) .ret) .skip)))) (.ops [dO 37 (.bin .add (tM 23) (cI 1)),dO 23 (.mv (tM 37))]))))))) (.seq (.ops [dO 4 (.mv (cI 0))]) .ret)))⟩
theorem k119:(Bt Tryz.prog byr).fns 119=some c119:=by kernel_rfl
theorem t119:T.fns 119=some c119:=Bx k119 (by decide) (by decide)
def c160:IFunc:=⟨11,[.tmp 6],.seq (.ops [dO 3 (.box (tM 0)),dO 4 (.box (tM 1)),dO 6 (.mv (cB false))]) (.seq (.ops [dO 7 (.mv (tM 2)),dO 8 (.mkFunc 215 [] [tM 3,tM 4]),dO 9 (.callF false 110 [tM 7,tM 8]),dO 10 (.un .not (tM 9)),dO 6 (.mv (tM 10))]) .ret)⟩
theorem k160:(Bt Tryz.prog byr).fns 160=some c160:=by kernel_rfl
theorem t160:T.fns 160=some c160:=Bx k160 (by decide) (by decide)
def c215:IFunc:=⟨13,[.tmp 4],.seq (.ops [dO 4 (.mv (cB false))]) (.seq (.ops [dO 5 (.mv (tM 0)),dO 6 (.load none (tM 1)),dO 7 (.bin .lss (tM 5) (tM 6)),dO 8 (.mv (tM 7)),gO 9 (.mv (tM 0)) 8 false,gO 10 (.load none (tM 2)) 8 false,gO 11 (.bin .gtr (tM 9) (tM 10)) 8 false,dO 12 (.pick (tM 8) (cB true) (tM 11)),dO 4 (.mv (tM 12))]) .ret)⟩
theorem k215:(Bt Tryz.prog byr).fns 215=some c215:=by kernel_rfl
theorem t215:T.fns 215=some c215:=Bx k215 (by decide) (by decide)
def c36:IFunc:=⟨12,[.tmp 2,.tmp 3],.seq (.ops [dO 2 (.mv (.const .nilptr)),dO 3 (.mv (cI 0))]) (.seq (.seq (.ops [dO 5 (.mv (tM 0)),dO 6 (.callF false 59 [tM 5]),dO 4 (.mv (tM 6))]) (.seq (.ops [dO 7 (.mv (tM 4)),dO 8 (.bin .neq (tM 7) (cI 0))]) (.cond (tM 8) (.seq (.ops [dO 9 (.mv (tM 4)),dO 2 (.mv (.const .nilptr)),dO 3 (.mv (tM 9))]) .ret) .skip))) (.seq (.ops [dO 10 (.mv (tM 0)),dO 11 (.callF true 92 [tM 10]),dO 2 (.mv (tM 11)),dO 3 (.mv (cI 0))]) .ret))⟩
theorem k36:(Bt Tryz.prog byr).fns 36=some c36:=by kernel_rfl
theorem t36:T.fns 36=some c36:=Bx k36 (by decide) (by decide)
def c92:IFunc:=⟨8,[.tmp 2],.seq (.ops [dO 2 (.mv (.const .nilptr))]) (.seq (.ops [dO 3 (.mv (tM 0)),dO 4 (.callF true 97 [tM 3]),dO 5 (.build [.slice none [] true] [(0,(1,tM 4))]),dO 6 (.build [.slice none [] true] [(0,(1,tM 5))]),dO 7 (.box (tM 6)),dO 2 (.mv (tM 7))]) .ret)⟩
theorem k92:(Bt Tryz.prog byr).fns 92=some c92:=by kernel_rfl
theorem t92:T.fns 92=some c92:=Bx k92 (by decide) (by decide)
def c56:IFunc:=⟨20,[.tmp 2],.seq (.ops [dO 1 (.box (tM 0)),dO 2 (.mv (.const (.slice none [] true)))]) (.seq (.ops [dO 5 (.fieldAddr 0 (tM 1)),dO 6 (.load none (tM 5)),dO 7 (.len (tM 6)),dO 8 (.mkSlice none [.int .i64 0] 8 (tM 7) (tM 7)),dO 3 (.mv (tM 8))]) (.seq (.seq (.ops [dO 9 (.mv (tM 3)),dO 10 (.len (tM 9)),dO 11 (.mv (cI 0))]) (.block 0 (.loop (.seq (.ops [dO 12 (.bin .lss (tM 11) (tM 10))]) (.seq (.cond (tM 12) .skip (.exit 0)) (.seq (.block 1 (.seq (.ops [dO 13 (.mv (tM 11)),dO 4 (.mv (tM 13))]) (.ops [dO 14 (.mv (tM 3)),dO 15 (.mv (tM 4)),dO 16 (.mv (tM 4)),dO 17 (.indexAddr 1 (tM 14) (tM 15)),eO (.store 1 (tM 17) (tM 16))]))) (.ops [dO 18 (.bin .add (tM 11) (cI 1)),dO 11 (.mv (tM 18))]))))))) (.seq (.ops [dO 19 (.mv (tM 3)),dO 2 (.mv (tM 19))]) .ret)))⟩
theorem k56:(Bt Tryz.prog byr).fns 56=some c56:=by kernel_rfl
theorem t56:T.fns 56=some c56:=Bx k56 (by decide) (by decide)
end Go.Ev.YtgehhippjhealaaGreatC
set_option linter.unusedSimpArgs false
set_option linter.unusedVariables false
namespace Go.Ev.YtgehhippjhealaaGreatC
open Go Go.Proofs
abbrev De (l:List Int):AV:=.slice none (l.map (.int .i64)) false
def nI6 (p:List Nat):List Int:=p.map fun x:Nat=>(x:Int)
attribute [local irreducible] Res.all evC Df Dh Bq Bh Dn Bf Bj G GO GV GP GC R
set_option maxRecDepth 100000
theorem Abo {k f:Nat} {first cap:List AV} {p:Int->Bool} (xs:List Int) (hl:xs.length<=1000) (hc:∀x∈xs,Con T k f (first++[.int .i64 x]++cap) (.bool (p x))) (hz:∀h x,fz h (first++[.int .i64 x]++cap) = .ret (first++[.int .i64 x]++cap)) :
  Con T (k+1) 176 [De xs,.clo f first cap] (.int .i64 (Hh p xs 0)):=by
 refine Bs t176 fun n hn V hV => ?_
 simp (disch:=omega) only [c176,go_sem,↓reduceIte]
 refine Bz (fun M s=>∃k:Nat,M=xs.length-k/\k<=xs.length/\At s.env [(0,De xs),(1,.clo f first cap),(7,.int .i64 xs.length),(8,.int .i64 k)]/\Hh p xs 0=Hh p (xs.drop k) k) xs.length (by omega) ⟨0,by simp,by omega,by simp [go_sem,↓reduceIte],rfl⟩ ?_
 rintro M e h hM ⟨k,rfl,hk,hE,hA⟩ P hP
 simp only [Bp,Bw] at hE
 obtain ⟨h0,h1,h7,h8,-⟩:=hE
 by_cases hlt:k<xs.length
 ·obtain ⟨y,hy⟩:=Fq hlt
  rw [Fa hy,Hh] at hA
  simp (disch:=omega) only [go_sem,↓reduceIte,h0,h1,h7,h8,hlt,hy]
  refine Dt (hc y (List.mem_of_getElem? hy)) hn (hz _ _) (Ir _ _) ?_
  by_cases hp:p y=true
  ·simp (disch:=omega) only [go_sem,↓reduceIte,h0,h1,h7,h8,hp]
   exact hV _ _ (by rw [Bl,hA,if_pos hp])
  ·simp (disch:=omega) only [go_sem,↓reduceIte,h0,h1,h7,h8,hp]
   exact hP (xs.length-(k+1)) _ (by omega) ⟨k+1,rfl,by omega,by simp only [go_sem,↓reduceIte,h0,h1,h7],by rw [hA,if_neg hp]; rfl⟩
 ·simp (disch:=omega) only [go_sem,↓reduceIte,h0,h1,h7,h8,hlt]
  exact hV _ _ (by rw [Bl,hA,List.drop_eq_nil_of_le (by omega)]; rfl)
theorem Acy {k f:Nat} {first cap:List AV} {p:Int->Bool} (xs:List Int) (hl:xs.length<=1000) (hc:∀x∈xs,Con T k f (first++[.int .i64 x]++cap) (.bool (p x))) (hz:∀h x,fz h (first++[.int .i64 x]++cap) = .ret (first++[.int .i64 x]++cap))
  (hf:∀h,Bj h 8 (.clo f first cap) = .ret (.clo f first cap)):Con T (k+2) 110 [De xs,.clo f first cap] (.bool (xs.any p)):=by
 refine Bs t110 fun n hn V hV => ?_
 simp (disch:=omega) only [c110,go_sem,↓reduceIte]
 refine Dt (Abo xs hl hc hz) hn (Di _ _ _ _ (Da (hf _) (By _))) (Fx _ _ _) ?_
 simp (disch:=omega) only [go_sem,↓reduceIte,Mi]
 exact hV _ _ (Do _ _ _)
theorem A4g (x lo hi:Int):Con T 1 215 ([]++[.int .i64 x]++[.ptr [.int .i64 lo] 0,.ptr [.int .i64 hi] 0]) (.bool (decide (x<lo)||decide (x>hi))):=by
 refine Bs t215 fun n hn V hV => ?_
 by_cases g1:x<lo
 ·simp (disch:=omega) only [c215,go_sem,↓reduceIte,g1,List.cons_append]
  refine hV _ _ ?_
  simp [g1,Do]
 ·simp (disch:=omega) only [c215,go_sem,↓reduceIte,g1,List.cons_append]
  refine hV _ _ ?_
  simp [g1,Do]
def Ly (lo hi:Int) (xs:List Int):Bool:=!xs.any fun x=>decide (x<lo)||decide (x>hi)
theorem A5q (lo hi:Int) (xs:List Int) (hl:xs.length<=1000):Con T 4 160 [.int .i64 lo,.int .i64 hi,De xs] (.bool (Ly lo hi xs)):=by
 refine Bs t160 fun n hn V hV => ?_
 simp (disch:=omega) only [c160,go_sem,↓reduceIte]
 refine Dt (Acy (p:=fun x=>decide (x<lo)||decide (x>hi)) xs hl (fun x _=>A4g x lo hi) (fun h x => ?_) (fun h => ?_)) hn (Di _ _ _ _ (Da (Ho (Dc _ _) (Bv (Fh (cs:=[.int .i64 lo]) (by simp [go_sem,↓reduceIte]) (Bv (Bl _ _ _ _) (Dc _ _))) (Bv (Fh (cs:=[.int .i64 hi]) (by simp [go_sem,↓reduceIte]) (Bv (Bl _ _ _ _) (Dc _ _))) (Dc _ _)))) (By _))) (Ir _ _) ?_
 ·exact Fb _ _ _ (Da (Dr _ _ _ _) (Da (Dr _ _ _ _) (By _)))
 ·exact Ho (Dc _ _) (Bv (Dr _ _ _ _) (Bv (Dr _ _ _ _) (Dc _ _)))
 simp (disch:=omega) only [go_sem,↓reduceIte]
 exact hV _ _ (Do _ _ _)
section
variable {n base:Nat} {Q:EX×St->Prop} {d:Option Nat} {L:List IOper} {ks:List Kont} {e:Env} {h:Bd}
theorem Xn {lo hi:Int} {xs:List Int} {x:Bool} (hn:4<=n) (hl:xs.length<=1000) :
  GP (Bf T n) base Q d L ks e (Bf T n false (.fn 160) [.int .i64 lo,.int .i64 hi,.slice none (xs.map (.int .i64)) x] h)=GO (Bf T n) base Q L ks ⟨Bk e d (.bool (Ly lo hi xs)),h⟩:=
 Es (A5q lo hi xs hl) hn (by repeat (first | exact By _ | refine Di _ _ _ _ ?_ | refine Fb _ _ _ ?_)) rfl
theorem A6r {lo hi a:Int} {x:Bool} (hn:4<=n) :
  GP (Bf T n) base Q d L ks e (Bf T n false (.fn 160) [.int .i64 lo,.int .i64 hi,.slice none [.int .i64 a] x] h)=GO (Bf T n) base Q L ks ⟨Bk e d (.bool (!(decide (a<lo)||decide (a>hi)))),h⟩:=by
 have:=Xn (base:=base) (Q:=Q) (d:=d) (L:=L) (ks:=ks) (e:=e) (h:=h) (lo:=lo) (hi:=hi) (xs:=[a]) (x:=x) hn (by simp)
 rw [show Ly lo hi [a]=(!(decide (a<lo)||decide (a>hi))) by simp [Ly]] at this
 exact this
end
theorem gdI {S:List Int} {k:Nat} (h:k<S.length):S[k]? = some (S.getD k 0):=by
 rw [List.getD_eq_getElem?_getD,List.getElem?_eq_getElem h]; rfl
theorem Eq (p:List Nat):(nI6 p).length=p.length:=by simp [nI6]
theorem A6w {p:List Nat} {i:Nat} (h:i<p.length):(nI6 p)[i]? = some ((p[i]:Nat):Int):=by
 rw [nI6,List.getElem?_map,List.getElem?_eq_getElem h]; rfl
theorem A9l {p:List Nat} (hp:PermN p):Ly 0 ((p.length:Int)-1) (nI6 p)=true:=by
 simp only [Ly,Bool.not_eq_true',List.any_eq_false,Bool.or_eq_true,decide_eq_true_eq]
 intro x hx
 obtain ⟨y,hy,rfl⟩:=List.mem_map.1 hx
 have:=hp.lt y hy
 omega
theorem Abe (p:List Nat) (hp:PermN p) (h1:1<=p.length) (h10:p.length<=10):Con T 6 119 [De (nI6 p),.int .i64 0] (.int .i64 0):=by
 refine Bs t119 fun n hn V hV => ?_
 have hlen:=Eq p
 have w1:(!(decide ((p.length:Int)<1)||decide ((p.length:Int)>10)))=true:=by
  rw [decide_eq_false (by omega),decide_eq_false (by omega)]; rfl
 have w2:=A9l hp
 simp (disch:=omega) only [c119,go_sem,↓reduceIte,Xn,A6r,hlen,w1,w2]
 refine Bz (fun M s=>∃k:Nat,M=p.length-k/\k<=p.length/\At s.env [(0,De (nI6 p)),(21,De (nI6 p)),(22,.int .i64 p.length),(23,.int .i64 k)]) p.length (by omega) ⟨0,by omega,by omega,by simp only [go_sem,↓reduceIte]⟩ ?_
 rintro M e h hM ⟨k,rfl,hk,hE⟩ P hP
 simp only [Bp,Bw] at hE
 obtain ⟨f0,f21,f22,f23,-⟩:=hE
 by_cases hlt:k<p.length
 ·have hlt':(k:Int)<(p.length:Int):=by omega
  have hg:=A6w hlt
  have hge:decide (((p[k]:Nat):Int)>=0)=true:=decide_eq_true (by omega)
  have htk:((nI6 p).map (AV.int .i64)).take k=((nI6 p).take k).map (.int .i64):=by rw [List.map_take]
  have hno:(((nI6 p).take k).any fun x=>((p[k]:Nat):Int)==x)=false:=by
   rw [List.any_eq_false]
   intro x hx he
   have he':((p[k]:Nat):Int)=x:=by simpa using he
   rw [nI6,<-List.map_take] at hx
   obtain ⟨y,hy,rfl⟩:=List.mem_map.1 hx
   obtain ⟨j,hj,hjy⟩:=List.getElem_of_mem hy
   have hjk:j<k:=by
    rw [List.length_take] at hj
    omega
   rw [List.getElem_take] at hjy
   have:=A2u.1 hp.nd (i:=j) (j:=k) (by omega) hlt (by omega)
   omega
  have hk0:0<=(k:Int)/\(k:Int)<=(nI6 p).length:=by omega
  have hcon:Con T 2 112 [.slice none (((nI6 p).take k).map (.int .i64)) false,.int .i64 ((p[k]:Nat):Int)] (.bool false):=by
   have hc:=Se ((nI6 p).take k) ((p[k]:Nat):Int) (by rw [List.length_take,Eq]; omega)
   rw [hno] at hc
   exact hc
  have csC:∀{base:Nat} {Q:EX×St->Prop} {d:Option Nat} {L:List IOper} {ks:List Kont} {e:Env} {h:Bd} {x:Bool},GP (Bf T n) base Q d L ks e (Bf T n false (.fn 112) [.slice none (((nI6 p).take k).map (.int .i64)) x,.int .i64 ((p[k]:Nat):Int)] h)=GO (Bf T n) base Q L ks ⟨Bk e d (.bool false),h⟩:=fun {base Q d L ks e h x} =>
   Es hcon (show 2<=n by omega) (Di _ _ _ _ (Da (Bl _ _ _ _) (By _))) (Ir _ _)
  simp (disch:=omega) only [go_sem,↓reduceIte,f0,f21,f22,f23,hlt',hg,hge,hk0,htk,Int.toNat_natCast,csC]
  exact hP (p.length-(k+1)) _ (by omega) ⟨k+1,rfl,by omega,by simp only [go_sem,↓reduceIte,f0,f21,f22]⟩
 ·have hlt':¬(k:Int)<(p.length:Int):=by omega
  simp (disch:=omega) only [go_sem,↓reduceIte,f22,f23,hlt']
  exact hV _ _ (Bl _ _ _ _)
theorem A5i (p:List Nat) (hp:PermN p) (h1:1<=p.length) (h10:p.length<=10):Con T 7 59 [De (nI6 p)] (.int .i64 0):=by
 refine Bs t59 fun n hn V hV => ?_
 simp (disch:=omega) only [c59,go_sem,↓reduceIte]
 refine Dt (Abe p hp h1 h10) hn (Di _ _ _ _ (Da (Bl _ _ _ _) (By _))) (Fx _ _ _) ?_
 simp (disch:=omega) only [go_sem,↓reduceIte]
 exact hV _ _ (Bl _ _ _ _)
end Go.Ev.YtgehhippjhealaaGreatC
set_option linter.unusedSimpArgs false
set_option linter.unusedVariables false
namespace Go.Ev.YtgehhippjhealaaGreatC
def inv:List Int->Nat
 | []=>0
 | a::r=>r.countP (fun x=>decide (a>x))+inv r
end Go.Ev.YtgehhippjhealaaGreatC
set_option linter.unusedSimpArgs false
set_option linter.unusedVariables false
namespace Go.Ev.YtgehhippjhealaaGreatC
open Go Go.Proofs
def B0c (p:List Nat) (h:Bd) (v:AV) (h':Bd):Prop:=
 ∃K key ver,v = .tuple [.optr K 0 0,.int .i64 0]/\Bc h' K = .cells 0 [.oslice key ver none 0 p.length none]/\Bc h' key = .cells ver ((nI6 p).map (.int .i64))/\h.length<=K/\h.length<=key/\K≠key/\K<h'.length/\key<h'.length/\(∀j,j<h.length->Bc h' j=Bc h j)/\h.length<=h'.length
theorem tCl:T.fns 97=some Ki:=Bx k97 (by decide) (by decide)
def flT (n k:Nat):List Int:=(List.range k).map (fun i:Nat=>(i:Int))++List.replicate (n-k) 0
theorem Aue {n k:Nat} (h:k<=n):(flT n k).length=n:=by simp [flT]; omega
theorem Avp {n k:Nat} (h:k<n):(flT n k).set k (k:Int)=flT n (k+1):=by
 obtain ⟨m,hm⟩:∃m,n-k=m+1:=⟨n-k-1,by omega⟩
 have hm2:n-(k+1)=m:=by omega
 rw [flT,flT,hm,hm2,List.set_append_right _ _ (by simp),List.length_map,List.length_range,Nat.sub_self,List.replicate_succ,List.set_cons_zero,List.range_succ,List.map_append,List.append_assoc]
 rfl
theorem Auc (n:Nat):flT n n=nI6 (List.range n):=by simp [flT,nI6]
theorem Agq (n:Nat):flT n 0=List.replicate n 0:=by simp [flT]
attribute [local irreducible] Res.all evC Df Dh Bq Bh Dn Bf Bj G GO GV GP GC R
set_option maxRecDepth 100000
section
variable {n base:Nat} {Q:EX×St->Prop} {d:Option Nat} {L:List IOper} {ks:List Kont} {e:Env} {h:Bd}
theorem Ade {l:List Int} {ex:Bool} (h1:1<=l.length) (h10:l.length<=1000)
  (hq:∀key ver h',Bc h' key = .cells ver (l.map (.int .i64))->h.length<=key->key<h'.length->(∀j,j<h.length->Bc h' j=Bc h j)->h.length<=h'.length->GO (Bf T (n+1)) base Q L ks ⟨Bk e d (.oslice key ver none 0 l.length none),h'⟩) :
  GP (Bf T (n+1)) base Q d L ks e (Bf T (n+1) true (.fn 97) [.slice none (l.map (.int .i64)) ex] h):=by
 refine Fu ?_
 rw [Eg tCl]
 match l,h1,h10 with
 | a::r,_,h10 =>
  simp (disch:=omega) only [Ki,go_sem,↓reduceIte]
  refine A0q (m:=(a::r).length) (l2:=a::r) (kk:=h.length+8) (by simp only [List.length_append,List.length_replicate]) (Kv (h.length+8) _ .i64) (by simp only [List.length_append,List.length_replicate]; omega) (Axq _ (a::r) .i64 ex) rfl (by simp) (by simp only [List.length_nil,List.length_cons] at *; omega) fun x h' hO hk hlen _ _ => ?_
  rcases hO with ⟨hnil,_⟩ | ⟨key,ver,hkey,rfl,hH⟩
  ·simp at hnil
  rw [List.nil_append] at hH ⊢
  simp (disch:=omega) only [go_sem,↓reduceIte,Gt,mapR]
  have hlt:=Ef hH (by simp)
  refine hq key ver h' hH (by omega) hlt (fun j hj => ?_) ?_
  ·rw [hk j (by omega),Bi]
  ·simp only [List.length_append,List.length_replicate] at hlen; omega
end
end Go.Ev.YtgehhippjhealaaGreatC
set_option linter.unusedSimpArgs false
set_option linter.unusedVariables false
namespace Go.Ev.YtgehhippjhealaaGreatC
open Go Go.Proofs
attribute [local irreducible] Res.all evC Df Dh Bq Bh Dn Bf Bj G GO GV GP GC R
set_option maxRecDepth 100000
theorem Awh (p:List Nat) (hp:PermN p) (h1:1<=p.length) (h10:p.length<=10):∀n,9<=n->∀(h:Bd) (V:AV×Bd->Prop),(∀v h',B0c p h v h'->V (v,h'))->
  G (Bf T n) h.length (Fin c36.results V) c36.body [] ⟨[De (nI6 p)],h++List.replicate c36.ntmps .none⟩:=by
 intro n hn h V hV
 obtain ⟨n,rfl⟩:∃m,n=m+2:=⟨n-2,by omega⟩
 have e0:((0:Int) != 0)=false:=rfl
 have hl:=Eq p
 simp (disch:=omega) only [c36,go_sem,↓reduceIte]
 refine Dt (A5i p hp h1 h10) (show 7<=n+2 by omega) (Di _ _ _ _ (By _)) (Fx _ _ _) ?_
 simp (disch:=omega) only [go_sem,↓reduceIte,e0]
 refine Fu ?_
 rw [Eg t92]
 simp (disch:=omega) only [c92,go_sem,↓reduceIte]
 refine Ade (l:=nI6 p) (by omega) (by omega) fun key ver h' hH hk1 hk2 kp ln => ?_
 simp only [List.length_append,List.length_replicate] at hk1 kp ln
 have hb:∀j,h.length<=j->Bc (h++List.replicate 12 .none++List.replicate 8 .none) j = .none:=fun j hj=>by
  by_cases hlt:j<h.length+20
  ·rw [Bi]
   obtain ⟨i,rfl⟩:∃i,j=h.length+i:=⟨j-h.length,by omega⟩
   exact Fd _ _ _
  ·exact Em _ _ (by simp; omega)
 have hK:Bc h' (h.length+12+7) = .none:=by rw [kp _ (by omega)]; exact hb _ (by omega)
 have hne:¬(h.length+12+7=key):=by omega
 simp (disch:=omega) only [go_sem,↓reduceIte,Gt,mapR,List.length_append,List.length_replicate,hK]
 rw [hl]
 refine hV _ _ ⟨h.length+19,key,ver,rfl,getH_setH_self _ _ _,?_,by omega,by omega,by omega,?_,?_,fun j hj => ?_,?_⟩
 ·rw [Ba _ _ _ _ (by omega)]; exact hH
 ·simp only [Be]; omega
 ·simp only [Be]; omega
 ·rw [Ba _ _ _ _ (by omega),kp j (by omega),Bi,Bi]
 ·simp only [Be]; omega
end Go.Ev.YtgehhippjhealaaGreatC
set_option linter.unusedSimpArgs false
set_option linter.unusedVariables false
namespace Go.Ev.YtgehhippjhealaaGreatC
open Go Go.Proofs
attribute [local irreducible] Res.all evC Df Dh Bq Bh Dn Bf Bj G GO GV GP GC R
set_option maxRecDepth 100000
end Go.Ev.YtgehhippjhealaaGreatC
set_option linter.unusedSimpArgs false
set_option linter.unusedVariables false
namespace Go.Ev.YtgehhippjhealaaGreatC
open Go Go.Proofs
def Jq (l:List Int) (x:Int):Bool:=decide (x<0)||decide (x>=l.length)
def dqJ (l:List Int) (i k:Nat):Bool:=(l.getD k 0==l.getD i 0)&&decide (l.getD i 0>=0)
def Xf (l:List Int) (n:Nat):Bool:=(List.range n).any fun i=>(List.range i).any (dqJ l i)
def Kr (l:List Int):Int:=if l.length<1\/10<l.length then 6 else if l.any (Jq l) then 3 else if Xf l l.length then 11 else 0
theorem Acv (l:List Int) (i:Nat):Xf l (i+1)=(Xf l i||(List.range i).any (dqJ l i)):=by
 rw [Xf,List.range_succ,List.any_append,List.any_cons,List.any_nil,Bool.or_false]; rfl
theorem Oi (p:Nat->Bool) (k:Nat):(List.range (k+1)).any p=((List.range k).any p||p k):=by
 rw [List.range_succ,List.any_append,List.any_cons,List.any_nil,Bool.or_false]
theorem Aea {l:List Int} (h:Kr l=0):∃p,l=nI6 p/\PermN p/\1<=p.length/\p.length<=10:=by
 unfold Kr at h
 by_cases h1:l.length<1\/10<l.length
 ·rw [if_pos h1] at h; cases h
 rw [if_neg h1] at h
 by_cases h2:l.any (Jq l)=true
 ·rw [if_pos h2] at h; cases h
 rw [if_neg h2] at h
 by_cases h3:Xf l l.length=true
 ·rw [if_pos h3] at h; cases h
 have hin:∀x∈l,0<=x/\x<l.length:=fun x hx=>by
  have:Jq l x=false:=by
   cases hb:Jq l x with
   | false=>rfl
   | true=>exact absurd (List.any_eq_true.2 ⟨x,hx,hb⟩) h2
  simp only [Jq,Bool.or_eq_false_iff,decide_eq_false_iff_not] at this
  omega
 have hl:l=nI6 (l.map Int.toNat):=by
  rw [nI6,List.map_map]
  have:∀m:List Int,(∀x∈m,0<=x)->m=m.map ((fun x:Nat=>(x:Int)) ∘ Int.toNat):=fun m=>by
   induction m with
   | nil=>intro _; rfl
   | cons a r ih =>
    intro hm
    have ha:=hm a (by simp)
    rw [List.map_cons,<-ih fun x hx=>hm x (by simp [hx])]
    congr 1
    simp only [Function.comp]
    omega
  exact this l fun x hx=>(hin x hx).1
 refine ⟨l.map Int.toNat,hl,⟨?_,fun y hy => ?_⟩,by rw [List.length_map]; omega,by rw [List.length_map]; omega⟩
 ·rw [List.Nodup,List.pairwise_map,List.pairwise_iff_getElem]
  intro i j hi hj hij he
  apply h3
  have hgi:=hin _ (List.getElem_mem hi)
  have hgj:=hin _ (List.getElem_mem hj)
  have e1:l.getD i 0=l[i]:=by rw [List.getD_eq_getElem?_getD,List.getElem?_eq_getElem hi]; rfl
  have e2:l.getD j 0=l[j]:=by rw [List.getD_eq_getElem?_getD,List.getElem?_eq_getElem hj]; rfl
  refine List.any_eq_true.2 ⟨j,List.mem_range.2 hj,List.any_eq_true.2 ⟨i,List.mem_range.2 hij,?_⟩⟩
  simp only [dqJ,e1,e2,Bool.and_eq_true,beq_iff_eq,decide_eq_true_eq]
  omega
 ·obtain ⟨x,hx,rfl⟩:=List.mem_map.1 hy
  have:=hin x hx
  rw [List.length_map]
  omega
attribute [local irreducible] Res.all evC Df Dh Bq Bh Dn Bf Bj G GO GV GP GC R
set_option maxRecDepth 100000
theorem A9r (l:List Int):Con T 1 33 [De l,.int .i64 0] (.int .i64 (Kr l)):=by
 refine Bs t33 fun n hn V hV => ?_
 replace hV:∀c h,c=Kr l->V (.int .i64 c,h):=fun c h e=>hV _ _ (by rw [e]; exact Bl _ _ _ _)
 by_cases g1:l.length<1
 ·have d1:decide ((l.length:Int)<1)=true:=decide_eq_true (by omega)
  simp (disch:=omega) only [c33,go_sem,↓reduceIte,d1]
  exact hV _ _ (by rw [Kr,if_pos (.inl g1)])
 have d1:decide ((l.length:Int)<1)=false:=decide_eq_false (by omega)
 by_cases g2:10<l.length
 ·have d2:decide ((l.length:Int)>10)=true:=decide_eq_true (by omega)
  simp (disch:=omega) only [c33,go_sem,↓reduceIte,d1,d2]
  exact hV _ _ (by rw [Kr,if_pos (.inr g2)])
 have d2:decide ((l.length:Int)>10)=false:=decide_eq_false (by omega)
 have hch:Kr l=if l.any (Jq l) then 3 else if Xf l l.length then 11 else 0:=by rw [Kr,if_neg (by omega)]
 simp (disch:=omega) only [c33,go_sem,↓reduceIte,d1,d2]
 refine Bz (fun M s=>∃k:Nat,M=l.length-k/\k<=l.length/\At s.env [(0,De l),(1,.int .i64 0),(5,.int .i64 k)]/\(l.take k).any (Jq l)=false) l.length (by omega) ⟨0,by omega,by omega,by simp only [go_sem,↓reduceIte],by simp⟩ ?_
 rintro M e h hM ⟨k,rfl,hk,hE,hA⟩ P hP
 simp only [Bp,Bw] at hE
 obtain ⟨f0,f1,f5,-⟩:=hE
 by_cases hlt:k<l.length
 ·have hlt':(k:Int)<(l.length:Int):=by omega
  have hg:l[k]? = some l[k]:=List.getElem?_eq_getElem hlt
  have htk:(l.take (k+1)).any (Jq l)=((l.take k).any (Jq l)||Jq l l[k]):=by
   rw [List.take_add_one,hg,List.any_append]
   simp only [Option.toList_some,List.any_cons,List.any_nil,Bool.or_false]
  have hbad:Jq l l[k]=true->V (.int .i64 3,h):=fun hb=>hV _ _ (by
   rw [hch,if_pos]
   exact List.any_eq_true.2 ⟨_,List.getElem_mem hlt,hb⟩)
  by_cases x1:l[k]<0
  ·have e1:decide (l[k]<0)=true:=decide_eq_true x1
   simp (disch:=omega) only [go_sem,↓reduceIte,f0,f1,f5,hlt',hg,e1]
   exact hV _ _ (by rw [hch,if_pos]; exact List.any_eq_true.2 ⟨_,List.getElem_mem hlt,by rw [Jq,e1]; rfl⟩)
  ·have e1:decide (l[k]<0)=false:=decide_eq_false x1
   by_cases x2:l[k]>=l.length
   ·have e2:decide (l[k]>=(l.length:Int))=true:=decide_eq_true x2
    simp (disch:=omega) only [go_sem,↓reduceIte,f0,f1,f5,hlt',hg,e1,e2]
    exact hV _ _ (by rw [hch,if_pos]; exact List.any_eq_true.2 ⟨_,List.getElem_mem hlt,by rw [Jq,e1,e2]; rfl⟩)
   ·have e2:decide (l[k]>=(l.length:Int))=false:=decide_eq_false x2
    simp (disch:=omega) only [go_sem,↓reduceIte,f0,f1,f5,hlt',hg,e1,e2]
    exact hP (l.length-(k+1)) _ (by omega) ⟨k+1,rfl,by omega,by simp only [go_sem,↓reduceIte,f0,f1],by rw [htk,hA,Jq,e1,e2]; rfl⟩
 ·obtain rfl:k=l.length:=by omega
  rw [List.take_of_length_le (Nat.le_refl _)] at hA
  rw [hA] at hch
  simp only [Bool.false_eq_true,if_false] at hch
  have hlt':¬(l.length:Int)<(l.length:Int):=by omega
  simp (disch:=omega) only [go_sem,↓reduceIte,f0,f5,hlt']
  refine Bz (fun M s=>∃i:Nat,M=l.length-i/\i<=l.length/\At s.env [(0,De l),(6,.int .i64 i)]/\Xf l i=false) l.length (by omega) ⟨0,by omega,by omega,by simp only [go_sem,↓reduceIte,f0],rfl⟩ ?_
  clear f0 f1 f5
  rintro M e h hM ⟨i,rfl,hi,hE,hD⟩ P2 hP2
  simp only [Bp,Bw] at hE
  obtain ⟨f0,f6,-⟩:=hE
  by_cases hit:i<l.length
  ·have hit':(i:Int)<(l.length:Int):=by omega
   have hgi:l[i]? = some (l.getD i 0):=by rw [List.getD_eq_getElem?_getD,List.getElem?_eq_getElem hit]; rfl
   simp (disch:=omega) only [go_sem,↓reduceIte,f0,f6,hit']
   refine Bz (fun M s=>∃k:Nat,M=i-k/\k<=i/\At s.env [(0,De l),(6,.int .i64 i),(7,.int .i64 k)]/\(List.range k).any (dqJ l i)=false) i (by omega) ⟨0,by omega,by omega,by simp only [go_sem,↓reduceIte,f0,f6],rfl⟩ ?_
   clear f0 f6
   rintro M e h hM ⟨k,rfl,hk,hE,hK⟩ P3 hP3
   simp only [Bp,Bw] at hE
   obtain ⟨f0,f6,f7,-⟩:=hE
   by_cases hki:k<i
   ·have hki':(k:Int)<(i:Int):=by omega
    have hgk:l[k]? = some (l.getD k 0):=gdI (by omega)
    by_cases y1:l.getD k 0=l.getD i 0
    ·have e1:(l.getD k 0==l.getD i 0)=true:=beq_iff_eq.2 y1
     by_cases y2:l.getD i 0>=0
     ·have e2:decide (l.getD i 0>=0)=true:=decide_eq_true y2
      simp (disch:=omega) only [go_sem,↓reduceIte,f0,f6,f7,hki',hgi,hgk,e1,e2]
      exact hV _ _ (by
       rw [hch,if_pos]
       exact List.any_eq_true.2 ⟨i,List.mem_range.2 hit,List.any_eq_true.2 ⟨k,List.mem_range.2 hki,by rw [dqJ,e1,e2]; rfl⟩⟩)
     ·have e2:decide (l.getD i 0>=0)=false:=decide_eq_false y2
      simp (disch:=omega) only [go_sem,↓reduceIte,f0,f6,f7,hki',hgi,hgk,e1,e2]
      exact hP3 (i-(k+1)) _ (by omega) ⟨k+1,rfl,by omega,by simp only [go_sem,↓reduceIte,f0,f6],by rw [Oi,hK,dqJ,e1,e2]; rfl⟩
    ·have e1:(l.getD k 0==l.getD i 0)=false:=beq_eq_false_iff_ne.2 y1
     simp (disch:=omega) only [go_sem,↓reduceIte,f0,f6,f7,hki',hgi,hgk,e1]
     exact hP3 (i-(k+1)) _ (by omega) ⟨k+1,rfl,by omega,by simp only [go_sem,↓reduceIte,f0,f6],by rw [Oi,hK,dqJ,e1]; rfl⟩
   ·obtain rfl:k=i:=by omega
    have hkk:¬(k:Int)<(k:Int):=by omega
    simp (disch:=omega) only [go_sem,↓reduceIte,f6,f7,hkk]
    exact hP2 (l.length-(k+1)) _ (by omega) ⟨k+1,rfl,by omega,by simp only [go_sem,↓reduceIte,f0],by rw [Acv,hD,hK]; rfl⟩
  ·obtain rfl:i=l.length:=by omega
   have hii:¬(l.length:Int)<(l.length:Int):=by omega
   simp (disch:=omega) only [go_sem,↓reduceIte,f0,f6,hii]
   exact hV _ _ (by rw [hch,hD]; rfl)
theorem A6e (l:List Int):Con T 2 7 [De l] (.int .i64 (Kr l)):=by
 refine Bs t7 fun n hn V hV => ?_
 simp (disch:=omega) only [c7,go_sem,↓reduceIte]
 refine Dt (A9r l) hn (Di _ _ _ _ (Da (Bl _ _ _ _) (By _))) (Fx _ _ _) ?_
 simp (disch:=omega) only [go_sem,↓reduceIte]
 exact hV _ _ (Bl _ _ _ _)
end Go.Ev.YtgehhippjhealaaGreatC
