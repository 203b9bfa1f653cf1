/- A book of slurs from each flute to where its joint belongs: tunes, and how many; which notes prove that there is none; whether plays close it. A list put in its order by exchanges of neighbours. FROM TUNES TO STAMPS: what the law's function answers, the works given. No condition but those that stand in each. -/
import Derived.Test.YtgehhippjhealaaGreatDStWrong
import Derived.Test.YtgehhippjhealaaGreatDL4Tune
import Derived.Test.YtgehhippjhealaaGreatDL4Agb
import Derived.Test.YtgehhippjhealaaGreatDStXch
set_option linter.unusedSimpArgs false
set_option linter.unusedVariables false
set_option maxRecDepth 100000
namespace Go.Ev.YtgehhippjhealaaGreatC
open Go Go.Ev P4
def pE (p:List Nat):List Ed:=(List.range p.length).map fun i=>(i,stp p i)
theorem Hl (p:List Nat):(pE p).length=p.length:=by simp [pE]
theorem Vf {p:List Nat} {i:Nat} (h:i<p.length):gE (pE p) i=(i,stp p i):=by
 rw [gE,pE,List.getD_eq_getElem?_getD,List.getElem?_map,List.getElem?_range h]; rfl
theorem Ks {p:List Nat} {e:Ed}:e∈pE p↔e.1<p.length/\e.2=stp p e.1:=by
 rw [pE,List.mem_map]
 constructor
 ·rintro ⟨i,hi,rfl⟩
  exact ⟨List.mem_range.1 hi,rfl⟩
 ·rintro ⟨h1,h2⟩
  exact ⟨e.1,List.mem_range.2 h1,by rw [<-h2]⟩
theorem Biw {p:List Nat} (hp:PermN p) (h1:1<=p.length) (h8:p.length<=8):OkB p.length (pE p) where
 n1:=h1
 n8:=h8
 ne:=fun h=>by have:=Hl p; rw [h] at this; simp at this; omega
 le:=by rw [Hl]; omega
 lt:=fun q hq=>by
  obtain ⟨a,b⟩:=Ks.1 hq
  exact ⟨a,by rw [b]; exact Qo hp a⟩
theorem Le {a:Nat} (F:Nat->Int):∀{l:List Nat},l.Nodup->Bm l (fun i=>if i=a then F i else 0)=if a∈l then F a else 0
 | [],_=>rfl
 | c::l,hn=>by
  rw [List.nodup_cons] at hn
  simp only [Bm]
  rw [Le F hn.2]
  by_cases h:c=a
  ·subst h
   rw [if_pos rfl,if_neg hn.1,if_pos List.mem_cons_self,Int.add_zero]
  ·have:(a∈c::l)↔a∈l:=by
    rw [List.mem_cons]
    exact ⟨fun hh=>hh.resolve_left fun e=>h e.symm,.inr⟩
   rw [if_neg h,Int.zero_add]
   simp only [this]
theorem Ajz {p:List Nat} {s a:Nat} (h:∃i,i<p.length/\Ec s i=true):wB (pE p) s a=if a<p.length/\Ec s a=true then wB (pE p) (s ||| 2 ^ a) (stp p a) else 0:=by
 have hne:rst (pE p) (Ec s)≠[]:=by
  obtain ⟨i,hi,hb⟩:=h
  unfold rst
  intro h0
  have:=List.map_eq_nil_iff.1 h0
  have hm:i∈(List.range (pE p).length).filter (Ec s):=List.mem_filter.2 ⟨List.mem_range.2 (by rw [Hl]; exact hi),hb⟩
  rw [this] at hm
  cases hm
 rw [A6l a hne]
 have h1:Bm ((List.range (pE p).length).filter (Ec s)) (fun i=>if (gE (pE p) i).1=a then wB (pE p) (s ||| 2 ^ i) (gE (pE p) i).2 else 0)=Bm ((List.range (pE p).length).filter (Ec s)) (fun i=>if i=a then wB (pE p) (s ||| 2 ^ i) (stp p i) else 0):=Dp fun i hi=>by
  have hil:=List.mem_range.1 (List.mem_filter.1 hi).1
  rw [Hl] at hil
  rw [Vf hil]
 rw [h1,Le _ (List.Nodup.sublist List.filter_sublist List.nodup_range)]
 have h2:(a∈(List.range (pE p).length).filter (Ec s))↔(a<p.length/\Ec s a=true):=by
  rw [List.mem_filter,List.mem_range,Hl]
 simp only [h2]
def usd (p:List Nat) (a:Nat):Nat->Nat
 | 0=>0
 | k+1=>usd p a k ||| 2 ^ itp p k a
theorem Ud (p:List Nat) (a i:Nat):∀k,Ec (usd p a k) i=true↔∀m,m<k->itp p m a≠i
 | 0=>⟨fun _ m h=>by omega,fun _=>by simp [usd,Ec]⟩
 | k+1=>by
  rw [usd,A0o,Bool.and_eq_true,Ud p a i k,decide_eq_true_eq]
  constructor
  ·rintro ⟨h1,h2⟩ m hm
   by_cases he:m=k
   ·subst he; exact fun e=>h2 e.symm
   ·exact h1 m (by omega)
  ·intro h
   exact ⟨fun m hm=>h m (by omega),fun e=>h k (by omega) e.symm⟩
section
variable {p:List Nat} {a:Nat}
theorem Abn (hp:PermN p) (ha:a<p.length) {k:Nat} (hk:k<per p a):Ec (usd p a k) (itp p k a)=true:=by
 rw [Ud]
 intro m hm e
 rw [Adt hp ha,Nat.mod_eq_of_lt (by omega),Nat.mod_eq_of_lt hk] at e
 omega
theorem A6j (hp:PermN p) (ha:a<p.length) (h:per p a=p.length) {i:Nat} (hi:i<p.length):i∈cyc p a:=by
 apply Classical.byContradiction
 intro hn
 have:=Ic (a:=i::cyc p a) (b:=List.range p.length) (List.nodup_cons.2 ⟨hn,Ob hp ha⟩) fun x hx=>by
  rw [List.mem_range]
  rcases List.mem_cons.1 hx with rfl | hx
  ·exact hi
  ·exact Oi hp ha hx
 simp only [List.length_cons,List.length_range,per] at this h
 omega
theorem A5w (hp:PermN p) (ha:a<p.length) (h:per p a≠p.length):∃i,i<p.length/\i∉cyc p a:=by
 apply Classical.byContradiction
 intro hn
 have hall:∀i,i<p.length->i∈cyc p a:=fun i hi=>Classical.byContradiction fun hc=>hn ⟨i,hi,hc⟩
 have:=Ic (a:=List.range p.length) (b:=cyc p a) List.nodup_range fun x hx=>hall x (List.mem_range.1 hx)
 obtain ⟨_,h2,_⟩:=Fk hp ha
 simp only [List.length_range,per] at this h h2
 omega
theorem B0g (hp:PermN p) (ha:a<p.length):wB (pE p) (usd p a (per p a)) a=if per p a=p.length then 1 else 0:=by
 obtain ⟨h0,_,_,_,hc⟩:=Fk hp ha
 by_cases h:per p a=p.length
 ·rw [if_pos h,Aut]
  intro i hi
  rw [Hl] at hi
  cases hb:Ec (usd p a (per p a)) i with
  | false=>rfl
  | true =>
   exfalso
   have h1:=(Ud p a i _).1 hb
   have h2:=A6j hp ha h hi
   rw [hc] at h2
   obtain ⟨m,hm,he⟩:=List.mem_map.1 h2
   exact h1 m (List.mem_range.1 hm) he
 ·rw [if_neg h]
  obtain ⟨i,hi,hn⟩:=A5w hp ha h
  rw [Ajz ⟨i,hi,(Ud p a i _).2 fun m _ e=>hn ((Hb hp ha i).2 ⟨m,e.symm⟩)⟩,if_neg]
  rintro ⟨_,hb⟩
  exact (Ud p a a _).1 hb 0 h0 rfl
theorem Ys (hp:PermN p) (ha:a<p.length):∀(d k:Nat),k+d=per p a->wB (pE p) (usd p a k) (itp p k a)=if per p a=p.length then 1 else 0
 | 0,k,h=>by
  obtain ⟨_,_,hb,_⟩:=Fk hp ha
  have hk:k=per p a:=by omega
  rw [hk,hb]
  exact B0g hp ha
 | d+1,k,h=>by
  have hf:=Abn hp ha (k:=k) (by omega)
  have hl:=Jp hp k a ha
  rw [Ajz ⟨_,hl,hf⟩,if_pos ⟨hl,hf⟩,<-Js]
  exact Ys hp ha d (k+1) (by omega)
theorem Auo (hp:PermN p) (h1:1<=p.length) (a:Nat):tw (pE p).length (pE p) a=if a<p.length/\per p a=p.length then 1 else 0:=by
 rw [<-A6d]
 by_cases ha:a<p.length
 ·have:=Ys hp ha (per p a) 0 (by omega)
  rw [show itp p 0 a=a from rfl,show usd p a 0=0 from rfl] at this
  rw [this]
  simp only [ha,true_and]
 ·rw [Ajz ⟨0,by omega,by simp [Ec]⟩,if_neg (fun h=>ha h.1),if_neg (fun h=>ha h.1)]
theorem Sx (hp:PermN p) {b:Nat} (ha:a<p.length) (hb:b<p.length) (h:per p a=p.length):per p b=p.length:=by
 rw [Apu hp ha (A6j hp ha h hb),h]
theorem Ahh (n:Nat):∀m,Bm (List.range m) (fun a=>if a<n then 1 else 0)=((min m n:Nat):Int)
 | 0=>by simp [Bm]
 | m+1=>by
  rw [List.range_succ,Abg,Ahh n m]
  simp only [Bm]
  split <;> omega
theorem B2c (hp:PermN p) (h1:1<=p.length) (h8:p.length<=8):Rk (pE p)=if (Et p).length=1 then (p.length:Int) else 0:=by
 have h0:0<p.length:=by omega
 have hone:=Uz hp h0
 rw [Rk]
 by_cases h:per p 0=p.length
 ·rw [if_pos (hone.2 h)]
  have:Bm (List.range 8) (tw (pE p).length (pE p))=Bm (List.range 8) (fun a=>if a<p.length then 1 else 0):=Dp fun a _=>by
   rw [Auo hp h1]
   by_cases ha:a<p.length
   ·rw [if_pos ⟨ha,Sx hp h0 ha h⟩,if_pos ha]
   ·rw [if_neg (fun hh=>ha hh.1),if_neg ha]
  rw [this,Ahh]
  omega
 ·rw [if_neg fun hh=>h (hone.1 hh)]
  have:Bm (List.range 8) (tw (pE p).length (pE p))=Bm (List.range 8) (fun _=>0):=Dp fun a _=>by
   rw [Auo hp h1,if_neg]
   rintro ⟨ha,hh⟩
   exact h (Sx hp ha h0 hh)
  rw [this,Fw]
theorem Aov (hp:PermN p) (h0:0<p.length) (h:per p 0=p.length):∀(d k:Nat),k+d=p.length->1<=k->tuR (pE p) d (usd p 0 k) (itp p k 0:Nat) ((List.range k).map fun j=>itp p j 0)=some (cyc p 0)
 | 0,k,hk,_=>by
  obtain ⟨_,_,_,_,hc⟩:=Fk hp h0
  rw [hc,h]
  have:k=p.length:=by omega
  rw [this]; rfl
 | d+1,k,hk,h1=>by
  have hf:=Abn hp h0 (k:=k) (by omega)
  have hl:=Jp hp k 0 h0
  have hw:=Ys hp h0 d (k+1) (by omega)
  rw [if_pos h,Js] at hw
  have hfind:(List.range (pE p).length).find? (gdR (pE p) (usd p 0 k) (itp p k 0:Nat))=some (itp p k 0):=by
   refine A7x (by rw [Hl]; exact hl) ?_ fun j hj => ?_
   ·rw [gdR,Vf hl]
    have e:wB (pE p) (usd p 0 k ||| 2 ^ itp p k 0) (stp p (itp p k 0))=1:=hw
    simp only [hf,e]
    simp
   ·rw [gdR,Vf (by omega)]
    have e1:decide (((itp p k 0:Nat):Int)<0)=false:=decide_eq_false (by omega)
    have e2:decide (((j:Nat):Int)=((itp p k 0:Nat):Int))=false:=decide_eq_false (by omega)
    simp only [e1,e2,Bool.or_self,Bool.false_and,Bool.and_false]
  rw [tuR,hfind]
  simp only [Vf hl]
  rw [<-Js]
  have:=Aov hp h0 h d (k+1) (by omega) (by omega)
  rw [List.range_succ,List.map_append] at this
  exact this
theorem Azz (hp:PermN p) (h0:0<p.length) (h:per p 0=p.length):tuR (pE p) (pE p).length 0 (-1) []=some (cyc p 0):=by
 obtain ⟨d,hd⟩:∃d,p.length=d+1:=⟨p.length-1,by omega⟩
 have hw:=Ys hp h0 d 1 (by omega)
 rw [if_pos h] at hw
 have e:wB (pE p) (0 ||| 2 ^ 0) (stp p 0)=1:=hw
 have hfind:(List.range (pE p).length).find? (gdR (pE p) 0 (-1))=some 0:=by
  refine A7x (by rw [Hl]; exact h0) ?_ fun j hj=>by omega
  rw [gdR,Vf h0]
  simp only [e]
  simp [Ec]
 rw [Hl] at hfind ⊢
 rw [hd] at hfind ⊢
 rw [tuR,Hl,hd,hfind]
 simp only [Vf h0]
 exact Aov hp h0 h d 1 (by omega) (by omega)
theorem Arw (hp:PermN p) (h0:0<p.length) (h:per p 0≠p.length):tuR (pE p) (pE p).length 0 (-1) []=none:=by
 obtain ⟨d,hd⟩:∃d,p.length=d+1:=⟨p.length-1,by omega⟩
 have hfind:(List.range (pE p).length).find? (gdR (pE p) 0 (-1))=none:=by
  refine A7g fun j hj => ?_
  rw [Hl] at hj
  obtain ⟨hj0,_⟩:=Fk hp hj
  have hw:=Ys hp hj (per p j-1) 1 (by omega)
  rw [if_neg fun hh=>h (Sx hp hj h0 hh)] at hw
  have e:wB (pE p) (0 ||| 2 ^ j) (stp p j)=0:=hw
  rw [gdR,Vf hj]
  simp only [e]
  simp
 rw [Hl] at hfind ⊢
 rw [hd] at hfind ⊢
 rw [tuR,Hl,hd,hfind]
theorem B1d (hp:PermN p) (x:Nat):sur (pE p) x=0:=by
 have h1:od (pE p) x=if x<p.length then 1 else 0:=by
  rw [od,pE,List.countP_map]
  have:((fun e:Ed=>e.1==x) ∘ fun i=>(i,stp p i))=fun i=>i==x:=rfl
  rw [this]
  have h2:(List.range p.length).countP (fun i=>i==x)=(List.range p.length).count x:=rfl
  rw [h2]
  split
  ·next h=>rw [List.nodup_range.count,if_pos (List.mem_range.2 h)]
  ·next h=>exact List.count_eq_zero_of_not_mem fun hm=>h (List.mem_range.1 hm)
 have h2:idg (pE p) x=if x<p.length then 1 else 0:=by
  rw [idg,pE,List.countP_map]
  have:((fun e:Ed=>e.2==x) ∘ fun i=>(i,stp p i))=(fun i=>i==x) ∘ stp p:=rfl
  rw [this,<-List.countP_map]
  have h3:(List.range p.length).map (stp p)=p:=by
   apply List.ext_getElem (by simp)
   intro i hi1 hi2
   simp [Lp hi2]
  rw [h3]
  have h2:p.countP (fun i=>i==x)=p.count x:=rfl
  rw [h2]
  have hmem:x∈p↔x<p.length:=by
   constructor
   ·exact hp.lt x
   ·intro hx
    apply Classical.byContradiction
    intro hn
    have:=Ic (a:=x::p) (b:=List.range p.length) (List.nodup_cons.2 ⟨hn,hp.nd⟩) fun y hy=>by
     rw [List.mem_range]
     rcases List.mem_cons.1 hy with rfl | hy
     ·exact hx
     ·exact hp.lt y hy
    simp at this
    omega
  split
  ·next h=>rw [hp.nd.count,if_pos (hmem.2 h)]
  ·next h=>exact List.count_eq_zero_of_not_mem fun hm=>h (hmem.1 hm)
 rw [sur,h1,h2]
 omega
theorem B3t (hp:PermN p) (h0:0<p.length):Ou (pE p)=decide ((Et p).length=1):=by
 have hone:=Uz hp h0
 by_cases h:per p 0=p.length
 ·rw [decide_eq_true (hone.2 h),Adj]
  have hr:∀a b,a<p.length->b<p.length->Rch (pE p) a b:=fun a b ha hb q hq hqa=>by
   have hb2:=A6j hp ha (Sx hp h0 ha h) hb
   obtain ⟨k,rfl⟩:=(Hb hp ha b).1 hb2
   clear hb hb2
   induction k with
   | zero=>exact hqa
   | succ k ih =>
    rw [Js]
    exact hq (itp p k a,stp p (itp p k a)) (Ks.2 ⟨Jp hp k a ha,rfl⟩) ih
  intro e he f hf
  obtain ⟨e1,e2⟩:=Ks.1 he
  obtain ⟨f1,f2⟩:=Ks.1 hf
  have e3:e.2<p.length:=by rw [e2]; exact Qo hp e1
  have f3:f.2<p.length:=by rw [f2]; exact Qo hp f1
  exact ⟨hr _ _ e1 f1,hr _ _ e1 f3,hr _ _ e3 f1,hr _ _ e3 f3⟩
 ·rw [decide_eq_false fun hh=>h (hone.1 hh)]
  cases hc:Ou (pE p) with
  | false=>rfl
  | true =>
   exfalso
   obtain ⟨i,hi,hn⟩:=A5w hp h0 h
   have:=(Adj.1 hc (0,stp p 0) (Ks.2 ⟨h0,rfl⟩) (i,stp p i) (Ks.2 ⟨hi,rfl⟩)).1
   have h2:=this (fun x=>decide (x∈cyc p 0)) (fun e he h=>by
    obtain ⟨e1,e2⟩:=Ks.1 he
    rw [e2]
    exact decide_eq_true (A6i hp h0 (of_decide_eq_true h))) (decide_eq_true (Li p 0))
   exact hn (of_decide_eq_true h2)
theorem Axf (hp:PermN p) (h0:0<p.length) {c:List Nat} (hc:c∈Et p) (h2:(Et p).length≠1) {own:List Nat} (ho:own.Perm c) (hr:risF p.length 0 (nI6 own)=true):Uu p.length (pE p) 2 (nI6 own)=0:=by
 have hone:=Uz hp h0
 obtain ⟨i,hi,rfl⟩:=List.mem_map.1 hc
 have hil:=(Ho.1 hi).1
 have hhas:∀x,Es (nI6 own) x=decide (x∈cyc p i):=fun x=>by
  rw [Es,List.contains_eq_mem]
  have:((x:Int)∈nI6 own)↔x∈cyc p i:=by
   rw [nI6,List.mem_map,<-ho.mem_iff]
   constructor
   ·rintro ⟨y,hy,he⟩
    have:y=x:=by omega
    rw [<-this]; exact hy
   ·intro hx
    exact ⟨x,hx,rfl⟩
  simp only [this]
 have hpn:per p i≠p.length:=fun hh=>h2 (hone.2 (Sx hp hil h0 hh))
 have hap:apB (pE p) (nI6 own)=true:=by
  rw [apB,Bool.and_eq_true,Bool.and_eq_true,List.all_eq_true]
  refine ⟨fun e he => ?_,?_,?_⟩
  ·obtain ⟨e1,e2⟩:=Ks.1 he
   rw [hhas,hhas,beq_iff_eq,decide_eq_decide,e2]
   refine ⟨fun h=>A6i hp hil h,fun h => ?_⟩
   have h3:stp p e.1∈cyc p e.1:=A6i hp e1 (Li p e.1)
   exact Jn hp hil h (Nq hp e1 h3)
  ·refine decide_eq_true ?_
   rw [Nat.succ_le_iff,List.countP_pos_iff]
   exact ⟨(i,stp p i),Ks.2 ⟨hil,rfl⟩,by rw [hhas]; exact decide_eq_true (Li p i)⟩
  ·refine decide_eq_true ?_
   obtain ⟨j,hj,hn⟩:=A5w hp hil hpn
   have hle:=List.countP_le_length (p:=fun e:Ed=>Es (nI6 own) e.1) (l:=pE p)
   rcases Nat.lt_or_ge ((pE p).countP fun e=>Es (nI6 own) e.1) (pE p).length with hlt | hge
   ·omega
   ·exfalso
    have:=List.countP_eq_length.1 (Nat.le_antisymm hle hge) (j,stp p j) (Ks.2 ⟨hj,rfl⟩)
    rw [hhas] at this
    exact hn (of_decide_eq_true this)
 rw [Uu,if_neg (by omega),if_neg (by rw [hr]; decide),if_neg (by omega),if_pos hap]
end
open Go P4
theorem Ayu {l:List Nat} {k j:Nat} (hk:k+1<l.length):(swp k l).getD j 0=if j=k then l.getD (k+1) 0 else if j=k+1 then l.getD k 0 else l.getD j 0:=by
 have h1:∀{k:Nat} {l:List Nat},k+1<l.length->(l.set k (l.getD (k+1) 0)).set (k+1) (l.getD k 0)=swp k l:=by
  intro k
  induction k with
  | zero =>
   intro l h
   match l,h with
   | a::b::r,_=>rfl
  | succ k ih =>
   intro l h
   match l,h with
   | a::r,h =>
    have:=ih (l:=r) (by simpa using h)
    simp only [swp,List.getD_cons_succ,List.set_cons_succ]
    rw [this]
 rw [<-h1 hk,List.getD_eq_getElem?_getD,List.getElem?_set,List.getElem?_set,List.length_set]
 by_cases h2:j=k+1
 ·subst h2
  rw [if_pos rfl,if_pos hk,if_neg (by omega),if_pos rfl]; rfl
 ·rw [if_neg (fun e=>h2 e.symm)]
  by_cases h3:j=k
  ·subst h3
   rw [if_pos rfl,if_pos (by omega),if_pos rfl]; rfl
  ·rw [if_neg (fun e=>h3 e.symm),if_neg h3,if_neg h2,List.getD_eq_getElem?_getD]
structure SrtK (S:List Nat) (i k:Nat):Prop where
 oth:∀a b,a<b->b<=i->a≠k->b≠k->S.getD a 0<S.getD b 0
 own:∀b,k<b->b<=i->S.getD k 0<S.getD b 0
def Aku (S:List Nat) (i:Nat):Prop:=∀a b,a<b->b<i->S.getD a 0<S.getD b 0
theorem Alq {S:List Nat} {i:Nat} (h:Aku S i):SrtK S i i:=⟨fun a b hab hb _ hn=>h a b hab (by omega),fun b h1 h2=>by omega⟩
theorem Apv {S:List Nat} {i k:Nat} (h:SrtK S i (k+1)) (hi:i<S.length) (hk:k+1<=i) (hlt:S.getD (k+1) 0<S.getD k 0):SrtK (swp k S) i k:=by
 have e:∀j,(swp k S).getD j 0=if j=k then S.getD (k+1) 0 else if j=k+1 then S.getD k 0 else S.getD j 0:=fun j=>Ayu (by omega)
 constructor
 ·intro a b hab hb ha hb2
  rw [e,e,if_neg ha,if_neg hb2]
  by_cases h1:a=k+1
  ·rw [if_pos h1,if_neg (by omega)]
   exact h.oth k b (by omega) hb (by omega) (by omega)
  ·rw [if_neg h1]
   by_cases h2:b=k+1
   ·rw [if_pos h2]
    exact h.oth a k (by omega) (by omega) h1 (by omega)
   ·rw [if_neg h2]
    exact h.oth a b hab hb h1 h2
 ·intro b h1 h2
  rw [e,e,if_pos rfl,if_neg (by omega)]
  by_cases h3:b=k+1
  ·rw [if_pos h3]; exact hlt
  ·rw [if_neg h3]
   exact h.own b (by omega) h2
theorem Ayy {S:List Nat} {i k:Nat} (h:SrtK S i k) (hk:k<=i) (hi:i<S.length) (hn:S.Nodup) (he:k=0\/¬S.getD k 0<S.getD (k-1) 0):Aku S (i+1):=by
 intro a b hab hb
 by_cases ha:a=k
 ·subst ha; exact h.own b hab (by omega)
 ·by_cases hb2:b=k
  ·subst hb2
   rcases he with he | he
   ·omega
   ·have hne:S.getD b 0≠S.getD (b-1) 0:=fun e=>by
     have h1:b<S.length:=by omega
     have h2:b-1<S.length:=by omega
     have e':S[b]=S[b-1]:=by
      simpa [List.getD_eq_getElem?_getD,List.getElem?_eq_getElem h1,List.getElem?_eq_getElem h2] using e
     have:=A2k.1 hn h1 h2 e'
     omega
    by_cases hab1:a=b-1
    ·subst hab1; omega
    ·have:=h.oth a (b-1) (by omega) (by omega) ha (by omega)
     omega
  ·exact h.oth a b hab (by omega) ha hb2
theorem Awm {S:List Nat} {N:Nat} (h:Aku S S.length) (hlt:∀x∈S,x<N):risF N 0 (nI6 S)=true:=by
 have hp:S.Pairwise (·<·):=by
  rw [List.pairwise_iff_getElem]
  intro i j hi hj hij
  have:=h i j hij hj
  simpa [List.getD_eq_getElem?_getD,List.getElem?_eq_getElem hi,List.getElem?_eq_getElem hj] using this
 have key:∀(S:List Nat) (n:Nat),S.Pairwise (·<·)->(∀x∈S,x<N)->(∀x∈S,n<=x)->risF N (n:Nat) (nI6 S)=true:=by
  intro S
  induction S with
  | nil=>intro n _ _ _; rfl
  | cons a S ih =>
   intro n hp hlt hge
   rw [List.pairwise_cons] at hp
   have h1:=hlt a (by simp)
   have h2:=hge a (by simp)
   have h3:=ih (a+1) hp.2 (fun x hx=>hlt x (by simp [hx])) fun x hx=>hp.1 x hx
   show (decide ((n:Int)<=(a:Int))&&decide ((a:Int)<(N:Int))&&risF N ((a:Int)+1) (nI6 S))=true
   rw [decide_eq_true (by omega),decide_eq_true (by omega),Bool.true_and,Bool.true_and]
   exact h3
 exact key S 0 hp hlt fun x _=>Nat.zero_le x
end Go.Ev.YtgehhippjhealaaGreatC
namespace Go.Ev.YtgehhippjhealaaGreatC
open Go Go.Proofs
open P4 (OkB bkN bkA Nu eds Fq)
theorem Ayo {p:List Nat} {k:Nat} (h:k<p.length):(pE p).take (k+1)=(pE p).take k++[(k,stp p k)]:=by
 have hg:(pE p)[k]? = some (k,stp p k):=by rw [pE,List.getElem?_map,List.getElem?_range h]; rfl
 rw [List.take_add_one,hg]; rfl
theorem Ahs {lo:Nat} {h:Bc} {x:AV} {es:List Ed} {n:Nat} (ho:OwnG lo h x (some 2) es.length (Fq es)):Bi h (n+2) x = .ret (eds es):=by
 rw [Up ho (Od fun c hc => ?_),P4.grp_ed]
 obtain ⟨q,_,hq⟩:=List.mem_flatMap.1 hc
 simp only [List.mem_cons,List.not_mem_nil,or_false] at hq
 rcases hq with rfl | rfl <;> exact Bl _ _ _ _
theorem Aqm {l:List Int} {k:Nat} (h:k+1<l.length):(l.set (k+1) (l.getD k 0)).set k (l.getD (k+1) 0)=swp k l:=by
 rw [List.set_comm _ _ (by omega),Ahw h]
theorem Us (S:List Nat) (k:Nat):(nI6 S).getD k 0=((S.getD k 0:Nat):Int):=by
 rw [nI6,List.getD_eq_getElem?_getD,List.getElem?_map,List.getD_eq_getElem?_getD]
 cases S[k]? <;> rfl
attribute [local irreducible] Res.all evC Dd Df Br Bh Dj Bd Bi G GO GV GP GC R
set_option maxHeartbeats 4000000 in
theorem A8n (kw n:Nat) (hw:Con T kw 8 [] (.bool true)) (hn:kw<=n) (hn2:1100<=n) (l:List Int) (wh:Nat) (hwh:wh<=255) :
  (Dj (Bd T n) c3 [Dv l,.int .u8 wh] []).all fun p=>p.1 = .bool true:=by
 obtain ⟨n,rfl⟩:∃n',n=n'+1:=⟨n-1,by omega⟩
 rw [A9h]
 have csW:∀{base:Nat} {Q:EX×St->Prop} {d:Option Nat} {L:List IOper} {ks:List Kont} {e:Env} {h:Bc},GP (Bd T (n+1)) base Q d L ks e (Bd T (n+1) false (.fn 8) [] h)=GO (Bd T (n+1)) base Q L ks ⟨Bj e d (.bool true),h⟩:=
  Ey hw hn (Bz _) rfl
 by_cases h8:8<l.length
 ·have d1:decide ((l.length:Int)>8)=true:=decide_eq_true (by omega)
  simp (disch:=first | assumption | omega) only [c3,go_sem,↓reduceIte,d1,csW]
 have d1:decide ((l.length:Int)>8)=false:=decide_eq_false (by omega)
 have csJ:∀{base:Nat} {Q:EX×St->Prop} {d:Option Nat} {L:List IOper} {ks:List Kont} {e:Env} {h:Bc},GP (Bd T (n+1)) base Q d L ks e (Bd T (n+1) false (.fn 7) [Dv l] h)=GO (Bd T (n+1)) base Q L ks ⟨Bj e d (.int .i64 (Nm l)),h⟩:=
  Ey (Afs l) (by omega) (Dm _ _ _ _ (Bz _)) rfl
 by_cases hc:Nm l≠0
 ·have hc':(Nm l != 0)=true:=by simpa using hc
  simp (disch:=first | assumption | omega) only [c3,go_sem,↓reduceIte,d1,csJ,hc',csW]
 replace hc:Nm l=0:=Decidable.not_not.1 hc
 have hc':((0:Int) != 0)=false:=rfl
 obtain ⟨p,rfl,hp,h1,h10⟩:=Amn hc
 have hl:=Gp p
 have hp8:p.length<=8:=by omega
 have h0:0<p.length:=by omega
 have hpl:=Hl p
 have d1':decide ((p.length:Int)>8)=false:=decide_eq_false (by omega)
 simp (disch:=first | assumption | omega) only [c3,go_sem,↓reduceIte,d1',csJ,hc,hc',hl]
 refine Da (fun M st=>∃(k:Nat) (x:AV),M=p.length-k/\k<=p.length/\At st.env [(0,Dv (nI6 p)),(1,.int .u8 wh),(5,.optr 5 0 0),(6,.int .i64 k)]/\Bb st.heap 5 = .cells 0 [.int .i64 p.length,x]/\OwnG 216 st.heap x (some 2) k (Fq ((pE p).take k))/\216<=st.heap.length) p.length (by omega)
  ⟨0,.slice (some 2) [] true,by omega,by omega,by simp only [go_sem,↓reduceIte],by simp only [go_sem,↓reduceIte],Vb ..,by simp only [Be,List.length_replicate]; omega⟩ ?_
 rintro M e h hM ⟨k,x,rfl,hk,hE,g5,hO,hL⟩ P hP
 simp only [Bp,Bx] at hE g5 hO hL
 obtain ⟨f0,f1,f5,f6,-⟩:=hE
 by_cases hlt:k<p.length
 ·have hlt':(k:Int)<(p.length:Int):=by omega
  have gk:(nI6 p)[k]? = some ((stp p k:Nat):Int):=by rw [A0g hlt,Lp hlt]
  have hts:=Ayo hlt
  simp (disch:=first | assumption | omega) only [go_sem,↓reduceIte,f0,f5,f6,hlt',g5,gk,hl]
  refine Mh (lo:=216) (g:=some 2) (n:=k) (m:=1) (c2:=[.int .i64 (k:Nat),.int .i64 ((stp p k:Nat):Int)]) (by first | with_reducible rfl | (simp only [Be,List.length_append,List.length_replicate]; done) | (simp only [Be,List.length_append,List.length_replicate]; omega)) hO (by decide) hL rfl rfl (by omega) (by omega) fun x' h' hO' hF hL' _ _ => ?_
  have g5':Bb h' 5 = .cells 0 [.int .i64 p.length,x]:=by rw [hF 5 (by omega),g5]
  have hcx:=OwnG.cells hO'
  have hox:=OwnG.oneB hO'
  simp (disch:=first | assumption | omega) only [go_sem,↓reduceIte,f5,f6,g5',hcx,hox]
  refine hP (p.length-(k+1)) _ (by omega) ⟨k+1,x',rfl,by omega,by simp only [go_sem,↓reduceIte,f0,f1,f5],by simp only [go_sem,↓reduceIte],?_,by rw [Be]; exact Nat.le_trans (show 216<=h'.length by omega) (Nat.le_max_left _ _)⟩
  rw [hts,P4.edCs_app]
  exact hO'.setH (by omega)
 obtain rfl:k=p.length:=by omega
 have hlt':¬(p.length:Int)<(p.length:Int):=by omega
 rw [List.take_of_length_le (by omega)] at hO
 have hO2:OwnG 216 h x (some 2) (pE p).length (Fq (pE p)):=by rw [hpl]; exact hO
 have hfz:Bi h 8 (.agg [.int .i64 p.length,x]) = .ret (.agg [.int .i64 p.length,eds (pE p)]):=Fv (Bn (Bl _ _ _ _) (Bn (Ahs hO2) (Db _ _)))
 have hok:=Biw hp h1 hp8
 have hcC:=P4.con_Count p.length (pE p) hok
 have hcT:=P4.conF_Tune p.length (pE p) hok
 have hcA:=P4.conF_Again0 hok (B1d hp)
 have hcP:=fun l=>P4.con_CheckProof p.length (pE p) 2 l hok
 rw [Nu] at hcC hcT hcA
 simp only [Nu] at hcP
 rw [B2c hp h1 hp8] at hcC
 rw [B3t hp h0] at hcA
 have csS:∀{base:Nat} {Q:EX×St->Prop} {d:Option Nat} {L:List IOper} {ks:List Kont} {e:Env} {h:Bc},GP (Bd T (n+1)) base Q d L ks e (Bd T (n+1) false (.fn 9) [Dv (nI6 p)] h)=GO (Bd T (n+1)) base Q L ks ⟨Bj e d (.tuple [A3a p,.int .i64 0]),h⟩:=
  Ey (Aat p hp h1 h10) (by omega) (Dm _ _ _ _ (Bz _)) (by exact Bool.true_or _)
 have csX:∀{base:Nat} {Q:EX×St->Prop} {d:Option Nat} {L:List IOper} {ks:List Kont} {e:Env} {h:Bc},GP (Bd T (n+1)) base Q d L ks e (Bd T (n+1) false (.fn 10) [Dv (nI6 p)] h)=GO (Bd T (n+1)) base Q L ks ⟨Bj e d (.tuple [prV (exL p),.int .i64 0]),h⟩:=
  Ey (A5g p hp h1 h10) (by omega) (Dm _ _ _ _ (Bz _)) (by exact Bool.true_or _)
 have hxl:=Ahj hp
 have hcl1:1<=(Et p).length:=by
  obtain ⟨r,hr⟩:=Vg hp h0
  rw [hr]; simp
 have hcl2:=Ase (p:=p)
 have d2:¬(((Et p).length:Int)<1):=by omega
 have d3:decide (((Et p).length:Int)>(p.length:Int))=false:=decide_eq_false (by omega)
 have d4:(((exL p).length:Int)+((Et p).length:Int) != (p.length:Int))=false:=by
  rw [bne_eq_false_iff_eq]
  omega
 have hpr:=Awu (exL p)
 simp (disch:=first | assumption | omega) only [go_sem,↓reduceIte,f0,f5,f6,hlt',hl,csS,csX,g5]
 refine Do hcC (by omega) (Bv hfz (Bz _)) (Ur rfl) ?_
 simp (disch:=first | assumption | omega) only [go_sem,↓reduceIte,f0,f5,g5]
 refine Ui hcT (by omega) (Bv hfz (Bz _)) ?_
 have hone:=Uz hp h0
 by_cases ho:(Et p).length=1
 ·-- one circle
  have hper:per p 0=p.length:=hone.1 ho
  have htu:P4.tuA (some (cyc p 0)) = .tuple [Dv (nI6 (cyc p 0)),.int .i64 0]:=rfl
  rw [Azz hp h0 hper,htu,if_pos ho]
  rw [decide_eq_true ho,if_pos rfl] at hcA
  obtain ⟨r,hr⟩:=Vg hp h0
  have hr0:r=[]:=by
   rw [hr] at ho
   simpa using ho
  rw [hr0] at hr
  have e1:((1:Int)==1)=true:=rfl
  have e2:((p.length:Int) != (p.length:Int))=false:=by simp
  have hzl:(P4.srN (pE p).length fun _=>0).length=p.length:=by rw [P4.srN_len,hpl]
  have csI:∀{base:Nat} {Q:EX×St->Prop} {d:Option Nat} {L:List IOper} {ks:List Kont} {e:Env} {h:Bc},GP (Bd T (n+1)) base Q d L ks e (Bd T (n+1) false (.fn 14) [Dv (nI6 (cyc p 0)),Dv (nI6 (cyc p 0))] h)=GO (Bd T (n+1)) base Q L ks ⟨Bj e d (.bool true),h⟩:=
   Ey (Air (nI6 (cyc p 0)) (by rw [Gp]; show per p 0<=1000; omega)) (by omega) (Dm _ _ _ _ (Dm _ _ _ _ (Bz _))) (Fn _ _)
  simp (disch:=first | assumption | omega) only [go_sem,↓reduceIte,f0,f5,g5]
  refine Ui hcA (by omega) (Bv hfz (Bz _)) ?_
  have hcv:A3a p = .slice none [Dv (nI6 (cyc p 0))] false:=by rw [A3a,hr]; rfl
  have d5:¬((1:Int)<1):=by omega
  have d6:decide ((1:Int)>(p.length:Int))=false:=decide_eq_false (by omega)
  have d4':(((exL p).length:Int)+1 != (p.length:Int))=false:=by
   rw [bne_eq_false_iff_eq]
   omega
  simp (disch:=first | assumption | omega) only [go_sem,↓reduceIte,f0,hcv,hc',d5,d6,hpr,d4',hl,e1,e2,csI,hzl,Int.ofNat_one,Int.natCast_one]
  refine Da (fun M st=>∃i:Nat,M=p.length-i/\i<=p.length/\At st.env [(15,.slice none ((P4.srN (pE p).length fun _=>0).map (.int .i64)) false),(17,.int .i64 i)]) p.length (by omega) ⟨0,by omega,by omega,by simp only [go_sem,↓reduceIte]⟩ ?_
  clear f0 f1 f5 f6
  rintro M e h hM ⟨i,rfl,hi,hE⟩ P hP
  simp only [Bp,Bx] at hE
  obtain ⟨f15,f17,-⟩:=hE
  by_cases hlt:i<p.length
  ·have hlt':(i:Int)<(p.length:Int):=by omega
   have gz:(P4.srN (pE p).length fun _=>0)[i]? = some 0:=by
    rw [P4.srN,List.getElem?_map,List.getElem?_range (by omega)]; rfl
   simp (disch:=first | assumption | omega) only [go_sem,↓reduceIte,f15,f17,hlt',hzl,gz,hc']
   exact hP (p.length-(i+1)) _ (by omega) ⟨i+1,rfl,by omega,by simp only [go_sem,↓reduceIte,f15]⟩
  ·have hlt':¬(i:Int)<(p.length:Int):=by omega
   simp (disch:=first | assumption | omega) only [go_sem,↓reduceIte,f15,f17,hlt',hzl,csW]
 ·-- more than one
  have hper:per p 0≠p.length:=fun hh=>ho (hone.2 hh)
  have htu:P4.tuA none = .tuple [.slice none [] false,.int .i64 19]:=rfl
  rw [Arw hp h0 hper,htu,if_neg ho]
  rw [decide_eq_false ho,if_neg (by decide)] at hcA
  simp (disch:=first | assumption | omega) only [go_sem,↓reduceIte,f0,f5,g5]
  refine Ui hcA (by omega) (Bv hfz (Bz _)) ?_
  have e1:(((Et p).length:Int)==1)=false:=by
   rw [beq_eq_false_iff_ne]
   omega
  have hr:=Bax .i64 wh (Et p).length (by omega)
  have hml:=Nat.mod_lt wh (show 0<(Et p).length by omega)
  have w1:IntKind.i64.wrap (wh:Int)=wh:=wrap64 (by omega) (by omega)
  have hget:(Et p)[wh%(Et p).length]? = some ((Et p)[wh%(Et p).length]):=List.getElem?_eq_getElem hml
  have hcm:(Et p)[wh%(Et p).length]∈Et p:=List.getElem_mem hml
  generalize hcd:(Et p)[wh%(Et p).length]=c at *
  generalize hwd:wh%(Et p).length=w at *
  obtain ⟨c1,c2⟩:=Axi hp hcm
  have hcl:=Gp c
  have d3':decide (p.length<(Et p).length)=false:=decide_eq_false (by omega)
  simp (disch:=first | assumption | omega) only [go_sem,↓reduceIte,f0,f1,A3a,List.length_map,hc',d2,d3,d3',hpr,d4,hl,e1,w1,hr,hget]
  refine Aqt (l:=nI6 c) (by omega) (by omega) (Aht _ (nI6 c) .i64 false) fun key ver h5 hH5 hk5 hk6 hF5 hL5 => ?_
  have hx5:∀h':Bc,(∀j,j<h.length->Bb h' j=Bb h j)->Bb h' 5 = .cells 0 [.int .i64 p.length,x]/\Bi h' 8 (.agg [.int .i64 p.length,x]) = .ret (.agg [.int .i64 p.length,eds (pE p)]):=fun h' hF=>by
   refine ⟨by rw [hF 5 (by omega),g5],Fv (Bn (Bl _ _ _ _) (Bn (Ahs (lo:=216) ?_) (Db _ _)))⟩
   exact hO2.other fun j hj=>hF j (OwnG.keyLt hO2 j hj)
  simp (disch:=first | assumption | omega) only [go_sem,↓reduceIte]
  refine Da (fun M st=>∃(i:Nat) (S:List Nat),M=c.length-i/\1<=i/\i<=c.length/\At st.env [(5,.optr 5 0 0),(11,.int .i64 0),(14,.int .i64 19),(16,.int .i64 19),(18,.oslice key ver none 0 c.length none),(19,.int .i64 i)]/\Bb st.heap key = .cells ver ((nI6 S).map (.int .i64))/\S.Perm c/\Aku S i/\∀j,j<h.length->Bb st.heap j=Bb h j) (c.length-1) (by omega)
   ⟨1,c,by omega,by omega,by omega,by simp only [go_sem,↓reduceIte,f5,hcl],hH5,.refl _,fun a b hab hb=>by omega,hF5⟩ ?_
  clear f0 f1 f5 f6 hH5 hF5 hL5 hM hP P hk6 g5 hO hL hfz
  rintro M e6 h6 hM ⟨i,S,rfl,hi1,hi,hE,gK,hSp,hSr,hFr⟩ P hP
  simp only [Bp,Bx] at hE gK hFr
  obtain ⟨f5,f11,f14,f16,f18,f19,-⟩:=hE
  have hSl:S.length=c.length:=hSp.length_eq
  by_cases hlt:i<c.length
  ·have hlt':(i:Int)<(c.length:Int):=by omega
   simp (disch:=first | assumption | omega) only [go_sem,↓reduceIte,f18,f19,hlt']
   refine Da (fun M st=>∃(k:Nat) (S:List Nat),M=k/\k<=i/\At st.env [(5,.optr 5 0 0),(11,.int .i64 0),(14,.int .i64 19),(16,.int .i64 19),(18,.oslice key ver none 0 c.length none),(19,.int .i64 i),(20,.int .i64 k)]/\Bb st.heap key = .cells ver ((nI6 S).map (.int .i64))/\S.Perm c/\SrtK S i k/\∀j,j<h.length->Bb st.heap j=Bb h j) i (by omega)
    ⟨i,S,rfl,by omega,by simp only [go_sem,↓reduceIte,f5,f11,f14,f16,f18,f19],gK,hSp,Alq hSr,hFr⟩ ?_
   clear f5 f11 f14 f16 f18 f19 gK hSp hSr hFr hSl S
   rintro M e7 h7 hM7 ⟨k,S,rfl,hk,hE,gK,hSp,hSr,hFr⟩ P7 hP7
   simp only [Bp,Bx] at hE gK hFr
   obtain ⟨f5,f11,f14,f16,f18,f19,f20,-⟩:=hE
   have hSl:S.length=c.length:=hSp.length_eq
   have hnd:S.Nodup:=hSp.nodup_iff.2 (by
    obtain ⟨a,ha,rfl⟩:=List.mem_map.1 hcm
    exact Ob hp (Ho.1 ha).1)
   have hend:(M=0\/¬S.getD M 0<S.getD (M-1) 0)->∀e:Env,Di e 5 = .optr 5 0 0->Di e 11 = .int .i64 0->Di e 14 = .int .i64 19->Di e 16 = .int .i64 19->Di e 18 = .oslice key ver none 0 c.length none->Di e 19 = .int .i64 ((i:Int)+1)->P ⟨e,h7⟩:=fun he e q5 q11 q14 q16 q18 q19=>by
    refine hP (c.length-(i+1)) _ (by omega) ⟨i+1,S,rfl,by omega,by omega,?_,gK,hSp,Ayy hSr hk (by omega) hnd he,hFr⟩
    simp only [Bp,Bx]
    exact ⟨q5,q11,q14,q16,q18,q19,trivial⟩
   by_cases hk0:M=0
   ·subst hk0
    have z0:decide (((0:Nat):Int)>0)=false:=rfl
    have z1:decide ((0:Int)>0)=false:=rfl
    simp (disch:=first | assumption | omega) only [go_sem,↓reduceIte,f18,f19,f20,z0,z1]
    exact hend (.inl rfl) _ (by simp only [go_sem,↓reduceIte,f5]) (by simp only [go_sem,↓reduceIte,f11]) (by simp only [go_sem,↓reduceIte,f14]) (by simp only [go_sem,↓reduceIte,f16]) (by simp only [go_sem,↓reduceIte,f18]) (by simp only [go_sem,↓reduceIte])
   ·obtain ⟨k,rfl⟩:∃k,M=k+1:=⟨M-1,by omega⟩
    have z0:decide (((k:Int)+1)>0)=true:=decide_eq_true (by omega)
    have e1:(k:Int)+1-1=(k:Int):=by omega
    have hlS:=Gp S
    have g1:(nI6 S)[k+1]? = some ((S.getD (k+1) 0:Nat):Int):=by rw [<-Us]; exact gdI (by omega)
    have g2:(nI6 S)[k]? = some ((S.getD k 0:Nat):Int):=by rw [<-Us]; exact gdI (by omega)
    have l1:k+1<c.length:=by omega
    have l2:k<c.length:=by omega
    by_cases hsw:S.getD (k+1) 0<S.getD k 0
    ·have dlt:decide (S.getD (k+1) 0<S.getD k 0)=true:=decide_eq_true hsw
     have hst:=Apv hSr (by omega) hk hsw
     have s1:((nI6 S).map (AV.int .i64)).set (k+1) (.int .i64 ((S.getD k 0:Nat):Int))=((nI6 S).set (k+1) ((S.getD k 0:Nat):Int)).map (.int .i64):=by rw [List.map_set]
     have s2:(((nI6 S).set (k+1) ((S.getD k 0:Nat):Int)).map (AV.int .i64)).set k (.int .i64 ((S.getD (k+1) 0:Nat):Int))=(nI6 (swp k S)).map (.int .i64):=by
      have hsm:nI6 (swp k S)=swp k (nI6 S):=Ahx _ k S
      rw [<-List.map_set,<-Us,<-Us,Aqm (by omega),hsm]
     have l3:k+1+1<=c.length:=by omega
     have l4:k+1<=c.length:=by omega
     simp (disch:=first | assumption | omega) only [go_sem,↓reduceIte,f18,f20,z0,e1,gK,g1,g2,l1,l2,dlt,hlS,hSl,l3,l4,s1,s2,List.length_set]
     refine hP7 k _ (by omega) ⟨k,swp k S,rfl,by omega,by simp only [go_sem,↓reduceIte,f5,f11,f14,f16,f18,f19],by simp only [go_sem,↓reduceIte],(Abi k S).trans hSp,hst,fun j hj => ?_⟩
     rw [Ba _ _ _ _ (by omega),Ba _ _ _ _ (by omega)]
     exact hFr j hj
    ·have dlt:decide (S.getD (k+1) 0<S.getD k 0)=false:=decide_eq_false hsw
     simp (disch:=first | assumption | omega) only [go_sem,↓reduceIte,f18,f19,f20,z0,e1,gK,g1,g2,l1,l2,dlt,hlS,hSl]
     exact hend (.inr hsw) _ (by simp only [go_sem,↓reduceIte,f5]) (by simp only [go_sem,↓reduceIte,f11]) (by simp only [go_sem,↓reduceIte,f14]) (by simp only [go_sem,↓reduceIte,f16]) (by simp only [go_sem,↓reduceIte,f18]) (by simp only [go_sem,↓reduceIte])
  ·obtain rfl:i=c.length:=by omega
   have hlt':¬(c.length:Int)<(c.length:Int):=by omega
   have e00:((0:Int)==0)=true:=rfl
   have e19:((19:Int)==19)=true:=rfl
   obtain ⟨g5,hfz⟩:=hx5 h6 hFr
   have hris:P4.risF p.length 0 (nI6 S)=true:=Awm (by rw [hSl]; exact hSr) fun y hy=>by
    obtain ⟨a,ha,rfl⟩:=List.mem_map.1 hcm
    exact Oi hp (Ho.1 ha).1 (hSp.mem_iff.1 hy)
   have hck:=Axf hp h0 hcm ho hSp hris
   have hcP':=hcP (nI6 S) (by rw [Gp]; omega)
   rw [hck] at hcP'
   simp (disch:=first | assumption | omega) only [go_sem,↓reduceIte,f5,f11,f14,f16,f18,f19,hlt',e00,e19,g5]
   refine Do hcP' (by omega) (Bv hfz (Fa _ _ _ (Bv (Ii gK (by rw [Gp,hSl])) (Bz _)))) (Ur rfl) ?_
   simp (disch:=first | assumption | omega) only [go_sem,↓reduceIte,e00,csW]
end Go.Ev.YtgehhippjhealaaGreatC
