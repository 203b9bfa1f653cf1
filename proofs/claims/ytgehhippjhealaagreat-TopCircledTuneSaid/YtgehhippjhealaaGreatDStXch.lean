/- Exchanges that put circles right, one after the other: what each leaves. Maps whose keys are structs of one number, as functions. Exchanges of layer 6: circle by circle, each joint with that of the first flute. Again of layer 6: how often until all is as before. No condition but those that stand in each. -/
import Derived.Test.YtgehhippjhealaaGreatDStWrong
import Derived.Test.YtgehhippjhealaaGreatDEvKer3
import Derived.Test.YtgehhippjhealaaGreatDStCol
import Derived.Test.YtgehhippjhealaaGreatDL4Std
set_option linter.unusedSimpArgs false
set_option linter.unusedVariables false
set_option maxRecDepth 100000
namespace Go.Ev.YtgehhippjhealaaGreatC
def dnE (p:List Nat) (i j:Nat):Prop:=∃h,h<i/\j∈cyc p h
structure NowO (p:List Nat) (i:Nat) (g:Nat->Nat):Prop where
 dn:∀j,j<p.length->dnE p i j->g j=j
 oth:∀j,j<p.length->¬dnE p i j->g j=stp p j
 inj:∀a b,a<p.length->b<p.length->g a=g b->a=b
 lt:∀a,a<p.length->g a<p.length
structure NowG (p:List Nat) (i k:Nat) (g:Nat->Nat):Prop where
 at0:g i=itp p (k+1) i
 fixd:∀m,1<=m->m<=k->g (itp p m i)=itp p m i
 left:∀m,k<m->m<per p i->g (itp p m i)=itp p (m+1) i
 dn:∀j,j<p.length->dnE p i j->g j=j
 oth:∀j,j<p.length->¬dnE p i j->j∉cyc p i->g j=stp p j
 inj:∀a b,a<p.length->b<p.length->g a=g b->a=b
 lt:∀a,a<p.length->g a<p.length
def swG (g:Nat->Nat) (a b:Nat):Nat->Nat:=fun j=>if j=a then g b else if j=b then g a else g j
section
variable {p:List Nat} {i k:Nat} {g:Nat->Nat}
theorem Zw (hp:PermN p) (hi:i<p.length) (hm:Gb p i=true) {j:Nat} (hj:j∈cyc p i):¬dnE p i j:=by
 rintro ⟨h,hlt,hjh⟩
 have hhl:h<p.length:=by omega
 have h1:=Nq hp hhl hjh
 have h2:=Jn hp hi hj h1
 have:=of_decide_eq_true (List.all_eq_true.1 hm h h2)
 omega
theorem Azi (hp:PermN p) (hi:i<p.length) (hm:Gb p i=false):dnE p i i:=by
 obtain ⟨j,hj,hjm⟩:=Apb hp hi
 have hjl:=Oi hp hi hj
 have h1:=Nq hp hi hj
 have h2:=of_decide_eq_true (List.all_eq_true.1 hjm i h1)
 refine ⟨j,?_,h1⟩
 rcases Nat.lt_or_ge j i with h | h
 ·exact h
 ·obtain rfl:j=i:=by omega
  rw [hjm] at hm
  cases hm
theorem Vy {j:Nat}:dnE p (i+1) j↔dnE p i j\/j∈cyc p i:=by
 constructor
 ·rintro ⟨h,h1,h2⟩
  by_cases he:h=i
  ·subst he; exact .inr h2
  ·exact .inl ⟨h,by omega,h2⟩
 ·rintro (⟨h,h1,h2⟩ | h2)
  ·exact ⟨h,by omega,h2⟩
  ·exact ⟨i,by omega,h2⟩
theorem Anp (hp:PermN p):NowO p 0 (stp p) where
 dn:=fun j _ ⟨h,h1,_⟩=>by omega
 oth:=fun _ _ _=>rfl
 inj:=fun _ _ ha hb h=>A6m hp ha hb h
 lt:=fun _ ha=>Qo hp ha
theorem Anm (hp:PermN p) (hi:i<p.length) (hm:Gb p i=false) (h:NowO p i g):g i=i/\NowO p (i+1) g:=by
 have hd:=Azi hp hi hm
 have hs:∀j,dnE p (i+1) j↔dnE p i j:=fun j=>by
  rw [Vy]
  refine ⟨fun h=>h.elim id fun hj => ?_,.inl⟩
  obtain ⟨h,h1,h2⟩:=hd
  exact ⟨h,h1,Jn hp (by omega) h2 hj⟩
 exact ⟨h.dn i hi hd,fun j hj hd=>h.dn j hj ((hs j).1 hd),fun j hj hd=>h.oth j hj fun hc=>hd ((hs j).2 hc),h.inj,h.lt⟩
theorem Akh (hp:PermN p) (hi:i<p.length) (hm:Gb p i=true) (h:NowO p i g):NowG p i 0 g where
 at0:=h.oth i hi (Zw hp hi hm (Li p i))
 fixd:=fun m h1 h2=>by omega
 left:=fun m _ _=>by
  rw [Js]
  exact h.oth _ (Jp hp m i hi) (Zw hp hi hm ((Hb hp hi _).2 ⟨m,rfl⟩))
 dn:=h.dn
 oth:=fun j hj hd _=>h.oth j hj hd
 inj:=h.inj
 lt:=h.lt
theorem Sz (hp:PermN p) (hi:i<p.length) {a b:Nat} (ha:a<per p i) (hb:b<per p i) (hne:a≠b):itp p a i≠itp p b i:=by
 rw [Ne,Adt hp hi,Nat.mod_eq_of_lt ha,Nat.mod_eq_of_lt hb]
 exact hne
theorem Azg {n a b:Nat} (ha:a<n) (hb:b<n) (hg:∀x y,x<n->y<n->g x=g y->x=y):∀x y,x<n->y<n->swG g a b x=swG g a b y->x=y:=by
 intro x y hx hy h
 simp only [swG] at h
 by_cases h1:x=a <;> by_cases h2:x=b <;> by_cases h3:y=a <;> by_cases h4:y=b <;> simp only [h1,h2,h3,h4,if_true,if_false] at h <;> first | omega | (have:=hg _ _ (by omega) (by omega) h; omega) | skip
 all_goals (try subst h1) <;> (try subst h2) <;> (try subst h3) <;> (try subst h4) <;> (try simp only [if_true,if_false] at h) <;> first | omega | (split at h <;> have:=hg _ _ (by omega) (by omega) h <;> omega) | (have:=hg _ _ (by omega) (by omega) h; omega)
theorem B3g {n a b:Nat} (ha:a<n) (hb:b<n) (hg:∀x,x<n->g x<n):∀x,x<n->swG g a b x<n:=by
 intro x hx
 simp only [swG]
 split
 ·exact hg b hb
 ·split
  ·exact hg a ha
  ·exact hg x hx
theorem Ali (hp:PermN p) (hi:i<p.length) (hk:k+1<per p i) (hm:Gb p i=true) (h:NowG p i k g):g (g i)=itp p (k+2) i/\g i≠i/\g i<p.length/\NowG p i (k+1) (swG g i (g i)):=by
 have h0:=h.at0
 have h1:=h.left (k+1) (by omega) hk
 have hne0:itp p (k+1) i≠i:=fun e=>by
  have:=Sz hp hi (a:=k+1) (b:=0) hk (by omega) (by omega)
  exact this e
 have hgl:g i<p.length:=h.lt i hi
 refine ⟨by rw [h0]; exact h1,by rw [h0]; exact hne0,hgl,⟨?_,?_,?_,?_,?_,?_,?_⟩⟩
 ·simp only [swG,if_true]
  rw [h0,h1]
 ·intro m hm1 hm2
  have hmi:itp p m i≠i:=fun e=>Sz hp hi (a:=m) (b:=0) (by omega) (by omega) (by omega) e
  by_cases hmk:m=k+1
  ·subst hmk
   simp only [swG,hmi,if_false,h0,if_true]
  ·have:itp p m i≠g i:=by rw [h0]; exact Sz hp hi (by omega) hk hmk
   simp only [swG,hmi,this,if_false]
   exact h.fixd m hm1 (by omega)
 ·intro m hm1 hm2
  have hmi:itp p m i≠i:=fun e=>Sz hp hi (a:=m) (b:=0) (by omega) (by omega) (by omega) e
  have:itp p m i≠g i:=by rw [h0]; exact Sz hp hi hm2 hk (by omega)
  simp only [swG,hmi,this,if_false]
  exact h.left m (by omega) hm2
 ·intro j hj hd
  have hji:j≠i:=fun e=>Zw hp hi hm (Li p i) (e ▸ hd)
  have hjg:j≠g i:=fun e=>Zw hp hi hm ((Hb hp hi _).2 ⟨k+1,h0⟩) (e ▸ hd)
  simp only [swG,hji,hjg,if_false]
  exact h.dn j hj hd
 ·intro j hj hd hc
  have hji:j≠i:=fun e=>hc (e ▸ Li p i)
  have hjg:j≠g i:=fun e=>hc (e ▸ (Hb hp hi _).2 ⟨k+1,h0⟩)
  simp only [swG,hji,hjg,if_false]
  exact h.oth j hj hd hc
 ·exact Azg hi hgl h.inj
 ·exact B3g hi hgl h.lt
theorem Aqo (hp:PermN p) (hi:i<p.length) (hk:k+1=per p i) (h:NowG p i k g):g i=i/\NowO p (i+1) g:=by
 obtain ⟨_,_,hback,_,_⟩:=Fk hp hi
 have h0:g i=i:=by rw [h.at0,hk,hback]
 refine ⟨h0,fun j hj hd => ?_,fun j hj hd => ?_,h.inj,h.lt⟩
 ·rcases Vy.1 hd with hd | hc
  ·exact h.dn j hj hd
  ·obtain ⟨m,rfl⟩:=(Hb hp hi _).1 hc
   rw [Qf hp hi]
   have hml:=Nat.mod_lt m (show 0<per p i by omega)
   rcases Nat.eq_zero_or_pos (m%per p i) with hz | hz
   ·rw [hz]; exact h0
   ·exact h.fixd _ hz (by omega)
 ·exact h.oth j hj (fun hc=>hd (Vy.2 (.inl hc))) fun hc=>hd (Vy.2 (.inr hc))
def Vm (n i:Nat) (g:Nat->Nat) (f:Nat->Option Nat):Prop:=∀j,j<n->i<=g j->f (g j)=some j
def Uv (f:Nat->Option Nat) (a b:Nat):Nat->Option Nat:=fun x=>if x=a then some b else f x
theorem Agv {f:Nat->Option Nat} (hi:i<p.length) (hg:g i=i) (hf:Vm p.length i g f):f i=some i:=by
 have:=hf i hi (by omega)
 rwa [hg] at this
theorem Atc (hp:PermN p) (hi:i<p.length) {f:Nat->Option Nat} (hk:k+1<per p i) (h:NowG p i k g) (hf:Vm p.length i g f):∃j,f i=some j/\j≠i/\j<p.length:=by
 obtain ⟨_,_,hback,_,_⟩:=Fk hp hi
 have h1:=h.left (per p i-1) (by omega) (by omega)
 rw [show per p i-1+1=per p i by omega,hback] at h1
 have hl:=Jp hp (per p i-1) i hi
 refine ⟨itp p (per p i-1) i,?_,fun e=>Sz hp hi (a:=per p i-1) (b:=0) (by omega) (by omega) (by omega) e,hl⟩
 have:=hf _ hl (by rw [h1]; exact Nat.le_refl _)
 rwa [h1] at this
theorem Arh {n:Nat} (hi:i<n) {f:Nat->Option Nat} (hgi:g i<n) (hne:g i≠i) (hinj:∀a b,a<n->b<n->g a=g b->a=b) (hf:Vm n i g f):Vm n i (swG g i (g i)) (Uv (Uv f (g i) (g i)) (g (g i)) i):=by
 intro j hj hle
 by_cases h1:j=i
 ·subst h1
  simp only [swG,Uv,if_true]
 ·by_cases h2:j=g i
  ·subst h2
   simp only [swG,hne,if_false,if_true,Uv]
   have:g i≠g (g i):=fun e=>hne (hinj _ _ hi hgi e).symm
   simp only [this,if_false]
  ·simp only [swG,h1,h2,if_false] at hle ⊢
   have a1:g j≠g (g i):=fun e=>h2 (hinj _ _ hj hgi e)
   have a2:g j≠g i:=fun e=>h1 (hinj _ _ hj hi e)
   simp only [Uv,a1,a2,if_false]
   exact hf j hj hle
theorem Adu {n:Nat} {f f':Nat->Option Nat} (hf:Vm n i g f) (h:∀x,x≠i->f' x=f x):Vm n (i+1) g f':=fun j hj hle=>by
 rw [h _ (by omega)]
 exact hf j hj (by omega)
def exI (p:List Nat) (i:Nat):List (Nat×Nat):=((List.range i).filter (Gb p)).flatMap fun h=>exC (cyc p h)
theorem Aqs:exI p (i+1)=exI p i++if Gb p i=true then exC (cyc p i) else []:=by
 rw [exI,exI,List.range_succ,List.filter_append,List.flatMap_append,List.filter_cons,List.filter_nil]
 congr 1
 split <;> simp
theorem Ags:exI p p.length=exL p:=by
 rw [exI,exL,Et,Ry,List.flatMap_map]
theorem Azd (hp:PermN p) (hi:i<p.length) (hk:k+1<per p i):(exC (cyc p i))[k]? = some (i,itp p (k+1) i):=by
 have h:=Aym hp hi hk
 rw [exC,List.getElem?_map,List.getElem?_tail,h]
 rfl
theorem Ass (hp:PermN p) (hi:i<p.length) (hk:k+1<per p i):(exC (cyc p i)).take (k+1)=(exC (cyc p i)).take k++[(i,itp p (k+1) i)]:=by
 rw [List.take_add_one,Azd hp hi hk]; rfl
theorem Aqy (hk:k+1=per p i):(exC (cyc p i)).take k=exC (cyc p i):=by
 have:=A6h (Uj p i)
 refine List.take_of_length_le ?_
 simp only [per] at hk
 omega
end
open Go
theorem A7j {x:Int} (B:List Int):∀{A:List Int},x∉A->(A++x::B).idxOf x=A.length
 | [],_=>by simp
 | a::A,h=>by
  simp only [List.mem_cons,not_or] at h
  have e:(a==x)=false:=by simpa using fun e=>h.1 e.symm
  rw [List.cons_append,List.idxOf_cons,e,cond_false,A7j B h.2,List.length_cons]
def MpF (h:Bc) (K ver:Nat) (f:Nat->Option Nat):Prop:=∃(c:Nat) (E:List (Int×Int)) (bs:List Nat),Bb h K = .map ver c (kz (E.map (·.1))) ((E.map (·.2)).map (.int .i64)) bs/\(E.map (·.1)).Nodup/\∀x v:Nat,f x=some v->((x:Int),(v:Int))∈E
theorem MpF.other {h h':Bc} {K ver:Nat} {f:Nat->Option Nat} (hM:MpF h K ver f) (he:Bb h' K=Bb h K):MpF h' K ver f:=by
 obtain ⟨c,E,bs,h1,h2⟩:=hM
 exact ⟨c,E,bs,by rw [he,h1],h2⟩
theorem A2y {E:List (Int×Int)} (hn:(E.map (·.1)).Nodup) {x u:Int} (h:(x,u)∈E):∃A B,E=A++(x,u)::B/\x∉A.map (·.1)/\x∉B.map (·.1)/\(E.map (·.1)).idxOf x=A.length:=by
 obtain ⟨A,B,rfl⟩:=List.append_of_mem h
 rw [List.map_append,List.map_cons,List.nodup_append] at hn
 obtain ⟨_,n2,n3⟩:=hn
 have hA:x∉A.map (·.1):=fun hm=>n3 x hm x (by simp) rfl
 refine ⟨A,B,rfl,hA,(List.nodup_cons.1 n2).1,?_⟩
 rw [List.map_append,List.map_cons,A7j _ hA,List.length_map]
theorem Alv (a b:List Int):kz (a++b)=kz a++kz b:=by simp [kz]
theorem A6n {h:Bc} {K ver:Nat} {f:Nat->Option Nat} (hM:MpF h K ver f) {x v:Nat} (hx:f x=some v) (z:AV):lkA (some 1) z false (.agg [.int .i64 (x:Nat)]) (Gk h (.omap K ver)) = .ret (.int .i64 (v:Nat)):=by
 obtain ⟨c,E,bs,h1,h2,h3⟩:=hM
 obtain ⟨A,B,rfl,a1,a2,a3⟩:=A2y h2 (h3 x v hx)
 have hm:Gk h (.omap K ver)=some (kz ((A++((x:Int),(v:Int))::B).map (·.1)),((A++((x:Int),(v:Int))::B).map (·.2)).map (.int .i64)):=by
  simp only [Gk,h1,if_true]
 have hin:(x:Int)∈(A++((x:Int),(v:Int))::B).map (·.1):=by simp
 rw [hm,lkA]
 have hk:Eu (some 1) (.agg [.int .i64 (x:Nat)])=true:=rfl
 rw [if_pos hk,Ip,if_pos hin,a3]
 simp
theorem Adf {h:Bc} {K ver:Nat} {f:Nat->Option Nat} (hM:MpF h K ver f) (x v:Nat):∃o,muA (some 1) h (.agg [.int .i64 (x:Nat)]) (.int .i64 (v:Nat)) (.omap K ver) = .ret (.undef,setH h K o)/\MpF (setH h K o) K ver (Uv f x v):=by
 obtain ⟨c,E,bs,h1,h2,h3⟩:=hM
 have hk:Eu (some 1) (.agg [.int .i64 (x:Nat)])=true:=rfl
 by_cases hin:(x:Int)∈E.map (·.1)
 ·obtain ⟨⟨x',u⟩,hq,hx'⟩:=List.mem_map.1 hin
  simp only at hx'
  subst hx'
  obtain ⟨A,B,rfl,a1,a2,a3⟩:=A2y h2 hq
  refine ⟨.map ver c ((kz ((A++((x:Int),u)::B).map (·.1))).set (0+A.length) (.agg [.int .i64 (x:Nat)])) ((((A++((x:Int),u)::B).map (·.2)).map (.int .i64)).set (0+A.length) (.int .i64 (v:Nat))) bs,?_,?_⟩
  ·simp only [muA,h1]
   rw [if_pos ⟨trivial,hk⟩,Ip,if_pos hin,a3]
  ·refine ⟨c,A++((x:Int),(v:Int))::B,bs,?_,?_,fun y w hy => ?_⟩
   ·rw [getH_setH_self]
    simp only [List.map_append,List.map_cons,Alv,Nat.zero_add]
    congr 1
    ·rw [List.set_append_right _ _ (by simp [kz])]
     simp [kz]
    ·rw [List.set_append_right _ _ (by simp)]
     simp
   ·rw [List.map_append,List.map_cons] at h2 ⊢
    exact h2
   ·simp only [Uv] at hy
    by_cases hyx:y=x
    ·subst hyx
     rw [if_pos rfl] at hy
     obtain rfl:=Option.some.inj hy
     simp
    ·rw [if_neg hyx] at hy
     have hm:=h3 y w hy
     rcases List.mem_append.1 hm with hm | hm
     ·exact List.mem_append_left _ hm
     ·rcases List.mem_cons.1 hm with he | hm
      ·exfalso
       have:=(Prod.mk.inj he).1
       omega
      ·exact List.mem_append_right _ (List.mem_cons_of_mem _ hm)
 ·refine ⟨.map ver (c+1) (kz (E.map (·.1))++[.agg [.int .i64 (x:Nat)]]) ((E.map (·.2)).map (.int .i64)++[.int .i64 (v:Nat)]) (bs++[c]),?_,?_⟩
  ·simp only [muA,h1]
   rw [if_pos ⟨trivial,hk⟩,Ip,if_neg hin]
  ·refine ⟨c+1,E++[((x:Int),(v:Int))],bs++[c],?_,?_,fun y w hy => ?_⟩
   ·rw [getH_setH_self]
    simp [kz]
   ·rw [List.map_append,List.nodup_append]
    exact ⟨h2,by simp,fun a ha b hb=>by
     have:b=(x:Int):=by simpa using hb
     intro e
     exact hin (this ▸ e ▸ ha)⟩
   ·simp only [Uv] at hy
    by_cases hyx:y=x
    ·subst hyx
     rw [if_pos rfl] at hy
     obtain rfl:=Option.some.inj hy
     simp
    ·rw [if_neg hyx] at hy
     exact List.mem_append_left _ (h3 y w hy)
theorem Apc {h:Bc} {K ver:Nat} {f:Nat->Option Nat} (hM:MpF h K ver f) {x v:Nat} (hx:f x=some v):∃o,dlA (some 1) h (.agg [.int .i64 (x:Nat)]) (.omap K ver) = .ret (.undef,setH h K o)/\MpF (setH h K o) K ver (fun y=>if y=x then none else f y):=by
 obtain ⟨c,E,bs,h1,h2,h3⟩:=hM
 obtain ⟨A,B,rfl,a1,a2,a3⟩:=A2y h2 (h3 x v hx)
 have hk:Eu (some 1) (.agg [.int .i64 (x:Nat)])=true:=rfl
 have hin:(x:Int)∈(A++((x:Int),(v:Int))::B).map (·.1):=by simp
 refine ⟨.map ver c ((kz ((A++((x:Int),(v:Int))::B).map (·.1))).eraseIdx (0+A.length)) ((((A++((x:Int),(v:Int))::B).map (·.2)).map (.int .i64)).eraseIdx (0+A.length)) (bs.eraseIdx (0+A.length)),?_,?_⟩
 ·simp only [dlA,h1]
  rw [if_pos ⟨trivial,hk⟩,Ip,if_pos hin,a3]
 ·refine ⟨c,A++B,bs.eraseIdx (0+A.length),?_,?_,fun y w hy => ?_⟩
  ·rw [getH_setH_self]
   simp only [List.map_append,List.map_cons,Alv,Nat.zero_add]
   congr 1
   ·rw [List.eraseIdx_append_of_length_le (by simp [kz])]
    simp [kz]
   ·rw [List.eraseIdx_append_of_length_le (by simp)]
    simp
  ·rw [List.map_append,List.map_cons,List.nodup_append] at h2
   rw [List.map_append,List.nodup_append]
   exact ⟨h2.1,(List.nodup_cons.1 h2.2.1).2,fun a ha b hb=>h2.2.2 a ha b (List.mem_cons_of_mem _ hb)⟩
  ·simp only at hy
   by_cases hyx:y=x
   ·rw [if_pos hyx] at hy; cases hy
   ·rw [if_neg hyx] at hy
    have hm:=h3 y w hy
    rcases List.mem_append.1 hm with hm | hm
    ·exact List.mem_append_left _ hm
    ·rcases List.mem_cons.1 hm with he | hm
     ·exfalso
      have:=(Prod.mk.inj he).1
      omega
     ·exact List.mem_append_right _ hm
end Go.Ev.YtgehhippjhealaaGreatC
namespace Go.Ev.YtgehhippjhealaaGreatC
open Go Go.Proofs
def prC (l:List (Nat×Nat)):List AV:=l.flatMap fun q=>[.int .i64 q.1,.int .i64 q.2]
theorem Aqn (l:List (Nat×Nat)) (a b:Nat):prC (l++[(a,b)])=prC l++[.int .i64 (a:Nat),.int .i64 (b:Nat)]:=by simp [prC]
def prV (l:List (Nat×Nat)):AV:=.slice (some 2) (Ee (some 2) l.length (prC l)) false
theorem Awu (l:List (Nat×Nat)):lenA (prV l)=some l.length:=by rw [prV,Vx,Ee,List.length_map,List.length_range]
theorem B1l {lo:Nat} {h:Bc} {x:AV} {l:List (Nat×Nat)} {n:Nat} (ho:OwnG lo h x (some 2) l.length (prC l)):Bi h (n+2) x = .ret (prV l):=
 Up ho (Od fun c hc=>by
  obtain ⟨q,_,hq⟩:=List.mem_flatMap.1 hc
  simp only [List.mem_cons,List.not_mem_nil,or_false] at hq
  rcases hq with rfl | rfl <;> exact Bl _ _ _ _)
def gL (n:Nat) (g:Nat->Nat):List Int:=(List.range n).map fun i=>((g i:Nat):Int)
theorem Aoo (n:Nat) (g:Nat->Nat):(gL n g).length=n:=by simp [gL]
theorem Yz {n i:Nat} {g:Nat->Nat} (h:i<n):(gL n g)[i]? = some ((g i:Nat):Int):=by
 rw [gL,List.getElem?_map,List.getElem?_range h]; rfl
theorem Avl {n a b:Nat} {g:Nat->Nat} (ha:a<n) (hb:b<n) (hne:b≠a):((gL n g).set a ((g b:Nat):Int)).set b ((g a:Nat):Int)=gL n (swG g a b):=by
 refine List.ext_getElem? fun j => ?_
 by_cases hj:j<n
 ·rw [Yz hj,List.getElem?_set,List.getElem?_set,List.length_set,Aoo,Yz hj,swG]
  by_cases h1:b=j
  ·subst h1
   rw [if_pos rfl,if_pos hb,if_neg hne,if_pos rfl]
  ·rw [if_neg h1]
   by_cases h2:a=j
   ·subst h2
    rw [if_pos rfl,if_pos ha,if_pos rfl]
   ·rw [if_neg h2,if_neg (fun e=>h2 e.symm),if_neg (fun e=>h1 e.symm)]
 ·rw [List.getElem?_eq_none (by simp [gL]; omega),List.getElem?_eq_none (by simp [gL]; omega)]
theorem B1e (p:List Nat):gL p.length (stp p)=nI6 p:=by
 apply List.ext_getElem (by simp [gL,nI6])
 intro i h1 h2
 have:i<p.length:=by simpa [nI6] using h2
 simp [gL,nI6,Lp this]
attribute [local irreducible] Res.all evC Dd Df Br Bh Dj Bd Bi G GO GV GP GC R
set_option maxHeartbeats 4000000 in
theorem A8m (p:List Nat) (hp:PermN p) (h1:1<=p.length) (h10:p.length<=10):Con T 3 39 [.ptr [Dv (nI6 p)] 0] (prV (exL p)):=by
 refine Bu t39 fun n hn V hV => ?_
 obtain ⟨n,rfl⟩:∃n',n=n'+1:=⟨n-1,by omega⟩
 have hl:=Gp p
 simp (disch:=first | assumption | omega) only [c39,go_sem,↓reduceIte]
 refine A6z (by omega) (by omega) fun key ver h0 hH hk0 hk1 hF0 hL0 => ?_
 simp only [Be,List.length_replicate] at hk0 hF0 hL0
 have hM0:MpF h0 80 0 (fun _=>none):=⟨0,[],[],by rw [hF0 80 (by omega)]; simp only [go_sem,↓reduceIte]; rfl,by simp,fun x v h=>by cases h⟩
 have hne80:key≠80:=by omega
 simp (disch:=first | assumption | omega) only [go_sem,↓reduceIte,hl]
 refine Da (fun M st=>∃k:Nat,M=p.length-k/\k<=p.length/\At st.env [(3,.omap 80 0),(4,.oslice key ver none 0 p.length none),(17,.oslice key ver none 0 p.length none),(18,.int .i64 p.length),(19,.int .i64 k)]/\Bb st.heap key = .cells ver ((nI6 p).map (.int .i64))/\80<=st.heap.length/\∃f,MpF st.heap 80 0 f/\∀j,j<k->f (stp p j)=some j) p.length (by omega)
  ⟨0,by omega,by omega,by simp only [go_sem,↓reduceIte,hl],hH,(show 80<=h0.length by omega),_,hM0,fun j hj=>by omega⟩ ?_
 clear hH hk1 hF0 hL0 hM0
 rintro M e h hM ⟨k,rfl,hk,hE,hH,hL,f,hf,hfj⟩ P hP
 simp only [Bp,Bx] at hE hH hL hf
 obtain ⟨f3,f4,f17,f18,f19,-⟩:=hE
 by_cases hlt:k<p.length
 ·have hlt':(k:Int)<(p.length:Int):=by omega
  have gk:(nI6 p)[k]? = some ((stp p k:Nat):Int):=by rw [A0g hlt,Lp hlt]
  obtain ⟨o,ho1,ho2⟩:=Adf hf (stp p k) k
  simp (disch:=first | assumption | omega) only [go_sem,↓reduceIte,f3,f4,f17,f18,f19,hlt',hlt,hH,gk,ho1]
  refine hP (p.length-(k+1)) _ (by omega) ⟨k+1,rfl,by omega,by simp only [go_sem,↓reduceIte,f3,f4,f17,f18],by rw [Ba _ _ _ _ (by omega)]; exact hH,by rw [Be]; omega,_,ho2,fun j hj => ?_⟩
  simp only [Uv]
  by_cases hjk:j=k
  ·subst hjk; rw [if_pos rfl]
  ·rw [if_neg (fun e=>hjk (A6m hp (by omega) hlt e))]
   exact hfj j (by omega)
 obtain rfl:k=p.length:=by omega
 have hlt':¬(p.length:Int)<(p.length:Int):=by omega
 have hG0:=Anp hp
 have hLie0:Vm p.length 0 (stp p) f:=fun j hj _=>hfj j hj
 rw [<-B1e] at hH
 have hex0:exI p 0=[]:=rfl
 have hexl:=Ahj hp
 simp (disch:=first | assumption | omega) only [go_sem,↓reduceIte,f3,f4,f18,f19,hlt']
 refine Da (fun M st=>∃(i:Nat) (x:AV) (g:Nat->Nat),M=p.length-i/\i<=p.length/\At st.env [(3,.omap 80 0),(4,.oslice key ver none 0 p.length none),(7,x),(30,.int .i64 p.length),(31,.int .i64 i)]/\Bb st.heap key = .cells ver ((gL p.length g).map (.int .i64))/\key+1<=st.heap.length/\OwnG (key+1) st.heap x (some 2) (exI p i).length (prC (exI p i))/\NowO p i g/\∃f,MpF st.heap 80 0 f/\Vm p.length i g f) p.length (by omega)
  ⟨0,.slice (some 2) [] true,stp p,by omega,by omega,by simp only [go_sem,↓reduceIte,f3,f4],hH,El hH (by simp),Vb ..,hG0,f,hf,hLie0⟩ ?_
 clear hH hL hf hfj hM hP P f3 f4 f17 f18 f19 hG0 hLie0 f hex0
 rintro M e h hM ⟨i,x,g,rfl,hi,hE,hH,hL,hO,hG,f,hf,hLie⟩ P hP
 simp only [Bp,Bx] at hE hH hL hO hf
 obtain ⟨f3,f4,f7,f30,f31,-⟩:=hE
 by_cases hlt:i<p.length
 ·have hlt':(i:Int)<(p.length:Int):=by omega
  have hes:=Aqs (p:=p) (i:=i)
  simp (disch:=first | assumption | omega) only [go_sem,↓reduceIte,f3,f4,f7,f30,f31,hlt']
  cases hm:Gb p i with
  | false =>
   obtain ⟨hgi,hG'⟩:=Anm hp hlt hm hG
   rw [hm,if_neg (by decide),List.append_nil] at hes
   have hfi:=Agv hlt hgi hLie
   have hlk:=A6n hf hfi (.int .i64 0)
   have eii:((i:Int) != (i:Int))=false:=by simp
   obtain ⟨o,ho1,ho2⟩:=Apc hf hfi
   refine Kf fun _ => ?_
   simp (disch:=first | assumption | omega) only [go_sem,↓reduceIte,f3,hlk,eii,f31,ho1]
   refine hP (p.length-(i+1)) _ (by omega) ⟨i+1,x,g,rfl,by omega,by simp only [go_sem,↓reduceIte,f3,f4,f7,f30],by rw [Ba _ _ _ _ (by omega)]; exact hH,by rw [Be]; omega,by rw [hes]; exact hO.setH (by omega),hG',_,ho2,Adu hLie fun y hy=>if_neg hy⟩
  | true =>
   rw [hm,if_pos rfl] at hes
   have hstart:=Akh hp hlt hm hG
   obtain ⟨hp0,hpn,_⟩:=Fk hp hlt
   refine Da (fun M st=>∃(k:Nat) (x:AV) (g:Nat->Nat),M=per p i-1-k/\k+1<=per p i/\At st.env [(3,.omap 80 0),(4,.oslice key ver none 0 p.length none),(7,x),(8,.int .i64 i),(30,.int .i64 p.length),(31,.int .i64 i)]/\Bb st.heap key = .cells ver ((gL p.length g).map (.int .i64))/\key+1<=st.heap.length/\OwnG (key+1) st.heap x (some 2) (exI p i++(exC (cyc p i)).take k).length (prC (exI p i++(exC (cyc p i)).take k))/\NowG p i k g/\∃f,MpF st.heap 80 0 f/\Vm p.length i g f) (per p i-1) (by omega)
    ⟨0,x,g,by omega,by omega,by simp only [go_sem,↓reduceIte,f3,f4,f7,f30,f31],hH,hL,by rw [List.take_zero,List.append_nil]; exact hO,hstart,f,hf,hLie⟩ ?_
   clear hH hL hO hG hstart hf hLie f3 f4 f7 f30 f31 f
   rintro M2 e h hM2 ⟨k,x,g,rfl,hk,hE,hH,hL,hO,hG,f,hf,hLie⟩ P2 hP2
   simp only [Bp,Bx] at hE hH hL hO hf
   obtain ⟨f3,f4,f7,f8,f30,f31,-⟩:=hE
   by_cases hkp:k+1<per p i
   ·obtain ⟨j,hfj,hji,hjl⟩:=Atc hp hlt hkp hG hLie
    obtain ⟨a1,a2,a3,a4⟩:=Ali hp hlt hkp hm hG
    have hlk:=A6n hf hfj (.int .i64 0)
    have eji:((j:Int) != (i:Int))=true:=by
     simp only [bne_iff_ne,ne_eq]
     omega
    have gi:=Yz (g:=g) hlt
    have hek:=Ass hp hlt hkp
    have hg0:=hG.at0
    have hls:=Arh hlt a3 a2 hG.inj hLie
    have hnl:(exI p i++(exC (cyc p i)).take k).length+1<=1000000:=by
     have e1:(exC (cyc p i)).length+1=per p i:=A6h (Uj p i)
     have e2:(exI p i).length<=(exL p).length:=by
      rw [<-Ags,exI,exI]
      obtain ⟨d,hd⟩:∃d,p.length=i+d:=⟨p.length-i,by omega⟩
      rw [hd,List.range_add,List.filter_append,List.flatMap_append,List.length_append]
      omega
     rw [List.length_append,List.length_take]
     omega
    rw [<-hg0] at hek
    have hpc:=Aqn (exI p i++(exC (cyc p i)).take k) i (g i)
    rw [List.append_assoc,<-hek] at hpc
    have hnl2:(exI p i++(exC (cyc p i)).take (k+1)).length=(exI p i++(exC (cyc p i)).take k).length+1:=by
     rw [hek,<-List.append_assoc,List.length_append]; rfl
    generalize hm0:g i=m at *
    have gm:=Yz (g:=g) a3
    simp (disch:=first | assumption | omega) only [go_sem,↓reduceIte,f3,f4,f7,f8,hlk,eji,hlt,hH,gi]
    refine Mh (lo:=key+1) (g:=some 2) (n:=(exI p i++(exC (cyc p i)).take k).length) (m:=1) (c2:=[.int .i64 (i:Nat),.int .i64 (m:Nat)]) (by first | with_reducible rfl | (simp only [Be,List.length_append,List.length_replicate]; done) | (simp only [Be,List.length_append,List.length_replicate]; omega)) hO (by decide) hL rfl rfl (by omega) (by omega) fun x' h' hO' hF hL' _ _ => ?_
    rw [<-hpc,<-hnl2] at hO'
    have hH':Bb h' key = .cells ver ((gL p.length g).map (.int .i64)):=by rw [hF key (by omega),hH]
    have n80:¬(80=key):=by omega
    have n81:¬(key=80):=by omega
    have hsw:=Avl (n:=p.length) (g:=g) hlt a3 a2
    have s1:((gL p.length g).map (AV.int .i64)).set i (.int .i64 ((g m:Nat):Int))=((gL p.length g).set i ((g m:Nat):Int)).map (.int .i64):=by rw [List.map_set]
    have s2:(((gL p.length g).set i ((g m:Nat):Int)).map (AV.int .i64)).set m (.int .i64 ((m:Nat):Int))=(gL p.length (swG g i m)).map (.int .i64):=by
     rw [<-hsw,hm0]
     simp only [List.map_set]
    have gi':(gL p.length (swG g i m))[i]? = some ((g m:Nat):Int):=by
     rw [Yz hlt]
     simp only [swG,if_true]
    have l1:i+1<=p.length:=by omega
    have l2:m+1<=p.length:=by omega
    have hfm:MpF (setH (setH h' key (.cells ver (((gL p.length g).set i ((g m:Nat):Int)).map (.int .i64)))) key (.cells ver ((gL p.length (swG g i m)).map (.int .i64)))) 80 0 f:=hf.other (by rw [Ba _ _ _ _ (by omega),Ba _ _ _ _ (by omega),hF 80 (by omega)])
    obtain ⟨o1,u1,u2⟩:=Adf hfm m m
    obtain ⟨o2,u3,u4⟩:=Adf u2 (g m) i
    simp (disch:=first | assumption | omega) only [go_sem,↓reduceIte,f3,f4,f8,hlt,a3,hH',gi,gm,Aoo,List.length_set,l1,l2,s1,s2,u1,n80,n81,gi',u3]
    refine hP2 (per p i-1-(k+1)) _ (by omega) ⟨k+1,x',swG g i m,rfl,by omega,by simp only [go_sem,↓reduceIte,f3,f4,f8,f30,f31],by rw [Ba _ _ _ _ (by omega),Ba _ _ _ _ (by omega),getH_setH_self],by simp only [Be]; omega,?_,a4,_,u4,hls⟩
    exact (((hO'.setH (by omega)).setH (by omega)).setH (by omega)).setH (by omega)
   ·have hke:k+1=per p i:=by omega
    obtain ⟨hgi,hG'⟩:=Aqo hp hlt hke hG
    rw [Aqy hke,<-hes] at hO
    have hfi:=Agv hlt hgi hLie
    have hlk:=A6n hf hfi (.int .i64 0)
    have eii:((i:Int) != (i:Int))=false:=by simp
    obtain ⟨o,ho1,ho2⟩:=Apc hf hfi
    simp (disch:=first | assumption | omega) only [go_sem,↓reduceIte,f3,f8,hlk,eii,f31,ho1]
    refine hP (p.length-(i+1)) _ (by omega) ⟨i+1,x,g,rfl,by omega,by simp only [go_sem,↓reduceIte,f3,f4,f7,f30],by rw [Ba _ _ _ _ (by omega)]; exact hH,by rw [Be]; omega,hO.setH (by omega),hG',_,ho2,Adu hLie fun y hy=>if_neg hy⟩
 obtain rfl:i=p.length:=by omega
 have hlt':¬(p.length:Int)<(p.length:Int):=by omega
 rw [Ags] at hO
 simp (disch:=first | assumption | omega) only [go_sem,↓reduceIte,f7,f30,f31,hlt']
 exact hV _ _ (B1l hO)
theorem A5g (p:List Nat) (hp:PermN p) (h1:1<=p.length) (h10:p.length<=10):Con T 12 10 [Dv (nI6 p)] (.tuple [prV (exL p),.int .i64 0]):=by
 refine Bu t10 fun n hn V hV => ?_
 have e0:((0:Int) != 0)=false:=rfl
 simp (disch:=first | assumption | omega) only [c10,go_sem,↓reduceIte]
 refine Do (A6x p hp h1 h10) (by omega) (Dm _ _ _ _ (Bz _)) rfl ?_
 simp (disch:=first | assumption | omega) only [go_sem,↓reduceIte,e0]
 refine Do (A8m p hp h1 h10) (by omega) (Bv (Eg _ _ _ _) (Bz _)) (by exact Bool.true_or _) ?_
 simp (disch:=first | assumption | omega) only [go_sem,↓reduceIte]
 exact hV _ _ (Ff (Ds _ _ _ _ _) (Bl _ _ _ _))
end Go.Ev.YtgehhippjhealaaGreatC
namespace Go.Ev.YtgehhippjhealaaGreatC
open Go Go.Proofs
theorem Axi {p:List Nat} (hp:PermN p) {c:List Nat} (hc:c∈Et p):1<=c.length/\c.length<=p.length:=by
 obtain ⟨i,hi,rfl⟩:=List.mem_map.1 hc
 have h1:=(Ho.1 hi).1
 exact ⟨Uj p i,A3r hp h1⟩
theorem Ase {p:List Nat}:(Et p).length<=p.length:=by
 have:(Ry p).length<=(List.range p.length).length:=List.length_filter_le _ _
 rw [List.length_range] at this
 rw [Et,List.length_map]
 exact this
attribute [local irreducible] Res.all evC Dd Df Br Bh Dj Bd Bi G GO GV GP GC R
end Go.Ev.YtgehhippjhealaaGreatC
