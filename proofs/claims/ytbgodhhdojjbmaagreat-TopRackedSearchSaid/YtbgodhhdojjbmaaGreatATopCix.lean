/- Entries of the works' calls that are proved by walks. How many links lead from a note, summed over a map of links; a table that is built row by row. How many closed tunes begin with one of the slurs, as the program reckons it: the product of the orders at each note, times a determinant. The number of closed tunes of the example of layer 4. No condition but those that stand in each. -/
import Derived.Test.YtbgodhhdojjbmaaGreatATopW
import Derived.Test.YtbgodhhdojjbmaaGreatATopGmp
set_option linter.unusedSimpArgs false
set_option linter.unusedVariables false
set_option maxRecDepth 100000
namespace Go.Ev.YtbgodhhdojjbmaaGreatC
open Go Go.Proofs
def wDy31:AnsY:=⟨376,[(.ptr [wN 3,(.slice (some 2) [.agg [wN 0,wN 1],.agg [wN 1,wN 2],.agg [wN 2,wN 0],.agg [wN 0,wN 2],.agg [wN 2,wN 0]] false),wN 0,wN 0,wN 0,wN 0,wN 0,wN 0,wN 0,wN 0,wI [0,0,0,0,0] false] 0)],wN 2,false⟩
def Gl (es:List (Nat×Nat)):List (Nat×Nat):=es.filter fun q => !(q.1==q.2)
theorem LM.noLoops {es:List (Nat×Nat)} {E:List LE} {c:Nat} (h:LM es E c):LM (Gl es) (E.filter fun t => !Fb t) c where
 nd:=List.Nodup.sublist (List.Sublist.map _ List.filter_sublist) h.nd
 cnt:=fun t ht=>by
  obtain ⟨h1,h2⟩:=List.mem_filter.1 ht
  rw [h.cnt t h1,Gl,List.count_filter]
  simpa [Fb] using h2
 mem:=fun q hq=>by
  obtain ⟨h1,h2⟩:=List.mem_filter.1 hq
  obtain ⟨t,ht,rfl⟩:=List.mem_map.1 (h.mem q h1)
  exact List.mem_map_of_mem (f:=fun t:LE=>t.1) (List.mem_filter.2 ⟨ht,by simpa [Fb] using h2⟩)
 sub:=fun t ht=>by
  obtain ⟨h1,h2⟩:=List.mem_filter.1 ht
  exact List.mem_filter.2 ⟨h.sub t h1,by simpa [Fb] using h2⟩
 bn:=List.Nodup.sublist (List.Sublist.map _ List.filter_sublist) h.bn
 bc:=fun t ht=>h.bc t (List.mem_filter.1 ht).1
def Hd:List LE->(LE->Nat)->Nat
 | [],_=>0
 | t::r,f=>f t+Hd r f
theorem Sy (A B:List LE) (f:LE->Nat):Hd (A++B) f=Hd A f+Hd B f:=by
 induction A with
 | nil=>simp [Hd]
 | cons a r ih=>simp only [List.cons_append,Hd,ih]; omega
theorem Ll {E:List LE} {f g:LE->Nat} (h:∀t∈E,f t=g t):Hd E f=Hd E g:=by
 induction E with
 | nil=>rfl
 | cons a r ih=>simp only [Hd,h a List.mem_cons_self,ih fun t ht=>h t (List.mem_cons_of_mem _ ht)]
theorem Aus {E:List LE} {f g:LE->Nat} (h:∀t∈E,f t<=g t):Hd E f<=Hd E g:=by
 induction E with
 | nil=>exact Nat.le_refl _
 | cons a r ih =>
  have h1:=h a List.mem_cons_self
  have h2:=ih fun t ht=>h t (List.mem_cons_of_mem _ ht)
  simp only [Hd]; omega
def SW (E:List LE) (seen:List Nat) (x:Nat):Nat:=Hd E fun t=>if t.2.2∈seen/\t.1.1=x then t.2.1 else 0
theorem Avp (E:List LE) (x:Nat):SW E [] x=0:=by
 unfold SW
 induction E with
 | nil=>rfl
 | cons a r ih=>simp only [Hd,ih]; simp
theorem Aqo {E:List LE} {seen:List Nat} {t:LE} (hn:(eB E).Nodup) (ht:t∈E) (hs:t.2.2∉seen) (x:Nat):SW E (seen++[t.2.2]) x=SW E seen x+if t.1.1=x then t.2.1 else 0:=by
 obtain ⟨A,B,rfl⟩:=List.append_of_mem ht
 simp only [eB,List.map_append,List.map_cons] at hn
 rw [List.nodup_append] at hn
 obtain ⟨n1,n2,n3⟩:=hn
 unfold SW
 rw [Sy,Sy]
 simp only [Hd]
 have hA:Hd A (fun u=>if u.2.2∈seen++[t.2.2]/\u.1.1=x then u.2.1 else 0)=Hd A fun u=>if u.2.2∈seen/\u.1.1=x then u.2.1 else 0:=Ll fun u hu=>by
  have:u.2.2≠t.2.2:=fun e=>n3 _ (List.mem_map_of_mem (f:=fun t:LE=>t.2.2) hu) _ List.mem_cons_self e
  simp [this]
 have hB:Hd B (fun u=>if u.2.2∈seen++[t.2.2]/\u.1.1=x then u.2.1 else 0)=Hd B fun u=>if u.2.2∈seen/\u.1.1=x then u.2.1 else 0:=Ll fun u hu=>by
  have:u.2.2≠t.2.2:=fun e=>(List.nodup_cons.1 n2).1 (e ▸ List.mem_map_of_mem (f:=fun t:LE=>t.2.2) hu)
  simp [this]
 rw [hA,hB]
 simp only [List.mem_append,List.mem_singleton,or_true,true_and,hs,false_and,if_false]
 omega
theorem Xh (P:Nat->Bool):∀(p:List (Nat×Nat)) (E:List LE),(E.map (·.1)).Nodup->(∀q∈p,q∈E.map (·.1))->Hd E (fun t=>if P t.1.1=true then p.count t.1 else 0)=p.countP fun q=>P q.1
 | [],E,_,_=>by
  simp only [List.count_nil,ite_self,List.countP_nil]
  induction E with
  | nil=>rfl
  | cons a r ih=>simp only [Hd,Nat.zero_add]; exact ih (by simp_all) (by simp)
 | q::p,E,hn,hm=>by
  have ih:=Xh P p E hn fun r hr=>hm r (List.mem_cons_of_mem _ hr)
  rw [List.countP_cons,<-ih]
  obtain ⟨t,ht,rfl⟩:=List.mem_map.1 (hm q List.mem_cons_self)
  obtain ⟨A,B,rfl⟩:=List.append_of_mem ht
  rw [List.map_append,List.map_cons,List.nodup_append] at hn
  obtain ⟨n1,n2,n3⟩:=hn
  have hA:∀u∈A,t.1≠u.1:=fun u hu e=>n3 _ (List.mem_map_of_mem (f:=fun t:LE=>t.1) hu) _ List.mem_cons_self e.symm
  have hB:∀u∈B,t.1≠u.1:=fun u hu e=>(List.nodup_cons.1 n2).1 (e ▸ List.mem_map_of_mem (f:=fun t:LE=>t.1) hu)
  rw [Sy,Sy]
  simp only [Hd]
  rw [Ll (E:=A) (g:=fun u=>if P u.1.1=true then p.count u.1 else 0) fun u hu=>by rw [List.count_cons_of_ne (hA u hu)],
   Ll (E:=B) (g:=fun u=>if P u.1.1=true then p.count u.1 else 0) fun u hu=>by rw [List.count_cons_of_ne (hB u hu)]]
  rw [List.count_cons_self]
  split <;> omega
theorem Avo {p:List (Nat×Nat)} {E:List LE} {c:Nat} (h:LM p E c) {seen:List Nat} (hs:∀t∈E,t.2.2∈seen) (x:Nat):SW E seen x=p.countP fun q=>q.1==x:=by
 rw [<-Xh (fun v=>v==x) p E h.nd h.mem]
 refine Ll fun t ht => ?_
 simp only [hs t ht,true_and,beq_iff_eq,h.cnt t ht]
theorem B1f {p:List (Nat×Nat)} {E:List LE} {c:Nat} (h:LM p E c) (seen:List Nat) (x:Nat):SW E seen x<=p.length:=by
 refine Nat.le_trans (Aus (g:=fun t=>if (t.1.1==x)=true then p.count t.1 else 0) fun t ht => ?_) ?_
 ·simp only [beq_iff_eq,h.cnt t ht]
  split <;> split <;> simp_all
 ·rw [Xh (fun v=>v==x) p E h.nd h.mem]
  exact List.countP_le_length
structure TabB (h:Bc) (kt K m i:Nat) (F:Nat->Nat->Int):Prop where
 tab:Bb h kt = .cells 0 ((List.range m).map fun a=>if a<i then .oslice (K+2*a) 0 none 0 m (some m) else .slice none [] true)
 row:∀a,a<i->Bb h (K+2*a) = .cells 0 ((List.range m).map fun b => .int .i64 (F a b))
theorem TabB.done {h:Bc} {kt K m:Nat} {F:Nat->Nat->Int} (ht:TabB h kt K m m F) (hk:kt<K):TabAt h kt m (fun a=>K+2*a) F where
 tab:=by
  rw [ht.tab]
  congr 1
  apply List.map_congr_left
  intro a ha
  rw [if_pos (by simpa using ha)]
 row:=ht.row
 inj:=fun a b _ _ h=>by omega
 ne:=fun a _=>by omega
theorem TabB.other {h h':Bc} {kt K m i:Nat} {F:Nat->Nat->Int} (ht:TabB h kt K m i F) (h1:Bb h' kt=Bb h kt) (h2:∀a,a<i->Bb h' (K+2*a)=Bb h (K+2*a)):TabB h' kt K m i F where
 tab:=by rw [h1,ht.tab]
 row:=fun a ha=>by rw [h2 a ha,ht.row a ha]
theorem TabB.ldt {h:Bc} {kt K m i:Nat} {F:Nat->Nat->Int} (ht:TabB h kt K m i F) {a:Nat} (ha:a<i) (hm:a<m):ldA none h (.optr kt 0 a) = .ret (.oslice (K+2*a) 0 none 0 m (some m)):=by
 simp only [ldA,ht.tab,if_true,Sp m a _ hm,if_pos ha]
theorem TabB.ldr {h:Bc} {kt K m i:Nat} {F:Nat->Nat->Int} (ht:TabB h kt K m i F) {a b:Nat} (ha:a<i) (hb:b<m):ldA none h (.optr (K+2*a) 0 b) = .ret (.int .i64 (F a b)):=by
 simp only [ldA,ht.row a ha,if_true,Sp m b _ hb]
theorem TabB.congr {h:Bc} {kt K m i:Nat} {F G:Nat->Nat->Int} (ht:TabB h kt K m i F) (hg:∀a b,a<i->b<m->F a b=G a b):TabB h kt K m i G where
 tab:=ht.tab
 row:=fun a ha=>by
  rw [ht.row a ha]
  congr 1
  apply List.map_congr_left
  intro b hb
  rw [hg a b ha (by simpa using hb)]
theorem TabB.upd {h:Bc} {kt K m i:Nat} {F:Nat->Nat->Int} (ht:TabB h kt K m i F) (hk:kt<K) {a j:Nat} (ha:a<i) (v:Int) :
  TabB (setH h (K+2*a) (.cells 0 (((List.range m).map fun b=>AV.int .i64 (F a b)).set j (.int .i64 v)))) kt K m i (fun a' b=>if a'=a/\b=j then v else F a' b) where
 tab:=by rw [Ba _ _ _ _ (by omega)]; exact ht.tab
 row:=fun a' ha'=>by
  by_cases hai:a'=a
  ·subst hai
   rw [getH_setH_self,Qe]
   congr 1
   apply List.map_congr_left
   intro b hb
   simp only [true_and]
   split <;> rfl
  ·rw [Ba _ _ _ _ (by omega),ht.row a' ha']
   congr 1
   apply List.map_congr_left
   intro b hb
   rw [if_neg (fun h=>hai h.1)]
theorem TabB.add {h h':Bc} {kt K m i:Nat} {F:Nat->Nat->Int} (ht:TabB h kt K m i F) (hi:i<m) (h1:Bb h' kt = .cells 0 (((List.range m).map fun a=>if a<i then AV.oslice (K+2*a) 0 none 0 m (some m) else .slice none [] true).set i (.oslice (K+2*i) 0 none 0 m (some m))))
  (h2:∀a,a<i->Bb h' (K+2*a)=Bb h (K+2*a)) (h3:Bb h' (K+2*i) = .cells 0 ((List.range m).map fun _ => .int .i64 0)):TabB h' kt K m (i+1) (fun a b=>if a<i then F a b else 0) where
 tab:=by
  rw [h1,Qe]
  congr 1
  apply List.map_congr_left
  intro a _
  by_cases ha:a=i
  ·subst ha; rw [if_pos rfl,if_pos (by omega)]
  ·rw [if_neg ha]
   by_cases ha2:a<i
   ·rw [if_pos ha2,if_pos (by omega)]
   ·rw [if_neg ha2,if_neg (by omega)]
 row:=fun a ha=>by
  by_cases hai:a<i
  ·rw [h2 a hai,ht.row a hai]
   congr 1
   apply List.map_congr_left
   intro b _
   rw [if_pos hai]
  ·obtain rfl:a=i:=by omega
   rw [h3]
   congr 1
   apply List.map_congr_left
   intro b _
   rw [if_neg (by omega)]
theorem A6v (m:Nat) (v:AV):(List.replicate m [v]).flatten=(List.range m).map fun _=>v:=by
 apply List.ext_getElem?
 intro i
 have h1:(List.replicate m [v]).flatten=List.replicate m v:=by
  induction m with
  | zero=>rfl
  | succ m ih=>simp [List.replicate_succ,ih]
 rw [h1]
 by_cases hi:i<m
 ·rw [Hj m i _ hi,List.getElem?_replicate,if_pos hi]
 ·rw [List.getElem?_eq_none (by simp; omega),List.getElem?_eq_none (by simp; omega)]
end Go.Ev.YtbgodhhdojjbmaaGreatC
namespace Go.Ev.YtbgodhhdojjbmaaGreatC
open Go Go.Proofs
attribute [local irreducible] Res.all evC Do Dr Bv Bd Dw Bg Bj G GO GV GP GC R
theorem Awv {call:Bf} {base:Nat} {Q:EX×St->Prop} {c:IC} {ks:List Kont} {goal:Prop} (I:Env->Bc->Prop) (main:(∀e h,I e h->G call base Q c ks ⟨e,h⟩)->goal) (key:∀e h,I e h->G call base Q c ks ⟨e,h⟩):goal:=main key
def Ip (es:List (Nat×Nat)) (v:Nat):Nat:=es.countP fun q=>q.1==v
def fct:Nat->Nat
 | 0=>1
 | n+1=>(n+1)*fct n
def Sq (es:List (Nat×Nat)):Nat:=(es.headD (0,0)).1
def cl (es:List (Nat×Nat)):List Nat:=(List.range 8).filter fun v=>decide (0<Ip es v)&&v != Sq es
def nfU (es:List (Nat×Nat)):Nat->Nat
 | 0=>1
 | v+1=>nfU es v*fct (Ip es v-1)
def nf (es:List (Nat×Nat)):Nat:=nfU es 8
def tbE (es:List (Nat×Nat)) (x y:Nat):Int:=(if x=y then (((Gl es).countP fun q=>q.1==x:Nat):Int) else 0)-(((Gl es).count (x,y):Nat):Int)
theorem Acp (es:List (Nat×Nat)) (v:Nat):Ip es v<=es.length:=List.countP_le_length
def frC (p:List (Nat×Nat)):List AV:=(List.range 8).map fun v => .int .i64 (Ip p v:Nat)
theorem Xt (p:List (Nat×Nat)):(frC p).length=8:=by simp [frC]
theorem Aby (p:List (Nat×Nat)) {v:Nat} (hv:v<8):(frC p)[v]? = some (.int .i64 (Ip p v:Nat)):=Hj 8 v _ hv
theorem Ark (p:List (Nat×Nat)) (q:Nat×Nat):(frC p).set q.1 (.int .i64 ((Ip p q.1:Nat)+1))=frC (p++[q]):=by
 unfold frC
 rw [Qe]
 apply List.map_congr_left
 intro v _
 simp only [Ip,List.countP_append,List.countP_singleton,beq_iff_eq]
 split
 ·next he=>subst he; simp
 ·next he=>rw [if_neg (fun h=>he h.symm)]; simp
theorem Akw (p:List (Nat×Nat)):(frC p).take 8=frC p:=List.take_of_length_le (by rw [Xt]; exact Nat.le_refl _)
theorem Abx:∀n,0<fct n
 | 0=>by decide
 | n+1=>Nat.mul_pos (by omega) (Abx n)
theorem A6r {a b:Nat} (h:a<=b):fct a<=fct b:=by
 induction h with
 | refl=>exact Nat.le_refl _
 | step _ ih=>exact Nat.le_trans ih (by simp only [fct]; exact Nat.le_mul_of_pos_left _ (by omega))
theorem A2g (a:Nat):∀b,fct a*fct b<=fct (a+b)
 | 0=>by simp [fct]
 | b+1=>by
  have ih:=A2g a b
  have h1:fct a*fct (b+1)=(b+1)*(fct a*fct b):=by simp only [fct]; rw [Nat.mul_left_comm]
  rw [h1,<-Nat.add_assoc]
  exact Nat.mul_le_mul (by omega) ih
def A7l (es:List (Nat×Nat)) (v:Nat):Nat:=es.countP fun q=>decide (q.1<v)
theorem A4o (es:List (Nat×Nat)) (v:Nat):A7l es (v+1)=A7l es v+Ip es v:=by
 induction es with
 | nil=>rfl
 | cons q r ih =>
  simp only [A7l,Ip,List.countP_cons] at ih ⊢
  rw [ih]
  by_cases h1:q.1<v
  ·have h2:¬q.1=v:=by omega
   have h3:q.1<v+1:=by omega
   simp [h1,h2,h3]; omega
  ·by_cases h2:q.1=v
   ·simp [h2]; omega
   ·have h3:¬q.1<v+1:=by omega
    simp [h1,h2,h3]
theorem Aik (es:List (Nat×Nat)):∀v,nfU es v<=fct (A7l es v)
 | 0=>by simp only [nfU]; exact Abx _
 | v+1=>by
  simp only [nfU]
  refine Nat.le_trans (Nat.mul_le_mul_right _ (Aik es v)) (Nat.le_trans (A2g _ _) (A6r ?_))
  rw [A4o]; omega
theorem Axp (es:List (Nat×Nat)) (hl:es.length<=15) (v j:Nat) (hj:j<=Ip es v):nfU es v*fct j<=1307674368000:=by
 refine Nat.le_trans (Nat.mul_le_mul_right _ (Aik es v)) (Nat.le_trans (A2g _ _) (Nat.le_trans (A6r (b:=15) ?_) (by decide)))
 have h1:=A4o es v
 have h2:A7l es (v+1)<=es.length:=List.countP_le_length
 omega
def clU (es:List (Nat×Nat)) (v:Nat):List Nat:=(List.range v).filter fun v=>decide (0<Ip es v)&&v != Sq es
theorem Ajz (es:List (Nat×Nat)) (v:Nat):clU es (v+1)=clU es v++if 0<Ip es v/\v≠Sq es then [v] else []:=by
 simp only [clU,List.range_succ,List.filter_append]
 congr 1
 by_cases h:0<Ip es v/\v≠Sq es
 ·rw [if_pos h]; simp [List.filter_cons,h.1,h.2]
 ·rw [if_neg h]
  by_cases h1:0<Ip es v
  ·have:v=Sq es:=by
    apply Classical.byContradiction
    exact fun hc=>h ⟨h1,hc⟩
   simp [List.filter_cons,h1,this]
  ·simp [List.filter_cons,h1]
def nI4 (l:List Nat):List Int:=l.map fun (x:Nat)=>(x:Int)
theorem Abs (es:List (Nat×Nat)) (v:Nat):(clU es v).length<=v:=by
 have:=List.length_filter_le (fun v=>decide (0<Ip es v)&&v != Sq es) (List.range v)
 simpa [clU] using this
def stP (N:Int) (es:List (Nat×Nat)) (rest:List AV):AV:=.ptr (.int .i64 N :: .slice (some 2) (es.map edA) false::rest) 0
theorem Awf (A B:List LE) (q:Nat×Nat) (n b:Nat):(eK (A++(q,n,b)::B)).set A.length (edA q)=eK (A++(q,n,b)::B):=by
 simp only [eK,List.map_append,List.map_cons]
 rw [List.set_append_right _ _ (by simp)]
 simp
theorem Awi (A B:List LE) (q:Nat×Nat) (n b n':Nat):(eV (A++(q,n,b)::B)).set A.length (.int .i64 n')=eV (A++(q,n',b)::B):=by
 simp only [eV,List.map_append,List.map_cons]
 rw [List.set_append_right _ _ (by simp)]
 simp
theorem Awg (A B:List LE) (q:Nat×Nat) (n b:Nat):(eV (A++(q,n,b)::B))[A.length]? = some (.int .i64 n):=by
 simp only [eV,List.map_append,List.map_cons]
 rw [List.getElem?_append_right (by simp)]
 simp
theorem Awd (A B:List LE) (q:Nat×Nat) (n b:Nat):(eB (A++(q,n,b)::B))[A.length]? = some b:=by
 simp only [eB,List.map_append,List.map_cons]
 rw [List.getElem?_append_right (by simp)]
 simp
theorem Aqy (A B:List LE) (q:Nat×Nat) (n b:Nat) (h:b∉eB A):Ji b (eB (A++(q,n,b)::B)) 0=some A.length:=by
 have:=Wb b (eB B) (eB A) 0 h
 simp only [eB,List.map_append,List.map_cons] at this ⊢
 rw [this]
 simp
theorem Akn (E:List LE) (c:Nat) (h:∀t∈E,t.2.2<c):Ji c (eB E++[c]) 0=some E.length:=by
 have:=Wb c [] (eB E) 0 (fun hm=>by
  obtain ⟨t,ht,he⟩:=List.mem_map.1 hm
  have:=h t ht
  omega)
 rw [this]
 simp [eB]
theorem Aqz (E:List LE) (v w:AV):(eV E++[v]).set E.length w=eV E++[w]:=by
 rw [List.set_append_right _ _ (by simp [eV])]
 simp [eV]
theorem Awe (E:List LE):(eK E).length=E.length:=by simp [eK]
theorem Awh (E:List LE):(eV E).length=E.length:=by simp [eV]
set_option maxHeartbeats 4000000 in
theorem Ajy (N:Int) (es:List (Nat×Nat)) (rest:List AV) (h0:es≠[]) (hl:es.length<=15) (hn:∀q∈es,q.1<8/\q.2<8) {X:Nat->Nat->Nat->Int} {L:Nat->Int} (hX:Bar (cl es).length X L)
  (hX0:∀a b,a<(cl es).length->b<(cl es).length->X 0 a b=tbE es ((cl es).getD a 0) ((cl es).getD b 0)) (hb1 : -9223372036854775808<=(nf es:Int)*L (cl es).length) (hb2:(nf es:Int)*L (cl es).length<=9223372036854775807) :
  Con T 3 376 [stP N es rest] (.int .i64 ((nf es:Int)*L (cl es).length)):=by
 refine Dd t376 fun n hn2 V hV => ?_
 obtain ⟨n,rfl⟩:∃n',n=n'+1:=⟨n-1,by omega⟩
 simp (disch:=first | assumption | omega) only [c376,stP,go_sem,↓reduceIte,Bw,List.length_map]
 refine Dm (fun M st=>∃(i:Nat) (E:List LE) (c:Nat),M=es.length-i/\i<=es.length/\LM (es.take i) E c/\At st.env [(0,stP N es rest),(3,.omap 157 0),(4,.optr 4 0 0),(25,.slice (some 2) (es.map edA) false),(26,.int .i64 es.length),(27,.int .i64 i)]/\
   Bb st.heap 157 = .map 0 c (eK E) (eV E) (eB E)/\Bb st.heap 4 = .cells 0 (frC (es.take i))/\st.heap.length=158) es.length (by omega)
  ⟨0,[],0,by omega,by omega,.nil,by simp only [go_sem,↓reduceIte,stP],by simp only [go_sem,↓reduceIte]; rfl,by simp only [go_sem,↓reduceIte]; rfl,by simp only [Bh,List.length_replicate]; omega⟩ ?_
 rintro M e h hM ⟨i,E,c,rfl,hi,hLM,hE,gM,g4,hl8⟩ P hP
 simp only [Bz,Dc] at hE gM g4 hl8
 obtain ⟨f0,f3,f4,f25,f26,f27,-⟩:=hE
 by_cases hlt:i<es.length
 ·have hq:=hn _ (List.getElem_mem hlt)
  have hget:(es.map edA)[i]? = some (edA es[i]):=by rw [List.getElem?_map,List.getElem?_eq_getElem hlt]; rfl
  have hsplice:∀cs:List AV,cs.length=2->Dk cs 0 (edA es[i]).cells=(edA es[i]).cells:=fun cs hcs=>Qw _ _ hcs
  generalize hqd:es[i]=q at *
  obtain ⟨qa,qb⟩:=q
  simp only at hq
  have hlk:=Aib hLM (qa,qb)
  have hcn:(es.take i).count (qa,qb)<=15:=Nat.le_trans List.count_le_length (by rw [List.length_take]; omega)
  have htk:es.take (i+1)=es.take i++[(qa,qb)]:=by rw [List.take_succ_eq_append_getElem hlt,hqd]
  have hr4:=Aby (es.take i) hq.1
  have hs4:=Ark (es.take i) (qa,qb)
  simp only at hr4 hs4
  have ho4:Ip (es.take i) qa<=15:=Nat.le_trans (Acp _ _) (by rw [List.length_take]; omega)
  have hq1:=hq.1
  have hq2:qa+1<=8:=by omega
  simp only [edA] at hlk
  by_cases hin:(qa,qb)∈E.map (·.1)
  ·obtain ⟨A,m,b,B,rfl,hA,hB,hbA,hbB,rfl⟩:=hLM.split hin
   have hfk:=Hy (qa,qb) ((qa,qb),(es.take i).count (qa,qb),b) B rfl A 0 hA
   have hks:=Awf A B (qa,qb) ((es.take i).count (qa,qb)) b
   have hvs:=Awi A B (qa,qb) ((es.take i).count (qa,qb)) b ((es.take i).count (qa,qb)+1)
   simp only [edA,Nat.zero_add] at hfk hks
   have hvs':(eV (A++((qa,qb),(es.take i).count (qa,qb),b)::B)).set A.length (.int .i64 (((es.take i).count (qa,qb):Nat)+1))=eV (A++((qa,qb),(es.take i).count (qa,qb)+1,b)::B):=by rw [<-hvs]; simp
   have hko:Ei (some 2) (.agg [.int .i64 (qa:Int),.int .i64 (qb:Int)])=true:=rfl
   simp (disch:=first | assumption | omega) only [go_sem,↓reduceIte,Bw,f0,f3,f4,f25,f26,f27,hlt,hget,edA,Gb,gM,hlk,hfk,hko,Awg,Awd,hks,hvs',Aqy _ _ _ _ _ hbA,g4,hq1,hq2,hr4,hs4,Xt]
   refine hP (es.length-(i+1)) _ (by omega) ⟨i+1,_,c,rfl,by omega,htk ▸ hLM.old hA hB,by simp only [go_sem,↓reduceIte,f0,f3,f4,f25,f26,f27],by simp only [go_sem,↓reduceIte]; simp only [eK,eB,List.map_append,List.map_cons],by simp only [go_sem,↓reduceIte,htk],by simp only [Bh,hl8]; omega⟩
  ·have hfk:=Lo (qa,qb) E 0 hin
   simp only [edA] at hfk
   have hc0:(es.take i).count (qa,qb)=0:=List.count_eq_zero.2 fun hm=>hin (hLM.mem _ hm)
   rw [hc0] at hlk
   have hko:Ei (some 2) (.agg [.int .i64 (qa:Int),.int .i64 (qb:Int)])=true:=rfl
   have hk1:eK E++[AV.agg [.int .i64 (qa:Int),.int .i64 (qb:Int)]]=eK (E++[((qa,qb),1,c)]):=by simp [eK,edA]
   have hv1:eV E++[AV.int .i64 1]=eV (E++[((qa,qb),1,c)]):=by simp [eV]
   have hb1:eB E++[c]=eB (E++[((qa,qb),1,c)]):=by simp [eB]
   have hfb:=Akn E c hLM.bc
   simp (disch:=first | assumption | omega) only [go_sem,↓reduceIte,Bw,f0,f3,f4,f25,f26,f27,hlt,hget,edA,Gb,gM,hlk,hfk,hko,hfb,Awe,Awh,Aqz,g4,hq1,hq2,hr4,hs4,Xt]
   rw [hk1,hv1,hb1]
   refine hP (es.length-(i+1)) _ (by omega) ⟨i+1,_,c+1,rfl,by omega,htk ▸ hLM.new hin,by simp only [go_sem,↓reduceIte,f0,f3,f4,f25,f26,f27],by simp only [go_sem,↓reduceIte],by simp only [go_sem,↓reduceIte,htk],by simp only [Bh,hl8]; omega⟩
 ·obtain rfl:i=es.length:=by omega
  rw [List.take_length] at hLM g4
  have hEl:E.length<=15:=by
   have:=List.Nodup.length_le_of_subset hLM.nd (fun q hq=>by
    obtain ⟨t,ht,rfl⟩:=List.mem_map.1 hq
    exact hLM.sub t ht)
   rw [List.length_map] at this
   omega
  have gN:Bb h 158 = .none:=Eh _ _ (by omega)
  have hrg:rgA h (.omap 157 0) = .ret (.iter 158 0,setH h 158 (.iter 0 157 0 c [] c)):=by
   simp only [rgA,gM,hl8,gN,next_none,if_true]
  simp (disch:=first | assumption | omega) only [go_sem,↓reduceIte,Bw,f0,f3,f4,f25,f26,f27,hlt,hrg]
  refine Dm (fun M st=>∃seen:List Nat,M=(E.filter fun t => !seen.contains t.2.2).length/\At st.env [(0,stP N es rest),(3,.omap 157 0),(4,.optr 4 0 0),(49,.iter 158 0)]/\
    Bb st.heap 157 = .map 0 c (eK (E.filter (Fd seen))) (eV (E.filter (Fd seen))) (eB (E.filter (Fd seen)))/\Bb st.heap 4 = .cells 0 (frC es)/\Bb st.heap 158 = .iter 0 157 0 c seen c/\st.heap.length=159) E.length (by omega)
   ⟨[],by rw [List.filter_eq_self.2 (by simp)],by simp only [go_sem,↓reduceIte,f0,f3,f4],by simp only [go_sem,↓reduceIte,A7g,gM],by simp only [go_sem,↓reduceIte,g4],by simp only [go_sem,↓reduceIte],by simp only [Bh,hl8]; omega⟩ ?_
  rintro M e2 h2 hM2 ⟨seen,rfl,hE2,gM2,g42,gI,hl9⟩ P2 hP2
  simp only [Bz,Dc] at hE2 gM2 g42 gI hl9
  obtain ⟨f0,f3,f4,f49,-⟩:=hE2
  have hbc:∀t∈E.filter (Fd seen),t.2.2<c:=fun t ht=>hLM.bc t ((List.mem_filter.1 ht).1)
  simp (disch:=first | assumption | omega) only [go_sem,↓reduceIte,Bw,f49]
  refine Id gI gM2 hbc (fun hall => ?_) (fun t ht hnt => ?_)
  ·have hEn:E.filter (Fd seen)=E.filter fun t => !Fb t:=by
    apply List.filter_congr
    intro t ht
    simp only [Fd]
    by_cases h1:Fb t=true
    ·by_cases h2:t.2.2∈seen
     ·simp [h1,h2]
     ·exfalso
      exact h2 (hall t (List.mem_filter.2 ⟨ht,by simp [Fd,h2]⟩))
    ·simp [h1]
   have hLM':LM (Gl es) (E.filter (Fd seen)) c:=by rw [hEn]; exact hLM.noLoops
   clear hEn
   have hEl':(E.filter (Fd seen)).length<=15:=Nat.le_trans (List.length_filter_le _ _) hEl
   generalize E.filter (Fd seen)=E' at *
   clear hall hEl gM g4 hl8 gI hM2 hP2 hrg gN hLM
   obtain ⟨⟨ra,rb⟩,er,rfl⟩:∃q r,es=q::r:=by
    cases es with
    | nil=>exact absurd rfl h0
    | cons q r=>exact ⟨q,r,rfl⟩
   simp (disch:=first | assumption | omega) only [go_sem,↓reduceIte,Bw,f0,f3,f4,f49,g42,Xt,Akw]
   refine Dm (fun M st=>∃(v:Nat) (x:AV),M=8-v/\v<=8/\At st.env [(0,stP N ((ra,rb)::er) rest),(3,.omap 157 0),(8,x),(9,.int .i64 ((nfU ((ra,rb)::er) v:Nat):Int)),(61,.agg (frC ((ra,rb)::er))),(62,.int .i64 v)]/\
     Bb st.heap 157 = .map 0 c (eK E') (eV E') (eB E')/\Own 159 st.heap x .i64 (nI4 (clU ((ra,rb)::er) v))/\159<=st.heap.length) 8 (by omega)
    ⟨0,.slice none [] true,by omega,by omega,by simp only [go_sem,↓reduceIte,f0,f3]; rfl,by simp only [go_sem,↓reduceIte,gM2],Il ..,by show 159<=h2.length; omega⟩ ?_
   rintro M e3 h3 hM3 ⟨v,x,rfl,hv,hE3,gM3,hO,hl3⟩ P3 hP3
   simp only [Bz,Dc] at hE3 gM3 hO hl3
   obtain ⟨f0,f3,f8,f9,f61,f62,-⟩:=hE3
   by_cases hlt:v<8
   ·have hg61:=Aby ((ra,rb)::er) hlt
    have hcs:=Ajz ((ra,rb)::er) v
    have hlen:=Abs ((ra,rb)::er) v
    have hbox:=Axp ((ra,rb)::er) hl v
    have hnU:nfU ((ra,rb)::er) (v+1)=nfU ((ra,rb)::er) v*fct (Ip ((ra,rb)::er) v-1):=rfl
    have hroot:Sq ((ra,rb)::er)=ra:=rfl
    rw [hroot] at hcs
    have hod:=Acp ((ra,rb)::er) v
    obtain ⟨d,hd⟩:∃d,Ip ((ra,rb)::er) v=d:=⟨_,rfl⟩
    rw [hd] at hg61 hcs hbox hnU hod
    have hlt8:decide ((v:Int)<8)=true:=by simp; omega
    apply Awv (call:=Bg T (n+1)) (base:=0) (Q:=Fin [.tmp 2] V) fun e4 h4=>∃x4,At e4 [(0,stP N ((ra,rb)::er) rest),(3,.omap 157 0),(8,x4),(9,.int .i64 ((nfU ((ra,rb)::er) v:Nat):Int)),(11,.int .i64 d),(12,.int .i64 2),(61,.agg (frC ((ra,rb)::er))),(62,.int .i64 v)]/\
      Bb h4 157 = .map 0 c (eK E') (eV E') (eB E')/\Own 159 h4 x4 .i64 (nI4 (clU ((ra,rb)::er) (v+1)))/\159<=h4.length
    ·intro hJ
     by_cases hd0:0<d
     ·have hgt:decide ((d:Int)>0)=true:=by simp; omega
      by_cases hra:v=ra
      ·have hbn:((v:Int) != (ra:Int))=false:=by simp; omega
       rw [if_neg (fun h=>h.2 hra),List.append_nil] at hcs
       simp (disch:=first | assumption | omega) only [go_sem,↓reduceIte,Bw,f0,stP,f3,f8,f9,f61,f62,hlt,hlt8,hg61,hgt,hbn,edA,List.map_cons,List.getElem?_cons_zero,Bool.false_eq_true]
       refine hJ _ _ ?_
       exact ⟨x,by simp only [go_sem,↓reduceIte,f0,f3,f8,f9,f61,f62,stP,edA,List.map_cons],gM3,by rw [hcs]; exact hO,hl3⟩
      ·have hbn:((v:Int) != (ra:Int))=true:=by simp; omega
       rw [if_pos ⟨hd0,hra⟩] at hcs
       simp (disch:=first | assumption | omega) only [go_sem,↓reduceIte,Bw,f0,stP,f3,f8,f9,f61,f62,hlt,hlt8,hg61,hgt,hbn,edA,List.map_cons,List.getElem?_cons_zero]
       refine Gq (b:=8) rfl hO hl3 (by simp only [nI4,List.length_map]; omega) fun x' h' hO' hF hL' _ _ => ?_
       simp (disch:=first | assumption | omega) only [go_sem,↓reduceIte,Bw]
       refine hJ _ _ ?_
       exact ⟨x',by simp only [go_sem,↓reduceIte,f0,f3,f8,f9,f61,f62,stP,edA,List.map_cons],by rw [hF 157 (by omega)]; exact gM3,by rw [hcs]; simpa [nI4] using hO',by omega⟩
     ·have hgt:decide ((d:Int)>0)=false:=by simp; omega
      rw [if_neg (fun h=>hd0 h.1),List.append_nil] at hcs
      simp (disch:=first | assumption | omega) only [go_sem,↓reduceIte,Bw,f0,f3,f8,f9,f61,f62,hlt,hlt8,hg61,hgt,Bool.false_eq_true]
      refine hJ _ _ ?_
      exact ⟨x,by simp only [go_sem,↓reduceIte,f0,f3,f8,f9,f61,f62,stP,edA,List.map_cons],gM3,by rw [hcs]; exact hO,hl3⟩
    ·rintro e4 h4 ⟨x4,hE4,gM4,hO4,hl4⟩
     refine Dm (fun M st=>∃k:Nat,M=d+2-k/\2<=k/\k<=d+2/\(k<=d\/k=2)/\At st.env [(0,stP N ((ra,rb)::er) rest),(3,.omap 157 0),(8,x4),(9,.int .i64 ((nfU ((ra,rb)::er) v*fct (k-1):Nat):Int)),(11,.int .i64 d),(12,.int .i64 k),(61,.agg (frC ((ra,rb)::er))),(62,.int .i64 v)]/\st.heap=h4) d (by omega)
      ⟨2,by omega,by omega,by omega,by omega,by simp only [Bz,Dc] at hE4 ⊢; simp only [hE4,fct]; simp,rfl⟩ ?_
     rintro M e5 h5 hM5 ⟨k,rfl,hk2,hk3,hk4,hE5,rfl⟩ P5 hP5
     simp only [Bz,Dc] at hE5
     obtain ⟨f0,f3,f8,f9,f11,f12,f61,f62,-⟩:=hE5
     by_cases hkd:k<d
     ·have hb:=hbox k (by omega)
      have hfk:fct k=k*fct (k-1):=by
       obtain ⟨j,rfl⟩:∃j,k=j+1:=⟨k-1,by omega⟩
       rfl
      have hmul:((nfU ((ra,rb)::er) v*fct (k-1):Nat):Int)*(k:Int)=((nfU ((ra,rb)::er) v*fct k:Nat):Int):=by
       rw [hfk,<-Int.natCast_mul]
       congr 1
       rw [Nat.mul_assoc,Nat.mul_comm (fct (k-1)) k]
      simp (disch:=first | assumption | omega) only [go_sem,↓reduceIte,Bw,f0,f3,f8,f9,f11,f12,f61,f62,hkd,hmul]
      exact hP5 (d+2-(k+1)) _ (by omega) ⟨k+1,rfl,by omega,by omega,by omega,by simp only [go_sem,↓reduceIte,f0,f3,f8,f11,f61,f62,Nat.add_sub_cancel],rfl⟩
     ·have hnv:nfU ((ra,rb)::er) v*fct (k-1)=nfU ((ra,rb)::er) (v+1):=by
       rw [hnU]
       congr 1
       by_cases hkd2:k<=d
       ·obtain rfl:k=d:=by omega
        rfl
       ·obtain rfl:k=2:=by omega
        have:d=0\/d=1\/d=2:=by omega
        rcases this with rfl | rfl | rfl <;> rfl
      rw [hnv] at f9
      simp (disch:=first | assumption | omega) only [go_sem,↓reduceIte,Bw,f0,f3,f8,f9,f11,f12,f61,f62,hkd]
      exact hP3 (8-(v+1)) _ (by omega) ⟨v+1,x4,rfl,by omega,by simp only [go_sem,↓reduceIte,f0,f3,f8,f9,f61],gM4,hO4,hl4⟩
   ·obtain rfl:v=8:=by omega
    have hlt8:decide ((8:Int)<8)=false:=by decide
    have hcl:clU ((ra,rb)::er) 8=cl ((ra,rb)::er):=rfl
    have hnf:nfU ((ra,rb)::er) 8=nf ((ra,rb)::er):=rfl
    rw [hcl] at hO
    rw [hnf] at f9
    have hm8:(cl ((ra,rb)::er)).length<=8:=Abs ((ra,rb)::er) 8
    have hlA:lenA x=some (cl ((ra,rb)::er)).length:=by rw [hO.lenA]; simp [nI4]
    have hlx:∀a∈cl ((ra,rb)::er),a<8:=fun a ha=>by
     have:=(List.mem_filter.1 ha).1
     simpa using this
    have hnd:(cl ((ra,rb)::er)).Nodup:=List.Nodup.sublist List.filter_sublist List.nodup_range
    generalize hlst:cl ((ra,rb)::er)=lst at *
    generalize hes:(ra,rb)::er=es at *
    obtain ⟨m,hm⟩:∃m,lst.length=m:=⟨_,rfl⟩
    rw [hm] at hX hX0 hb1 hb2 hV hm8 hlA
    have hroom:Et m 24=true:=Lx (by omega)
    have hroom8:Et m 8=true:=Lx (by omega)
    have hmm:(m<=m)=True:=eq_true (Nat.le_refl _)
    have hnew:Bb h3 h3.length = .none:=Eh _ _ (Nat.le_refl _)
    have hbx:∀j,Fn x=some j->j<h3.length:=hO.keyLt
    obtain ⟨K,hK⟩:∃K,K=h3.length+1:=⟨_,rfl⟩
    obtain ⟨kt,hkt⟩:∃kt,kt=h3.length:=⟨_,rfl⟩
    have hset:∀c:AObj,(setH h3 h3.length c).length=K:=fun c=>by rw [Bh]; omega
    simp (disch:=first | assumption | omega) only [go_sem,↓reduceIte,Bw,f0,f3,f8,f9,f61,f62,hlt8,hlA,hroom,hmm,hnew,next_none,A6v,Bool.false_eq_true]
    rw [<-hkt] at hset hbx hnew ⊢
    refine Dm (fun M st=>∃i:Nat,M=m-i/\i<=m/\At st.env [(3,.omap 157 0),(8,x),(9,.int .i64 ((nf es:Nat):Int)),(13,.oslice kt 0 none 0 m (some m)),(96,x),(97,.int .i64 m),(98,.int .i64 i)]/\
      Bb st.heap 157 = .map 0 c (eK E') (eV E') (eB E')/\Own 159 st.heap x .i64 (nI4 lst)/\TabB st.heap kt K m i (fun a b=>tbE es (lst.getD a 0) (lst.getD b 0))/\st.heap.length=K+2*i) m (by omega)
     ⟨0,by omega,by omega,by simp only [go_sem,↓reduceIte,f3,f8,f9],by rw [Ba _ _ _ _ (by omega)]; exact gM3,hO.other fun j hj=>Ba _ _ _ _ (by have:=hbx j hj; omega),⟨by rw [getH_setH_self]; simp,fun a ha=>by omega⟩,by rw [hset]; omega⟩ ?_
    rintro M e4 h4 hM4 ⟨i,rfl,hi,hE4,gM4,hO4,hT4,hl4⟩ P4 hP4
    simp only [Bz,Dc] at hE4 gM4 hO4 hT4 hl4
    obtain ⟨f3,f8,f9,f13,f96,f97,f98,-⟩:=hE4
    by_cases hlt:i<m
    ·obtain ⟨kx,vx,hkx,hxe,hHx⟩:∃kx vx,159<=kx/\x = .oslice kx vx none 0 m none/\Bb h4 kx = .cells vx ((nI4 lst).map (.int .i64)):=by
      rcases hO4 with ⟨h1,_⟩ | ⟨kx,vx,h1,h2,h3⟩
      ·have:(nI4 lst).length=0:=by rw [h1]; rfl
       simp [nI4,hm] at this
       omega
      ·exact ⟨kx,vx,h1,by rw [h2]; simp [nI4,hm],h3⟩
     have hkx2:kx<kt:=hbx kx (by rw [hxe]; rfl)
     have hge:((nI4 lst).map (AV.int .i64))[i]? = some (.int .i64 ((lst.getD i 0:Nat):Int)):=by
      simp only [nI4,List.map_map,List.getElem?_map,List.getD_eq_getElem?_getD]
      rw [List.getElem?_eq_getElem (by omega)]
      rfl
     have hy8:lst.getD i 0<8:=hlx _ (by
      rw [List.getD_eq_getElem?_getD,List.getElem?_eq_getElem (by omega)]
      exact List.getElem_mem _)
     obtain ⟨y,hy⟩:∃y,y=lst.getD i 0:=⟨_,rfl⟩
     rw [<-hy] at hge hy8
     obtain ⟨R,hR⟩:∃R,R=K+2*i:=⟨_,rfl⟩
     rw [<-hR] at hl4
     have hnR:Bb h4 R = .none:=Eh _ _ (by omega)
     have hsR:∀c:AObj,(setH h4 R c).length=R+1:=fun c=>by rw [Bh]; omega
     have ktn:¬R=kt:=by omega
     have gkt:=hT4.tab
     have nMR:¬R=157:=by omega
     have nMt:¬kt=157:=by omega
     have hi1:i+1<=m:=by omega
     have nkx:¬R=kx:=by omega
     subst hxe
     simp (disch:=first | assumption | omega) only [go_sem,↓reduceIte,Bw,f3,f8,f9,f13,f96,f97,f98,hlt,hHx,hge,hlA,hroom8,hmm,hnR,next_none,hl4,A6v,gkt,ktn,hi1,List.length_map,List.length_range]
     have hTb:TabB (setH (setH h4 R (AObj.cells 0 (List.map (fun x=>AV.int IntKind.i64 0) (List.range m)))) kt (AObj.cells 0 ((List.map (fun a=>if a<i then AV.oslice (K+2*a) 0 none 0 m (some m) else AV.slice none [] true) (List.range m)).set i (AV.oslice R 0 none 0 m (some m))))) kt K m (i+1) (fun a b=>if a<i then tbE es (lst.getD a 0) (lst.getD b 0) else 0):=
      hT4.add hlt (by rw [getH_setH_self,hR]) (fun a ha=>by rw [Ba _ _ _ _ (by omega),Ba _ _ _ _ (by omega)]) (by rw [Ba _ _ _ _ (by omega),<-hR,getH_setH_self])
     have hhL:(setH (setH h4 R (AObj.cells 0 (List.map (fun x=>AV.int IntKind.i64 0) (List.range m)))) kt (AObj.cells 0 ((List.map (fun a=>if a<i then AV.oslice (K+2*a) 0 none 0 m (some m) else AV.slice none [] true) (List.range m)).set i (AV.oslice R 0 none 0 m (some m))))).length=R+1:=by
      rw [Bh,hsR]; omega
     have hhM:Bb (setH (setH h4 R (AObj.cells 0 (List.map (fun x=>AV.int IntKind.i64 0) (List.range m)))) kt (AObj.cells 0 ((List.map (fun a=>if a<i then AV.oslice (K+2*a) 0 none 0 m (some m) else AV.slice none [] true) (List.range m)).set i (AV.oslice R 0 none 0 m (some m))))) 157 = .map 0 c (eK E') (eV E') (eB E'):=by
      rw [Ba _ _ _ _ (by omega),Ba _ _ _ _ (by omega)]; exact gM4
     have hhX:Bb (setH (setH h4 R (AObj.cells 0 (List.map (fun x=>AV.int IntKind.i64 0) (List.range m)))) kt (AObj.cells 0 ((List.map (fun a=>if a<i then AV.oslice (K+2*a) 0 none 0 m (some m) else AV.slice none [] true) (List.range m)).set i (AV.oslice R 0 none 0 m (some m))))) kx = .cells vx ((nI4 lst).map (.int .i64)):=by
      rw [Ba _ _ _ _ (by omega),Ba _ _ _ _ (by omega)]; exact hHx
     generalize setH (setH h4 R (AObj.cells 0 (List.map (fun x=>AV.int IntKind.i64 0) (List.range m)))) kt (AObj.cells 0 ((List.map (fun a=>if a<i then AV.oslice (K+2*a) 0 none 0 m (some m) else AV.slice none [] true) (List.range m)).set i (AV.oslice R 0 none 0 m (some m))))=hh at *
     have hhN:Bb hh (R+1) = .none:=Eh _ _ (by omega)
     have hrg:rgA hh (.omap 157 0) = .ret (.iter (R+1) 0,setH hh (R+1) (.iter 0 157 0 c [] c)):=by
      simp only [rgA,hhM,hhL,hhN,next_none,if_true]
     simp (disch:=first | assumption | omega) only [go_sem,↓reduceIte,hrg]
     refine Dm (fun M st=>∃seen:List Nat,M=(E'.filter fun t => !seen.contains t.2.2).length/\At st.env [(3,.omap 157 0),(8,.oslice kx vx none 0 m none),(9,.int .i64 ((nf es:Nat):Int)),(13,.oslice kt 0 none 0 m (some m)),(14,.int .i64 i),(15,.int .i64 y),(96,.oslice kx vx none 0 m none),(97,.int .i64 m),(98,.int .i64 i),(110,.iter (R+1) 0)]/\
       Bb st.heap 157 = .map 0 c (eK E') (eV E') (eB E')/\Bb st.heap kx = .cells vx ((nI4 lst).map (.int .i64))/\Bb st.heap (R+1) = .iter 0 157 0 c seen c/\TabB st.heap kt K m (i+1) (fun a b=>if a<i then tbE es (lst.getD a 0) (lst.getD b 0) else if b=i then (SW E' seen y:Nat) else 0)/\st.heap.length=R+2) E'.length (by omega)
      ⟨[],by rw [List.filter_eq_self.2 (by simp)],by simp only [go_sem,↓reduceIte,f3,f8,f9,f13,f96,f97,f98],by rw [Ba _ _ _ _ (by omega)]; exact hhM,by rw [Ba _ _ _ _ (by omega)]; exact hhX,getH_setH_self _ _ _,
       (hTb.other (Ba _ _ _ _ (by omega)) (fun a ha=>Ba _ _ _ _ (by omega))).congr fun a b ha hb=>by simp only [Avp]; split <;> simp,by rw [Bh]; omega⟩ ?_
     rintro M e5 h5 hM5 ⟨seen2,rfl,hE5,gM5,gX5,gI5,hT5,hl5⟩ P5 hP5
     simp only [Bz,Dc] at hE5 gM5 gX5 gI5 hT5 hl5
     obtain ⟨f3,f8,f9,f13,f14,f15,f96,f97,f98,f110,-⟩:=hE5
     simp (disch:=first | assumption | omega) only [go_sem,↓reduceIte,Bw,f110]
     refine Id gI5 gM5 hbc (fun hall => ?_) (fun t ht hnt => ?_)
     ·have hswa:=Avo hLM' hall y
      have hcpl:(Gl es).countP (fun q=>q.1==y)<=15:=Nat.le_trans List.countP_le_length (Nat.le_trans (List.length_filter_le _ _) hl)
      rw [hswa] at hT5
      simp (disch:=first | assumption | omega) only [go_sem,↓reduceIte,Bw,f3,f8,f9,f13,f14,f15,f96,f97,f98,f110,hlA]
      refine Dm (fun M st=>∃k:Nat,M=m-k/\k<=m/\At st.env [(3,.omap 157 0),(8,.oslice kx vx none 0 m none),(9,.int .i64 ((nf es:Nat):Int)),(13,.oslice kt 0 none 0 m (some m)),(14,.int .i64 i),(15,.int .i64 y),(96,.oslice kx vx none 0 m none),(97,.int .i64 m),(98,.int .i64 i),(130,.oslice kx vx none 0 m none),(131,.int .i64 m),(132,.int .i64 k)]/\
        Bb st.heap 157 = .map 0 c (eK E') (eV E') (eB E')/\Bb st.heap kx = .cells vx ((nI4 lst).map (.int .i64))/\TabB st.heap kt K m (i+1) (fun a b=>if a<i then tbE es (lst.getD a 0) (lst.getD b 0) else (if b=i then (((Gl es).countP (fun q=>q.1==y):Nat):Int) else 0)-(if b<k then (((Gl es).count (y,lst.getD b 0):Nat):Int) else 0))/\st.heap.length=R+2) m (by omega)
       ⟨0,by omega,by omega,by simp only [go_sem,↓reduceIte,f3,f8,f9,f13,f14,f15,f96,f97,f98],gM5,gX5,hT5.congr fun a b ha hb=>by simp,hl5⟩ ?_
      rintro M e6 h6 hM6 ⟨k,rfl,hk,hE6,gM6,gX6,hT6,hl6⟩ P6 hP6
      simp only [Bz,Dc] at hE6 gM6 gX6 hT6 hl6
      obtain ⟨f3,f8,f9,f13,f14,f15,f96,f97,f98,f130,f131,f132,-⟩:=hE6
      by_cases hkm:k<m
      ·have hgk:((nI4 lst).map (AV.int .i64))[k]? = some (.int .i64 ((lst.getD k 0:Nat):Int)):=by
        simp only [nI4,List.map_map,List.getElem?_map,List.getD_eq_getElem?_getD]
        rw [List.getElem?_eq_getElem (by omega)]
        rfl
       obtain ⟨z,hz⟩:∃z,z=lst.getD k 0:=⟨_,rfl⟩
       rw [<-hz] at hgk
       have hlk:=Aib hLM' (y,z)
       simp only [edA] at hlk
       have hcz:(Gl es).count (y,z)<=15:=Nat.le_trans List.count_le_length (Nat.le_trans (List.length_filter_le _ _) hl)
       have gt6:=hT6.tab
       have gr6:=hT6.row i (by omega)
       rw [<-hR] at gr6
       have hgt6:((List.range m).map fun a=>if a<i+1 then AV.oslice (K+2*a) 0 none 0 m (some m) else .slice none [] true)[i]? = some (.oslice R 0 none 0 m (some m)):=by
        rw [Hj m i _ hlt,if_pos (by omega),<-hR]
       obtain ⟨w,hw⟩:∃w:Int,w=if k=i then (((Gl es).countP (fun q=>q.1==y):Nat):Int) else 0:=⟨_,rfl⟩
       have hw2:0<=w/\w<=15:=by rw [hw]; split <;> omega
       have hgr6:((List.range m).map fun b=>AV.int .i64 (if i<i then tbE es (lst.getD i 0) (lst.getD b 0) else (if b=i then (((Gl es).countP (fun q=>q.1==y):Nat):Int) else 0)-(if b<k then (((Gl es).count (y,lst.getD b 0):Nat):Int) else 0)))[k]? = some (.int .i64 w):=by
        rw [Hj m k _ hkm,if_neg (Nat.lt_irrefl i),if_neg (Nat.lt_irrefl k),<-hw,Int.sub_zero]
       have hk1:k+1<=m:=by omega
       simp (disch:=first | assumption | omega) only [go_sem,↓reduceIte,Bw,f3,f8,f9,f13,f14,f15,f96,f97,f98,f130,f131,f132,hkm,gX6,hgk,hlt,gt6,gr6,hgt6,hgr6,Gb,gM6,hlk,hk1,List.length_map,List.length_range]
       have h7:=hT6.upd (by omega) (a:=i) (j:=k) (by omega) (w-(((Gl es).count (y,z):Nat):Int))
       rw [<-hR] at h7
       exact hP6 (m-(k+1)) _ (by omega) ⟨k+1,rfl,by omega,by simp only [go_sem,↓reduceIte,f3,f8,f9,f13,f14,f15,f96,f97,f98,f130,f131],by rw [Ba _ _ _ _ (by omega)]; exact gM6,by rw [Ba _ _ _ _ (by omega)]; exact gX6,
        h7.congr fun a b ha hb=>by
         by_cases hai:a=i
         ·subst hai
          rw [if_neg (Nat.lt_irrefl a),if_neg (Nat.lt_irrefl a)]
          by_cases hbk:b=k
          ·subst hbk
           rw [if_pos ⟨rfl,rfl⟩,if_pos (Nat.lt_succ_self b),hw,hz]
          ·rw [if_neg (fun h=>hbk h.2)]
           by_cases hb2:b<k
           ·have hb3:b<k+1:=by omega
            rw [if_pos hb2,if_pos hb3]
           ·have hb3:¬b<k+1:=by omega
            rw [if_neg hb2,if_neg hb3]
         ·have:a<i:=by omega
          rw [if_neg (fun h=>hai h.1),if_pos this,if_pos this],by simp only [Bh,hl6]; omega⟩
      ·obtain rfl:k=m:=by omega
       simp (disch:=first | assumption | omega) only [go_sem,↓reduceIte,Bw,f3,f8,f9,f13,f14,f15,f96,f97,f98,f130,f131,f132,hkm]
       exact hP4 (k-(i+1)) _ (by omega) ⟨i+1,rfl,by omega,by simp only [go_sem,↓reduceIte,f3,f8,f9,f13,f96,f97],gM6,.inr ⟨kx,vx,hkx,by simp [nI4,hm],gX6⟩,
        hT6.congr fun a b ha hb=>by
         by_cases hai:a<i
         ·rw [if_pos hai]
         ·obtain rfl:a=i:=by omega
          rw [if_neg hai,if_pos hb,<-hy,tbE]
          congr 1
          have hbi:b=a↔y=lst.getD b 0:=by
           rw [hy,List.getD_eq_getElem?_getD,List.getD_eq_getElem?_getD,List.getElem?_eq_getElem (show a<lst.length by omega),List.getElem?_eq_getElem (show b<lst.length by omega)]
           simp only [Option.getD_some]
           exact ⟨fun e=>by subst e; rfl,fun e=>((List.getElem_inj hnd).1 e).symm⟩
          by_cases hba:b=a
          ·rw [if_pos hba,if_pos (hbi.1 hba)]
          ·rw [if_neg hba,if_neg (fun h=>hba (hbi.2 h))],by show h6.length=_; omega⟩
     ·have hen:enA (setH h5 (R+1) (.iter 0 157 0 c (seen2++[t.2.2]) c)) (.iter (R+1) 0) = .ret (.tuple [edA t.1,.int .i64 (t.2.1:Nat)]):=
       Rc (mk:=157) (mv:=0) (since:=c) (getH_setH_self _ _ _) (by rw [Ba _ _ _ _ (by omega)]; exact gM5) hLM'.bn ht
      have hml:(E'.filter fun u => !(seen2++[t.2.2]).contains u.2.2).length<(E'.filter fun u => !seen2.contains u.2.2).length:=by
       refine Gn _ _ (fun u hu => ?_) t ?_ ?_ E' ht
       ·simp at hu ⊢
        exact hu.1
       ·simpa using hnt
       ·simp
      have hsw:=Aqo hLM'.bn ht hnt y
      have n16:¬(R+1=16):=by omega
      have m16:¬(16=R+1):=by omega
      obtain ⟨⟨ta,tb⟩,tn,tbn⟩:=t
      simp only [edA] at hen hsw hnt hml ⊢
      have htn:tn<=15:=by
       have h1:=hLM'.cnt _ ht
       have h2:(Gl es).count (ta,tb)<=(Gl es).length:=List.count_le_length
       have h3:(Gl es).length<=es.length:=List.length_filter_le _ _
       simp only at h1
       omega
      have hswl:SW E' seen2 y<=15:=Nat.le_trans (B1f hLM' seen2 y) (Nat.le_trans (List.length_filter_le _ _) hl)
      by_cases hty:ta=y
      ·have hbe:((ta:Int)==(y:Int))=true:=by simp; omega
       rw [if_pos hty] at hsw
       have gt5:=hT5.tab
       have gr5:=hT5.row i (by omega)
       rw [<-hR] at gr5
       have hgt5:((List.range m).map fun a=>if a<i+1 then AV.oslice (K+2*a) 0 none 0 m (some m) else .slice none [] true)[i]? = some (.oslice R 0 none 0 m (some m)):=by
        rw [Hj m i _ hlt,if_pos (by omega),<-hR]
       have hgr5:((List.range m).map fun b=>AV.int .i64 (if i<i then tbE es (lst.getD i 0) (lst.getD b 0) else if b=i then ((SW E' seen2 y:Nat):Int) else 0))[i]? = some (.int .i64 ((SW E' seen2 y:Nat):Int)):=by
        rw [Hj m i _ hlt,if_neg (by omega),if_pos rfl]
       have nk1:¬(R+1=kt):=by omega
       have nk2:¬(16=kt):=by omega
       have nk3:¬(R+1=R):=by omega
       have nk4:¬(16=R):=by omega
       simp (disch:=first | assumption | omega) only [go_sem,↓reduceIte,Bw,f3,f8,f9,f13,f14,f15,f96,f97,f98,f110,hen,n16,m16,hbe,hlt,gt5,gr5,hgt5,hgr5,nk1,nk2,nk3,nk4,hi1,List.length_map,List.length_range]
       have h6:=((hT5.other (h':=setH h5 (R+1) (AObj.iter 0 157 0 c (seen2++[tbn]) c)) (Ba _ _ _ _ (by omega)) (fun a ha=>Ba _ _ _ _ (by omega))).other (h':=setH (setH h5 (R+1) (AObj.iter 0 157 0 c (seen2++[tbn]) c)) 16 (AObj.cells (Bb h5 16).next [AV.int IntKind.i64 0,AV.int IntKind.i64 0])) (Ba _ _ _ _ (by omega)) (fun a ha=>Ba _ _ _ _ (by omega))).other (h':=setH (setH (setH h5 (R+1) (AObj.iter 0 157 0 c (seen2++[tbn]) c)) 16 (AObj.cells (Bb h5 16).next [AV.int IntKind.i64 0,AV.int IntKind.i64 0])) 16 (AObj.cells (Bb h5 16).next [AV.int IntKind.i64 ↑ta,AV.int IntKind.i64 ↑tb])) (Ba _ _ _ _ (by omega)) (fun a ha=>Ba _ _ _ _ (by omega))
       have h7:=h6.upd (by omega) (a:=i) (j:=i) (by omega) ((SW E' seen2 y:Nat)+(tn:Int))
       rw [<-hR] at h7
       exact hP5 _ _ hml ⟨seen2++[tbn],rfl,by simp only [go_sem,↓reduceIte,f3,f8,f9,f13,f14,f15,f96,f97,f98,f110],by rw [Ba _ _ _ _ (by omega),Ba _ _ _ _ (by omega),Ba _ _ _ _ (by omega),Ba _ _ _ _ (by omega)]; exact gM5,by rw [Ba _ _ _ _ (by omega),Ba _ _ _ _ (by omega),Ba _ _ _ _ (by omega),Ba _ _ _ _ (by omega)]; exact gX5,by rw [Ba _ _ _ _ (by omega),Ba _ _ _ _ (by omega),Ba _ _ _ _ (by omega),getH_setH_self],
        h7.congr fun a b ha hb=>by
         rw [hsw]
         by_cases hai:a=i
         ·subst hai
          by_cases hba:b=a
          ·subst hba; simp
          ·simp [hba]
         ·have:a<i:=by omega
          simp [hai,this],by simp only [Bh,hl5]; omega⟩
      ·have hbe:((ta:Int)==(y:Int))=false:=by simp; omega
       rw [if_neg hty,Nat.add_zero] at hsw
       simp (disch:=first | assumption | omega) only [go_sem,↓reduceIte,Bw,f3,f8,f9,f13,f14,f15,f96,f97,f98,f110,hen,n16,m16,hbe,Bool.false_eq_true]
       exact hP5 _ _ hml ⟨seen2++[tbn],rfl,by simp only [go_sem,↓reduceIte,f3,f8,f9,f13,f14,f15,f96,f97,f98,f110],by rw [Ba _ _ _ _ (by omega),Ba _ _ _ _ (by omega),Ba _ _ _ _ (by omega)]; exact gM5,by rw [Ba _ _ _ _ (by omega),Ba _ _ _ _ (by omega),Ba _ _ _ _ (by omega)]; exact gX5,by rw [Ba _ _ _ _ (by omega),Ba _ _ _ _ (by omega),getH_setH_self],by
        rw [hsw]
        exact ((hT5.other (Ba _ _ _ _ (by omega)) (fun a ha=>Ba _ _ _ _ (by omega))).other (Ba _ _ _ _ (by omega)) (fun a ha=>Ba _ _ _ _ (by omega))).other (Ba _ _ _ _ (by omega)) (fun a ha=>Ba _ _ _ _ (by omega)),by simp only [Bh,hl5]; omega⟩
    ·obtain rfl:i=m:=by omega
     simp (disch:=first | assumption | omega) only [go_sem,↓reduceIte,Bw,f3,f8,f9,f13,f96,f97,f98,hlt]
     refine Gi (Aqw hX (by omega) ((hT4.done (by omega)).congr fun a b ha hb=>(hX0 a b ha hb).symm) n fun h' => ?_)
     simp (disch:=first | assumption | omega) only [go_sem,↓reduceIte,Bw]
     exact hV _ _ (Bq _ _ _ _)
  ·have htE:t∈E:=(List.mem_filter.1 ht).1
   have hbn2:(eB (E.filter (Fd seen))).Nodup:=List.Nodup.sublist (List.Sublist.map _ List.filter_sublist) hLM.bn
   have n157:¬(158=157):=by omega
   have hen:enA (setH h2 158 (.iter 0 157 0 c (seen++[t.2.2]) c)) (.iter 158 0) = .ret (.tuple [edA t.1,.int .i64 (t.2.1:Nat)]):=
    Rc (mk:=157) (mv:=0) (since:=c) (getH_setH_self _ _ _) (by rw [Ba _ _ _ _ (by omega)]; exact gM2) hbn2 ht
   have hml:(E.filter fun u => !(seen++[t.2.2]).contains u.2.2).length<(E.filter fun u => !seen.contains u.2.2).length:=by
    refine Gn _ _ (fun u hu => ?_) t ?_ ?_ E htE
    ·simp at hu ⊢
     exact hu.1
    ·simpa using hnt
    ·simp
   obtain ⟨A,B,hsp⟩:=List.append_of_mem ht
   have hA:t.1∉A.map (·.1):=by
    have hnd:((E.filter (Fd seen)).map (·.1)).Nodup:=List.Nodup.sublist (List.Sublist.map _ List.filter_sublist) hLM.nd
    rw [hsp,List.map_append,List.map_cons,List.nodup_append] at hnd
    exact fun hm=>hnd.2.2 _ hm _ List.mem_cons_self rfl
   have hfk:=Hy t.1 t B rfl A 0 hA
   rw [<-hsp,Nat.zero_add] at hfk
   have hko:=Ie t.1
   have x1:=Rx A B t
   have x2:=Ry A B t
   have x3:=Rw A B t
   rw [<-hsp] at x1 x2 x3
   have hn2:¬(157=158):=by omega
   by_cases hlp:t.1.1=t.1.2
   ·have hgone:=A4m hLM.bn hsp (by simpa [Fb] using hlp)
    obtain ⟨⟨ta,tb⟩,tn,tbn⟩:=t
    simp only at hlp
    subst hlp
    simp only [edA] at hen hfk hko
    have hbe:((ta:Int)==(ta:Int))=true:=by simp
    simp (disch:=first | assumption | omega) only [go_sem,↓reduceIte,Bw,f0,f3,f4,f49,hen,edA,hn2,hbe,dlA,gM2,hfk,hko,x1,x2,x3]
    exact hP2 _ _ hml ⟨seen++[tbn],rfl,by simp only [go_sem,↓reduceIte,f0,f3,f4,f49],by simp only [go_sem,↓reduceIte,hgone],by simp only [go_sem,↓reduceIte,g42],by simp only [go_sem,↓reduceIte,hn2],by simp only [Bh,hl9]; omega⟩
   ·have hkp:=Acf (E:=E) (seen:=seen) (b:=t.2.2) fun u hu he=>by
     obtain rfl:=Rb hLM.bn hu htE he
     simpa [Fb] using hlp
    obtain ⟨⟨ta,tb⟩,tn,tbn⟩:=t
    simp only at hlp
    have hbe:((ta:Int)==(tb:Int))=false:=by simp; omega
    simp only [edA] at hen
    simp (disch:=first | assumption | omega) only [go_sem,↓reduceIte,Bw,f0,f3,f4,f49,hen,edA,hn2,hbe,Bool.false_eq_true]
    exact hP2 _ _ hml ⟨seen++[tbn],rfl,by simp only [go_sem,↓reduceIte,f0,f3,f4,f49],by simp only [go_sem,↓reduceIte,hkp,gM2,hn2],by simp only [go_sem,↓reduceIte,g42],by simp only [go_sem,↓reduceIte,hn2],by simp only [Bh,hl9]; omega⟩
end Go.Ev.YtbgodhhdojjbmaaGreatC
namespace Go.Ev.YtbgodhhdojjbmaaGreatC
open Go Go.Proofs
attribute [local irreducible] Res.all evC Do Dr Bv Bd Dw Bg AnsOk ConAt
def wEs:List (Nat×Nat):=[(0,1),(1,2),(2,0),(0,2),(2,0)]
def wX (k i j:Nat):Int:=if k=0 then (if i=0 then (if j=0 then 1 else -1) else (if j=0 then 0 else 2)) else 2
def wL (k:Nat):Int:=if k=2 then 2 else 1
theorem C8l:Bar (cl wEs).length wX wL where
 l0:=rfl
 ls:=fun k hk=>by
  have:k=0\/k=1:=by
   have:(cl wEs).length=2:=by decide
   omega
  rcases this with rfl | rfl <;> decide
 nz:=fun k _=>by unfold wL; split <;> decide
 st:=fun k i j h1 h2 h3 h4=>by
  have hm:(cl wEs).length=2:=by decide
  obtain rfl:k=0:=by omega
  obtain rfl:i=1:=by omega
  obtain rfl:j=1:=by omega
  decide
 lo:=fun k i j=>by unfold wX; (repeat' split) <;> decide
 hi:=fun k i j=>by unfold wX; (repeat' split) <;> decide
theorem wDc:ConAt T 3 wDy31.f wDy31.args wDy31.res:=Dz (Ajy 3 wEs [wN 0,wN 0,wN 0,wN 0,wN 0,wN 0,wN 0,wN 0,wI [0,0,0,0,0] false] (by decide) (by decide) (by decide) C8l (fun a b ha hb=>by
  have hm:(cl wEs).length=2:=by decide
  have h1:a=0\/a=1:=by omega
  have h2:b=0\/b=1:=by omega
  rcases h1 with rfl | rfl <;> rcases h2 with rfl | rfl <;> decide) (by decide) (by decide)) (Nat.le_refl _)
theorem Bmp:YOk T 2000 wDy31:=(Es wDc).mono (by decide)
end Go.Ev.YtbgodhhdojjbmaaGreatC
