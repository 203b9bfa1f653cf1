/- Rows: a slice of slices of numbers, each of which is still written. Tapers in rows: one row at a time; the rows of what is read the other way round. Rows: what came in is known from what there is; longest rising runs; how many rows. Piles: which tapers stood at each place of the first row; the longest rising run that is read out of them. A taper is put in, row by row, as the program does it; the order, as it grows. What a stand of layer 8 is: rows in a list, each still written, and a map of places. Joints, and the habit that brings all back: their rows and orders. Steps that put joints right, and the longest rising run: each step changes it by at most one. What the laws of racks ask of joints: their rack and order, those of what brings all back, and of what is right. No condition but those that stand in each. -/
import Derived.Test.YtofpilpmiddpgaaGreatIEvKer3
import Derived.Test.YtofpilpmiddpgaaGreatIStCol
import Derived.Test.YtofpilpmiddpgaaGreatIStOpen
set_option linter.unusedSimpArgs false
set_option linter.unusedVariables false
namespace Go.Ev.YtofpilpmiddpgaaGreatC
open Go
structure RwT where
 key:Nat
 ver:Nat
 cap:Option Nat
 l:List Int
def RwT.av (t:RwT):AV:=.oslice t.key t.ver none 0 t.l.length t.cap
structure RwO (B:Nat) (h:Bc) (L:List RwT):Prop where
 at':∀t∈L,B<=t.key/\Bb h t.key = .cells t.ver (t.l.map (.int .i64))/\t.l≠[]/\(t.cap=none\/t.cap=some t.l.length)
 nd:(L.map RwT.key).Nodup
theorem RwO.nil (B:Nat) (h:Bc):RwO B h []:=⟨fun t ht=>absurd ht (by simp),List.nodup_nil⟩
theorem RwO.keyLt {B:Nat} {h:Bc} {L:List RwT} (hr:RwO B h L) {t:RwT} (ht:t∈L):t.key<h.length:=by
 obtain ⟨_,h2,_⟩:=hr.at' t ht
 exact Dz h2 (by simp)
theorem RwO.other {B:Nat} {h h':Bc} {L:List RwT} (hr:RwO B h L) (hf:∀t∈L,Bb h' t.key=Bb h t.key):RwO B h' L:=⟨fun t ht=>by
 obtain ⟨h1,h2,h3⟩:=hr.at' t ht
 exact ⟨h1,by rw [hf t ht,h2],h3⟩,hr.nd⟩
theorem RwO.setH {B:Nat} {h:Bc} {L:List RwT} {j:Nat} {o:AObj} (hr:RwO B h L) (hj:∀t∈L,t.key≠j):RwO B (setH h j o) L:=
 hr.other fun t ht=>Ba _ _ _ _ (fun e=>hj t ht e.symm)
theorem A2c {α:Type}:∀{l:List α} {i:Nat} {a:α},l.Nodup->(a∉l\/l[i]? = some a)->(l.set i a).Nodup
 | [],_,_,_,_=>by simp
 | b::l,0,a,hn,h=>by
  rw [List.nodup_cons] at hn
  rw [List.set_cons_zero,List.nodup_cons]
  rcases h with h | h
  ·exact ⟨fun hm=>h (by simp [hm]),hn.2⟩
  ·have:b=a:=by simpa using h
   rw [<-this]; exact hn
 | b::l,i+1,a,hn,h=>by
  rw [List.nodup_cons] at hn
  rw [List.set_cons_succ,List.nodup_cons]
  have h':a∉l\/l[i]? = some a:=by
   rcases h with h | h
   ·exact .inl fun hm=>h (by simp [hm])
   ·exact .inr (by simpa using h)
  refine ⟨fun hm => ?_,A2c hn.2 h'⟩
  rcases List.mem_or_eq_of_mem_set hm with hm | rfl
  ·exact hn.1 hm
  ·rcases h with h | h
   ·exact h (by simp)
   ·exact hn.1 (List.mem_of_getElem? (by simpa using h))
theorem RwO.put {B:Nat} {h h':Bc} {L:List RwT} {i:Nat} {t t':RwT} (hr:RwO B h L) (hi:L[i]? = some t) (hB:B<=t'.key) (hk:t'.key=t.key\/∀u∈L,u.key≠t'.key) (ht':Bb h' t'.key = .cells t'.ver (t'.l.map (.int .i64))) (hne:t'.l≠[]) (hc:t'.cap=none\/t'.cap=some t'.l.length)
  (hf:∀u∈L,u.key≠t.key->Bb h' u.key=Bb h u.key):RwO B h' (L.set i t'):=by
 have hil:=(List.getElem?_eq_some_iff.1 hi).1
 refine ⟨fun u hu => ?_,?_⟩
 ·obtain ⟨j,hj⟩:=List.mem_iff_getElem?.1 hu
  rw [List.getElem?_set] at hj
  by_cases hij:i=j
  ·rw [if_pos hij,if_pos hil] at hj
   obtain rfl:=Option.some.inj hj
   exact ⟨hB,ht',hne,hc⟩
  ·rw [if_neg hij] at hj
   have hum:=List.mem_of_getElem? hj
   obtain ⟨h1,h2,h3⟩:=hr.at' u hum
   have hku:u.key≠t.key:=fun e=>by
    have hn:=hr.nd
    rw [List.Nodup,List.pairwise_map,List.pairwise_iff_getElem] at hn
    have hjl:=(List.getElem?_eq_some_iff.1 hj).1
    have e1:L[i]=t:=(List.getElem?_eq_some_iff.1 hi).2
    have e2:L[j]=u:=(List.getElem?_eq_some_iff.1 hj).2
    rcases Nat.lt_or_gt_of_ne hij with hlt | hgt
    ·exact hn i j hil hjl hlt (by rw [e1,e2,e])
    ·exact hn j i hjl hil hgt (by rw [e1,e2,e])
   exact ⟨h1,by rw [hf u hum hku,h2],h3⟩
 ·rw [List.map_set]
  refine A2c hr.nd ?_
  rcases hk with hk | hk
  ·right
   rw [List.getElem?_map,hi,hk]; rfl
  ·left
   intro hm
   obtain ⟨u,hu,he⟩:=List.mem_map.1 hm
   exact hk u hu he
theorem RwO.more {B:Nat} {h h':Bc} {L:List RwT} {t':RwT} (hr:RwO B h L) (hB:B<=t'.key) (hk:∀u∈L,u.key≠t'.key) (ht':Bb h' t'.key = .cells t'.ver (t'.l.map (.int .i64))) (hne:t'.l≠[]) (hc:t'.cap=none\/t'.cap=some t'.l.length)
  (hf:∀u∈L,Bb h' u.key=Bb h u.key):RwO B h' (L++[t']):=by
 refine ⟨fun u hu => ?_,?_⟩
 ·rcases List.mem_append.1 hu with hu | hu
  ·obtain ⟨h1,h2,h3⟩:=hr.at' u hu
   exact ⟨h1,by rw [hf u hu,h2],h3⟩
  ·obtain rfl:u=t':=by simpa using hu
   exact ⟨hB,ht',hne,hc⟩
 ·rw [List.map_append,List.nodup_append]
  refine ⟨hr.nd,by simp,fun a ha b hb => ?_⟩
  obtain ⟨u,hu,rfl⟩:=List.mem_map.1 ha
  have:b=t'.key:=by simpa using hb
  rw [this]
  exact hk u hu
theorem RwO.write {B:Nat} {h:Bc} {L:List RwT} {i j:Nat} {t:RwT} {v:Int} (hr:RwO B h L) (hi:L[i]? = some t):RwO B (Go.Ev.setH h t.key (.cells t.ver ((t.l.set j v).map (.int .i64)))) (L.set i { t with l:=t.l.set j v }):=by
 obtain ⟨h1,h2,h3,h4⟩:=hr.at' t (List.mem_of_getElem? hi)
 refine hr.put hi h1 (.inl rfl) (getH_setH_self ..) ?_ ?_ fun u hu hne=>Ba _ _ _ _ fun e=>hne e.symm
 ·intro e
  have:=congrArg List.length e
  simp only [List.length_set,List.length_nil] at this
  exact h3 (List.length_eq_zero_iff.1 this)
 ·simp only [List.length_set]
  exact h4
theorem RwO.frz {B:Nat} {h:Bc} {L:List RwT} (hr:RwO B h L) {n:Nat}:mapR (Bi h (n+2)) (L.map RwT.av) = .ret (L.map fun t => .slice none (t.l.map (.int .i64)) false):=by
 have key:∀M:List RwT,(∀t∈M,Bb h t.key = .cells t.ver (t.l.map (.int .i64)))->mapR (Bi h (n+2)) (M.map RwT.av) = .ret (M.map fun t => .slice none (t.l.map (.int .i64)) false):=by
  intro M
  induction M with
  | nil=>intro _; rfl
  | cons t M ih=>intro hM; exact Bu (Ml (hM t (by simp)) rfl) (ih fun u hu=>hM u (by simp [hu]))
 exact key L fun t ht=>(hr.at' t ht).2.1
def Fm (y:Nat):List Nat->List Nat×Option Nat
 | []=>([y],none)
 | a::r=>if a>y then (y::r,some a) else (a::(Fm y r).1,(Fm y r).2)
abbrev Pt:=Nat×Nat
abbrev Rw3:=List Nat×List Nat×List Pt
def stR (s:Rw3) (q:Pt):Rw3:=match (Fm q.2 s.1).2 with
 | none=>((Fm q.2 s.1).1,s.2.1++[q.1],s.2.2)
 | some b=>((Fm q.2 s.1).1,s.2.1,s.2.2++[(q.1,b)])
def Ft (S:List Pt):Rw3:=S.foldl stR ([],[],[])
theorem Ui {y:Nat}:∀{r:List Nat},(∀a∈r,a<=y)->Fm y r=(r++[y],none)
 | [],_=>rfl
 | a::r,h=>by
  have ha:=h a (by simp)
  rw [Fm,if_neg (by omega),Ui fun b hb=>h b (by simp [hb])]
  rfl
theorem A8s {y b:Nat} {B:List Nat}:∀{A:List Nat},(∀a∈A,a<=y)->y<b->Fm y (A++b::B)=(A++y::B,some b)
 | [],_,hb=>by rw [List.nil_append,Fm,if_pos hb]; rfl
 | a::A,h,hb=>by
  have ha:=h a (by simp)
  rw [List.cons_append,Fm,if_neg (by omega),A8s (fun c hc=>h c (by simp [hc])) hb]
  rfl
theorem Fv (y:Nat):∀r:List Nat,((∀a∈r,a<=y)/\Fm y r=(r++[y],none))\/∃A b B,r=A++b::B/\(∀a∈A,a<=y)/\y<b/\Fm y r=(A++y::B,some b)
 | [] => .inl ⟨by simp,rfl⟩
 | a::r=>by
  by_cases h:a>y
  ·exact .inr ⟨[],a,r,rfl,by simp,h,by rw [Fm,if_pos h]; rfl⟩
  ·rcases Fv y r with ⟨h1,h2⟩ | ⟨A,b,B,rfl,h2,h3,h4⟩
   ·refine .inl ⟨fun c hc => ?_,by rw [Fm,if_neg h,h2]; rfl⟩
    rcases List.mem_cons.1 hc with rfl | hc
    ·omega
    ·exact h1 c hc
   ·refine .inr ⟨a::A,b,B,rfl,fun c hc => ?_,h3,by rw [Fm,if_neg h,h4]; rfl⟩
    rcases List.mem_cons.1 hc with rfl | hc
    ·omega
    ·exact h2 c hc
theorem Gi {r f:List Nat} {o:List Pt} {x y:Nat} (h:∀a∈r,a<=y):stR (r,f,o) (x,y)=(r++[y],f++[x],o):=by
 simp only [stR,Ui h]
theorem Gj {A B f:List Nat} {o:List Pt} {x y b:Nat} (h:∀a∈A,a<=y) (hb:y<b):stR (A++b::B,f,o) (x,y)=(A++y::B,f,o++[(x,b)]):=by
 simp only [stR,A8s h hb]
def ins1 (q:Pt):List Pt->List Pt
 | []=>[q]
 | a::L=>if a.1<q.1 then a::ins1 q L else q::a::L
def tpR (S:List Pt):List Pt:=S.foldl (fun L q=>ins1 (q.2,q.1) L) []
theorem Xz (S:List Pt) (q:Pt):tpR (S++[q])=ins1 (q.2,q.1) (tpR S):=by
 rw [tpR,List.foldl_append]; rfl
theorem Vw {q:Pt} {B:List Pt} (hB:∀b∈B,q.1<b.1):∀{A:List Pt},(∀a∈A,a.1<q.1)->ins1 q (A++B)=A++q::B
 | [],_=>by
  cases B with
  | nil=>rfl
  | cons b B =>
   have:=hB b (by simp)
   rw [List.nil_append,ins1,if_neg (by omega)]; rfl
 | a::A,h=>by
  rw [List.cons_append,ins1,if_pos (h a (by simp)),Vw hB fun c hc=>h c (by simp [hc])]
  rfl
theorem Up (m:Nat):∀{L:List Pt},L.Pairwise (fun a b=>a.1<b.1)->(∀a∈L,a.1≠m)->∃A B,L=A++B/\(∀a∈A,a.1<m)/\∀b∈B,m<b.1
 | [],_,_=>⟨[],[],rfl,by simp,by simp⟩
 | a::L,h,hne=>by
  rw [List.pairwise_cons] at h
  have ha:=hne a (by simp)
  by_cases hm:a.1<m
  ·obtain ⟨A,B,rfl,h1,h2⟩:=Up m h.2 fun b hb=>hne b (by simp [hb])
   refine ⟨a::A,B,rfl,fun b hb => ?_,h2⟩
   rcases List.mem_cons.1 hb with rfl | hb
   ·exact hm
   ·exact h1 b hb
  ·refine ⟨[],a::L,rfl,by simp,fun b hb => ?_⟩
   rcases List.mem_cons.1 hb with rfl | hb
   ·omega
   ·have:=h.1 b hb; omega
theorem A6e {S:List Pt} (hy:(S.map (·.2)).Nodup):(tpR S).Pairwise (fun a b=>a.1<b.1)/\∀q,q∈tpR S↔(q.2,q.1)∈S:=by
 have key:∀R:List Pt,(R.map (·.2)).Nodup->(tpR R.reverse).Pairwise (fun a b=>a.1<b.1)/\∀q,q∈tpR R.reverse↔(q.2,q.1)∈R:=by
  intro R
  induction R with
  | nil=>intro _; exact ⟨List.Pairwise.nil,fun q=>by simp [tpR]⟩
  | cons p R ih =>
   intro h
   rw [List.map_cons,List.nodup_cons] at h
   obtain ⟨i1,i2⟩:=ih h.2
   have hne:∀a∈tpR R.reverse,a.1≠p.2:=fun a ha e=>by
    have:=(i2 a).1 ha
    exact h.1 (e ▸ List.mem_map.2 ⟨_,this,rfl⟩)
   obtain ⟨A,B,hAB,hA,hB⟩:=Up p.2 i1 hne
   rw [List.reverse_cons,Xz]
   have he:ins1 (p.2,p.1) (tpR R.reverse)=A++(p.2,p.1)::B:=by rw [hAB]; exact Vw hB hA
   rw [he]
   rw [hAB] at i1 i2
   constructor
   ·rw [List.pairwise_append] at i1 ⊢
    refine ⟨i1.1,List.pairwise_cons.2 ⟨hB,i1.2.1⟩,fun a ha b hb => ?_⟩
    rcases List.mem_cons.1 hb with rfl | hb
    ·exact hA a ha
    ·exact i1.2.2 a ha b hb
   ·intro q
    have:=i2 q
    rw [List.mem_append] at this
    rw [List.mem_append,List.mem_cons,List.mem_cons,<-this]
    have e:q=(p.2,p.1)↔(q.2,q.1)=p:=by
     constructor
     ·rintro rfl; rfl
     ·rintro rfl; rfl
    rw [e]
    constructor
    ·rintro (h | h | h)
     ·exact .inr (.inl h)
     ·exact .inl h
     ·exact .inr (.inr h)
    ·rintro (h | h | h)
     ·exact .inr (.inl h)
     ·exact .inl h
     ·exact .inr (.inr h)
 have:=key S.reverse (by
  rw [List.map_reverse]
  exact (List.reverse_perm _).nodup_iff.2 hy)
 rw [List.reverse_reverse] at this
 refine ⟨this.1,fun q => ?_⟩
 rw [this.2 q,List.mem_reverse]
theorem Yw {α β:Type} (f:β->α->β) (b:β) (S:List α) (q:α):(S++[q]).foldl f b=f (S.foldl f b) q:=by rw [List.foldl_append]; rfl
inductive MidR (x y:Nat) (fA:List Nat):Nat->Rw3->Rw3->Prop where
 | no (c:Nat) (r:List Nat) (o:List Pt):(∀a∈r,a<x)->(∀q∈o,q.1<c)->y<c->MidR x y fA c (r,fA,o) (r++[x],fA++[y],o)
 | yes (c:Nat) (r g:List Nat) (b:Nat) (o1 o2:List Pt):y<b->b<c->(∀q∈o1,q.1<b)->(∀q∈o2,b<q.1)->MidR x y fA c (r,fA++b::g,o1++o2) (r,fA++y::g,o1++(b,x)::o2)
theorem Aia {x y:Nat} {fA:List Nat} {c a v:Nat} {s1 s2:Rw3} (h:MidR x y fA c s1 s2) (hv:v<x) (hc:c<=a):MidR x y fA (a+1) (stR s1 (a,v)) (stR s2 (a,v)):=by
 cases h with
 | no r o hr ho hy =>
  rcases Fv v r with ⟨h1,h2⟩ | ⟨A,b,C,rfl,h2,h3,h4⟩
  ·have e1:stR (r,fA,o) (a,v)=(r++[v],fA++a::[],o++[]):=by rw [List.append_nil]; exact Gi h1
   have e2:stR (r++[x],fA++[y],o) (a,v)=(r++[v],fA++y::[],o++(a,x)::[]):=Gj (B:=[]) h1 hv
   rw [e1,e2]
   exact .yes _ _ _ _ _ _ (by omega) (by omega) (fun q hq=>by have:=ho q hq; omega) (by simp)
  ·have e1:stR (A++b::C,fA,o) (a,v)=(A++v::C,fA,o++[(a,b)]):=Gj h2 h3
   have e2:stR (A++b::C++[x],fA++[y],o) (a,v)=(A++v::C++[x],fA++[y],o++[(a,b)]):=by
    rw [List.append_assoc,List.append_assoc]
    exact Gj h2 h3
   rw [e1,e2]
   refine .no _ _ _ (fun d hd => ?_) (fun q hq => ?_) (by omega)
   ·rcases List.mem_append.1 hd with hd | hd
    ·exact hr d (by simp [hd])
    ·rcases List.mem_cons.1 hd with rfl | hd
     ·exact hv
     ·exact hr d (by simp [hd])
   ·rcases List.mem_append.1 hq with hq | hq
    ·have:=ho q hq; omega
    ·obtain rfl:q=(a,b):=by simpa using hq
     simp
 | yes r g b o1 o2 hy hb ho1 ho2 =>
  rcases Fv v r with ⟨h1,h2⟩ | ⟨A,b',C,rfl,h2,h3,h4⟩
  ·have e1:stR (r,fA++b::g,o1++o2) (a,v)=(r++[v],fA++b::(g++[a]),o1++o2):=by rw [Gi h1]; simp
   have e2:stR (r,fA++y::g,o1++(b,x)::o2) (a,v)=(r++[v],fA++y::(g++[a]),o1++(b,x)::o2):=by rw [Gi h1]; simp
   rw [e1,e2]
   exact .yes _ _ _ _ _ _ hy (by omega) ho1 ho2
  ·have e1:stR (A++b'::C,fA++b::g,o1++o2) (a,v)=(A++v::C,fA++b::g,o1++(o2++[(a,b')])):=by rw [Gj h2 h3]; simp
   have e2:stR (A++b'::C,fA++y::g,o1++(b,x)::o2) (a,v)=(A++v::C,fA++y::g,o1++(b,x)::(o2++[(a,b')])):=by rw [Gj h2 h3]; simp
   rw [e1,e2]
   refine .yes _ _ _ _ _ _ hy (by omega) ho1 fun q hq => ?_
   rcases List.mem_append.1 hq with hq | hq
   ·exact ho2 q hq
   ·obtain rfl:q=(a,b'):=by simpa using hq
    simp only; omega
theorem MidR.inv {x y:Nat} {fA:List Nat} {c:Nat} {s1 s2:Rw3} (h:MidR x y fA c s1 s2):(∃r o,s1=(r,fA,o)/\s2=(r++[x],fA++[y],o))\/∃r g b o1 o2,y<b/\(∀q∈o1,q.1<b)/\(∀q∈o2,b<q.1)/\s1=(r,fA++b::g,o1++o2)/\s2=(r,fA++y::g,o1++(b,x)::o2):=by
 cases h with
 | no r o _ _ _=>exact .inl ⟨r,o,rfl,rfl⟩
 | yes r g b o1 o2 hy _ ho1 ho2=>exact .inr ⟨r,g,b,o1,o2,hy,ho1,ho2,rfl,rfl⟩
theorem A9c {x y:Nat} {fA:List Nat}:∀(B:List Pt) (c:Nat) (s1 s2:Rw3),MidR x y fA c s1 s2->(∀q∈B,q.2<x)->B.Pairwise (fun a b=>a.1<b.1)->(∀b∈B,c<=b.1)->∃c',MidR x y fA c' (B.foldl stR s1) (B.foldl stR s2)
 | [],c,_,_,h,_,_,_=>⟨c,h⟩
 | (a,v)::B,c,s1,s2,h,hv,hB,hc=>by
  rw [List.pairwise_cons] at hB
  exact A9c B (a+1) _ _ (Aia h (hv (a,v) (by simp)) (hc (a,v) (by simp))) (fun q hq=>hv q (by simp [hq])) hB.2 fun b hb=>hB.1 b hb
theorem Ajl (s:Rw3) (q:Pt):((stR s q).1++(stR s q).2.2.map (·.2)).Perm (q.2::(s.1++s.2.2.map (·.2))):=by
 obtain ⟨r,f,o⟩:=s
 obtain ⟨x,y⟩:=q
 rcases Fv y r with ⟨h1,h2⟩ | ⟨A,b,C,rfl,h2,h3,h4⟩
 ·rw [Gi h1]
  simp only
  rw [List.append_assoc]
  exact List.perm_middle
 ·rw [Gj h2 h3]
  simp only [List.map_append,List.map_cons,List.map_nil]
  have e1:A++y::C++(o.map (·.2)++[b])=A++y::(C++(o.map (·.2)++[b])):=by simp
  have e2:A++b::C++o.map (·.2)=A++b::(C++o.map (·.2)):=by simp
  rw [e1,e2]
  refine List.perm_middle.trans (List.Perm.cons y ?_)
  rw [<-List.append_assoc,<-List.append_assoc]
  refine (List.perm_append_comm (l₁:=A++C++o.map (·.2)) (l₂:=[b])).trans ?_
  have e3:[b]++(A++C++o.map (·.2))=b::(A++(C++o.map (·.2))):=by simp
  rw [e3]
  exact List.perm_middle.symm
theorem A5t:∀(S:List Pt) (s:Rw3),((S.foldl stR s).1++(S.foldl stR s).2.2.map (·.2)).Perm (S.map (·.2)++(s.1++s.2.2.map (·.2)))
 | [],s => .refl _
 | q::S,s=>by
  rw [List.foldl_cons]
  refine (A5t S (stR s q)).trans ?_
  refine (List.Perm.append_left _ (Ajl s q)).trans ?_
  rw [List.map_cons,List.cons_append]
  exact List.perm_middle
theorem Us (S:List Pt):((Ft S).1++(Ft S).2.2.map (·.2)).Perm (S.map (·.2)):=by
 have:=A5t S ([],[],[])
 simp only [List.map_nil,List.append_nil] at this
 exact this
theorem Aph (s:Rw3) (q:Pt):((stR s q).2.1=s.2.1++[q.1]/\(stR s q).2.2=s.2.2)\/((stR s q).2.1=s.2.1/\∃b,(stR s q).2.2=s.2.2++[(q.1,b)]):=by
 obtain ⟨r,f,o⟩:=s
 obtain ⟨x,y⟩:=q
 rcases Fv y r with ⟨h1,h2⟩ | ⟨A,b,C,rfl,h2,h3,h4⟩
 ·rw [Gi h1]; exact .inl ⟨rfl,rfl⟩
 ·rw [Gj h2 h3]; exact .inr ⟨rfl,b,rfl⟩
theorem A0p:∀(S:List Pt) (s:Rw3),(∃f,(S.foldl stR s).2.1=s.2.1++f/\f.Sublist (S.map (·.1)))/\∃o,(S.foldl stR s).2.2=s.2.2++o/\(o.map (·.1)).Sublist (S.map (·.1))
 | [],s=>⟨⟨[],by simp,by simp⟩,[],by simp,by simp⟩
 | q::S,s=>by
  obtain ⟨⟨f,h1,h2⟩,o,h3,h4⟩:=A0p S (stR s q)
  rw [List.foldl_cons,h1,h3,List.map_cons]
  rcases Aph s q with ⟨e1,e2⟩ | ⟨e1,b,e2⟩
  ·rw [e1,e2]
   exact ⟨⟨q.1::f,by simp,h2.cons_cons _⟩,o,rfl,h4.cons _⟩
  ·rw [e1,e2]
   exact ⟨⟨f,rfl,h2.cons _⟩,(q.1,b)::o,by simp,by rw [List.map_cons]; exact h4.cons_cons _⟩
theorem Ast (S:List Pt):(Ft S).2.1.Sublist (S.map (·.1)):=by
 obtain ⟨⟨f,h1,h2⟩,_⟩:=A0p S ([],[],[])
 rw [List.nil_append] at h1
 rw [Ft,h1]; exact h2
theorem Afs (S:List Pt):((Ft S).2.2.map (·.1)).Sublist (S.map (·.1)):=by
 obtain ⟨_,o,h1,h2⟩:=A0p S ([],[],[])
 rw [List.nil_append] at h1
 rw [Ft,h1]; exact h2
theorem Aft (S:List Pt) (q:Pt):Ft (S++[q])=stR (Ft S) q:=Yw _ _ _ _
structure PtsR (S:List Pt):Prop where
 inc:(S.map (·.1)).Pairwise (·<·)
 nd:(S.map (·.2)).Nodup
theorem PtsR.o {S:List Pt} (h:PtsR S):PtsR (Ft S).2.2 where
 inc:=h.inc.sublist (Afs S)
 nd:=by
  have:=(Us S).nodup_iff.2 h.nd
  exact (List.nodup_append.1 this).2.1
theorem Apc {S:List Pt} (h:PtsR S):Ft (tpR S)=((Ft S).2.1,(Ft S).1,tpR (Ft S).2.2):=by
 have key:∀R:List Pt,PtsR R.reverse->Ft (tpR R.reverse)=((Ft R.reverse).2.1,(Ft R.reverse).1,tpR (Ft R.reverse).2.2):=by
  intro R
  induction R with
  | nil=>intro _; rfl
  | cons q R ih =>
   obtain ⟨x,y⟩:=q
   intro h
   rw [List.reverse_cons] at h ⊢
   generalize hS:R.reverse=S at *
   have h1:=h.inc
   have h2:=h.nd
   rw [List.map_append,List.pairwise_append] at h1
   rw [List.map_append,List.nodup_append] at h2
   have hP:PtsR S:=⟨h1.1,h2.1⟩
   have hih:=ih hP
   have hlt:∀q∈S,q.1<x:=fun q hq=>h1.2.2 q.1 (List.mem_map.2 ⟨q,hq,rfl⟩) x (by simp)
   have hyn:∀q∈S,q.2≠y:=fun q hq=>h2.2.2 q.2 (List.mem_map.2 ⟨q,hq,rfl⟩) y (by simp)
   obtain ⟨t1,t2⟩:=A6e hP.nd
   obtain ⟨A,B,hAB,hA,hB⟩:=Up y t1 fun a ha=>hyn _ ((t2 a).1 ha)
   have hv:∀q∈A++B,q.2<x:=fun q hq=>by
    rw [<-hAB] at hq
    exact hlt _ ((t2 q).1 hq)
   rw [Xz,Aft]
   have hins:ins1 (y,x) (tpR S)=A++(y,x)::B:=by rw [hAB]; exact Vw hB hA
   rw [hins]
   rw [hAB] at hih
   rw [Ft,List.foldl_append,List.foldl_cons]
   rw [Ft,List.foldl_append] at hih
   -- behind the first part
   have hrA:∀a∈(A.foldl stR ([],[],[])).1,a<x:=fun a ha=>by
    have:=(Us A).mem_iff (a:=a)
    have:=this.1 (List.mem_append_left _ ha)
    obtain ⟨q,hq,rfl⟩:=List.mem_map.1 this
    exact hv q (by simp [hq])
   have hoA:∀q∈(A.foldl stR ([],[],[])).2.2,q.1<y+1:=fun q hq=>by
    have:=(Afs A).subset (List.mem_map.2 ⟨q,hq,rfl⟩)
    obtain ⟨a,ha,he⟩:=List.mem_map.1 this
    have:=hA a ha
    omega
   have hfA:∀a∈(A.foldl stR ([],[],[])).2.1,a<=y:=fun a ha=>by
    have:=(Ast A).subset ha
    obtain ⟨q,hq,rfl⟩:=List.mem_map.1 this
    have:=hA q hq
    omega
   generalize A.foldl stR ([],[],[])=sA at *
   obtain ⟨rA,fA,oA⟩:=sA
   simp only at hrA hoA hfA
   rw [Gi (fun a ha=>Nat.le_of_lt (hrA a ha))]
   have hBp:B.Pairwise (fun a b=>a.1<b.1):=by
    rw [hAB,List.pairwise_append] at t1
    exact t1.2.1
   obtain ⟨c,hM⟩:=A9c B (y+1) (rA,fA,oA) (rA++[x],fA++[y],oA) (.no _ _ _ hrA hoA (by omega)) (fun q hq=>hv q (by simp [hq])) hBp fun b hb=>hB b hb
   rw [hih] at hM
   generalize B.foldl stR (rA++[x],fA++[y],oA)=s2 at *
   generalize Ft S=s3 at *
   obtain ⟨r,f,o⟩:=s3
   rcases hM.inv with ⟨r',o',e1,e2⟩ | ⟨r',g,b,o1,o2,hy,ho1,ho2,e1,e2⟩
   ·simp only [Prod.mk.injEq] at e1
    obtain ⟨rfl,rfl,rfl⟩:=e1
    rw [e2,Gi hfA]
   ·simp only [Prod.mk.injEq] at e1
    obtain ⟨rfl,rfl,e3⟩:=e1
    rw [e2,Gj hfA hy]
    simp only
    rw [Xz,e3,Vw ho2 ho1]
 have:=key S.reverse (by rw [List.reverse_reverse]; exact h)
 rwa [List.reverse_reverse] at this
abbrev Tb:=List (List Nat×List Nat)
def Du:Tb->Pt->Tb
 | [],q=>[([q.2],[q.1])]
 | (r,f)::T,q=>match (Fm q.2 r).2 with
  | none=>((Fm q.2 r).1,f++[q.1])::T
  | some b=>((Fm q.2 r).1,f)::Du T (q.1,b)
def Fx (S:List Pt):Tb:=S.foldl Du []
theorem Wc:∀(S:List Pt) (r f:List Nat) (T:Tb) (o:List Pt),∃o',S.foldl stR (r,f,o)=((S.foldl stR (r,f,[])).1,(S.foldl stR (r,f,[])).2.1,o++o')/\(S.foldl stR (r,f,[])).2.2=o'/\S.foldl Du ((r,f)::T)=((S.foldl stR (r,f,[])).1,(S.foldl stR (r,f,[])).2.1)::o'.foldl Du T
 | [],r,f,T,o=>⟨[],by simp,rfl,rfl⟩
 | (x,y)::S,r,f,T,o=>by
  simp only [List.foldl_cons]
  rcases Fv y r with ⟨h1,h2⟩ | ⟨A,b,C,rfl,h2,h3,h4⟩
  ·have e:Du ((r,f)::T) (x,y)=(r++[y],f++[x])::T:=by simp only [Du,h2]
   rw [Gi h1,Gi h1,e]
   exact Wc S _ _ T o
  ·have e:Du ((A++b::C,f)::T) (x,y)=(A++y::C,f)::Du T (x,b):=by simp only [Du,h4]
   rw [Gj h2 h3,Gj h2 h3,e]
   obtain ⟨o1,a1,a2,a3⟩:=Wc S (A++y::C) f (Du T (x,b)) (o++[(x,b)])
   obtain ⟨o2,b1,b2,b3⟩:=Wc S (A++y::C) f T [(x,b)]
   rw [List.nil_append]
   have h12:o1=o2:=by rw [<-a2,<-b2]
   subst h12
   rw [b1]
   refine ⟨(x,b)::o1,?_,rfl,?_⟩
   ·rw [a1]
    simp
   ·rw [a3]
    rfl
theorem A3i {S:List Pt} (h:S≠[]):Fx S=((Ft S).1,(Ft S).2.1)::Fx (Ft S).2.2:=by
 cases S with
 | nil=>exact absurd rfl h
 | cons q S =>
  obtain ⟨x,y⟩:=q
  obtain ⟨o,a1,a2,a3⟩:=Wc S [y] [x] [] []
  have e1:Fx ((x,y)::S)=S.foldl Du [([y],[x])]:=rfl
  have e2:Ft ((x,y)::S)=S.foldl stR ([y],[x],[]):=rfl
  rw [e1,e2,a3,a2]
  rfl
theorem Afu {S:List Pt} (h:S≠[]):(Ft S).2.2.length<S.length:=by
 have h1:=(Us S).length_eq
 rw [List.length_append,List.length_map,List.length_map] at h1
 have h2:0<(Ft S).1.length:=by
  have:∀(S:List Pt) (s:Rw3),0<s.1.length->0<(S.foldl stR s).1.length:=by
   intro S
   induction S with
   | nil=>intro s h; exact h
   | cons q S ih =>
    intro s h
    refine ih _ ?_
    obtain ⟨r,f,o⟩:=s
    obtain ⟨x,y⟩:=q
    rcases Fv y r with ⟨h1,h2⟩ | ⟨A,b,C,rfl,h2,h3,h4⟩
    ·rw [Gi h1]; simp
    ·rw [Gj h2 h3]; simp; omega
  cases S with
  | nil=>exact absurd rfl h
  | cons q S=>exact this S (stR ([],[],[]) q) (by obtain ⟨x,y⟩:=q; rw [Gi (by simp)]; simp)
 omega
def swT (T:Tb):Tb:=T.map fun q=>(q.2,q.1)
theorem Add:∀(n:Nat) {S:List Pt},S.length<=n->PtsR S->Fx (tpR S)=swT (Fx S)
 | 0,S,hn,_=>by
  obtain rfl:S=[]:=List.length_eq_zero_iff.1 (by omega)
  rfl
 | n+1,S,hn,h=>by
  by_cases h0:S=[]
  ·subst h0; rfl
  ·have ht:tpR S≠[]:=fun hc=>by
    obtain ⟨_,t2⟩:=A6e h.nd
    cases S with
    | nil=>exact h0 rfl
    | cons q S =>
     have:=(t2 (q.2,q.1)).2 (by simp)
     rw [hc] at this
     cases this
   have hs:=Afu h0
   rw [A3i ht,A3i h0,Apc h]
   simp only [swT,List.map_cons]
   congr 1
   exact Add n (by omega) h.o
theorem Ahl {y1 y2 b:Nat} {r1 r2 r':List Nat} (s1:r1.Pairwise (·<=·)) (s2:r2.Pairwise (·<=·)) (h1:Fm y1 r1=(r',some b)) (h2:Fm y2 r2=(r',some b)):y1=y2/\r1=r2:=by
 rcases Fv y1 r1 with ⟨_,e⟩ | ⟨A1,b1,B1,rfl,a1,c1,e1⟩
 ·rw [e] at h1; cases h1
 rcases Fv y2 r2 with ⟨_,e⟩ | ⟨A2,b2,B2,rfl,a2,c2,e2⟩
 ·rw [e] at h2; cases h2
 rw [e1] at h1
 rw [e2] at h2
 simp only [Prod.mk.injEq,Option.some.injEq] at h1 h2
 obtain ⟨h1,g1⟩:=h1
 obtain ⟨h2,g2⟩:=h2
 subst g1
 subst g2
 have hB1:∀z∈B1,b2<=z:=(List.pairwise_cons.1 (List.pairwise_append.1 s1).2.1).1
 have hB2:∀z∈B2,b2<=z:=(List.pairwise_cons.1 (List.pairwise_append.1 s2).2.1).1
 have he:A1++y1::B1=A2++y2::B2:=by rw [h1,h2]
 have hlen:A1.length=A2.length:=by
  rcases Nat.lt_trichotomy A1.length A2.length with h | h | h
  ·exfalso
   have g:(A1++y1::B1)[A2.length]? = some y2:=by rw [he]; simp
   rw [List.getElem?_append_right (by omega),show A2.length-A1.length=(A2.length-A1.length-1)+1 by omega,List.getElem?_cons_succ] at g
   have:=hB1 y2 (List.mem_of_getElem? g)
   omega
  ·exact h
  ·exfalso
   have g:(A2++y2::B2)[A1.length]? = some y1:=by rw [<-he]; simp
   rw [List.getElem?_append_right (by omega),show A1.length-A2.length=(A1.length-A2.length-1)+1 by omega,List.getElem?_cons_succ] at g
   have:=hB2 y1 (List.mem_of_getElem? g)
   omega
 obtain ⟨rfl,h3⟩:=List.append_inj he hlen
 obtain ⟨rfl,rfl⟩:=List.cons.inj h3
 exact ⟨rfl,rfl⟩
theorem Wp {y:Nat} {r:List Nat} (h:r.Pairwise (·<=·)):(Fm y r).1.Pairwise (·<=·):=by
 rcases Fv y r with ⟨h1,e⟩ | ⟨A,b,B,rfl,h1,h2,e⟩
 ·rw [e]
  exact List.pairwise_append.2 ⟨h,List.pairwise_singleton _ _,fun a ha c hc=>by
   obtain rfl:c=y:=by simpa using hc
   exact h1 a ha⟩
 ·rw [e]
  obtain ⟨p1,p2,p3⟩:=List.pairwise_append.1 h
  obtain ⟨p4,p5⟩:=List.pairwise_cons.1 p2
  refine List.pairwise_append.2 ⟨p1,List.pairwise_cons.2 ⟨fun c hc => ?_,p5⟩,fun a ha c hc => ?_⟩
  ·have:=p4 c hc; omega
  ·rcases List.mem_cons.1 hc with rfl | hc
   ·exact h1 a ha
   ·exact p3 a ha c (by simp [hc])
structure RowOk (x:Nat) (q:List Nat×List Nat):Prop where
 srt:q.1.Pairwise (·<=·)
 ne:q.1≠[]
 nf:q.2≠[]
 lt:∀a∈q.2,a<x
def TbOk (x:Nat) (T:Tb):Prop:=∀q∈T,RowOk x q
theorem TbOk.mono {x x':Nat} {T:Tb} (h:TbOk x T) (hx:x<=x'):TbOk x' T:=fun q hq=>⟨(h q hq).srt,(h q hq).ne,(h q hq).nf,fun a ha=>by have:=(h q hq).lt a ha; omega⟩
theorem Afp {x:Nat}:∀{T:Tb} (y:Nat),TbOk x T->TbOk (x+1) (Du T (x,y))
 | [],y,_=>fun q hq=>by
  obtain rfl:q=([y],[x]):=by simpa [Du] using hq
  exact ⟨List.pairwise_singleton _ _,by simp,by simp,by simp⟩
 | (r,f)::T,y,h=>fun q hq=>by
  have h0:=h (r,f) (by simp)
  have hT:TbOk x T:=fun p hp=>h p (by simp [hp])
  rcases Fv y r with ⟨h1,e⟩ | ⟨A,b,B,rfl,h1,h2,e⟩
  ·have e2:Du ((r,f)::T) (x,y)=(r++[y],f++[x])::T:=by simp only [Du,e]
   rw [e2] at hq
   rcases List.mem_cons.1 hq with rfl | hq
   ·have:=Wp (y:=y) h0.srt
    rw [e] at this
    refine ⟨this,by simp,by simp,fun a ha => ?_⟩
    rcases List.mem_append.1 ha with ha | ha
    ·have:=h0.lt a ha; omega
    ·have:a=x:=by simpa using ha
     omega
   ·exact hT.mono (by omega) q hq
  ·have e2:Du ((A++b::B,f)::T) (x,y)=(A++y::B,f)::Du T (x,b):=by simp only [Du,e]
   rw [e2] at hq
   rcases List.mem_cons.1 hq with rfl | hq
   ·have:=Wp (y:=y) h0.srt
    rw [e] at this
    exact ⟨this,by simp,h0.nf,fun a ha=>by have:=h0.lt a ha; omega⟩
   ·exact Afp b hT q hq
theorem A0o {x:Nat}:∀{T1 T2:Tb} {y1 y2:Nat},TbOk x T1->TbOk x T2->Du T1 (x,y1)=Du T2 (x,y2)->T1=T2/\y1=y2
 | [],[],y1,y2,_,_,h=>by simpa [Du] using h
 | [],(r,f)::T,y1,y2,_,h2,h=>by
  exfalso
  have h0:=h2 (r,f) (by simp)
  rcases Fv y2 r with ⟨_,e⟩ | ⟨A,b,B,rfl,_,_,e⟩
  ·have e2:Du ((r,f)::T) (x,y2)=(r++[y2],f++[x])::T:=by simp only [Du,e]
   rw [e2] at h
   simp only [Du,List.cons.injEq,Prod.mk.injEq] at h
   have:=congrArg List.length h.1.2
   have hf:=h0.nf
   simp at this
   exact hf (by simpa using this)
  ·have e2:Du ((A++b::B,f)::T) (x,y2)=(A++y2::B,f)::Du T (x,b):=by simp only [Du,e]
   rw [e2] at h
   simp only [Du,List.cons.injEq,Prod.mk.injEq] at h
   have:=h0.lt x (by simp only; rw [<-h.1.2]; simp)
   omega
 | (r,f)::T,[],y1,y2,h1,h2,h=>by
  have:=A0o (T1:=[]) (T2:=(r,f)::T) h2 h1 h.symm
  exact ⟨this.1.symm,this.2.symm⟩
 | (r1,f1)::T1,(r2,f2)::T2,y1,y2,h1,h2,h=>by
  have g1:=h1 (r1,f1) (by simp)
  have g2:=h2 (r2,f2) (by simp)
  have k1:TbOk x T1:=fun p hp=>h1 p (by simp [hp])
  have k2:TbOk x T2:=fun p hp=>h2 p (by simp [hp])
  rcases Fv y1 r1 with ⟨_,e1⟩ | ⟨A1,b1,B1,hr1,_,_,e1⟩ <;> rcases Fv y2 r2 with ⟨_,e2⟩ | ⟨A2,b2,B2,hr2,_,_,e2⟩
  ·have q1:Du ((r1,f1)::T1) (x,y1)=(r1++[y1],f1++[x])::T1:=by simp only [Du,e1]
   have q2:Du ((r2,f2)::T2) (x,y2)=(r2++[y2],f2++[x])::T2:=by simp only [Du,e2]
   rw [q1,q2] at h
   simp only [List.cons.injEq,Prod.mk.injEq] at h
   obtain ⟨⟨a,b⟩,rfl⟩:=h
   obtain ⟨rfl,c⟩:=List.append_inj' a rfl
   obtain ⟨rfl,_⟩:=List.append_inj' b rfl
   exact ⟨rfl,by simpa using c⟩
  ·exfalso
   have q1:Du ((r1,f1)::T1) (x,y1)=(r1++[y1],f1++[x])::T1:=by simp only [Du,e1]
   have q2:Du ((r2,f2)::T2) (x,y2)=(A2++y2::B2,f2)::Du T2 (x,b2):=by simp only [Du,e2]
   rw [q1,q2] at h
   simp only [List.cons.injEq,Prod.mk.injEq] at h
   have:=g2.lt x (by simp only; rw [<-h.1.2]; simp)
   omega
  ·exfalso
   have q1:Du ((r1,f1)::T1) (x,y1)=(A1++y1::B1,f1)::Du T1 (x,b1):=by simp only [Du,e1]
   have q2:Du ((r2,f2)::T2) (x,y2)=(r2++[y2],f2++[x])::T2:=by simp only [Du,e2]
   rw [q1,q2] at h
   simp only [List.cons.injEq,Prod.mk.injEq] at h
   have:=g1.lt x (by simp only; rw [h.1.2]; simp)
   omega
  ·have q1:Du ((r1,f1)::T1) (x,y1)=(A1++y1::B1,f1)::Du T1 (x,b1):=by simp only [Du,e1]
   have q2:Du ((r2,f2)::T2) (x,y2)=(A2++y2::B2,f2)::Du T2 (x,b2):=by simp only [Du,e2]
   rw [q1,q2] at h
   simp only [List.cons.injEq,Prod.mk.injEq] at h
   obtain ⟨⟨a,rfl⟩,c⟩:=h
   obtain ⟨rfl,rfl⟩:=A0o k1 k2 c
   rw [<-a] at e2
   obtain ⟨rfl,rfl⟩:=Ahl g1.srt g2.srt e1 e2
   exact ⟨rfl,rfl⟩
theorem Lq (S:List Pt) (q:Pt):Fx (S++[q])=Du (Fx S) q:=Yw _ _ _ _
theorem Als {S1 S2:List Pt} (he:S1.map (·.1)=S2.map (·.1)) (hi:(S1.map (·.1)).Pairwise (·<·)) (h:Fx S1=Fx S2):S1=S2:=by
 have ok:∀(R:List Pt) (x:Nat),(R.reverse.map (·.1)).Pairwise (·<·)->(∀q∈R,q.1<x)->TbOk x (Fx R.reverse):=by
  intro R
  induction R with
  | nil=>intro x _ _ q hq; cases hq
  | cons q R ih =>
   intro x hp hx
   rw [List.reverse_cons] at hp ⊢
   rw [List.map_append,List.pairwise_append] at hp
   rw [Lq]
   refine (Afp q.2 (ih q.1 hp.1 fun a ha=>hp.2.2 a.1 (List.mem_map.2 ⟨a,by simpa using ha,rfl⟩) q.1 (by simp))).mono (hx q (by simp))
 have key:∀R1 R2:List Pt,R1.reverse.map (·.1)=R2.reverse.map (·.1)->(R1.reverse.map (·.1)).Pairwise (·<·)->Fx R1.reverse=Fx R2.reverse->R1=R2:=by
  intro R1
  induction R1 with
  | nil =>
   intro R2 he _ _
   have:=congrArg List.length he
   cases R2 with
   | nil=>rfl
   | cons a R2=>simp at this
  | cons q1 R1 ih =>
   intro R2 he hi h
   cases R2 with
   | nil =>
    have:=congrArg List.length he
    simp at this
   | cons q2 R2 =>
    have hi2:=hi
    rw [he] at hi2
    rw [List.reverse_cons,List.reverse_cons] at he h
    rw [List.reverse_cons] at hi hi2
    rw [List.map_append,List.map_append] at he
    rw [List.map_append,List.pairwise_append] at hi hi2
    obtain ⟨e1,e2⟩:=List.append_inj' he rfl
    have e3:q1.1=q2.1:=by simpa using e2
    rw [Lq,Lq] at h
    obtain ⟨x,y1⟩:=q1
    obtain ⟨x2,y2⟩:=q2
    simp only at e3
    subst e3
    have o1:=ok R1 x hi.1 fun a ha=>hi.2.2 a.1 (List.mem_map.2 ⟨a,by simpa using ha,rfl⟩) x (by simp)
    have o2:=ok R2 x hi2.1 fun a ha=>hi2.2.2 a.1 (List.mem_map.2 ⟨a,by simpa using ha,rfl⟩) x (by simp)
    obtain ⟨h3,rfl⟩:=A0o o1 o2 h
    rw [ih R2 e1 hi.1 h3]
 have:=key S1.reverse S2.reverse (by simpa using he) (by simpa using hi) (by simpa using h)
 simpa using this
theorem A9l:∀{L K:List Pt},L.Pairwise (fun a b=>a.1<b.1)->K.Pairwise (fun a b=>a.1<b.1)->(∀q,q∈L↔q∈K)->L=K
 | [],[],_,_,_=>rfl
 | [],b::K,_,_,h=>by have:=(h b).2 (by simp); cases this
 | a::L,[],_,_,h=>by have:=(h a).1 (by simp); cases this
 | a::L,b::K,h1,h2,h=>by
  rw [List.pairwise_cons] at h1 h2
  have hab:a=b:=by
   rcases List.mem_cons.1 ((h a).1 (by simp)) with e | e
   ·exact e
   ·rcases List.mem_cons.1 ((h b).2 (by simp)) with e' | e'
    ·exact e'.symm
    ·have q1:=h2.1 a e
     have q2:=h1.1 b e'
     omega
  subst hab
  rw [A9l h1.2 h2.2 fun q => ?_]
  have:=h q
  rw [List.mem_cons,List.mem_cons] at this
  constructor
  ·intro hq
   rcases this.1 (.inr hq) with e | e
   ·subst e
    have:=h1.1 q hq
    omega
   ·exact e
  ·intro hq
   rcases this.2 (.inr hq) with e | e
   ·subst e
    have:=h2.1 q hq
    omega
   ·exact e
def Dv (y:Nat):List Nat->Nat
 | []=>0
 | a::r=>if a>y then 0 else Dv y r+1
theorem A9n (y:Nat):∀r:List Nat,Dv y r<=r.length
 | []=>Nat.le_refl _
 | a::r=>by
  rw [Dv]
  split
  ·exact Nat.zero_le _
  ·have:=A9n y r
   simp only [List.length_cons]; omega
theorem A4i (y:Nat):∀r:List Nat,(Fm y r).1=if Dv y r<r.length then r.set (Dv y r) y else r++[y]
 | []=>rfl
 | a::r=>by
  rw [Fm,Dv]
  by_cases h:a>y
  ·rw [if_pos h,if_pos h,if_pos (by simp)]; rfl
  ·rw [if_neg h,if_neg h]
   simp only
   rw [A4i y r]
   by_cases h2:Dv y r<r.length
   ·rw [if_pos h2,if_pos (by simp only [List.length_cons]; omega),List.set_cons_succ]
   ·rw [if_neg h2,if_neg (by simp only [List.length_cons]; omega)]; rfl
theorem A1s (y:Nat):∀r:List Nat,(Fm y r).2=r[Dv y r]?
 | []=>rfl
 | a::r=>by
  rw [Fm,Dv]
  by_cases h:a>y
  ·rw [if_pos h,if_pos h]; rfl
  ·rw [if_neg h,if_neg h]
   simp only [List.getElem?_cons_succ]
   exact A1s y r
def Ey:List (List Nat)->Nat->List (List Nat)×Nat
 | [],y=>([[y]],0)
 | r::T,y=>if Dv y r<r.length then (r.set (Dv y r) y::(Ey T (r.getD (Dv y r) 0)).1,(Ey T (r.getD (Dv y r) 0)).2+1) else ((r++[y])::T,0)
def Nt (o:List (List Nat)) (i x:Nat):List (List Nat):=if i=o.length then o++[[x]] else o.set i (o.getD i []++[x])
theorem Abw:∀(T:Tb) (q:Pt),(Du T q).map (·.1)=(Ey (T.map (·.1)) q.2).1/\(Du T q).map (·.2)=Nt (T.map (·.2)) (Ey (T.map (·.1)) q.2).2 q.1/\(Ey (T.map (·.1)) q.2).2<=T.length
 | [],q=>⟨rfl,rfl,Nat.le_refl _⟩
 | (r,f)::T,(x,y)=>by
  have hb:=A1s y r
  have hp:=A4i y r
  by_cases h:Dv y r<r.length
  ·rw [List.getElem?_eq_getElem h] at hb
   rw [if_pos h] at hp
   have hg:r.getD (Dv y r) 0=r[Dv y r]:=by rw [List.getD_eq_getElem?_getD,List.getElem?_eq_getElem h]; rfl
   obtain ⟨i1,i2,i3⟩:=Abw T (x,r[Dv y r])
   dsimp only at i1 i2 i3
   have e1:Du ((r,f)::T) (x,y)=((Fm y r).1,f)::Du T (x,r[Dv y r]):=by simp only [Du,hb]
   have e2:Ey (r::T.map (·.1)) y=(r.set (Dv y r) y::(Ey (T.map (·.1)) r[Dv y r]).1,(Ey (T.map (·.1)) r[Dv y r]).2+1):=by rw [Ey,if_pos h,hg]
   rw [e1]
   simp only [List.map_cons]
   rw [e2,i1,i2,hp]
   refine ⟨rfl,?_,by simp only [List.length_cons]; omega⟩
   simp only [Nt,List.length_cons,List.length_map]
   by_cases he:(Ey (T.map (·.1)) r[Dv y r]).2=T.length
   ·rw [if_pos he,if_pos (by omega)]; rfl
   ·rw [if_neg he,if_neg (by omega),List.set_cons_succ,List.getD_cons_succ]
  ·rw [List.getElem?_eq_none (by omega)] at hb
   rw [if_neg h] at hp
   have e1:Du ((r,f)::T) (x,y)=((Fm y r).1,f++[x])::T:=by simp only [Du,hb]
   have e2:Ey (r::T.map (·.1)) y=((r++[y])::T.map (·.1),0):=by rw [Ey,if_neg h]
   rw [e1]
   simp only [List.map_cons]
   rw [e2,hp]
   exact ⟨rfl,by simp [Nt],Nat.zero_le _⟩
def Zv:List Nat->List (List Nat)×List (List Nat)
 | []=>([],[])
 | y::R=>((Ey (Zv R).1 y).1,Nt (Zv R).2 (Ey (Zv R).1 y).2 (R.length+1))
def Ei (w:List Nat):List (List Nat)×List (List Nat):=Zv w.reverse
theorem Lr (w:List Nat) (y:Nat):Ei (w++[y])=((Ey (Ei w).1 y).1,Nt (Ei w).2 (Ey (Ei w).1 y).2 (w.length+1)):=by
 rw [Ei,List.reverse_append]
 show Zv (y::w.reverse)=_
 rw [Zv,List.length_reverse]; rfl
def Ji (w:List Nat):List Pt:=w.zipIdx.map fun t=>(t.2+1,t.1)
theorem Afo (w:List Nat) (y:Nat):Ji (w++[y])=Ji w++[(w.length+1,y)]:=by
 rw [Ji,List.zipIdx_append,List.map_append]
 simp [Ji,List.zipIdx]
theorem Oh (w:List Nat):Ei w=((Fx (Ji w)).map (·.1),(Fx (Ji w)).map (·.2)):=by
 have key:∀R:List Nat,Ei R.reverse=((Fx (Ji R.reverse)).map (·.1),(Fx (Ji R.reverse)).map (·.2)):=by
  intro R
  induction R with
  | nil=>rfl
  | cons y R ih =>
   rw [List.reverse_cons,Lr,Afo,Lq,ih]
   obtain ⟨h1,h2,_⟩:=Abw (Fx (Ji R.reverse)) (R.reverse.length+1,y)
   rw [h1,h2]
 have:=key w.reverse
 rwa [List.reverse_reverse] at this
def PlK (mk:List AV):Prop:=∀k∈mk,∃a b:Int,k = .agg [.int .i64 a,.int .i64 b]
theorem A4a (a b:Int):∀(mk:List AV) (i:Nat),PlK mk->∃r,Dr (some 2) (.agg [.int .i64 a,.int .i64 b]) mk i=some r
 | [],_,_=>⟨none,rfl⟩
 | k::r,i,h=>by
  obtain ⟨c,d,rfl⟩:=h k (by simp)
  have hk:El (some 2) (.agg [.int .i64 c,.int .i64 d])=true:=rfl
  obtain ⟨x,hx⟩:=A4a a b r (i+1) fun q hq=>h q (by simp [hq])
  simp only [Dr,hk,if_true,AV.cells,Dy]
  by_cases h1:a=c
  ·by_cases h2:b=d
   ·rw [if_pos h1,if_pos h2]; exact ⟨_,rfl⟩
   ·rw [if_pos h1,if_neg h2]; exact ⟨x,hx⟩
  ·rw [if_neg h1]; exact ⟨x,hx⟩
def MpO (h:Bc) (km vm:Nat):Prop:=∃(clock:Nat) (mk vs:List AV) (bs:List Nat),Bb h km = .map vm clock mk vs bs/\PlK mk
theorem MpO.other {h h':Bc} {km vm:Nat} (hm:MpO h km vm) (hf:Bb h' km=Bb h km):MpO h' km vm:=by
 obtain ⟨c,mk,vs,bs,h1,h2⟩:=hm
 exact ⟨c,mk,vs,bs,by rw [hf,h1],h2⟩
theorem MpO.lt {h:Bc} {km vm:Nat} (hm:MpO h km vm):km<h.length:=by
 obtain ⟨c,mk,vs,bs,h1,_⟩:=hm
 exact Dz h1 (by simp)
theorem Abe {call:Bl} {base:Nat} {Q:EX×St->Prop} {d:Option Nat} {L:List IOper} {ks:List Kont} {e:Env} {h:Bc} {km vm:Nat} {a b:Int} {v:AV} (hm:MpO h km vm)
  (H:∀h',MpO h' km vm->h'.length=h.length->(∀j,j≠km->Bb h' j=Bb h j)->GO call base Q L ks ⟨Bj e d .undef,h'⟩):GP call base Q d L ks e (muA (some 2) h (.agg [.int .i64 a,.int .i64 b]) v (.omap km vm)):=by
 have hlt:=hm.lt
 obtain ⟨c,mk,vs,bs,h1,h2⟩:=hm
 obtain ⟨r,hr⟩:=A4a a b mk 0 h2
 have hk:El (some 2) (.agg [.int .i64 a,.int .i64 b])=true:=rfl
 have key:∀c' mk' vs' bs',PlK mk'->GO call base Q L ks ⟨Bj e d .undef,setH h km (.map vm c' mk' vs' bs')⟩:=fun c' mk' vs' bs' hp =>
  H _ ⟨c',mk',vs',bs',getH_setH_self ..,hp⟩ (by rw [Bd]; omega) fun j hj=>Ba _ _ _ _ fun e=>hj e.symm
 simp only [muA,h1,hk,and_self,if_true,hr]
 cases r with
 | none =>
  refine key _ _ _ _ fun k hkm => ?_
  rcases List.mem_append.1 hkm with hkm | hkm
  ·exact h2 k hkm
  ·exact ⟨a,b,by simpa using hkm⟩
 | some i =>
  refine key _ _ _ _ fun k hkm => ?_
  rcases List.mem_or_eq_of_mem_set hkm with hkm | hkm
  ·exact h2 k hkm
  ·exact ⟨a,b,hkm⟩
theorem OwnG.cellsK {lo:Nat} {h:Bc} {v:AV} {g:Option Nat} {n:Nat} {cs:List AV} (ho:OwnG lo h v g n cs) {j:Nat} (hj:Ea v=some j):lo<=j/\∃ver,Bb h j = .cells ver cs:=by
 rcases ho with ⟨_,_,rfl⟩ | ⟨key,u,hk,rfl,hH,_⟩
 ·cases hj
 ·obtain rfl:key=j:=by simpa [Ea] using hj
  exact ⟨hk,u,hH⟩
theorem OwnG.isOne {lo:Nat} {h:Bc} {v:AV} {g:Option Nat} {n:Nat} {cs:List AV} (ho:OwnG lo h v g n cs):v.cells=[v]/\Ev.oneB v=true/\lenA v=some n:=by
 rcases ho with ⟨hn,_,rfl⟩ | ⟨_,_,_,rfl,_⟩
 ·exact ⟨rfl,rfl,by rw [hn]; rfl⟩
 ·exact ⟨rfl,rfl,rfl⟩
theorem RwO.cell0 {B:Nat} {h:Bc} {L:List RwT} (hr:RwO B h L) {t:RwT} (ht:t∈L):∃(ver:Nat) (n:Int) (cs:List AV),Bb h t.key = .cells ver (.int .i64 n::cs):=by
 obtain ⟨_,h2,h3,_⟩:=hr.at' t ht
 cases hl:t.l with
 | nil=>exact absurd hl h3
 | cons a r=>exact ⟨t.ver,a,r.map (.int .i64),by rw [h2,hl]; rfl⟩
structure LsO (B:Nat) (h:Bc) (x:AV) (L:List RwT):Prop where
 ls:OwnG B h x none L.length (L.map RwT.av)
 rw:RwO B h L
def LsK (x:AV) (L:List RwT) (j:Nat):Prop:=Ea x=some j\/∃t∈L,t.key=j
theorem A9a (B:Nat) (h:Bc):LsO B h (.slice none [] true) []:=⟨A5k ..,.nil ..⟩
theorem Ani {j:Nat}:¬LsK (.slice none [] true) [] j:=by
 rintro (h | ⟨t,ht,_⟩)
 ·cases h
 ·cases ht
section
variable {B:Nat} {h:Bc} {x:AV} {L:List RwT}
theorem LsO.neX (hs:LsO B h x L) {j:Nat} (hj:Ea x=some j):∀t∈L,t.key≠j:=by
 rintro t ht rfl
 obtain ⟨u,n,cs,hc⟩:=hs.rw.cell0 ht
 obtain ⟨_,w,hw⟩:=OwnG.cellsK hs.ls hj
 rw [hw] at hc
 cases L with
 | nil=>cases ht
 | cons t L=>injection hc with _ hc; rw [List.map_cons] at hc; cases (List.cons.inj hc).1
theorem LsO.lt (hs:LsO B h x L) {j:Nat} (hj:LsK x L j):B<=j/\j<h.length:=by
 rcases hj with hj | ⟨t,ht,rfl⟩
 ·obtain ⟨a,u,hu⟩:=OwnG.cellsK hs.ls hj
  exact ⟨a,Dz hu (by simp)⟩
 ·exact ⟨(hs.rw.at' t ht).1,hs.rw.keyLt ht⟩
theorem LsO.other {h':Bc} (hs:LsO B h x L) (hf:∀j,LsK x L j->Bb h' j=Bb h j):LsO B h' x L:=
 ⟨hs.ls.other fun j hj=>hf j (.inl hj),hs.rw.other fun t ht=>hf t.key (.inr ⟨t,ht,rfl⟩)⟩
theorem LsK.cells (hs:LsO B h x L) {j:Nat} (hj:LsK x L j):∃ver cs,Bb h j = .cells ver cs/\∀km vm,AV.omap km vm∉cs:=by
 rcases hj with hj | ⟨t,ht,rfl⟩
 ·obtain ⟨_,u,hu⟩:=OwnG.cellsK hs.ls hj
  refine ⟨u,_,hu,fun km vm hm => ?_⟩
  obtain ⟨t,_,he⟩:=List.mem_map.1 hm
  cases he
 ·obtain ⟨_,h2,_⟩:=hs.rw.at' t ht
  refine ⟨t.ver,_,h2,fun km vm hm => ?_⟩
  obtain ⟨t,_,he⟩:=List.mem_map.1 hm
  cases he
theorem LsO.write {i j:Nat} {t:RwT} {v:Int} (hs:LsO B h x L) (hi:L[i]? = some t):LsO B (setH h t.key (.cells t.ver ((t.l.set j v).map (.int .i64)))) x (L.set i { t with l:=t.l.set j v }):=by
 have ht:=List.mem_of_getElem? hi
 have e:(L.set i { t with l:=t.l.set j v }).map RwT.av=L.map RwT.av:=by
  rw [List.map_set]
  have:RwT.av { t with l:=t.l.set j v }=t.av:=by simp [RwT.av]
  rw [this]
  refine List.ext_getElem? fun m => ?_
  rw [List.getElem?_set]
  split
  ·next h=>subst h; rw [List.getElem?_map,hi,List.length_map,if_pos (List.getElem?_eq_some_iff.1 hi).1]; rfl
  ·rfl
 exact ⟨by rw [e,List.length_set]; exact hs.ls.other fun m hm=>Ba _ _ _ _ (hs.neX hm t ht),hs.rw.write hi⟩
theorem LsO.grown {i lk lv:Nat} {t t':RwT} {v:Int} (hs:LsO B h (.oslice lk lv none 0 L.length none) L) (hi:L[i]? = some t) (hl:t'.l=t.l++[v]) (hc:t'.cap=none) (hk:t'.key=t.key\/t'.key=h.length) :
  LsO B (setH (setH h t'.key (.cells t'.ver (t'.l.map (.int .i64)))) lk (.cells lv ((L.map RwT.av).set i t'.av))) (.oslice lk lv none 0 (L.set i t').length none) (L.set i t'):=by
 have ht:=List.mem_of_getElem? hi
 have x3:=hs.neX (j:=lk) rfl
 have l0:=hs.lt (j:=lk) (.inl rfl)
 have tl:=hs.lt (j:=t.key) (.inr ⟨t,ht,rfl⟩)
 have e1:t'.key≠lk:=by
  rcases hk with e | e
  ·rw [e]; exact x3 t ht
  ·omega
 have hB:B<=t'.key:=by omega
 refine ⟨.inr ⟨lk,lv,l0.1,rfl,by rw [getH_setH_self,List.map_set],by simp [Be]⟩,hs.rw.put hi hB ?_ ?_ (by rw [hl]; simp) (.inl hc) fun u hu hne => ?_⟩
 ·rcases hk with e | e
  ·exact .inl e
  ·right
   intro u hu
   have:=hs.rw.keyLt hu
   omega
 ·rw [Ba _ _ _ _ (fun e=>e1 e.symm),getH_setH_self]
 ·have u1:=x3 u hu
  have u2:u.key≠t'.key:=by
   rcases hk with e | e
   ·rw [e]; exact hne
   ·have:=hs.rw.keyLt hu; omega
  rw [Ba _ _ _ _ (fun e=>u1 e.symm),Ba _ _ _ _ (fun e=>u2 e.symm)]
theorem LsO.more {h2:Bc} {x':AV} {t':RwT} (hs:LsO B h x L) (hx:OwnG B h2 x' none (L.length+1) (L.map RwT.av++[t'.av])) (hk:h.length<=t'.key) (hB:B<=h.length) (ht':Bb h2 t'.key = .cells t'.ver (t'.l.map (.int .i64))) (hne:t'.l≠[]) (hc:t'.cap=none\/t'.cap=some t'.l.length)
  (hf:∀u∈L,Bb h2 u.key=Bb h u.key):LsO B h2 x' (L++[t']):=
 ⟨by rw [List.length_append,List.map_append]; exact hx,hs.rw.more (by omega) (fun u hu=>by have:=hs.rw.keyLt hu; omega) ht' hne hc hf⟩
theorem LsO.frz {n:Nat} (hs:LsO B h x L):Bi h (n+3) x = .ret (.slice none (L.map fun t => .slice none (t.l.map (.int .i64)) false) false):=A4f hs.ls hs.rw.frz
theorem LsO.get (hs:LsO B h x L) {i:Nat} {t:RwT} (hi:L[i]? = some t):∃lk lv,x = .oslice lk lv none 0 L.length none/\Bb h lk = .cells lv (L.map RwT.av):=by
 rcases hs.ls with ⟨h0,_,_⟩ | ⟨lk,lv,_,e,hH,_⟩
 ·have:=(List.getElem?_eq_some_iff.1 hi).1
  omega
 ·exact ⟨lk,lv,e,hH⟩
end
structure StdO (B:Nat) (h:Bc) (K:Nat) (x:AV) (L:List RwT) (km vm:Nat):Prop where
 hd:Bb h K = .cells 0 [x,.omap km vm]
 lo:LsO B h x L
 mp:MpO h km vm
 bk:B<=K/\B<=km
def StK (K:Nat) (x:AV) (L:List RwT) (km:Nat) (j:Nat):Prop:=j=K\/j=km\/LsK x L j
section
variable {B:Nat} {h:Bc} {K:Nat} {x:AV} {L:List RwT} {km vm:Nat}
theorem StdO.neK (hs:StdO B h K x L km vm):K≠km:=fun e=>by
 obtain ⟨c,mk,vs,bs,h1,_⟩:=hs.mp
 have:=hs.hd
 rw [e,h1] at this
 cases this
theorem StdO.neX (hs:StdO B h K x L km vm) {j:Nat} (hj:LsK x L j):j≠K/\j≠km:=by
 obtain ⟨ver,cs,h1,h2⟩:=hj.cells hs.lo
 refine ⟨fun e => ?_,fun e => ?_⟩
 ·rw [e,hs.hd] at h1
  injection h1 with _ h1
  exact h2 km vm (by rw [<-h1]; simp)
 ·obtain ⟨c,mk,vs,bs,h3,_⟩:=hs.mp
  rw [e,h3] at h1; cases h1
theorem StdO.lt (hs:StdO B h K x L km vm) {j:Nat} (hj:StK K x L km j):B<=j/\j<h.length:=by
 rcases hj with rfl | rfl | hj
 ·exact ⟨hs.bk.1,Dz hs.hd (by simp)⟩
 ·exact ⟨hs.bk.2,hs.mp.lt⟩
 ·exact hs.lo.lt hj
theorem StdO.other {h':Bc} (hs:StdO B h K x L km vm) (hf:∀j,StK K x L km j->Bb h' j=Bb h j):StdO B h' K x L km vm where
 hd:=by rw [hf K (.inl rfl),hs.hd]
 lo:=hs.lo.other fun j hj=>hf j (.inr (.inr hj))
 mp:=hs.mp.other (hf km (.inr (.inl rfl)))
 bk:=hs.bk
theorem StdO.mapped {h':Bc} (hs:StdO B h K x L km vm) (hm:MpO h' km vm) (hf:∀j,j≠km->Bb h' j=Bb h j):StdO B h' K x L km vm where
 hd:=by rw [hf K hs.neK,hs.hd]
 lo:=hs.lo.other fun j hj=>hf j (hs.neX hj).2
 mp:=hm
 bk:=hs.bk
theorem StdO.write {i j:Nat} {t:RwT} {v:Int} (hs:StdO B h K x L km vm) (hi:L[i]? = some t):StdO B (setH h t.key (.cells t.ver ((t.l.set j v).map (.int .i64)))) K x (L.set i { t with l:=t.l.set j v }) km vm:=by
 obtain ⟨n1,n2⟩:=hs.neX (.inr ⟨t,List.mem_of_getElem? hi,rfl⟩)
 exact ⟨by rw [Ba _ _ _ _ n1,hs.hd],hs.lo.write hi,hs.mp.other (Ba _ _ _ _ n2),hs.bk⟩
end
theorem Zb {call:Bl} {base:Nat} {Q:EX×St->Prop} {d:Option Nat} {ops:List IOper} {ks:List Kont} {e:Env} {h:Bc} {b kk:Nat} {t:RwT} {v:Int} {y:AV} (hkk:kk=h.length) (hy:Dh h y=some (none,1,[.int .i64 v])) (ht:Bb h t.key = .cells t.ver (t.l.map (.int .i64))) (hc:t.cap=none\/t.cap=some t.l.length) (hr:(t.l.length+1)*b<=1099511627776)
  (H:∀t':RwT,t'.l=t.l++[v]->t'.cap=none->(t'.key=t.key\/t'.key=h.length)->GO call base Q ops ks ⟨Bj e d t'.av,setH h t'.key (.cells t'.ver (t'.l.map (.int .i64)))⟩) :
  GP call base Q d ops ks e (Df kk none b t.av y h):=by
 subst hkk
 obtain ⟨key,ver,cap,l⟩:=t
 simp only at ht hc hr H
 have hroom:=Ka hr
 have h2:¬l.length+1<=l.length:=by omega
 rcases hc with rfl | rfl
 ·have:Df h.length none b (RwT.av ⟨key,ver,none,l⟩) y h = .ret (RwT.av ⟨key,ver+1,none,l++[v]⟩,setH h key (.cells (ver+1) ((l++[v]).map (.int .i64)))):=by
   simp only [RwT.av,Df,hy,List.length_cons,List.length_nil,Nat.zero_add,ht,hroom,Be,List.length_map,ne_eq,not_true_eq_false,if_false,or_self,Nat.mul_one,Nat.lt_irrefl,h2,and_self,if_true,List.map_append,List.length_append,Nat.succ_ne_self]
   simp
  rw [this,Hc]
  exact H ⟨key,ver+1,none,l++[v]⟩ rfl rfl (.inl rfl)
 ·have:Df h.length none b (RwT.av ⟨key,ver,some l.length,l⟩) y h = .ret (RwT.av ⟨h.length,(Bb h h.length).next,none,l++[v]⟩,setH h h.length (.cells (Bb h h.length).next ((l++[v]).map (.int .i64)))):=by
   simp only [RwT.av,Df,hy,List.length_cons,List.length_nil,Nat.zero_add,ht,hroom,Be,List.length_map,ne_eq,not_true_eq_false,if_false,or_self,Nat.mul_one,Nat.lt_irrefl,h2,and_self,if_true,List.map_append,List.length_append,List.drop_zero,List.map_cons,List.map_nil]
   rw [List.take_of_length_le (by simp)]
   simp
  rw [this,Hc]
  exact H ⟨h.length,(Bb h h.length).next,none,l++[v]⟩ rfl rfl (.inr rfl)
theorem StdO.grown {B:Nat} {h:Bc} {K i lk lv:Nat} {L:List RwT} {km vm:Nat} {t t':RwT} {v:Int} (hs:StdO B h K (.oslice lk lv none 0 L.length none) L km vm) (hi:L[i]? = some t) (hl:t'.l=t.l++[v]) (hc:t'.cap=none) (hk:t'.key=t.key\/t'.key=h.length) :
  StdO B (setH (setH h t'.key (.cells t'.ver (t'.l.map (.int .i64)))) lk (.cells lv ((L.map RwT.av).set i t'.av))) K (.oslice lk lv none 0 (L.set i t').length none) (L.set i t') km vm:=by
 have ht:=List.mem_of_getElem? hi
 obtain ⟨n1,n2⟩:=hs.neX (.inr ⟨t,ht,rfl⟩)
 obtain ⟨x1,x2⟩:=hs.neX (j:=lk) (.inl rfl)
 have k0:=hs.lt (j:=K) (.inl rfl)
 have m0:=hs.lt (j:=km) (.inr (.inl rfl))
 have e2:t'.key≠K:=by
  rcases hk with e | e
  ·rw [e]; exact n1
  ·omega
 have e3:t'.key≠km:=by
  rcases hk with e | e
  ·rw [e]; exact n2
  ·omega
 exact ⟨by rw [Ba _ _ _ _ x1,Ba _ _ _ _ e2,List.length_set,hs.hd],hs.lo.grown hi hl hc hk,hs.mp.other (by rw [Ba _ _ _ _ x2,Ba _ _ _ _ e3]),hs.bk⟩
theorem A8z {x:AV} {L:List RwT} {i n j:Nat} {t t':RwT} (hi:L[i]? = some t) (hk:t'.key=t.key\/n<=t'.key) (hj:LsK x (L.set i t') j):LsK x L j\/n<=j:=by
 rcases hj with hj | ⟨u,hu,rfl⟩
 ·exact .inl (.inl hj)
 ·rcases List.mem_or_eq_of_mem_set hu with hu | rfl
  ·exact .inl (.inr ⟨u,hu,rfl⟩)
  ·rcases hk with e | e
   ·exact .inl (.inr ⟨t,List.mem_of_getElem? hi,e.symm⟩)
   ·exact .inr e
def lcmTab:List (List Nat):=[[1],[1],[1,2],[1,2,3],[1,2,3,4],[1,2,3,4,5,6],[1,2,3,4,5,6],[1,2,3,4,5,6,7,10,12],[1,2,3,4,5,6,7,8,10,12,15],[1,2,3,4,5,6,7,8,9,10,12,14,15,20],[1,2,3,4,5,6,7,8,9,10,12,14,15,20,21,30]]
theorem A1y:((List.range 11).all fun s=>(lcmTab.getD s []).all fun v=>decide (v<=30)&&(List.range (11-s)).all fun a=>a==0||(lcmTab.getD (s+a) []).contains (Nat.lcm v a))=true:=by decide +kernel
theorem A8w:∀(L:List Nat) (s v:Nat),v∈lcmTab.getD s []->(∀a∈L,0<a)->s+L.sum<=10->L.foldl Nat.lcm v<=30
 | [],s,v,hv,_,hs=>by
  have hs':s<=10:=by simpa using hs
  have h1:=List.all_eq_true.1 A1y s (List.mem_range.2 (by omega))
  have h2:=List.all_eq_true.1 h1 v hv
  rw [Bool.and_eq_true] at h2
  exact of_decide_eq_true h2.1
 | a::L,s,v,hv,hL,hs=>by
  rw [List.sum_cons] at hs
  have ha:=hL a (by simp)
  have h1:=List.all_eq_true.1 A1y s (List.mem_range.2 (by omega))
  have h2:=List.all_eq_true.1 h1 v hv
  rw [Bool.and_eq_true] at h2
  have h3:=List.all_eq_true.1 h2.2 a (List.mem_range.2 (by omega))
  have h4:Nat.lcm v a∈lcmTab.getD (s+a) []:=by
   rw [Bool.or_eq_true] at h3
   rcases h3 with h3 | h3
   ·have:a=0:=by simpa using h3
    omega
   ·simpa using h3
  exact A8w L (s+a) (Nat.lcm v a) h4 (fun b hb=>hL b (by simp [hb])) (by omega)
theorem Aqh {p:List Nat} (hp:PermN p) (h10:p.length<=10):agn p<=30:=
 A8w (Xj p) 0 1 (by decide) (fun a ha=>A4q ha) (by have:=Agi hp; simp only [Xj]; omega)
theorem A9w {p:List Nat}:1<=agn p:=by
 have:∀(L:List Nat) (N:Nat),1<=N->(∀n∈L,0<n)->1<=L.foldl Nat.lcm N:=by
  intro L
  induction L with
  | nil=>intro N h _; exact h
  | cons n L ih=>intro N hN h; exact ih _ (Nat.lcm_pos hN (h n (by simp))) fun m hm=>h m (by simp [hm])
 exact this _ _ (by omega) fun n hn=>A4q hn
def Gb (p:List Nat):List Nat:=Fz p (agn p-1)
section
variable {p:List Nat}
theorem Qs (t:Nat):(Fz p t).length=p.length:=by simp [Fz]
theorem Aix {t i:Nat} (h:i<p.length):stp (Fz p t) i=itp p t i:=by
 rw [stp,Fz,List.getD_eq_getElem?_getD,List.getElem?_map,List.getElem?_range h]; rfl
theorem A2f (hp:PermN p) (t:Nat):PermN (Fz p t) where
 nd:=by
  refine List.pairwise_map.2 ?_
  refine List.Pairwise.imp_of_mem ?_ (List.nodup_range (n:=p.length))
  intro a b ha hb hab he
  exact hab (Vx hp t (List.mem_range.1 ha) (List.mem_range.1 hb) he)
 lt:=fun x hx=>by
  obtain ⟨i,hi,rfl⟩:=List.mem_map.1 hx
  rw [Qs]
  exact Lt hp t i (List.mem_range.1 hi)
theorem Ana (hp:PermN p) {i:Nat} (hi:i<p.length):itp p (agn p) i=i:=by
 have h1:=A9o hp (agn p)
 rw [Nat.mod_self] at h1
 have h2:(Fz p (agn p))[i]? = (Fz p 0)[i]?:=by rw [h1]
 simp only [Fz,List.getElem?_map,List.getElem?_range hi,Option.map_some,Option.some.injEq] at h2
 exact h2
theorem Ada (hp:PermN p) {i:Nat} (hi:i<p.length):stp (Gb p) (stp p i)=i:=by
 have h1:=A9w (p:=p)
 rw [Gb,Aix (Ni hp hi)]
 show itp p (agn p-1) (itp p 1 i)=i
 rw [<-Hv,show 1+(agn p-1)=agn p by omega,Ana hp hi]
def Gm (p:List Nat):List Pt:=(List.range p.length).map fun i=>(i+1,stp p i+1)
theorem Xr (p:List Nat):(Gm p).map (·.1)=(List.range p.length).map (·+1):=by simp [Gm,Function.comp_def]
theorem Xt (p:List Nat):(Gm p).map (·.2)=p.map (·+1):=by
 rw [Gm,List.map_map]
 apply List.ext_getElem (by simp)
 intro i h1 h2
 simp only [List.length_map] at h2
 simp [Jd h2]
theorem Zk (hp:PermN p):PtsR (Gm p) where
 inc:=by
  rw [Xr]
  refine List.pairwise_map.2 (List.Pairwise.imp_of_mem ?_ (List.pairwise_lt_range (n:=p.length)))
  intro a b _ _ h
  omega
 nd:=by
  rw [Xt]
  refine List.pairwise_map.2 (List.Pairwise.imp_of_mem ?_ hp.nd)
  intro a b _ _ h he
  omega
theorem Xs {q:Pt}:q∈Gm p↔∃i,i<p.length/\q=(i+1,stp p i+1):=by
 rw [Gm,List.mem_map]
 constructor
 ·rintro ⟨i,hi,rfl⟩; exact ⟨i,List.mem_range.1 hi,rfl⟩
 ·rintro ⟨i,hi,rfl⟩; exact ⟨i,List.mem_range.2 hi,rfl⟩
theorem Apl (hp:PermN p):tpR (Gm p)=Gm (Gb p):=by
 have hR:=Zk hp
 obtain ⟨t1,t2⟩:=A6e hR.nd
 have hq:PermN (Gb p):=A2f hp (agn p-1)
 have hl:(Gb p).length=p.length:=Qs _
 have hb:∀i,i<p.length->stp (Gb p) (stp p i)=i:=fun i hi=>Ada hp hi
 generalize Gb p=b at *
 have hi:=(Zk hq).inc
 rw [List.pairwise_map] at hi
 refine A9l t1 hi fun q => ?_
 rw [t2,Xs]
 constructor
 ·rintro ⟨i,hi,he⟩
  simp only [Prod.mk.injEq] at he
  refine Xs.2 ⟨stp p i,by rw [hl]; exact Ni hp hi,?_⟩
  rw [hb i hi]
  exact Prod.ext he.2 he.1
 ·intro hq'
  obtain ⟨j,hj,rfl⟩:=Xs.1 hq'
  have hqj:stp b j<p.length:=by
   have:=Ni hq hj
   rwa [hl] at this
  refine ⟨stp b j,hqj,?_⟩
  have h1:stp p (stp b j)=j:=A9v hq (by rw [hl]; exact Ni hp hqj) hj (hb _ hqj)
  rw [h1]
theorem Zw (hp:PermN p):Fx (Gm (Gb p))=swT (Fx (Gm p)):=by
 rw [<-Apl hp]
 exact Add _ (Nat.le_refl _) (Zk hp)
theorem Xp:Fz p 1=p:=by
 apply List.ext_getElem (by simp [Fz])
 intro i h1 h2
 simp [Fz,itp,Jd h2]
theorem A3t {m:Nat}:∀(L:List Nat) (N:Nat),N ∣ m->(∀n∈L,n ∣ m)->L.foldl Nat.lcm N ∣ m
 | [],_,h,_=>h
 | a::L,N,h,hL=>A3t L _ (Nat.lcm_dvd h (hL a (by simp))) fun n hn=>hL n (by simp [hn])
theorem Aiz {q:List Nat} (h:Gm p=Gm q):p=q:=by
 have h1:p.map (·+1)=q.map (·+1):=by rw [<-Xt,<-Xt,h]
 have h2:(p.map (·+1)).map (·-1)=(q.map (·+1)).map (·-1):=by rw [h1]
 simpa [Function.comp_def] using h2
theorem Aov (hp:PermN p):agn p<=2↔swT (Fx (Gm p))=Fx (Gm p):=by
 have h1:=A9w (p:=p)
 constructor
 ·intro h
  have:Gb p=p:=by
   rcases (show agn p=1\/agn p=2 by omega) with he | he
   ·have h2:=A9o hp 1
    rw [he,Nat.mod_self,Xp] at h2
    rw [Gb,he]
    exact h2.symm
   ·rw [Gb,he]
    exact Xp
  rw [<-Zw hp,this]
 ·intro h
  rw [<-Zw hp] at h
  have hf:(Gm (Gb p)).map (·.1)=(Gm p).map (·.1):=by
   rw [Xr,Xr,show (Gb p).length=p.length from Qs _]
  have he:=Aiz (Als hf (by rw [hf]; exact (Zk hp).inc) h)
  have h2:Fz p (agn p-1)=Fz p 1:=by rw [Xp]; exact he
  rw [Afn hp] at h2
  have h3:agn p ∣ 2:=A3t _ _ (Nat.one_dvd _) fun m hm=>by
   have h4:=h2 m hm
   have h5:m ∣ agn p:=(Lz (Xj p) 1).2 m hm
   have h6:(agn p-1+1)%m=(1+1)%m:=by rw [Nat.add_mod,h4,<-Nat.add_mod]
   rw [show agn p-1+1=agn p by omega,Nat.mod_eq_zero_of_dvd h5] at h6
   exact Nat.dvd_of_mod_eq_zero h6.symm
  exact Nat.le_of_dvd (by omega) h3
theorem Alt:∀(S:List Pt),S≠[]->(S.map (·.2)).Pairwise (·<=·)->Fx S=[(S.map (·.2),S.map (·.1))]:=by
 have key:∀R:List Pt,R≠[]->(R.reverse.map (·.2)).Pairwise (·<=·)->Fx R.reverse=[(R.reverse.map (·.2),R.reverse.map (·.1))]:=by
  intro R
  induction R with
  | nil=>intro h; exact absurd rfl h
  | cons q R ih =>
   intro _ hp
   rw [List.reverse_cons] at hp ⊢
   rw [List.map_append,List.pairwise_append] at hp
   rw [Lq]
   by_cases h0:R=[]
   ·subst h0; rfl
   ·rw [ih h0 hp.1]
    have:Fm q.2 (R.reverse.map (·.2))=(R.reverse.map (·.2)++[q.2],none):=Ui fun a ha=>hp.2.2 a ha q.2 (by simp)
    simp only [Du,this,List.map_append,List.map_cons,List.map_nil]
 intro S h hp
 have:=key S.reverse (by simpa using h) (by simpa using hp)
 simpa using this
end
def tpP (p:List Nat):List Nat:=p.map (·+1)
theorem A5p (p:List Nat):Ji (tpP p)=Gm p:=by
 apply List.ext_getElem (by simp [Ji,Gm,tpP])
 intro i h1 h2
 have h3:i<p.length:=by simpa [Gm] using h2
 simp [Ji,Gm,tpP,Jd h3]
section
variable {p:List Nat}
theorem Age (hp:PermN p):Ei (tpP (Gb p))=((Ei (tpP p)).2,(Ei (tpP p)).1):=by
 rw [Oh,Oh,A5p,A5p,Zw hp]
 simp [swT,Function.comp_def]
theorem Ait (hp:PermN p):agn p<=2↔(Ei (tpP p)).1=(Ei (tpP p)).2:=by
 rw [Aov hp,Oh,A5p]
 simp only
 generalize Fx (Gm p)=T
 rw [swT]
 constructor
 ·intro h
  conv=>lhs; rw [<-h]
  rw [List.map_map]
  rfl
 ·intro h
  refine List.ext_getElem (by simp) fun i h1 h2 => ?_
  have e:(T.map (·.1))[i]? = (T.map (·.2))[i]?:=by rw [h]
  simp only [List.getElem?_map,List.getElem?_eq_getElem h2,Option.map_some,Option.some.injEq] at e
  rw [List.getElem_map]
  exact Prod.ext e.symm e
theorem Acf (n:Nat) (h:1<=n):(Ei (tpP (List.range n))).1=[(List.range n).map (·+1)]:=by
 have hs:(Ji (tpP (List.range n))).map (·.2)=tpP (List.range n):=by
  rw [Ji,List.map_map]
  have:((fun x:Pt=>x.2) ∘ fun t:Nat×Nat=>(t.2+1,t.1))=Prod.fst:=rfl
  rw [this,List.zipIdx_map_fst]
 have hne:Ji (tpP (List.range n))≠[]:=fun e=>by
  rw [e] at hs
  have:=congrArg List.length hs
  simp [tpP] at this
  omega
 have hp:(tpP (List.range n)).Pairwise (·<=·):=by
  rw [tpP,List.pairwise_map]
  exact (List.pairwise_lt_range (n:=n)).imp fun h=>by omega
 rw [Oh,Alt _ hne (by rw [hs]; exact hp),hs]
 rfl
theorem Abi (hp:PermN p):p.map (stp (Gb p))=List.range p.length:=by
 apply List.ext_getElem (by simp)
 intro i h1 h2
 have h3:i<p.length:=by simpa using h1
 have:=Ada hp h3
 rw [Jd h3] at this
 simpa using this
end
end Go.Ev.YtofpilpmiddpgaaGreatC
