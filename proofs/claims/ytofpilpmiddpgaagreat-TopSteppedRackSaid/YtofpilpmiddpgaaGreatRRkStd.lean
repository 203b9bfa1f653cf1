/- Rows: a slice of slices of numbers, each of which is still written. Tapers in rows: one row at a time; the rows of what is read the other way round. Rows: what came in is known from what there is; longest rising runs; how many rows. Piles: which tapers stood at each place of the first row; the longest rising run that is read out of them. A taper is put in, row by row, as the program does it; the order, as it grows. What a stand of layer 8 is: rows in a list, each still written, and a map of places. Joints, and the habit that brings all back: their rows and orders. Steps that put joints right, and the longest rising run: each step changes it by at most one. What the laws of racks ask of joints: their rack and order, those of what brings all back, and of what is right. No condition but those that stand in each. -/
import Derived.Test.YtofpilpmiddpgaaGreatREvKer3
import Derived.Test.YtofpilpmiddpgaaGreatRStCol
import Derived.Test.YtofpilpmiddpgaaGreatRStSteps
set_option linter.unusedSimpArgs false
set_option linter.unusedVariables false
namespace Go.Ev.YtofpilpmiddpgaaGreatC
open Go
structure RwT where
 key:Nat
 ver:Nat
 cap:Option Nat
 l:List Int
def RwT.av (t:RwT):AV:=.oslice t.key t.ver none 0 t.l.length t.cap
structure RwO (B:Nat) (h:Bc) (L:List RwT):Prop where
 at':∀t∈L,B<=t.key/\Bb h t.key = .cells t.ver (t.l.map (.int .i64))/\t.l≠[]/\(t.cap=none\/t.cap=some t.l.length)
 nd:(L.map RwT.key).Nodup
theorem RwO.nil (B:Nat) (h:Bc):RwO B h []:=⟨fun t ht=>absurd ht (by simp),List.nodup_nil⟩
theorem RwO.keyLt {B:Nat} {h:Bc} {L:List RwT} (hr:RwO B h L) {t:RwT} (ht:t∈L):t.key<h.length:=by
 obtain ⟨_,h2,_⟩:=hr.at' t ht
 exact Dy h2 (by simp)
theorem RwO.other {B:Nat} {h h':Bc} {L:List RwT} (hr:RwO B h L) (hf:∀t∈L,Bb h' t.key=Bb h t.key):RwO B h' L:=⟨fun t ht=>by
 obtain ⟨h1,h2,h3⟩:=hr.at' t ht
 exact ⟨h1,by rw [hf t ht,h2],h3⟩,hr.nd⟩
theorem RwO.setH {B:Nat} {h:Bc} {L:List RwT} {j:Nat} {o:AObj} (hr:RwO B h L) (hj:∀t∈L,t.key≠j):RwO B (setH h j o) L:=
 hr.other fun t ht=>Ba _ _ _ _ (fun e=>hj t ht e.symm)
theorem A2b {α:Type}:∀{l:List α} {i:Nat} {a:α},l.Nodup->(a∉l\/l[i]? = some a)->(l.set i a).Nodup
 | [],_,_,_,_=>by simp
 | b::l,0,a,hn,h=>by
  rw [List.nodup_cons] at hn
  rw [List.set_cons_zero,List.nodup_cons]
  rcases h with h | h
  ·exact ⟨fun hm=>h (by simp [hm]),hn.2⟩
  ·have:b=a:=by simpa using h
   rw [<-this]; exact hn
 | b::l,i+1,a,hn,h=>by
  rw [List.nodup_cons] at hn
  rw [List.set_cons_succ,List.nodup_cons]
  have h':a∉l\/l[i]? = some a:=by
   rcases h with h | h
   ·exact .inl fun hm=>h (by simp [hm])
   ·exact .inr (by simpa using h)
  refine ⟨fun hm => ?_,A2b hn.2 h'⟩
  rcases List.mem_or_eq_of_mem_set hm with hm | rfl
  ·exact hn.1 hm
  ·rcases h with h | h
   ·exact h (by simp)
   ·exact hn.1 (List.mem_of_getElem? (by simpa using h))
theorem RwO.put {B:Nat} {h h':Bc} {L:List RwT} {i:Nat} {t t':RwT} (hr:RwO B h L) (hi:L[i]? = some t) (hB:B<=t'.key) (hk:t'.key=t.key\/∀u∈L,u.key≠t'.key) (ht':Bb h' t'.key = .cells t'.ver (t'.l.map (.int .i64))) (hne:t'.l≠[]) (hc:t'.cap=none\/t'.cap=some t'.l.length)
  (hf:∀u∈L,u.key≠t.key->Bb h' u.key=Bb h u.key):RwO B h' (L.set i t'):=by
 have hil:=(List.getElem?_eq_some_iff.1 hi).1
 refine ⟨fun u hu => ?_,?_⟩
 ·obtain ⟨j,hj⟩:=List.mem_iff_getElem?.1 hu
  rw [List.getElem?_set] at hj
  by_cases hij:i=j
  ·rw [if_pos hij,if_pos hil] at hj
   obtain rfl:=Option.some.inj hj
   exact ⟨hB,ht',hne,hc⟩
  ·rw [if_neg hij] at hj
   have hum:=List.mem_of_getElem? hj
   obtain ⟨h1,h2,h3⟩:=hr.at' u hum
   have hku:u.key≠t.key:=fun e=>by
    have hn:=hr.nd
    rw [List.Nodup,List.pairwise_map,List.pairwise_iff_getElem] at hn
    have hjl:=(List.getElem?_eq_some_iff.1 hj).1
    have e1:L[i]=t:=(List.getElem?_eq_some_iff.1 hi).2
    have e2:L[j]=u:=(List.getElem?_eq_some_iff.1 hj).2
    rcases Nat.lt_or_gt_of_ne hij with hlt | hgt
    ·exact hn i j hil hjl hlt (by rw [e1,e2,e])
    ·exact hn j i hjl hil hgt (by rw [e1,e2,e])
   exact ⟨h1,by rw [hf u hum hku,h2],h3⟩
 ·rw [List.map_set]
  refine A2b hr.nd ?_
  rcases hk with hk | hk
  ·right
   rw [List.getElem?_map,hi,hk]; rfl
  ·left
   intro hm
   obtain ⟨u,hu,he⟩:=List.mem_map.1 hm
   exact hk u hu he
theorem RwO.more {B:Nat} {h h':Bc} {L:List RwT} {t':RwT} (hr:RwO B h L) (hB:B<=t'.key) (hk:∀u∈L,u.key≠t'.key) (ht':Bb h' t'.key = .cells t'.ver (t'.l.map (.int .i64))) (hne:t'.l≠[]) (hc:t'.cap=none\/t'.cap=some t'.l.length)
  (hf:∀u∈L,Bb h' u.key=Bb h u.key):RwO B h' (L++[t']):=by
 refine ⟨fun u hu => ?_,?_⟩
 ·rcases List.mem_append.1 hu with hu | hu
  ·obtain ⟨h1,h2,h3⟩:=hr.at' u hu
   exact ⟨h1,by rw [hf u hu,h2],h3⟩
  ·obtain rfl:u=t':=by simpa using hu
   exact ⟨hB,ht',hne,hc⟩
 ·rw [List.map_append,List.nodup_append]
  refine ⟨hr.nd,by simp,fun a ha b hb => ?_⟩
  obtain ⟨u,hu,rfl⟩:=List.mem_map.1 ha
  have:b=t'.key:=by simpa using hb
  rw [this]
  exact hk u hu
theorem RwO.write {B:Nat} {h:Bc} {L:List RwT} {i j:Nat} {t:RwT} {v:Int} (hr:RwO B h L) (hi:L[i]? = some t):RwO B (Go.Ev.setH h t.key (.cells t.ver ((t.l.set j v).map (.int .i64)))) (L.set i { t with l:=t.l.set j v }):=by
 obtain ⟨h1,h2,h3,h4⟩:=hr.at' t (List.mem_of_getElem? hi)
 refine hr.put hi h1 (.inl rfl) (getH_setH_self ..) ?_ ?_ fun u hu hne=>Ba _ _ _ _ fun e=>hne e.symm
 ·intro e
  have:=congrArg List.length e
  simp only [List.length_set,List.length_nil] at this
  exact h3 (List.length_eq_zero_iff.1 this)
 ·simp only [List.length_set]
  exact h4
theorem RwO.frz {B:Nat} {h:Bc} {L:List RwT} (hr:RwO B h L) {n:Nat}:mapR (Bi h (n+2)) (L.map RwT.av) = .ret (L.map fun t => .slice none (t.l.map (.int .i64)) false):=by
 have key:∀M:List RwT,(∀t∈M,Bb h t.key = .cells t.ver (t.l.map (.int .i64)))->mapR (Bi h (n+2)) (M.map RwT.av) = .ret (M.map fun t => .slice none (t.l.map (.int .i64)) false):=by
  intro M
  induction M with
  | nil=>intro _; rfl
  | cons t M ih=>intro hM; exact Bv (Hq (hM t (by simp)) rfl) (ih fun u hu=>hM u (by simp [hu]))
 exact key L fun t ht=>(hr.at' t ht).2.1
def Fd (y:Nat):List Nat->List Nat×Option Nat
 | []=>([y],none)
 | a::r=>if a>y then (y::r,some a) else (a::(Fd y r).1,(Fd y r).2)
abbrev Pt:=Nat×Nat
abbrev Rw3:=List Nat×List Nat×List Pt
def stR (s:Rw3) (q:Pt):Rw3:=match (Fd q.2 s.1).2 with
 | none=>((Fd q.2 s.1).1,s.2.1++[q.1],s.2.2)
 | some b=>((Fd q.2 s.1).1,s.2.1,s.2.2++[(q.1,b)])
def Nv (S:List Pt):Rw3:=S.foldl stR ([],[],[])
theorem A1r {y:Nat}:∀{r:List Nat},(∀a∈r,a<=y)->Fd y r=(r++[y],none)
 | [],_=>rfl
 | a::r,h=>by
  have ha:=h a (by simp)
  rw [Fd,if_neg (by omega),A1r fun b hb=>h b (by simp [hb])]
  rfl
theorem A8r {y b:Nat} {B:List Nat}:∀{A:List Nat},(∀a∈A,a<=y)->y<b->Fd y (A++b::B)=(A++y::B,some b)
 | [],_,hb=>by rw [List.nil_append,Fd,if_pos hb]; rfl
 | a::A,h,hb=>by
  have ha:=h a (by simp)
  rw [List.cons_append,Fd,if_neg (by omega),A8r (fun c hc=>h c (by simp [hc])) hb]
  rfl
theorem Hr (y:Nat):∀r:List Nat,((∀a∈r,a<=y)/\Fd y r=(r++[y],none))\/∃A b B,r=A++b::B/\(∀a∈A,a<=y)/\y<b/\Fd y r=(A++y::B,some b)
 | [] => .inl ⟨by simp,rfl⟩
 | a::r=>by
  by_cases h:a>y
  ·exact .inr ⟨[],a,r,rfl,by simp,h,by rw [Fd,if_pos h]; rfl⟩
  ·rcases Hr y r with ⟨h1,h2⟩ | ⟨A,b,B,rfl,h2,h3,h4⟩
   ·refine .inl ⟨fun c hc => ?_,by rw [Fd,if_neg h,h2]; rfl⟩
    rcases List.mem_cons.1 hc with rfl | hc
    ·omega
    ·exact h1 c hc
   ·refine .inr ⟨a::A,b,B,rfl,fun c hc => ?_,h3,by rw [Fd,if_neg h,h4]; rfl⟩
    rcases List.mem_cons.1 hc with rfl | hc
    ·omega
    ·exact h2 c hc
theorem Qv {r f:List Nat} {o:List Pt} {x y:Nat} (h:∀a∈r,a<=y):stR (r,f,o) (x,y)=(r++[y],f++[x],o):=by
 simp only [stR,A1r h]
theorem Qw {A B f:List Nat} {o:List Pt} {x y b:Nat} (h:∀a∈A,a<=y) (hb:y<b):stR (A++b::B,f,o) (x,y)=(A++y::B,f,o++[(x,b)]):=by
 simp only [stR,A8r h hb]
theorem Yr {α β:Type} (f:β->α->β) (b:β) (S:List α) (q:α):(S++[q]).foldl f b=f (S.foldl f b) q:=by rw [List.foldl_append]; rfl
inductive MidR (x y:Nat) (fA:List Nat):Nat->Rw3->Rw3->Prop where
 | no (c:Nat) (r:List Nat) (o:List Pt):(∀a∈r,a<x)->(∀q∈o,q.1<c)->y<c->MidR x y fA c (r,fA,o) (r++[x],fA++[y],o)
 | yes (c:Nat) (r g:List Nat) (b:Nat) (o1 o2:List Pt):y<b->b<c->(∀q∈o1,q.1<b)->(∀q∈o2,b<q.1)->MidR x y fA c (r,fA++b::g,o1++o2) (r,fA++y::g,o1++(b,x)::o2)
theorem MidR.inv {x y:Nat} {fA:List Nat} {c:Nat} {s1 s2:Rw3} (h:MidR x y fA c s1 s2):(∃r o,s1=(r,fA,o)/\s2=(r++[x],fA++[y],o))\/∃r g b o1 o2,y<b/\(∀q∈o1,q.1<b)/\(∀q∈o2,b<q.1)/\s1=(r,fA++b::g,o1++o2)/\s2=(r,fA++y::g,o1++(b,x)::o2):=by
 cases h with
 | no r o _ _ _=>exact .inl ⟨r,o,rfl,rfl⟩
 | yes r g b o1 o2 hy _ ho1 ho2=>exact .inr ⟨r,g,b,o1,o2,hy,ho1,ho2,rfl,rfl⟩
theorem Ais (s:Rw3) (q:Pt):((stR s q).1++(stR s q).2.2.map (·.2)).Perm (q.2::(s.1++s.2.2.map (·.2))):=by
 obtain ⟨r,f,o⟩:=s
 obtain ⟨x,y⟩:=q
 rcases Hr y r with ⟨h1,h2⟩ | ⟨A,b,C,rfl,h2,h3,h4⟩
 ·rw [Qv h1]
  simp only
  rw [List.append_assoc]
  exact List.perm_middle
 ·rw [Qw h2 h3]
  simp only [List.map_append,List.map_cons,List.map_nil]
  have e1:A++y::C++(o.map (·.2)++[b])=A++y::(C++(o.map (·.2)++[b])):=by simp
  have e2:A++b::C++o.map (·.2)=A++b::(C++o.map (·.2)):=by simp
  rw [e1,e2]
  refine List.perm_middle.trans (List.Perm.cons y ?_)
  rw [<-List.append_assoc,<-List.append_assoc]
  refine (List.perm_append_comm (l₁:=A++C++o.map (·.2)) (l₂:=[b])).trans ?_
  have e3:[b]++(A++C++o.map (·.2))=b::(A++(C++o.map (·.2))):=by simp
  rw [e3]
  exact List.perm_middle.symm
theorem A5p:∀(S:List Pt) (s:Rw3),((S.foldl stR s).1++(S.foldl stR s).2.2.map (·.2)).Perm (S.map (·.2)++(s.1++s.2.2.map (·.2)))
 | [],s => .refl _
 | q::S,s=>by
  rw [List.foldl_cons]
  refine (A5p S (stR s q)).trans ?_
  refine (List.Perm.append_left _ (Ais s q)).trans ?_
  rw [List.map_cons,List.cons_append]
  exact List.perm_middle
theorem Afd (S:List Pt):((Nv S).1++(Nv S).2.2.map (·.2)).Perm (S.map (·.2)):=by
 have:=A5p S ([],[],[])
 simp only [List.map_nil,List.append_nil] at this
 exact this
theorem Aod (s:Rw3) (q:Pt):((stR s q).2.1=s.2.1++[q.1]/\(stR s q).2.2=s.2.2)\/((stR s q).2.1=s.2.1/\∃b,(stR s q).2.2=s.2.2++[(q.1,b)]):=by
 obtain ⟨r,f,o⟩:=s
 obtain ⟨x,y⟩:=q
 rcases Hr y r with ⟨h1,h2⟩ | ⟨A,b,C,rfl,h2,h3,h4⟩
 ·rw [Qv h1]; exact .inl ⟨rfl,rfl⟩
 ·rw [Qw h2 h3]; exact .inr ⟨rfl,b,rfl⟩
theorem A9r:∀(S:List Pt) (s:Rw3),(∃f,(S.foldl stR s).2.1=s.2.1++f/\f.Sublist (S.map (·.1)))/\∃o,(S.foldl stR s).2.2=s.2.2++o/\(o.map (·.1)).Sublist (S.map (·.1))
 | [],s=>⟨⟨[],by simp,by simp⟩,[],by simp,by simp⟩
 | q::S,s=>by
  obtain ⟨⟨f,h1,h2⟩,o,h3,h4⟩:=A9r S (stR s q)
  rw [List.foldl_cons,h1,h3,List.map_cons]
  rcases Aod s q with ⟨e1,e2⟩ | ⟨e1,b,e2⟩
  ·rw [e1,e2]
   exact ⟨⟨q.1::f,by simp,h2.cons_cons _⟩,o,rfl,h4.cons _⟩
  ·rw [e1,e2]
   exact ⟨⟨f,rfl,h2.cons _⟩,(q.1,b)::o,by simp,by rw [List.map_cons]; exact h4.cons_cons _⟩
theorem Aro (S:List Pt):((Nv S).2.2.map (·.1)).Sublist (S.map (·.1)):=by
 obtain ⟨_,o,h1,h2⟩:=A9r S ([],[],[])
 rw [List.nil_append] at h1
 rw [Nv,h1]; exact h2
structure PtsR (S:List Pt):Prop where
 inc:(S.map (·.1)).Pairwise (·<·)
 nd:(S.map (·.2)).Nodup
theorem PtsR.o {S:List Pt} (h:PtsR S):PtsR (Nv S).2.2 where
 inc:=h.inc.sublist (Aro S)
 nd:=by
  have:=(Afd S).nodup_iff.2 h.nd
  exact (List.nodup_append.1 this).2.1
abbrev Tb:=List (List Nat×List Nat)
def Gb:Tb->Pt->Tb
 | [],q=>[([q.2],[q.1])]
 | (r,f)::T,q=>match (Fd q.2 r).2 with
  | none=>((Fd q.2 r).1,f++[q.1])::T
  | some b=>((Fd q.2 r).1,f)::Gb T (q.1,b)
def Hw (S:List Pt):Tb:=S.foldl Gb []
theorem Vz:∀(S:List Pt) (r f:List Nat) (T:Tb) (o:List Pt),∃o',S.foldl stR (r,f,o)=((S.foldl stR (r,f,[])).1,(S.foldl stR (r,f,[])).2.1,o++o')/\(S.foldl stR (r,f,[])).2.2=o'/\S.foldl Gb ((r,f)::T)=((S.foldl stR (r,f,[])).1,(S.foldl stR (r,f,[])).2.1)::o'.foldl Gb T
 | [],r,f,T,o=>⟨[],by simp,rfl,rfl⟩
 | (x,y)::S,r,f,T,o=>by
  simp only [List.foldl_cons]
  rcases Hr y r with ⟨h1,h2⟩ | ⟨A,b,C,rfl,h2,h3,h4⟩
  ·have e:Gb ((r,f)::T) (x,y)=(r++[y],f++[x])::T:=by simp only [Gb,h2]
   rw [Qv h1,Qv h1,e]
   exact Vz S _ _ T o
  ·have e:Gb ((A++b::C,f)::T) (x,y)=(A++y::C,f)::Gb T (x,b):=by simp only [Gb,h4]
   rw [Qw h2 h3,Qw h2 h3,e]
   obtain ⟨o1,a1,a2,a3⟩:=Vz S (A++y::C) f (Gb T (x,b)) (o++[(x,b)])
   obtain ⟨o2,b1,b2,b3⟩:=Vz S (A++y::C) f T [(x,b)]
   rw [List.nil_append]
   have h12:o1=o2:=by rw [<-a2,<-b2]
   subst h12
   rw [b1]
   refine ⟨(x,b)::o1,?_,rfl,?_⟩
   ·rw [a1]
    simp
   ·rw [a3]
    rfl
theorem Afs {S:List Pt} (h:S≠[]):Hw S=((Nv S).1,(Nv S).2.1)::Hw (Nv S).2.2:=by
 cases S with
 | nil=>exact absurd rfl h
 | cons q S =>
  obtain ⟨x,y⟩:=q
  obtain ⟨o,a1,a2,a3⟩:=Vz S [y] [x] [] []
  have e1:Hw ((x,y)::S)=S.foldl Gb [([y],[x])]:=rfl
  have e2:Nv ((x,y)::S)=S.foldl stR ([y],[x],[]):=rfl
  rw [e1,e2,a3,a2]
  rfl
theorem A7h {y:Nat} {r:List Nat} (h:r.Pairwise (·<=·)):(Fd y r).1.Pairwise (·<=·):=by
 rcases Hr y r with ⟨h1,e⟩ | ⟨A,b,B,rfl,h1,h2,e⟩
 ·rw [e]
  exact List.pairwise_append.2 ⟨h,List.pairwise_singleton _ _,fun a ha c hc=>by
   obtain rfl:c=y:=by simpa using hc
   exact h1 a ha⟩
 ·rw [e]
  obtain ⟨p1,p2,p3⟩:=List.pairwise_append.1 h
  obtain ⟨p4,p5⟩:=List.pairwise_cons.1 p2
  refine List.pairwise_append.2 ⟨p1,List.pairwise_cons.2 ⟨fun c hc => ?_,p5⟩,fun a ha c hc => ?_⟩
  ·have:=p4 c hc; omega
  ·rcases List.mem_cons.1 hc with rfl | hc
   ·exact h1 a ha
   ·exact p3 a ha c (by simp [hc])
structure RowOk (x:Nat) (q:List Nat×List Nat):Prop where
 srt:q.1.Pairwise (·<=·)
 ne:q.1≠[]
 nf:q.2≠[]
 lt:∀a∈q.2,a<x
def TbOk (x:Nat) (T:Tb):Prop:=∀q∈T,RowOk x q
theorem TbOk.mono {x x':Nat} {T:Tb} (h:TbOk x T) (hx:x<=x'):TbOk x' T:=fun q hq=>⟨(h q hq).srt,(h q hq).ne,(h q hq).nf,fun a ha=>by have:=(h q hq).lt a ha; omega⟩
theorem A0w (S:List Pt) (q:Pt):Hw (S++[q])=Gb (Hw S) q:=Yr _ _ _ _
def Dn (w:List Nat):List Nat:=w.foldl (fun r y=>(Fd y r).1) []
theorem Ur (w:List Nat) (y:Nat):Dn (w++[y])=(Fd y (Dn w)).1:=Yr _ _ _ _
theorem A5o:∀(S:List Pt) (s:Rw3),(S.foldl stR s).1=(S.map (·.2)).foldl (fun r y=>(Fd y r).1) s.1
 | [],_=>rfl
 | q::S,s=>by
  rw [List.foldl_cons,A5o S,List.map_cons,List.foldl_cons]
  congr 1
  simp only [stR]
  split <;> rfl
theorem Arn (S:List Pt):(Nv S).1=Dn (S.map (·.2)):=A5o S _
theorem Ub:∀(w r:List Nat),r.Pairwise (·<=·)->(w.foldl (fun r y=>(Fd y r).1) r).Pairwise (·<=·)
 | [],_,h=>h
 | y::w,r,h=>Ub w _ (A7h h)
theorem A7x (w:List Nat):(Dn w).Pairwise (·<=·):=Ub w [] List.Pairwise.nil
theorem Arp {w:List Nat}:∀{c:List Nat},c.Sublist w->c.Pairwise (·<=·)->∀v∈c.getLast?,∃z,(Dn w)[c.length-1]? = some z/\z<=v:=by
 have key:∀(R c:List Nat),c.Sublist R.reverse->c.Pairwise (·<=·)->∀v∈c.getLast?,∃z,(Dn R.reverse)[c.length-1]? = some z/\z<=v:=by
  intro R
  induction R with
  | nil =>
   intro c hc _ v hv
   have:c=[]:=by simpa using hc
   subst this
   cases hv
  | cons y R ih =>
   intro c hc hp v hv
   rw [List.reverse_cons] at hc ⊢
   rw [Ur]
   generalize hr:Dn R.reverse=r at *
   have hs:r.Pairwise (·<=·):=hr ▸ A7x _
   -- what stood there stands no higher
   have hlow:∀(k z:Nat),r[k]? = some z->∃z',(Fd y r).1[k]? = some z'/\z'<=z:=by
    intro k z hz
    rcases Hr y r with ⟨_,e⟩ | ⟨A,b,B,rfl,_,hb,e⟩
    ·rw [e]
     have hk:=(List.getElem?_eq_some_iff.1 hz).1
     exact ⟨z,by rw [List.getElem?_append_left hk]; exact hz,Nat.le_refl _⟩
    ·rw [e]
     rcases Nat.lt_trichotomy k A.length with h | h | h
     ·rw [List.getElem?_append_left h] at hz ⊢
      exact ⟨z,hz,Nat.le_refl _⟩
     ·subst h
      simp at hz
      exact ⟨y,by simp,by omega⟩
     ·rw [List.getElem?_append_right (by omega),show k-A.length=(k-A.length-1)+1 by omega,List.getElem?_cons_succ] at hz ⊢
      exact ⟨z,hz,Nat.le_refl _⟩
   rcases List.sublist_append_iff.1 hc with ⟨c1,c2,rfl,h1,h2⟩
   have h2':c2=[]\/c2=[y]:=by
    cases h2 with
    | cons _ h=>left; simpa using h
    | cons_cons _ h =>
     rename_i l
     have:l=[]:=by simpa using h
     exact .inr (by rw [this])
   rcases h2' with rfl | rfl
   ·rw [List.append_nil] at hv hp ⊢
    obtain ⟨z,hz,hzv⟩:=ih c1 h1 hp v hv
    obtain ⟨z',hz',hle⟩:=hlow _ z hz
    exact ⟨z',hz',by omega⟩
   ·have hvy:v=y:=by
     rw [List.getLast?_append] at hv
     simpa using hv.symm
    subst hvy
    rw [List.length_append,List.length_singleton,Nat.add_sub_cancel]
    rw [List.pairwise_append] at hp
    -- the Jk at which it comes is behind the run before it
    rcases Hr v r with ⟨hall,e⟩ | ⟨A,b,B,rfl,hA,hb,e⟩
    ·rw [e]
     have hle:c1.length<=r.length:=by
      cases hc1:c1.getLast? with
      | none =>
       have:c1=[]:=by simpa using hc1
       subst this; simp
      | some u =>
       obtain ⟨z,hz,_⟩:=ih c1 h1 hp.1 u (by rw [hc1]; rfl)
       have:=(List.getElem?_eq_some_iff.1 hz).1
       omega
     rcases Nat.lt_or_ge c1.length r.length with hlt | hge
     ·refine ⟨r[c1.length],by rw [List.getElem?_append_left hlt,List.getElem?_eq_getElem hlt],hall _ (List.getElem_mem _)⟩
     ·have he:c1.length=r.length:=by omega
      exact ⟨v,by rw [he]; simp,Nat.le_refl _⟩
    ·rw [e]
     have hle:c1.length<=A.length:=by
      cases hc1:c1.getLast? with
      | none =>
       have:c1=[]:=by simpa using hc1
       subst this; simp
      | some u =>
       obtain ⟨z,hz,hzu⟩:=ih c1 h1 hp.1 u (by rw [hc1]; rfl)
       have hu:u<=v:=hp.2.2 u (List.mem_of_getLast? hc1) v (by simp)
       rcases Nat.lt_or_ge A.length c1.length with hlt | hge
       ·exfalso
        have hz2:z∈b::B:=by
         rw [List.getElem?_append_right (by omega)] at hz
         exact List.mem_of_getElem? hz
        have hbz:b<=z:=by
         rcases List.mem_cons.1 hz2 with rfl | hz2
         ·exact Nat.le_refl _
         ·exact (List.pairwise_cons.1 (List.pairwise_append.1 hs).2.1).1 z hz2
        omega
       ·exact hge
     rcases Nat.lt_or_ge c1.length A.length with hlt | hge
     ·exact ⟨A[c1.length],by rw [List.getElem?_append_left hlt,List.getElem?_eq_getElem hlt],hA _ (List.getElem_mem _)⟩
     ·have he:c1.length=A.length:=by omega
      exact ⟨v,by rw [he]; simp,Nat.le_refl _⟩
 intro c hc hp v hv
 have:=key w.reverse c (by simpa using hc) hp v hv
 simpa using this
theorem A0l {w c:List Nat} (hc:c.Sublist w) (hp:c.Pairwise (·<=·)):c.length<=(Dn w).length:=by
 cases hl:c.getLast? with
 | none =>
  have:c=[]:=by simpa using hl
  subst this; simp
 | some v =>
  obtain ⟨z,hz,_⟩:=Arp hc hp v (by rw [hl]; rfl)
  have:=(List.getElem?_eq_some_iff.1 hz).1
  omega
theorem Afe (w:List Nat):∃c:List Nat,c.Sublist w/\c.Pairwise (·<=·)/\c.length=(Dn w).length:=by
 have key:∀R:List Nat,∀k z,(Dn R.reverse)[k]? = some z->∃c:List Nat,c.Sublist R.reverse/\c.Pairwise (·<=·)/\c.length=k+1/\c.getLast? = some z:=by
  intro R
  induction R with
  | nil=>intro k z h; simp [Dn] at h
  | cons y R ih =>
   intro k z h
   rw [List.reverse_cons] at h ⊢
   rw [Ur] at h
   generalize hr:Dn R.reverse=r at *
   have old:r[k]? = some z->∃c:List Nat,c.Sublist (R.reverse++[y])/\c.Pairwise (·<=·)/\c.length=k+1/\c.getLast? = some z:=fun h=>by
    obtain ⟨c,h1,h2⟩:=ih k z h
    exact ⟨c,h1.trans (List.sublist_append_left _ _),h2⟩
   have new:∀A:List Nat,(∀a∈A,a<=y)->(∀j,j<A.length->r[j]? = A[j]?)->k=A.length->z=y->∃c:List Nat,c.Sublist (R.reverse++[y])/\c.Pairwise (·<=·)/\c.length=k+1/\c.getLast? = some z:=by
    intro A hA hj hk hz
    subst hz hk
    rcases Nat.eq_zero_or_pos A.length with h0 | h0
    ·exact ⟨[z],List.sublist_append_right _ _,List.pairwise_singleton _ _,by simp [h0],rfl⟩
    ·have g:r[A.length-1]? = some (A[A.length-1]'(by omega)):=by rw [hj (A.length-1) (by omega),List.getElem?_eq_getElem (by omega)]
     obtain ⟨c,c1,c2,c3,c4⟩:=ih _ _ g
     refine ⟨c++[z],c1.append (List.Sublist.refl _),List.pairwise_append.2 ⟨c2,List.pairwise_singleton _ _,fun a ha d hd => ?_⟩,by rw [List.length_append,c3,List.length_singleton]; omega,by simp⟩
     obtain rfl:d=z:=by simpa using hd
     have hlast:a<=A[A.length-1]:=by
      obtain ⟨c',hc'⟩:=List.getLast?_eq_some_iff.1 c4
      rw [hc'] at ha c2
      rcases List.mem_append.1 ha with ha | ha
      ·exact (List.pairwise_append.1 c2).2.2 a ha _ (by simp)
      ·have:a=A[A.length-1]:=by simpa using ha
       omega
     have:=hA _ (List.getElem_mem (show A.length-1<A.length by omega))
     omega
   rcases Hr y r with ⟨hall,e⟩ | ⟨A,b,B,hAB,hA,hb,e⟩
   ·rw [e] at h
    rcases Nat.lt_or_ge k r.length with hlt | hge
    ·rw [List.getElem?_append_left hlt] at h
     exact old h
    ·rw [List.getElem?_append_right hge] at h
     have hk0:k-r.length=0:=by
      have:=(List.getElem?_eq_some_iff.1 h).1
      simp at this; omega
     rw [hk0] at h
     exact new r hall (fun _ _=>rfl) (by omega) (by simpa using h.symm)
   ·rw [e] at h
    rcases Nat.lt_trichotomy k A.length with hlt | heq | hgt
    ·refine old ?_
     rw [hAB,List.getElem?_append_left hlt]
     rwa [List.getElem?_append_left hlt] at h
    ·refine new A hA (fun j hj=>by rw [hAB,List.getElem?_append_left hj]) heq ?_
     subst heq
     simpa using h.symm
    ·refine old ?_
     rw [hAB,List.getElem?_append_right (by omega),show k-A.length=(k-A.length-1)+1 by omega,List.getElem?_cons_succ]
     rwa [List.getElem?_append_right (by omega),show k-A.length=(k-A.length-1)+1 by omega,List.getElem?_cons_succ] at h
 have:=key w.reverse
 rw [List.reverse_reverse] at this
 rcases Nat.eq_zero_or_pos (Dn w).length with h0 | h0
 ·exact ⟨[],List.nil_sublist _,List.Pairwise.nil,by simp [h0]⟩
 ·obtain ⟨c,c1,c2,c3,_⟩:=this ((Dn w).length-1) _ (List.getElem?_eq_getElem (by omega))
  exact ⟨c,c1,c2,by omega⟩
theorem A5m (A B:List Nat) (a b:Nat):(Dn (A++b::a::B)).length<=(Dn (A++a::b::B)).length+1:=by
 obtain ⟨c,c1,c2,c3⟩:=Afe (A++b::a::B)
 obtain ⟨d,d1,d2,d3⟩:∃d:List Nat,d.Sublist (A++a::b::B)/\c.length<=d.length+1/\d.Pairwise (·<=·):=by
  obtain ⟨x,y,rfl,hx,hy⟩:=List.sublist_append_iff.1 c1
  have hp:=List.pairwise_append.1 c2
  cases hy with
  | cons _ hy =>
   cases hy with
   | cons _ hy=>exact ⟨x++y,hx.append ((hy.cons _).cons _),by simp,c2⟩
   | cons_cons _ hy=>exact ⟨_,hx.append ((hy.cons b).cons_cons a),by simp,c2⟩
  | cons_cons _ hy =>
   rename_i y
   refine ⟨x++y,?_,by simp; omega,?_⟩
   ·refine hx.append ?_
    cases hy with
    | cons _ hy=>exact (hy.cons _).cons _
    | cons_cons _ hy=>exact (hy.cons b).cons_cons a
   ·exact c2.sublist (List.Sublist.append_left (List.sublist_cons_self _ _) _)
 have:=A0l d1 d3
 omega
theorem A9i:∀(T:Tb) (q:Pt),(Gb T q).length<=T.length+1
 | [],q=>by simp [Gb]
 | (r,f)::T,q=>by
  simp only [Gb]
  split
  ·simp
  ·have:=A9i T (q.1,(by assumption))
   simp only [List.length_cons]
   omega
def Qg:List Nat->Nat
 | []=>0
 | a::r=>r.countP (fun b=>decide (b<a))+Qg r
theorem A1t:∀(w:List Nat) (y:Nat),Qg (w++[y])=Qg w+w.countP fun b=>decide (y<b)
 | [],y=>by simp [Qg]
 | a::w,y=>by
  simp only [List.cons_append,Qg,A1t w y,List.countP_append,List.countP_cons,List.countP_nil]
  omega
theorem A8e {S:List Pt} (h:S≠[]):∃f T,Hw S=(Dn (S.map (·.2)),f)::T:=⟨_,_,by rw [Afs h,Arn]⟩
theorem Ail {w:List Nat} {a:Nat} (h:a∈Dn w):a∈w:=by
 have key:∀(w r:List Nat),a∈w.foldl (fun r y=>(Fd y r).1) r->a∈w\/a∈r:=by
  intro w
  induction w with
  | nil=>intro r h; exact .inr h
  | cons y w ih =>
   intro r h
   rcases ih _ h with h | h
   ·exact .inl (by simp [h])
   ·have h:a∈(Fd y r).1:=h
    rcases Hr y r with ⟨_,e⟩ | ⟨A,b,B,rfl,_,_,e⟩
    ·rw [e] at h
     rcases List.mem_append.1 h with h | h
     ·exact .inr h
     ·exact .inl (by simp at h; simp [h])
    ·rw [e] at h
     rcases List.mem_append.1 h with h | h
     ·exact .inr (by simp [h])
     ·rcases List.mem_cons.1 h with h | h
      ·exact .inl (by simp [h])
      ·exact .inr (by simp [h])
 rcases key w [] h with h | h
 ·exact h
 ·cases h
theorem Anw (S:List Pt):(Hw S).length<=Qg (S.map (·.2))+1:=by
 have key:∀R:List Pt,(Hw R.reverse).length<=Qg (R.reverse.map (·.2))+1:=by
  intro R
  induction R with
  | nil=>simp [Hw]
  | cons q R ih =>
   rw [List.reverse_cons,A0w,List.map_append]
   simp only [List.map_cons,List.map_nil]
   rw [A1t]
   generalize R.reverse=S at *
   by_cases h0:S=[]
   ·subst h0
    simp [Hw,Gb]
   ·obtain ⟨f,T,hT⟩:=A8e h0
    have hl:=A9i (Hw S) q
    rw [hT] at ih hl ⊢
    rcases Hr q.2 (Dn (S.map (·.2))) with ⟨_,e⟩ | ⟨A,b,B,hAB,_,hb,e⟩
    ·simp only [Gb,e,List.length_cons] at ih ⊢
     omega
    ·have hm:b∈S.map (·.2):=Ail (w:=S.map (·.2)) (by rw [hAB]; simp)
     have hpos:0<(S.map (·.2)).countP fun b=>decide (q.2<b):=List.countP_pos_iff.2 ⟨b,hm,decide_eq_true hb⟩
     omega
 have:=key S.reverse
 simpa using this
def Dr (y:Nat):List Nat->Nat
 | []=>0
 | a::r=>if a>y then 0 else Dr y r+1
theorem Vy (y:Nat):∀r:List Nat,Dr y r<=r.length
 | []=>Nat.le_refl _
 | a::r=>by
  rw [Dr]
  split
  ·exact Nat.zero_le _
  ·have:=Vy y r
   simp only [List.length_cons]; omega
theorem Xg (y:Nat):∀r:List Nat,(Fd y r).1=if Dr y r<r.length then r.set (Dr y r) y else r++[y]
 | []=>rfl
 | a::r=>by
  rw [Fd,Dr]
  by_cases h:a>y
  ·rw [if_pos h,if_pos h,if_pos (by simp)]; rfl
  ·rw [if_neg h,if_neg h]
   simp only
   rw [Xg y r]
   by_cases h2:Dr y r<r.length
   ·rw [if_pos h2,if_pos (by simp only [List.length_cons]; omega),List.set_cons_succ]
   ·rw [if_neg h2,if_neg (by simp only [List.length_cons]; omega)]; rfl
theorem A1q (y:Nat):∀r:List Nat,(Fd y r).2=r[Dr y r]?
 | []=>rfl
 | a::r=>by
  rw [Fd,Dr]
  by_cases h:a>y
  ·rw [if_pos h,if_pos h]; rfl
  ·rw [if_neg h,if_neg h]
   simp only [List.getElem?_cons_succ]
   exact A1q y r
theorem Wo {y:Nat}:∀{r:List Nat} {j a:Nat},j<Dr y r->r[j]? = some a->a<=y
 | [],j,a,h,_=>by simp [Dr] at h
 | b::r,j,a,h,hg=>by
  rw [Dr] at h
  by_cases hb:b>y
  ·rw [if_pos hb] at h; omega
  ·rw [if_neg hb] at h
   cases j with
   | zero =>
    have:b=a:=by simpa using hg
    omega
   | succ j =>
    rw [List.getElem?_cons_succ] at hg
    exact Wo (r:=r) (j:=j) (by omega) hg
structure PilS where
 out:List (List Nat)
 bef:List Int
def Mg (l:List Nat):Int:=match l.getLast? with | some a=>(a:Int) | none => -1
def Hz (w:List Nat) (s:PilS) (y:Nat):PilS:=
 let k:=Dr y (Dn w)
 ⟨if k=s.out.length then s.out++[[w.length]] else s.out.set k (s.out.getD k []++[w.length]),s.bef++[if k=0 then -1 else Mg (s.out.getD (k-1) [])]⟩
def Un:List Nat->PilS
 | []=>⟨[],[]⟩
 | y::R=>Hz R.reverse (Un R) y
def Eh (w:List Nat):PilS:=Un w.reverse
theorem Um (w:List Nat) (y:Nat):Eh (w++[y])=Hz w (Eh w) y:=by
 rw [Eh,List.reverse_append]
 show Hz (w.reverse).reverse (Un w.reverse) y=_
 rw [List.reverse_reverse]; rfl
structure PInv (w:List Nat) (s:PilS):Prop where
 ol:s.out.length=(Dn w).length
 bl:s.bef.length=w.length
 ne:∀(j:Nat) (p:List Nat),s.out[j]? = some p->p≠[]
 lt:∀(j:Nat) (p:List Nat),s.out[j]? = some p->∀a∈p,a<w.length
 b0:∀p:List Nat,s.out[0]? = some p->∀a∈p,s.bef[a]? = some (-1)
 bs:∀(j:Nat) (p:List Nat),s.out[j+1]? = some p->∀a∈p,∃(b:Nat) (q:List Nat),s.bef[a]? = some (b:Int)/\s.out[j]? = some q/\b∈q/\b<a/\w.getD b 0<=w.getD a 0
 top:∀(j:Nat) (p:List Nat),s.out[j]? = some p->∃b,p.getLast? = some b/\(Dn w)[j]? = some (w.getD b 0)
theorem Aib:PInv [] (Eh []):=⟨rfl,rfl,by simp [Eh,Un],by simp [Eh,Un],by simp [Eh,Un],by simp [Eh,Un],by simp [Eh,Un]⟩
theorem Oy {w:List Nat} {y b:Nat} (h:b<w.length):(w++[y]).getD b 0=w.getD b 0:=by
 rw [List.getD_eq_getElem?_getD,List.getElem?_append_left h,List.getD_eq_getElem?_getD]
theorem Xc (w:List Nat) (y:Nat):(w++[y]).getD w.length 0=y:=by
 rw [List.getD_eq_getElem?_getD,List.getElem?_append_right (Nat.le_refl _),Nat.sub_self]; rfl
theorem Aez {w:List Nat} {s:PilS} (h:PInv w s) (y:Nat):PInv (w++[y]) (Hz w s y):=by
 obtain ⟨k,hk⟩:∃k,k=Dr y (Dn w):=⟨_,rfl⟩
 have hkl:k<=(Dn w).length:=by rw [hk]; exact Vy _ _
 have hrow:Dn (w++[y])=if k<(Dn w).length then (Dn w).set k y else Dn w++[y]:=by rw [Ur,Xg,hk]
 have hst:Hz w s y=⟨if k=s.out.length then s.out++[[w.length]] else s.out.set k (s.out.getD k []++[w.length]),s.bef++[if k=0 then -1 else Mg (s.out.getD (k-1) [])]⟩:=by rw [Hz,<-hk]
 have hol:=h.ol
 have hbl:=h.bl
 -- the piles,one by one
 have hout:∀(j:Nat) (p:List Nat),(Hz w s y).out[j]? = some p->(j≠k/\s.out[j]? = some p)\/(j=k/\((k=s.out.length/\p=[w.length])\/∃q,s.out[k]? = some q/\p=q++[w.length])):=by
  intro j p hj
  rw [hst] at hj
  simp only at hj
  by_cases hkk:k=s.out.length
  ·rw [if_pos hkk] at hj
   rcases Nat.lt_or_ge j s.out.length with hlt | hge
   ·rw [List.getElem?_append_left hlt] at hj
    exact .inl ⟨by omega,hj⟩
   ·rw [List.getElem?_append_right hge] at hj
    have h0:j-s.out.length=0:=by
     have:=(List.getElem?_eq_some_iff.1 hj).1
     simp at this; omega
    rw [h0] at hj
    exact .inr ⟨by omega,.inl ⟨hkk,by simpa using hj.symm⟩⟩
  ·rw [if_neg hkk,List.getElem?_set] at hj
   by_cases hkj:k=j
   ·rw [if_pos hkj] at hj
    have hkl2:k<s.out.length:=by omega
    rw [if_pos hkl2] at hj
    refine .inr ⟨hkj.symm,.inr ⟨s.out[k],List.getElem?_eq_getElem hkl2,?_⟩⟩
    have:=Option.some.inj hj
    rw [<-this,List.getD_eq_getElem?_getD,List.getElem?_eq_getElem hkl2]; rfl
   ·rw [if_neg hkj] at hj
    exact .inl ⟨fun e=>hkj e.symm,hj⟩
 -- what was there is there still
 have hold:∀(j:Nat) (q:List Nat),s.out[j]? = some q->∃q':List Nat,(Hz w s y).out[j]? = some q'/\∀b∈q,b∈q':=by
  intro j q hj
  have hjl:=(List.getElem?_eq_some_iff.1 hj).1
  rw [hst]
  simp only
  by_cases hkk:k=s.out.length
  ·rw [if_pos hkk]
   exact ⟨q,by rw [List.getElem?_append_left hjl]; exact hj,fun b hb=>hb⟩
  ·rw [if_neg hkk,List.getElem?_set]
   by_cases hkj:k=j
   ·subst hkj
    refine ⟨s.out.getD k []++[w.length],by rw [if_pos rfl,if_pos hjl],fun b hb => ?_⟩
    rw [List.getD_eq_getElem?_getD,hj]
    simp [hb]
   ·exact ⟨q,by rw [if_neg hkj]; exact hj,fun b hb=>hb⟩
 have hbef:∀a,a<w.length->(Hz w s y).bef[a]? = s.bef[a]?:=fun a ha=>by
  rw [hst]
  simp only
  rw [List.getElem?_append_left (by omega)]
 have hbefN:(Hz w s y).bef[w.length]? = some (if k=0 then -1 else Mg (s.out.getD (k-1) [])):=by
  rw [hst]
  simp only
  rw [List.getElem?_append_right (by omega),hbl,Nat.sub_self]; rfl
 refine ⟨?_,?_,?_,?_,?_,?_,?_⟩
 ·rw [hrow,hst]
  simp only
  by_cases hkk:k=s.out.length
  ·rw [if_pos hkk,if_neg (by omega),List.length_append,List.length_append,hol]; rfl
  ·rw [if_neg hkk,if_pos (by omega),List.length_set,List.length_set,hol]
 ·rw [hst]
  simp only [List.length_append,hbl,List.length_singleton]
 ·intro j p hj
  rcases hout j p hj with ⟨_,h1⟩ | ⟨_,⟨_,rfl⟩ | ⟨q,_,rfl⟩⟩
  ·exact h.ne j p h1
  ·simp
  ·simp
 ·intro j p hj a ha
  rw [List.length_append,List.length_singleton]
  rcases hout j p hj with ⟨_,h1⟩ | ⟨_,⟨_,rfl⟩ | ⟨q,h1,rfl⟩⟩
  ·have:=h.lt j p h1 a ha; omega
  ·have:a=w.length:=by simpa using ha
   omega
  ·rcases List.mem_append.1 ha with ha | ha
   ·have:=h.lt k q h1 a ha; omega
   ·have:a=w.length:=by simpa using ha
    omega
 ·intro p hj a ha
  have old:∀q,s.out[0]? = some q->a∈q->(Hz w s y).bef[a]? = some (-1):=fun q hq ha=>by rw [hbef a (h.lt 0 q hq a ha)]; exact h.b0 q hq a ha
  have new:k=0->a=w.length->(Hz w s y).bef[a]? = some (-1):=fun hk0 ha=>by rw [ha,hbefN,if_pos hk0]
  rcases hout 0 p hj with ⟨_,h1⟩ | ⟨h0,⟨_,rfl⟩ | ⟨q,h1,rfl⟩⟩
  ·exact old p h1 ha
  ·exact new h0.symm (by simpa using ha)
  ·rcases List.mem_append.1 ha with ha | ha
   ·rw [<-h0] at h1
    exact old q h1 ha
   ·exact new h0.symm (by simpa using ha)
 ·intro j p hj a ha
  have old:∀q,s.out[j+1]? = some q->a∈q->∃(b:Nat) (q:List Nat),(Hz w s y).bef[a]? = some (b:Int)/\(Hz w s y).out[j]? = some q/\b∈q/\b<a/\(w++[y]).getD b 0<=(w++[y]).getD a 0:=fun q hq ha=>by
   have hal:=h.lt (j+1) q hq a ha
   obtain ⟨b,r,b1,b2,b3,b4,b5⟩:=h.bs j q hq a ha
   obtain ⟨r',r1,r2⟩:=hold j r b2
   exact ⟨b,r',by rw [hbef a hal]; exact b1,r1,r2 b b3,b4,by rw [Oy (by omega),Oy hal]; exact b5⟩
  have new:k=j+1->a=w.length->∃(b:Nat) (q:List Nat),(Hz w s y).bef[a]? = some (b:Int)/\(Hz w s y).out[j]? = some q/\b∈q/\b<a/\(w++[y]).getD b 0<=(w++[y]).getD a 0:=fun hkj ha=>by
   have hjl:j<s.out.length:=by omega
   obtain ⟨b,t1,t2⟩:=h.top j _ (List.getElem?_eq_getElem hjl)
   obtain ⟨r',r1,r2⟩:=hold j _ (List.getElem?_eq_getElem hjl)
   have hbm:b∈s.out[j]:=List.mem_of_getLast? t1
   have hbl2:=h.lt j _ (List.getElem?_eq_getElem hjl) b hbm
   refine ⟨b,r',?_,r1,r2 b hbm,by omega,?_⟩
   ·rw [ha,hbefN,if_neg (by omega),hkj,Nat.add_sub_cancel,List.getD_eq_getElem?_getD,List.getElem?_eq_getElem hjl]
    simp only [Option.getD_some,Mg,t1]
   ·rw [ha,Xc,Oy hbl2]
    exact Wo (by rw [<-hk]; omega) t2
  rcases hout (j+1) p hj with ⟨_,h1⟩ | ⟨h0,⟨_,rfl⟩ | ⟨q,h1,rfl⟩⟩
  ·exact old p h1 ha
  ·exact new h0.symm (by simpa using ha)
  ·rcases List.mem_append.1 ha with ha | ha
   ·rw [<-h0] at h1
    exact old q h1 ha
   ·exact new h0.symm (by simpa using ha)
 ·intro j p hj
  have hnew:(Dn (w++[y]))[k]? = some y:=by
   rw [hrow]
   by_cases hkk:k<(Dn w).length
   ·rw [if_pos hkk,List.getElem?_set_self hkk]
   ·have:k=(Dn w).length:=by omega
    rw [if_neg hkk,this]; simp
  rcases hout j p hj with ⟨hne,h1⟩ | ⟨rfl,⟨_,rfl⟩ | ⟨q,h1,rfl⟩⟩
  ·obtain ⟨b,t1,t2⟩:=h.top j p h1
   have hbl2:=h.lt j p h1 b (List.mem_of_getLast? t1)
   refine ⟨b,t1,?_⟩
   rw [Oy hbl2,hrow]
   have hjl:=(List.getElem?_eq_some_iff.1 t2).1
   by_cases hkk:k<(Dn w).length
   ·rw [if_pos hkk,List.getElem?_set_ne (fun e=>hne e.symm)]; exact t2
   ·rw [if_neg hkk,List.getElem?_append_left hjl]; exact t2
  ·exact ⟨w.length,rfl,by rw [Xc]; exact hnew⟩
  ·exact ⟨w.length,by simp,by rw [Xc]; exact hnew⟩
theorem Zc (w:List Nat):PInv w (Eh w):=by
 have key:∀R:List Nat,PInv R.reverse (Eh R.reverse):=by
  intro R
  induction R with
  | nil=>exact Aib
  | cons y R ih=>rw [List.reverse_cons,Um]; exact Aez ih y
 have:=key w.reverse
 rwa [List.reverse_reverse] at this
def Ly (bef:List Int):Nat->Nat->List Nat
 | 0,a=>[a]
 | j+1,a=>Ly bef j (bef.getD a 0).toNat++[a]
theorem A5n (bef:List Int):∀j a,(Ly bef j a).length=j+1
 | 0,_=>rfl
 | j+1,a=>by rw [Ly,List.length_append,A5n bef j]; rfl
theorem A9q {w:List Nat} {s:PilS} (h:PInv w s):∀(j a:Nat) (p:List Nat),s.out[j]? = some p->a∈p->(Ly s.bef j a).Pairwise (fun x y=>x<y/\w.getD x 0<=w.getD y 0)/\(∀x∈Ly s.bef j a,x<=a/\w.getD x 0<=w.getD a 0)/\a<w.length
 | 0,a,p,hp,ha=>⟨List.pairwise_singleton _ _,fun x hx=>by
   have:x=a:=by simpa [Ly] using hx
   subst this
   exact ⟨Nat.le_refl _,Nat.le_refl _⟩,h.lt 0 p hp a ha⟩
 | j+1,a,p,hp,ha=>by
  obtain ⟨b,q,b1,b2,b3,b4,b5⟩:=h.bs j p hp a ha
  obtain ⟨i1,i2,i3⟩:=A9q h j b q b2 b3
  have hb:(s.bef.getD a 0).toNat=b:=by
   rw [List.getD_eq_getElem?_getD,b1]; rfl
  rw [Ly,hb]
  refine ⟨List.pairwise_append.2 ⟨i1,List.pairwise_singleton _ _,fun x hx y hy => ?_⟩,fun x hx => ?_,h.lt _ p hp a ha⟩
  ·obtain rfl:y=a:=by simpa using hy
   have:=i2 x hx
   omega
  ·rcases List.mem_append.1 hx with hx | hx
   ·have:=i2 x hx; omega
   ·have:x=a:=by simpa using hx
    subst this
    exact ⟨Nat.le_refl _,Nat.le_refl _⟩
def Ez:List (List Nat)->Nat->List (List Nat)×Nat
 | [],y=>([[y]],0)
 | r::T,y=>if Dr y r<r.length then (r.set (Dr y r) y::(Ez T (r.getD (Dr y r) 0)).1,(Ez T (r.getD (Dr y r) 0)).2+1) else ((r++[y])::T,0)
def Nm (o:List (List Nat)) (i x:Nat):List (List Nat):=if i=o.length then o++[[x]] else o.set i (o.getD i []++[x])
theorem Abj:∀(T:Tb) (q:Pt),(Gb T q).map (·.1)=(Ez (T.map (·.1)) q.2).1/\(Gb T q).map (·.2)=Nm (T.map (·.2)) (Ez (T.map (·.1)) q.2).2 q.1/\(Ez (T.map (·.1)) q.2).2<=T.length
 | [],q=>⟨rfl,rfl,Nat.le_refl _⟩
 | (r,f)::T,(x,y)=>by
  have hb:=A1q y r
  have hp:=Xg y r
  by_cases h:Dr y r<r.length
  ·rw [List.getElem?_eq_getElem h] at hb
   rw [if_pos h] at hp
   have hg:r.getD (Dr y r) 0=r[Dr y r]:=by rw [List.getD_eq_getElem?_getD,List.getElem?_eq_getElem h]; rfl
   obtain ⟨i1,i2,i3⟩:=Abj T (x,r[Dr y r])
   dsimp only at i1 i2 i3
   have e1:Gb ((r,f)::T) (x,y)=((Fd y r).1,f)::Gb T (x,r[Dr y r]):=by simp only [Gb,hb]
   have e2:Ez (r::T.map (·.1)) y=(r.set (Dr y r) y::(Ez (T.map (·.1)) r[Dr y r]).1,(Ez (T.map (·.1)) r[Dr y r]).2+1):=by rw [Ez,if_pos h,hg]
   rw [e1]
   simp only [List.map_cons]
   rw [e2,i1,i2,hp]
   refine ⟨rfl,?_,by simp only [List.length_cons]; omega⟩
   simp only [Nm,List.length_cons,List.length_map]
   by_cases he:(Ez (T.map (·.1)) r[Dr y r]).2=T.length
   ·rw [if_pos he,if_pos (by omega)]; rfl
   ·rw [if_neg he,if_neg (by omega),List.set_cons_succ,List.getD_cons_succ]
  ·rw [List.getElem?_eq_none (by omega)] at hb
   rw [if_neg h] at hp
   have e1:Gb ((r,f)::T) (x,y)=((Fd y r).1,f++[x])::T:=by simp only [Gb,hb]
   have e2:Ez (r::T.map (·.1)) y=((r++[y])::T.map (·.1),0):=by rw [Ez,if_neg h]
   rw [e1]
   simp only [List.map_cons]
   rw [e2,hp]
   exact ⟨rfl,by simp [Nm],Nat.zero_le _⟩
def Zq:List Nat->List (List Nat)×List (List Nat)
 | []=>([],[])
 | y::R=>((Ez (Zq R).1 y).1,Nm (Zq R).2 (Ez (Zq R).1 y).2 (R.length+1))
def Es (w:List Nat):List (List Nat)×List (List Nat):=Zq w.reverse
theorem Js (w:List Nat) (y:Nat):Es (w++[y])=((Ez (Es w).1 y).1,Nm (Es w).2 (Ez (Es w).1 y).2 (w.length+1)):=by
 rw [Es,List.reverse_append]
 show Zq (y::w.reverse)=_
 rw [Zq,List.length_reverse]; rfl
def Jb (w:List Nat):List Pt:=w.zipIdx.map fun t=>(t.2+1,t.1)
theorem Afb (w:List Nat) (y:Nat):Jb (w++[y])=Jb w++[(w.length+1,y)]:=by
 rw [Jb,List.zipIdx_append,List.map_append]
 simp [Jb,List.zipIdx]
theorem Xy (w:List Nat):Es w=((Hw (Jb w)).map (·.1),(Hw (Jb w)).map (·.2)):=by
 have key:∀R:List Nat,Es R.reverse=((Hw (Jb R.reverse)).map (·.1),(Hw (Jb R.reverse)).map (·.2)):=by
  intro R
  induction R with
  | nil=>rfl
  | cons y R ih =>
   rw [List.reverse_cons,Js,Afb,A0w,ih]
   obtain ⟨h1,h2,_⟩:=Abj (Hw (Jb R.reverse)) (R.reverse.length+1,y)
   rw [h1,h2]
 have:=key w.reverse
 rwa [List.reverse_reverse] at this
theorem A3h {w:List Nat} (h:w≠[]):∃T,(Es w).1=Dn w::T:=by
 have hs:(Jb w).map (·.2)=w:=by
  rw [Jb,List.map_map]
  have:((fun x:Pt=>x.2) ∘ fun t:Nat×Nat=>(t.2+1,t.1))=Prod.fst:=rfl
  rw [this,List.zipIdx_map_fst]
 have hne:Jb w≠[]:=fun e=>by
  rw [e] at hs
  exact h hs.symm
 obtain ⟨f,T,hT⟩:=A8e hne
 rw [hs] at hT
 exact ⟨T.map (·.1),by rw [Xy,hT]; rfl⟩
def PlK (mk:List AV):Prop:=∀k∈mk,∃a b:Int,k = .agg [.int .i64 a,.int .i64 b]
theorem A3y (a b:Int):∀(mk:List AV) (i:Nat),PlK mk->∃r,Dv (some 2) (.agg [.int .i64 a,.int .i64 b]) mk i=some r
 | [],_,_=>⟨none,rfl⟩
 | k::r,i,h=>by
  obtain ⟨c,d,rfl⟩:=h k (by simp)
  have hk:El (some 2) (.agg [.int .i64 c,.int .i64 d])=true:=rfl
  obtain ⟨x,hx⟩:=A3y a b r (i+1) fun q hq=>h q (by simp [hq])
  simp only [Dv,hk,if_true,AV.cells,Dz]
  by_cases h1:a=c
  ·by_cases h2:b=d
   ·rw [if_pos h1,if_pos h2]; exact ⟨_,rfl⟩
   ·rw [if_pos h1,if_neg h2]; exact ⟨x,hx⟩
  ·rw [if_neg h1]; exact ⟨x,hx⟩
def MpO (h:Bc) (km vm:Nat):Prop:=∃(clock:Nat) (mk vs:List AV) (bs:List Nat),Bb h km = .map vm clock mk vs bs/\PlK mk
theorem MpO.other {h h':Bc} {km vm:Nat} (hm:MpO h km vm) (hf:Bb h' km=Bb h km):MpO h' km vm:=by
 obtain ⟨c,mk,vs,bs,h1,h2⟩:=hm
 exact ⟨c,mk,vs,bs,by rw [hf,h1],h2⟩
theorem MpO.lt {h:Bc} {km vm:Nat} (hm:MpO h km vm):km<h.length:=by
 obtain ⟨c,mk,vs,bs,h1,_⟩:=hm
 exact Dy h1 (by simp)
theorem Aas {call:Bl} {base:Nat} {Q:EX×St->Prop} {d:Option Nat} {L:List IOper} {ks:List Kont} {e:Env} {h:Bc} {km vm:Nat} {a b:Int} {v:AV} (hm:MpO h km vm)
  (H:∀h',MpO h' km vm->h'.length=h.length->(∀j,j≠km->Bb h' j=Bb h j)->GO call base Q L ks ⟨Bj e d .undef,h'⟩):GP call base Q d L ks e (muA (some 2) h (.agg [.int .i64 a,.int .i64 b]) v (.omap km vm)):=by
 have hlt:=hm.lt
 obtain ⟨c,mk,vs,bs,h1,h2⟩:=hm
 obtain ⟨r,hr⟩:=A3y a b mk 0 h2
 have hk:El (some 2) (.agg [.int .i64 a,.int .i64 b])=true:=rfl
 have key:∀c' mk' vs' bs',PlK mk'->GO call base Q L ks ⟨Bj e d .undef,setH h km (.map vm c' mk' vs' bs')⟩:=fun c' mk' vs' bs' hp =>
  H _ ⟨c',mk',vs',bs',getH_setH_self ..,hp⟩ (by rw [Bd]; omega) fun j hj=>Ba _ _ _ _ fun e=>hj e.symm
 simp only [muA,h1,hk,and_self,if_true,hr]
 cases r with
 | none =>
  refine key _ _ _ _ fun k hkm => ?_
  rcases List.mem_append.1 hkm with hkm | hkm
  ·exact h2 k hkm
  ·exact ⟨a,b,by simpa using hkm⟩
 | some i =>
  refine key _ _ _ _ fun k hkm => ?_
  rcases List.mem_or_eq_of_mem_set hkm with hkm | hkm
  ·exact h2 k hkm
  ·exact ⟨a,b,hkm⟩
theorem OwnG.cellsK {lo:Nat} {h:Bc} {v:AV} {g:Option Nat} {n:Nat} {cs:List AV} (ho:OwnG lo h v g n cs) {j:Nat} (hj:Do v=some j):lo<=j/\∃ver,Bb h j = .cells ver cs:=by
 rcases ho with ⟨_,_,rfl⟩ | ⟨key,u,hk,rfl,hH,_⟩
 ·cases hj
 ·obtain rfl:key=j:=by simpa [Do] using hj
  exact ⟨hk,u,hH⟩
theorem OwnG.isOne {lo:Nat} {h:Bc} {v:AV} {g:Option Nat} {n:Nat} {cs:List AV} (ho:OwnG lo h v g n cs):v.cells=[v]/\Ev.oneB v=true/\lenA v=some n:=by
 rcases ho with ⟨hn,_,rfl⟩ | ⟨_,_,_,rfl,_⟩
 ·exact ⟨rfl,rfl,by rw [hn]; rfl⟩
 ·exact ⟨rfl,rfl,rfl⟩
theorem RwO.cell0 {B:Nat} {h:Bc} {L:List RwT} (hr:RwO B h L) {t:RwT} (ht:t∈L):∃(ver:Nat) (n:Int) (cs:List AV),Bb h t.key = .cells ver (.int .i64 n::cs):=by
 obtain ⟨_,h2,h3,_⟩:=hr.at' t ht
 cases hl:t.l with
 | nil=>exact absurd hl h3
 | cons a r=>exact ⟨t.ver,a,r.map (.int .i64),by rw [h2,hl]; rfl⟩
structure LsO (B:Nat) (h:Bc) (x:AV) (L:List RwT):Prop where
 ls:OwnG B h x none L.length (L.map RwT.av)
 rw:RwO B h L
def LsK (x:AV) (L:List RwT) (j:Nat):Prop:=Do x=some j\/∃t∈L,t.key=j
theorem A0c (B:Nat) (h:Bc):LsO B h (.slice none [] true) []:=⟨A5e ..,.nil ..⟩
theorem A8v {j:Nat}:¬LsK (.slice none [] true) [] j:=by
 rintro (h | ⟨t,ht,_⟩)
 ·cases h
 ·cases ht
section
variable {B:Nat} {h:Bc} {x:AV} {L:List RwT}
theorem LsO.neX (hs:LsO B h x L) {j:Nat} (hj:Do x=some j):∀t∈L,t.key≠j:=by
 rintro t ht rfl
 obtain ⟨u,n,cs,hc⟩:=hs.rw.cell0 ht
 obtain ⟨_,w,hw⟩:=OwnG.cellsK hs.ls hj
 rw [hw] at hc
 cases L with
 | nil=>cases ht
 | cons t L=>injection hc with _ hc; rw [List.map_cons] at hc; cases (List.cons.inj hc).1
theorem LsO.lt (hs:LsO B h x L) {j:Nat} (hj:LsK x L j):B<=j/\j<h.length:=by
 rcases hj with hj | ⟨t,ht,rfl⟩
 ·obtain ⟨a,u,hu⟩:=OwnG.cellsK hs.ls hj
  exact ⟨a,Dy hu (by simp)⟩
 ·exact ⟨(hs.rw.at' t ht).1,hs.rw.keyLt ht⟩
theorem LsO.other {h':Bc} (hs:LsO B h x L) (hf:∀j,LsK x L j->Bb h' j=Bb h j):LsO B h' x L:=
 ⟨hs.ls.other fun j hj=>hf j (.inl hj),hs.rw.other fun t ht=>hf t.key (.inr ⟨t,ht,rfl⟩)⟩
theorem LsK.cells (hs:LsO B h x L) {j:Nat} (hj:LsK x L j):∃ver cs,Bb h j = .cells ver cs/\∀km vm,AV.omap km vm∉cs:=by
 rcases hj with hj | ⟨t,ht,rfl⟩
 ·obtain ⟨_,u,hu⟩:=OwnG.cellsK hs.ls hj
  refine ⟨u,_,hu,fun km vm hm => ?_⟩
  obtain ⟨t,_,he⟩:=List.mem_map.1 hm
  cases he
 ·obtain ⟨_,h2,_⟩:=hs.rw.at' t ht
  refine ⟨t.ver,_,h2,fun km vm hm => ?_⟩
  obtain ⟨t,_,he⟩:=List.mem_map.1 hm
  cases he
theorem LsO.write {i j:Nat} {t:RwT} {v:Int} (hs:LsO B h x L) (hi:L[i]? = some t):LsO B (setH h t.key (.cells t.ver ((t.l.set j v).map (.int .i64)))) x (L.set i { t with l:=t.l.set j v }):=by
 have ht:=List.mem_of_getElem? hi
 have e:(L.set i { t with l:=t.l.set j v }).map RwT.av=L.map RwT.av:=by
  rw [List.map_set]
  have:RwT.av { t with l:=t.l.set j v }=t.av:=by simp [RwT.av]
  rw [this]
  refine List.ext_getElem? fun m => ?_
  rw [List.getElem?_set]
  split
  ·next h=>subst h; rw [List.getElem?_map,hi,List.length_map,if_pos (List.getElem?_eq_some_iff.1 hi).1]; rfl
  ·rfl
 exact ⟨by rw [e,List.length_set]; exact hs.ls.other fun m hm=>Ba _ _ _ _ (hs.neX hm t ht),hs.rw.write hi⟩
theorem LsO.grown {i lk lv:Nat} {t t':RwT} {v:Int} (hs:LsO B h (.oslice lk lv none 0 L.length none) L) (hi:L[i]? = some t) (hl:t'.l=t.l++[v]) (hc:t'.cap=none) (hk:t'.key=t.key\/t'.key=h.length) :
  LsO B (setH (setH h t'.key (.cells t'.ver (t'.l.map (.int .i64)))) lk (.cells lv ((L.map RwT.av).set i t'.av))) (.oslice lk lv none 0 (L.set i t').length none) (L.set i t'):=by
 have ht:=List.mem_of_getElem? hi
 have x3:=hs.neX (j:=lk) rfl
 have l0:=hs.lt (j:=lk) (.inl rfl)
 have tl:=hs.lt (j:=t.key) (.inr ⟨t,ht,rfl⟩)
 have e1:t'.key≠lk:=by
  rcases hk with e | e
  ·rw [e]; exact x3 t ht
  ·omega
 have hB:B<=t'.key:=by omega
 refine ⟨.inr ⟨lk,lv,l0.1,rfl,by rw [getH_setH_self,List.map_set],by simp [Be]⟩,hs.rw.put hi hB ?_ ?_ (by rw [hl]; simp) (.inl hc) fun u hu hne => ?_⟩
 ·rcases hk with e | e
  ·exact .inl e
  ·right
   intro u hu
   have:=hs.rw.keyLt hu
   omega
 ·rw [Ba _ _ _ _ (fun e=>e1 e.symm),getH_setH_self]
 ·have u1:=x3 u hu
  have u2:u.key≠t'.key:=by
   rcases hk with e | e
   ·rw [e]; exact hne
   ·have:=hs.rw.keyLt hu; omega
  rw [Ba _ _ _ _ (fun e=>u1 e.symm),Ba _ _ _ _ (fun e=>u2 e.symm)]
theorem LsO.more {h2:Bc} {x':AV} {t':RwT} (hs:LsO B h x L) (hx:OwnG B h2 x' none (L.length+1) (L.map RwT.av++[t'.av])) (hk:h.length<=t'.key) (hB:B<=h.length) (ht':Bb h2 t'.key = .cells t'.ver (t'.l.map (.int .i64))) (hne:t'.l≠[]) (hc:t'.cap=none\/t'.cap=some t'.l.length)
  (hf:∀u∈L,Bb h2 u.key=Bb h u.key):LsO B h2 x' (L++[t']):=
 ⟨by rw [List.length_append,List.map_append]; exact hx,hs.rw.more (by omega) (fun u hu=>by have:=hs.rw.keyLt hu; omega) ht' hne hc hf⟩
theorem LsO.frz {n:Nat} (hs:LsO B h x L):Bi h (n+3) x = .ret (.slice none (L.map fun t => .slice none (t.l.map (.int .i64)) false) false):=A4d hs.ls hs.rw.frz
theorem LsO.get (hs:LsO B h x L) {i:Nat} {t:RwT} (hi:L[i]? = some t):∃lk lv,x = .oslice lk lv none 0 L.length none/\Bb h lk = .cells lv (L.map RwT.av):=by
 rcases hs.ls with ⟨h0,_,_⟩ | ⟨lk,lv,_,e,hH,_⟩
 ·have:=(List.getElem?_eq_some_iff.1 hi).1
  omega
 ·exact ⟨lk,lv,e,hH⟩
end
structure StdO (B:Nat) (h:Bc) (K:Nat) (x:AV) (L:List RwT) (km vm:Nat):Prop where
 hd:Bb h K = .cells 0 [x,.omap km vm]
 lo:LsO B h x L
 mp:MpO h km vm
 bk:B<=K/\B<=km
def StK (K:Nat) (x:AV) (L:List RwT) (km:Nat) (j:Nat):Prop:=j=K\/j=km\/LsK x L j
section
variable {B:Nat} {h:Bc} {K:Nat} {x:AV} {L:List RwT} {km vm:Nat}
theorem StdO.neK (hs:StdO B h K x L km vm):K≠km:=fun e=>by
 obtain ⟨c,mk,vs,bs,h1,_⟩:=hs.mp
 have:=hs.hd
 rw [e,h1] at this
 cases this
theorem StdO.neX (hs:StdO B h K x L km vm) {j:Nat} (hj:LsK x L j):j≠K/\j≠km:=by
 obtain ⟨ver,cs,h1,h2⟩:=hj.cells hs.lo
 refine ⟨fun e => ?_,fun e => ?_⟩
 ·rw [e,hs.hd] at h1
  injection h1 with _ h1
  exact h2 km vm (by rw [<-h1]; simp)
 ·obtain ⟨c,mk,vs,bs,h3,_⟩:=hs.mp
  rw [e,h3] at h1; cases h1
theorem StdO.lt (hs:StdO B h K x L km vm) {j:Nat} (hj:StK K x L km j):B<=j/\j<h.length:=by
 rcases hj with rfl | rfl | hj
 ·exact ⟨hs.bk.1,Dy hs.hd (by simp)⟩
 ·exact ⟨hs.bk.2,hs.mp.lt⟩
 ·exact hs.lo.lt hj
theorem StdO.other {h':Bc} (hs:StdO B h K x L km vm) (hf:∀j,StK K x L km j->Bb h' j=Bb h j):StdO B h' K x L km vm where
 hd:=by rw [hf K (.inl rfl),hs.hd]
 lo:=hs.lo.other fun j hj=>hf j (.inr (.inr hj))
 mp:=hs.mp.other (hf km (.inr (.inl rfl)))
 bk:=hs.bk
theorem StdO.mapped {h':Bc} (hs:StdO B h K x L km vm) (hm:MpO h' km vm) (hf:∀j,j≠km->Bb h' j=Bb h j):StdO B h' K x L km vm where
 hd:=by rw [hf K hs.neK,hs.hd]
 lo:=hs.lo.other fun j hj=>hf j (hs.neX hj).2
 mp:=hm
 bk:=hs.bk
theorem StdO.write {i j:Nat} {t:RwT} {v:Int} (hs:StdO B h K x L km vm) (hi:L[i]? = some t):StdO B (setH h t.key (.cells t.ver ((t.l.set j v).map (.int .i64)))) K x (L.set i { t with l:=t.l.set j v }) km vm:=by
 obtain ⟨n1,n2⟩:=hs.neX (.inr ⟨t,List.mem_of_getElem? hi,rfl⟩)
 exact ⟨by rw [Ba _ _ _ _ n1,hs.hd],hs.lo.write hi,hs.mp.other (Ba _ _ _ _ n2),hs.bk⟩
end
theorem Qa {call:Bl} {base:Nat} {Q:EX×St->Prop} {d:Option Nat} {ops:List IOper} {ks:List Kont} {e:Env} {h:Bc} {b kk:Nat} {t:RwT} {v:Int} {y:AV} (hkk:kk=h.length) (hy:Db h y=some (none,1,[.int .i64 v])) (ht:Bb h t.key = .cells t.ver (t.l.map (.int .i64))) (hc:t.cap=none\/t.cap=some t.l.length) (hr:(t.l.length+1)*b<=1099511627776)
  (H:∀t':RwT,t'.l=t.l++[v]->t'.cap=none->(t'.key=t.key\/t'.key=h.length)->GO call base Q ops ks ⟨Bj e d t'.av,setH h t'.key (.cells t'.ver (t'.l.map (.int .i64)))⟩) :
  GP call base Q d ops ks e (Dc kk none b t.av y h):=by
 subst hkk
 obtain ⟨key,ver,cap,l⟩:=t
 simp only at ht hc hr H
 have hroom:=Jv hr
 have h2:¬l.length+1<=l.length:=by omega
 rcases hc with rfl | rfl
 ·have:Dc h.length none b (RwT.av ⟨key,ver,none,l⟩) y h = .ret (RwT.av ⟨key,ver+1,none,l++[v]⟩,setH h key (.cells (ver+1) ((l++[v]).map (.int .i64)))):=by
   simp only [RwT.av,Dc,hy,List.length_cons,List.length_nil,Nat.zero_add,ht,hroom,Be,List.length_map,ne_eq,not_true_eq_false,if_false,or_self,Nat.mul_one,Nat.lt_irrefl,h2,and_self,if_true,List.map_append,List.length_append,Nat.succ_ne_self]
   simp
  rw [this,Gq]
  exact H ⟨key,ver+1,none,l++[v]⟩ rfl rfl (.inl rfl)
 ·have:Dc h.length none b (RwT.av ⟨key,ver,some l.length,l⟩) y h = .ret (RwT.av ⟨h.length,(Bb h h.length).next,none,l++[v]⟩,setH h h.length (.cells (Bb h h.length).next ((l++[v]).map (.int .i64)))):=by
   simp only [RwT.av,Dc,hy,List.length_cons,List.length_nil,Nat.zero_add,ht,hroom,Be,List.length_map,ne_eq,not_true_eq_false,if_false,or_self,Nat.mul_one,Nat.lt_irrefl,h2,and_self,if_true,List.map_append,List.length_append,List.drop_zero,List.map_cons,List.map_nil]
   rw [List.take_of_length_le (by simp)]
   simp
  rw [this,Gq]
  exact H ⟨h.length,(Bb h h.length).next,none,l++[v]⟩ rfl rfl (.inr rfl)
theorem StdO.grown {B:Nat} {h:Bc} {K i lk lv:Nat} {L:List RwT} {km vm:Nat} {t t':RwT} {v:Int} (hs:StdO B h K (.oslice lk lv none 0 L.length none) L km vm) (hi:L[i]? = some t) (hl:t'.l=t.l++[v]) (hc:t'.cap=none) (hk:t'.key=t.key\/t'.key=h.length) :
  StdO B (setH (setH h t'.key (.cells t'.ver (t'.l.map (.int .i64)))) lk (.cells lv ((L.map RwT.av).set i t'.av))) K (.oslice lk lv none 0 (L.set i t').length none) (L.set i t') km vm:=by
 have ht:=List.mem_of_getElem? hi
 obtain ⟨n1,n2⟩:=hs.neX (.inr ⟨t,ht,rfl⟩)
 obtain ⟨x1,x2⟩:=hs.neX (j:=lk) (.inl rfl)
 have k0:=hs.lt (j:=K) (.inl rfl)
 have m0:=hs.lt (j:=km) (.inr (.inl rfl))
 have e2:t'.key≠K:=by
  rcases hk with e | e
  ·rw [e]; exact n1
  ·omega
 have e3:t'.key≠km:=by
  rcases hk with e | e
  ·rw [e]; exact n2
  ·omega
 exact ⟨by rw [Ba _ _ _ _ x1,Ba _ _ _ _ e2,List.length_set,hs.hd],hs.lo.grown hi hl hc hk,hs.mp.other (by rw [Ba _ _ _ _ x2,Ba _ _ _ _ e3]),hs.bk⟩
theorem A0b {x:AV} {L:List RwT} {i n j:Nat} {t t':RwT} (hi:L[i]? = some t) (hk:t'.key=t.key\/n<=t'.key) (hj:LsK x (L.set i t') j):LsK x L j\/n<=j:=by
 rcases hj with hj | ⟨u,hu,rfl⟩
 ·exact .inl (.inl hj)
 ·rcases List.mem_or_eq_of_mem_set hu with hu | rfl
  ·exact .inl (.inr ⟨u,hu,rfl⟩)
  ·rcases hk with e | e
   ·exact .inl (.inr ⟨t,List.mem_of_getElem? hi,e.symm⟩)
   ·exact .inr e
section
variable {p:List Nat}
def Xm (p:List Nat):List Pt:=(List.range p.length).map fun i=>(i+1,stp p i+1)
theorem Aif (p:List Nat):(Xm p).map (·.2)=p.map (·+1):=by
 rw [Xm,List.map_map]
 apply List.ext_getElem (by simp)
 intro i h1 h2
 simp only [List.length_map] at h2
 simp [A9t h2]
end
def nI8 (p:List Nat):List Int:=p.map fun x:Nat=>(x:Int)
theorem Ahi (a:Nat) (p:List Nat):nI8 (a::p)=(a:Int)::nI8 p:=rfl
theorem A8s:∀p:List Nat,inv (nI8 p)=Qg (p.map (·+1))
 | []=>rfl
 | a::p=>by
  rw [Ahi,inv,List.map_cons,Qg,A8s p]
  congr 1
  rw [nI8,List.countP_map,List.countP_map]
  congr 1
  funext x
  simp only [Function.comp]
  rw [decide_eq_decide]
  omega
theorem A9v {α:Type}:∀{k:Nat} {S:List α},k+1<S.length->∃A a b B,S=A++a::b::B/\A.length=k/\swp k S=A++b::a::B
 | 0,a::b::r,_=>⟨[],a,b,r,rfl,rfl,rfl⟩
 | 0,[_],h=>by simp at h
 | 0,[],h=>by simp at h
 | k+1,[],h=>by simp at h
 | k+1,a::r,h=>by
  obtain ⟨A,x,y,B,e1,e2,e3⟩:=A9v (k:=k) (S:=r) (by simpa using h)
  exact ⟨a::A,x,y,B,by rw [e1]; rfl,by rw [List.length_cons,e2],by rw [swp,e3]; rfl⟩
theorem A9o {S:List Nat} {k:Nat} (h:k+1<S.length):(Dn (swp k S)).length<=(Dn S).length+1/\(Dn S).length<=(Dn (swp k S)).length+1:=by
 obtain ⟨A,a,b,B,e1,_,e3⟩:=A9v h
 rw [e3,e1]
 exact ⟨A5m A B a b,A5m A B b a⟩
theorem Lf (S:List Nat):(Dn S).length<=S.length:=by
 obtain ⟨c,c1,_,c3⟩:=Afe S
 rw [<-c3]
 exact c1.length_le
theorem Abo {S:List Nat} (h:S.Pairwise (·<=·)):(Dn S).length=S.length:=Nat.le_antisymm (Lf S) (A0l (List.Sublist.refl S) h)
theorem A8x (k:Nat) (S:List Nat):(swp k S).map (·+1)=swp k (S.map (·+1)):=Wd _ k S
theorem Aba {p:List Nat} (h:(nI8 p).Pairwise (·<=·)):(p.map (·+1)).Pairwise (·<=·):=by
 rw [nI8,List.pairwise_map] at h
 rw [List.pairwise_map]
 exact h.imp fun {a b} hab=>by omega
theorem A9m {p:List Nat} (h:Hg (nI8 p) 0=none):(Dn (p.map (·+1))).length=p.length:=by
 rw [Abo (Aba (Sn _ _ h)),List.length_map]
theorem Zi:∀(f:Nat) (p:List Nat),inv (nI8 p)<=f->p.length<=(Dn (p.map (·+1))).length+(Eq (nI8 p)).length
 | f,p,hf=>by
  cases hd:Hg (nI8 p) 0 with
  | none=>rw [A9m hd]; omega
  | some k =>
   have hi:=Qi hd
   have hk:=Zt hd
   have hk':k+1<p.length:=by simpa [nI8] using hk
   rw [Mi hd,List.length_cons]
   have hsw:swp k (nI8 p)=nI8 (swp k p):=(Wd _ k p).symm
   rw [hsw] at hi ⊢
   cases f with
   | zero=>omega
   | succ f =>
    have ih:=Zi f (swp k p) (by omega)
    rw [Wc,A8x] at ih
    have:=(A9o (S:=p.map (·+1)) (k:=k) (by rw [List.length_map]; exact hk')).1
    omega
theorem Abx (p:List Nat) (S:List Pt) (h:S.map (·.2)=p.map (·+1)):(Hw S).length<=(Eq (nI8 p)).length+1:=by
 rw [A2j,A8s,<-h]
 exact Anw S
def tpP (p:List Nat):List Nat:=p.map (·+1)
theorem Ard (p:List Nat):Jb (tpP p)=Xm p:=by
 apply List.ext_getElem (by simp [Jb,Xm,tpP])
 intro i h1 h2
 have h3:i<p.length:=by simpa [Xm] using h2
 simp [Jb,Xm,tpP,A9t h3]
section
variable {p:List Nat}
theorem Abr (h:1<=p.length):(Es (tpP p)).1.length<=(Eq (nI8 p)).length+1/\p.length<=(Dn (tpP p)).length+(Eq (nI8 p)).length:=by
 constructor
 ·rw [Xy,Ard]
  simp only [List.length_map]
  exact Abx p (Xm p) (Aif p)
 ·exact Zi _ p (Nat.le_refl _)
end
end Go.Ev.YtofpilpmiddpgaaGreatC
