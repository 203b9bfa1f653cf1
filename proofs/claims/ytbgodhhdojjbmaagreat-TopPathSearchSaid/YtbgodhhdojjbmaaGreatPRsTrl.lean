/- Fractions and their neighbours, in plain mathematics: no program in sight. Neighbours are there; the nearest fraction. Paths: what is left of two numbers by turns, and step by step. Walking a path, and the way back, in plain mathematics: no program in sight. What lies between two neighbours; paths that are accepted; one step more. Bounds that move to an interval: what one round does to them. The fractions on a path, in their order: those from which the path goes on upwards, first to last, the last one, and those from which it goes downwards, last to first. Where each fraction of a path stands in the row, and which are tried for one of them. A fraction comes into the row: it goes down from the end until it is at its place. What is tried in the tree of a path; what it costs. No condition but those that stand in each. -/
set_option linter.unusedSimpArgs false
set_option linter.unusedVariables false
namespace Go.Ev
structure Frac where
 num:Int
 den:Int
theorem Frac.ext' {x y:Frac} (h1:x.num=y.num) (h2:x.den=y.den):x=y:=by
 cases x; cases y; simp_all
def Lc (x y:Frac):Int:=y.num*x.den-x.num*y.den
theorem Ags {a b c:Int} (hc:0<=c) (h:a<=b):c*a<=c*b:=Int.mul_le_mul_of_nonneg_left h hc
theorem Rr {a c:Int} (hc:0<=c) (h:1<=a):c<=c*a:=by have:=Ags hc h; omega
def Oa (x:Frac):Prop:=Nat.gcd x.num.toNat x.den.toNat=1
theorem Zq {x:Frac} (hx:Oa x) (hp:0<=x.num) (hq:0<x.den) {c e:Int} (he:1<=e) (h:c*x.den=x.num*e):x.den<=e:=by
 obtain ⟨p,hp'⟩:=Int.eq_ofNat_of_zero_le hp
 obtain ⟨q,hq'⟩:=Int.eq_ofNat_of_zero_le (show 0<=x.den by omega)
 obtain ⟨k,rfl⟩:=Int.eq_ofNat_of_zero_le (show 0<=e by omega)
 have hc:0<=c:=by
  refine Classical.byContradiction fun hlt => ?_
  have h1:c*x.den<=(-1)*x.den:=Int.mul_le_mul_of_nonneg_right (by omega) (by omega)
  have h2:0<=x.num*k:=Int.mul_nonneg hp (by omega)
  omega
 obtain ⟨n,rfl⟩:=Int.eq_ofNat_of_zero_le hc
 unfold Oa at hx
 rw [hp',hq'] at hx h
 rw [hq']
 simp only [Int.toNat_natCast] at hx
 have h2:n*q=p*k:=by exact_mod_cast h
 have h3:q ∣ p*k:=⟨n,by rw [<-h2,Nat.mul_comm]⟩
 have h4:q ∣ k:=Nat.Coprime.dvd_of_dvd_mul_left (Nat.Coprime.symm hx) h3
 have h5:=Nat.le_of_dvd (by omega) h4
 omega
structure Nb (x:Frac) (m:Int) (lo hi:Frac):Prop where
 l1:1<=lo.den
 lm:lo.den<=m
 h1:1<=hi.den
 hm:hi.den<=m
 n0:0<=lo.num
 det:hi.num*lo.den-lo.num*hi.den=1
 sum:m<lo.den+hi.den
 lt1:lo.num*x.den<x.num*lo.den
 lt2:x.num*hi.den<hi.num*x.den
def cf (a b:Nat):List Nat:=if h:b=0 then [] else a/b::cf b (a%b)
termination_by b
decreasing_by exact Nat.mod_lt _ (by omega)
theorem Gw (a:Nat):cf a 0=[]:=by rw [cf]; simp
theorem Fs {a b:Nat} (h:0<b):cf a b=a/b::cf b (a%b):=by rw [cf,dif_neg (by omega)]
theorem Nn {a b:Nat} (h:0<b):cf a b≠[]:=by rw [Fs h]; simp
def Fy:List Nat->List Nat
 | []=>[]
 | [n]=>if n-1=0 then [] else [n-1]
 | a::b::r=>a::Fy (b::r)
theorem Ig {a:Nat} {L:List Nat} (h:L≠[]):Fy (a::L)=a::Fy L:=by
 cases L with
 | nil=>exact (h rfl).elim
 | cons b r=>rfl
theorem Yt:∀(P L:List Nat),L≠[]->Fy (P++L)=P++Fy L
 | [],L,_=>rfl
 | a::P,L,h=>by rw [List.cons_append,Ig (by simp [h]),Yt P L h,List.cons_append]
def Jp:List Nat->List Nat
 | []=>[]
 | [n]=>[n+1]
 | a::b::r=>a::Jp (b::r)
theorem Hx (P:List Nat) (n:Nat):Jp (P++[n])=P++[n+1]:=by
 induction P with
 | nil=>rfl
 | cons a P ih =>
  cases P with
  | nil=>rfl
  | cons b r=>simpa [Jp] using ih
def Jz (out:List Nat) (left:Nat):List Nat:=
 let o:=if out.length=0 then [0] else out
 if (o.length-1)%2≠left then o++[0] else o
def In:Nat->Nat->Nat->List Nat->List Nat
 | 0,_,_,out=>out
 | k+1,u,v,out =>
  if u=v then out
  else if u<v then In k u (v-u) (Jp (Jz out 1))
  else In k (u-v) v (Jp (Jz out 0))
theorem A4i {P:List Nat} {r left:Nat} (h:P.length%2=left):Jz (P++[r]) left=P++[r]:=by
 simp [Jz,h]
theorem A1i {P:List Nat} {r left:Nat} (h:P.length%2≠left):Jz (P++[r]) left=P++[r]++[0]:=by
 simp [Jz,h]
theorem Xo {u v:Nat} (h:Nat.gcd u v=1) (hlt:v<=u):Nat.gcd (u-v) v=1:=by rw [Nat.gcd_sub_self_left hlt]; exact h
theorem Vy {u:Nat} (h:Nat.gcd u u=1):u=1:=by rwa [Nat.gcd_self] at h
theorem Mr {u v:Nat} (hv:0<v) (h:v<=u):u/v=1+(u-v)/v/\u%v=(u-v)%v:=by
 constructor
 ·rw [Nat.div_eq_sub_div hv h]; omega
 ·exact Nat.mod_eq_sub_mod h
theorem Mi:∀(k u v r:Nat) (P:List Nat),0<u->0<v->Nat.gcd u v=1->0<r->u+v<k->
  (P.length%2=0->In k u v (P++[r])=P++Fy ((r+u/v)::cf v (u%v)))/\
  (P.length%2=1->In k u v (P++[r])=P++Fy ((r+v/u)::cf u (v%u)))
 | 0,u,v,r,P,_,_,_,_,hk=>by omega
 | k+1,u,v,r,P,hu,hv,hg,hr,hk=>by
  have hlen:∀x:Nat,(P++[x]).length=P.length+1:=fun x=>by simp
  rcases Nat.lt_trichotomy u v with h | h | h
  ·-- a step to the left
   obtain ⟨d1,d2⟩:=Mr hu (Nat.le_of_lt h)
   have hg':Nat.gcd u (v-u)=1:=by rw [Nat.gcd_comm]; exact Xo (by rw [Nat.gcd_comm]; exact hg) (by omega)
   constructor
   ·intro hp
    have ih:=(Mi k u (v-u) 1 (P++[r]) hu (by omega) hg' (by omega) (by omega)).2 (by rw [hlen]; omega)
    rw [In,if_neg (by omega),if_pos h,A1i (by omega),Hx,ih,<-d1,<-d2,Nat.div_eq_of_lt h,Nat.mod_eq_of_lt h,<-Fs hu,Ig (Nn hu)]
    simp
   ·intro hp
    have ih:=(Mi k u (v-u) (r+1) P hu (by omega) hg' (by omega) (by omega)).2 hp
    rw [In,if_neg (by omega),if_pos h,A4i hp,Hx,ih,<-d2,d1]
    congr 3
    omega
  ·subst h
   obtain rfl:=Vy hg
   have e1:Fy ((r+1/1)::cf 1 (1%1))=[r]:=by
    rw [show 1%1=0 from rfl,Gw]
    simp [Fy]
    omega
   rw [In,if_pos rfl,e1]
   exact ⟨fun _=>rfl,fun _=>rfl⟩
  ·-- a step to the right
   obtain ⟨d1,d2⟩:=Mr hv (Nat.le_of_lt h)
   have hg':=Xo hg (Nat.le_of_lt h)
   constructor
   ·intro hp
    have ih:=(Mi k (u-v) v (r+1) P (by omega) hv hg' (by omega) (by omega)).1 hp
    rw [In,if_neg (by omega),if_neg (by omega),A4i hp,Hx,ih,<-d2,d1]
    congr 3
    omega
   ·intro hp
    have ih:=(Mi k (u-v) v 1 (P++[r]) (by omega) hv hg' (by omega) (by omega)).1 (by rw [hlen]; omega)
    rw [In,if_neg (by omega),if_neg (by omega),A1i (by omega),Hx,ih,<-d1,<-d2,Nat.div_eq_of_lt h,Nat.mod_eq_of_lt h,<-Fs hv,Ig (Nn hv)]
    simp
def En (u v:Nat):List Nat:=Fy (cf u v)
theorem Alu {k u v:Nat} (hu:0<u) (hv:0<v) (hg:Nat.gcd u v=1) (hk:u+v<k):In k u v []=En u v:=by
 obtain ⟨k,rfl⟩:∃j,k=j+1:=⟨k-1,by omega⟩
 unfold En
 rcases Nat.lt_trichotomy u v with h | h | h
 ·obtain ⟨d1,d2⟩:=Mr hu (Nat.le_of_lt h)
  have hg':Nat.gcd u (v-u)=1:=by rw [Nat.gcd_comm]; exact Xo (by rw [Nat.gcd_comm]; exact hg) (by omega)
  have ih:=(Mi k u (v-u) 1 [0] hu (by omega) hg' (by omega) (by omega)).2 rfl
  rw [In,if_neg (by omega),if_pos h,show Jp (Jz [] 1)=[0]++[1] from rfl,ih,<-d1,<-d2,Fs hv,Nat.div_eq_of_lt h,Nat.mod_eq_of_lt h,Ig (Nn hu),<-Fs hu]
  rfl
 ·subst h
  obtain rfl:=Vy hg
  rw [In,if_pos rfl,Fs (by omega),show 1%1=0 from rfl,Gw]
  rfl
 ·obtain ⟨d1,d2⟩:=Mr hv (Nat.le_of_lt h)
  have ih:=(Mi k (u-v) v 1 [] (by omega) hv (Xo hg (Nat.le_of_lt h)) (by omega) (by omega)).1 rfl
  rw [In,if_neg (by omega),if_neg (by omega),show Jp (Jz [] 0)=[]++[1] from rfl,ih,<-d1,<-d2,<-Fs hv]
  rfl
theorem Uz:∀(k a b:Nat),b<2 ^ k->(cf a b).length<=2*k
 | 0,a,b,h=>by
  obtain rfl:b=0:=by simp at h; omega
  rw [Gw]; simp
 | k+1,a,b,h=>by
  by_cases hb:b=0
  ·subst hb; rw [Gw]; simp
  ·rw [Fs (by omega)]
   by_cases hr:a%b=0
   ·rw [hr,Gw]; simp; omega
   ·have h1:=Nat.mod_lt a (show 0<b by omega)
    have h2:=Nat.mod_lt b (show 0<a%b by omega)
    have h3:b%(a%b)+a%b<=b:=by
     have:=Nat.div_add_mod b (a%b)
     have h4:1<=b/(a%b):=(Nat.one_le_div_iff (by omega)).2 (by omega)
     have h5:a%b*1<=a%b*(b/(a%b)):=Nat.mul_le_mul_left _ h4
     omega
    rw [Fs (by omega)]
    have ih:=Uz k (a%b) (b%(a%b)) (by rw [Nat.pow_succ] at h; omega)
    simp
    omega
theorem Yu:∀L:List Nat,(Fy L).length<=L.length
 | []=>Nat.le_refl _
 | [n]=>by simp only [Fy]; split <;> simp
 | a::b::r=>by
  have:=Yu (b::r)
  simp only [Fy,List.length_cons] at this ⊢
  omega
theorem Amg (N:Nat):∀(a b:Nat),a<=N->b<=N->∀n∈cf a b,n<=N:=by
 intro a b
 induction b using Nat.strongRecOn generalizing a with
 | _ b ih =>
  intro ha hb n hn
  by_cases h0:b=0
  ·subst h0; rw [Gw] at hn; cases hn
  ·rw [Fs (by omega)] at hn
   have hm:=Nat.mod_lt a (show 0<b by omega)
   rcases List.mem_cons.1 hn with rfl | hn
   ·exact Nat.le_trans (Nat.div_le_self _ _) ha
   ·exact ih (a%b) hm b hb (by omega) n hn
theorem Aaq {N:Nat}:∀L:List Nat,(∀n∈L,n<=N)->∀n∈Fy L,n<=N
 | [],_,n,hn=>by cases hn
 | [m],h,n,hn=>by
  have:=h m (by simp)
  simp only [Fy] at hn
  split at hn
  ·cases hn
  ·simp at hn; omega
 | a::b::r,h,n,hn=>by
  simp only [Fy] at hn
  rcases List.mem_cons.1 hn with rfl | hn
  ·exact h _ (by simp)
  ·exact Aaq (b::r) (fun m hm=>h m (List.mem_cons_of_mem _ hm)) n hn
structure Bd where
 a:Int
 b:Int
 c:Int
 d:Int
def Bd.mv (s:Bd) (left:Bool) (n:Int):Bd:=if left then ⟨s.a,s.b,s.c+n*s.a,s.d+n*s.b⟩ else ⟨s.a+n*s.c,s.b+n*s.d,s.c,s.d⟩
def wholeB:Bd:=⟨0,1,1,0⟩
def Dt:Nat->List Int->Bd->Bd
 | _,[],s=>s
 | i,n::r,s=>Dt (i+1) r (s.mv (i%2==1) n)
structure Bd.NN (s:Bd):Prop where
 a:0<=s.a
 b:0<=s.b
 c:0<=s.c
 d:0<=s.d
theorem Bd.NN.mv {s:Bd} (h:s.NN) {n:Int} (hn:0<=n) (left:Bool):(s.mv left n).NN:=by
 have h1:=Int.mul_nonneg hn h.a
 have h2:=Int.mul_nonneg hn h.b
 have h3:=Int.mul_nonneg hn h.c
 have h4:=Int.mul_nonneg hn h.d
 have:=h.a
 have:=h.b
 have:=h.c
 have:=h.d
 cases left <;> constructor <;> simp [Bd.mv] <;> omega
structure Bd.LE (s t:Bd):Prop where
 a:s.a<=t.a
 b:s.b<=t.b
 c:s.c<=t.c
 d:s.d<=t.d
theorem Bd.NN.le {s:Bd} (h:s.NN) {n:Int} (hn:0<=n) (left:Bool):s.LE (s.mv left n):=by
 have h1:=Int.mul_nonneg hn h.a
 have h2:=Int.mul_nonneg hn h.b
 have h3:=Int.mul_nonneg hn h.c
 have h4:=Int.mul_nonneg hn h.d
 cases left <;> constructor <;> simp [Bd.mv] <;> omega
theorem Uh:∀(L:List Int) (i:Nat) (s:Bd),s.NN->(∀n∈L,0<=n)->s.LE (Dt i L s)/\(Dt i L s).NN
 | [],i,s,h,_=>⟨⟨Int.le_refl _,Int.le_refl _,Int.le_refl _,Int.le_refl _⟩,h⟩
 | n::r,i,s,h,hn=>by
  have hn0:=hn n (by simp)
  obtain ⟨h1,h2⟩:=Uh r (i+1) (s.mv (i%2==1) n) (h.mv hn0 _) fun m hm=>hn m (List.mem_cons_of_mem _ hm)
  have h3:=h.le hn0 (i%2==1)
  exact ⟨⟨Int.le_trans h3.a h1.a,Int.le_trans h3.b h1.b,Int.le_trans h3.c h1.c,Int.le_trans h3.d h1.d⟩,h2⟩
theorem Qq:wholeB.NN:=by constructor <;> simp [wholeB]
def Bd.det (s:Bd):Int:=s.c*s.b-s.a*s.d
theorem Bd.mv_det (s:Bd) (left:Bool) (n:Int):(s.mv left n).det=s.det:=by
 cases left <;> simp only [Bd.mv,Bd.det,if_true,if_false,Bool.false_eq_true] <;> grind
theorem Xf:∀(L:List Int) (i:Nat) (s:Bd),(Dt i L s).det=s.det
 | [],_,_=>rfl
 | n::r,i,s=>by rw [Dt,Xf r,Bd.mv_det]
theorem Bd.mv_succ (s:Bd) (left:Bool) (n:Int):(s.mv left n).mv left 1=s.mv left (n+1):=by
 cases left <;> simp only [Bd.mv,if_true,if_false,Bool.false_eq_true,Bd.mk.injEq] <;> refine ⟨?_,?_,?_,?_⟩ <;> grind
theorem Bd.mv_zero (s:Bd) (left:Bool):s.mv left 0=s:=by
 cases left <;> simp [Bd.mv]
def Bd.sum (s:Bd):Frac:=⟨s.a+s.c,s.b+s.d⟩
theorem Alv {s:Bd} (h:s.NN) (hd:s.det=1):Nat.gcd s.sum.num.toNat s.sum.den.toNat=1:=by
 have a0:=h.a
 have b0:=h.b
 have c0:=h.c
 have d0:=h.d
 have e:s.sum.num*s.b-s.a*s.sum.den=1:=by
  simp only [Bd.det] at hd
  simp only [Bd.sum]
  grind
 have g1:=Nat.gcd_dvd_left s.sum.num.toNat s.sum.den.toNat
 have g2:=Nat.gcd_dvd_right s.sum.num.toNat s.sum.den.toNat
 have n0:0<=s.sum.num:=by simp only [Bd.sum]; omega
 have m0:0<=s.sum.den:=by simp only [Bd.sum]; omega
 generalize Nat.gcd s.sum.num.toNat s.sum.den.toNat=g at *
 obtain ⟨x,hx⟩:=g1
 obtain ⟨y,hy⟩:=g2
 have hx':s.sum.num=(g:Int)*x:=by rw [<-Int.toNat_of_nonneg n0,hx]; simp
 have hy':s.sum.den=(g:Int)*y:=by rw [<-Int.toNat_of_nonneg m0,hy]; simp
 have h1:(g:Int)*(x*s.b-s.a*y)=1:=by rw [hx',hy'] at e; grind
 have h2:(g:Int) ∣ 1:=⟨_,h1.symm⟩
 have h3:=Int.le_of_dvd (by omega) h2
 have h4:g≠0:=by
  intro h
  rw [h] at h1
  simp at h1
 omega
def Kb:Nat->List Nat->Nat->Nat->Prop
 | _,[],u,v=>u=1/\v=1
 | i,n::L,u,v=>if i%2=0 then ∃u',u=u'+n*v/\0<u'/\0<v/\Kb (i+1) L u' v else ∃v',v=v'+n*u/\0<v'/\0<u/\Kb (i+1) L u v'
theorem Ahn:∀(b a:Nat),0<a->0<b->Nat.gcd a b=1->(∀i,i%2=0->Kb i (Fy (cf a b)) a b)/\(∀i,i%2=1->Kb i (Fy (cf a b)) b a):=by
 intro b
 induction b using Nat.strongRecOn with
 | _ b ih =>
  intro a ha hb hg
  by_cases hr:a%b=0
  ·have h1:b ∣ a:=Nat.dvd_of_mod_eq_zero hr
   have h2:Nat.gcd a b=b:=Nat.gcd_eq_right h1
   obtain rfl:b=1:=by omega
   have e:cf a 1=[a]:=by rw [Fs (by omega),Nat.mod_one,Gw,Nat.div_one]
   rw [e]
   simp only [Fy]
   by_cases h:a-1=0
   ·obtain rfl:a=1:=by omega
    rw [if_pos rfl]
    exact ⟨fun i _=>⟨rfl,rfl⟩,fun i _=>⟨rfl,rfl⟩⟩
   ·rw [if_neg h]
    constructor
    ·intro i hi
     simp only [Kb]
     rw [if_pos hi]
     exact ⟨1,by omega,by omega,by omega,by simp⟩
    ·intro i hi
     simp only [Kb]
     rw [if_neg (by omega)]
     exact ⟨1,by omega,by omega,by omega,by simp⟩
  ·have h1:=Nat.mod_lt a hb
   have hg':Nat.gcd b (a%b)=1:=by
    rw [Nat.gcd_comm,<-Nat.gcd_rec,Nat.gcd_comm]
    exact hg
   obtain ⟨i1,i2⟩:=ih (a%b) h1 b hb (by omega) hg'
   have e:Fy (cf a b)=a/b::Fy (cf b (a%b)):=by rw [Fs hb,Ig (Nn (by omega))]
   have hd:a=a%b+a/b*b:=by
    have:=Nat.div_add_mod a b
    rw [Nat.mul_comm] at this
    omega
   rw [e]
   constructor
   ·intro i hi
    simp only [Kb]
    rw [if_pos hi]
    exact ⟨a%b,hd,by omega,hb,i2 (i+1) (by omega)⟩
   ·intro i hi
    simp only [Kb]
    rw [if_neg (by omega)]
    exact ⟨a%b,hd,by omega,hb,i1 (i+1) (by omega)⟩
theorem Ql:∀(L:List Nat) (i u v:Nat) (s:Bd) (X:Frac),Kb i L u v->X.num=v*s.a+u*s.c->X.den=v*s.b+u*s.d->(Dt i (L.map fun n:Nat=>(n:Int)) s).sum=X
 | [],i,u,v,s,X,h,h1,h2=>by
  obtain ⟨rfl,rfl⟩:=h
  simp only [List.map_nil,Dt,Bd.sum]
  exact Frac.ext' (by simp only; omega) (by simp only; omega)
 | n::L,i,u,v,s,X,h,h1,h2=>by
  simp only [Kb] at h
  rw [List.map_cons,Dt]
  by_cases hi:i%2=0
  ·rw [if_pos hi] at h
   obtain ⟨u',rfl,_,_,hr⟩:=h
   have e:(i%2==1)=false:=by simp [hi]
   rw [e]
   refine Ql L (i+1) u' v _ X hr ?_ ?_
   ·simp only [Bd.mv,Bool.false_eq_true,if_false]
    rw [h1]
    push_cast
    grind
   ·simp only [Bd.mv,Bool.false_eq_true,if_false]
    rw [h2]
    push_cast
    grind
  ·rw [if_neg hi] at h
   obtain ⟨v',rfl,_,_,hr⟩:=h
   have e:(i%2==1)=true:=by simp; omega
   rw [e]
   refine Ql L (i+1) u v' _ X hr ?_ ?_
   ·simp only [Bd.mv,if_true]
    rw [h1]
    push_cast
    grind
   ·simp only [Bd.mv,if_true]
    rw [h2]
    push_cast
    grind
def Lh:List Nat->Prop
 | []=>True
 | [n]=>0<n
 | _::b::r=>∀m∈b::r,0<m
theorem A9y {n:Nat} {L:List Nat} (h:Lh (n::L)):Lh L/\∀m∈L,0<m:=by
 cases L with
 | nil=>exact ⟨trivial,by simp⟩
 | cons b r =>
  have h':∀m∈b::r,0<m:=h
  refine ⟨?_,h'⟩
  cases r with
  | nil=>exact h' b (by simp)
  | cons c t=>exact fun m hm=>h' m (List.mem_cons_of_mem _ hm)
theorem A2t:∀(L:List Nat) (i u v:Nat),Lh L->0<u->0<v->Kb i L u v->(i%2=0->Fy (cf u v)=L)/\(i%2=1->Fy (cf v u)=L)
 | [],i,u,v,_,_,_,h=>by
  obtain ⟨rfl,rfl⟩:=h
  have:Fy (cf 1 1)=[]:=by rw [Fs (by omega),show 1%1=0 from rfl,Gw]; rfl
  exact ⟨fun _=>this,fun _=>this⟩
 | n::L,i,u,v,hp,hu,hv,h=>by
  obtain ⟨hp',hpos⟩:=A9y hp
  have main:∀(a b c:Nat),a=c+n*b->0<c->0<b->(L=[]->c=1/\b=1)->(L≠[]->c<b/\Fy (cf b c)=L)->Fy (cf a b)=n::L:=by
   intro a b c ha hc hb h1 h2
   by_cases hL:L=[]
   ·obtain ⟨rfl,rfl⟩:=h1 hL
    subst hL
    have hn:0<n:=hp
    have e:cf a 1=[a]:=by rw [Fs (by omega),Nat.mod_one,Gw,Nat.div_one]
    rw [e]
    simp only [Fy]
    rw [if_neg (by omega)]
    congr 1
    omega
   ·obtain ⟨hlt,he⟩:=h2 hL
    have hd:a/b=n:=by
     rw [ha,Nat.add_mul_div_right _ _ hb,Nat.div_eq_of_lt hlt]; omega
    have hm:a%b=c:=by rw [ha,Nat.add_mul_mod_self_right,Nat.mod_eq_of_lt hlt]
    rw [Fs hb,hd,hm,Ig (Nn hc),he]
  simp only [Kb] at h
  by_cases hi:i%2=0
  ·rw [if_pos hi] at h
   obtain ⟨c,hc,hc0,_,hr⟩:=h
   refine ⟨fun _ => ?_,fun h'=>by omega⟩
   refine main u v c hc hc0 hv (fun hL => ?_) (fun hL => ?_)
   ·subst hL
    exact hr
   ·refine ⟨?_,(A2t L (i+1) c v hp' hc0 hv hr).2 (by omega)⟩
    cases L with
    | nil=>exact (hL rfl).elim
    | cons m L' =>
     simp only [Kb] at hr
     rw [if_neg (by omega)] at hr
     obtain ⟨v',e,h1,_,_⟩:=hr
     have hm:=hpos m (by simp)
     have:1*c<=m*c:=Nat.mul_le_mul_right c hm
     omega
  ·rw [if_neg hi] at h
   obtain ⟨c,hc,hc0,_,hr⟩:=h
   refine ⟨fun h'=>by omega,fun _ => ?_⟩
   refine main v u c hc hc0 hu (fun hL => ?_) (fun hL => ?_)
   ·subst hL
    exact ⟨hr.2,hr.1⟩
   ·refine ⟨?_,(A2t L (i+1) u c hp' hu hc0 hr).1 (by omega)⟩
    cases L with
    | nil=>exact (hL rfl).elim
    | cons m L' =>
     simp only [Kb] at hr
     rw [if_pos (by omega)] at hr
     obtain ⟨v',e,h1,_,_⟩:=hr
     have hm:=hpos m (by simp)
     have:1*c<=m*c:=Nat.mul_le_mul_right c hm
     omega
def pr:Nat->List Nat->Nat×Nat
 | _,[]=>(1,1)
 | i,n::L=>let p:=pr (i+1) L; if i%2=0 then (p.1+n*p.2,p.2) else (p.1,p.2+n*p.1)
theorem A7s:∀(L:List Nat) (i:Nat),0<(pr i L).1/\0<(pr i L).2
 | [],_=>by simp [pr]
 | n::L,i=>by
  have:=A7s L (i+1)
  simp only [pr]
  split <;> simp only <;> omega
theorem Abo:∀(L:List Nat) (i:Nat),Kb i L (pr i L).1 (pr i L).2
 | [],_=>⟨rfl,rfl⟩
 | n::L,i=>by
  have h:=Abo L (i+1)
  have hp:=A7s L (i+1)
  simp only [Kb,pr]
  by_cases hi:i%2=0
  ·rw [if_pos hi,if_pos hi]
   exact ⟨_,rfl,hp.1,hp.2,h⟩
  ·rw [if_neg hi,if_neg hi]
   exact ⟨_,rfl,hp.2,hp.1,h⟩
def Bp (L:List Nat):List Int:=L.map fun n:Nat=>(n:Int)
theorem A4j {u v:Nat} (hu:0<u) (hv:0<v) (hg:Nat.gcd u v=1):(Dt 0 (Bp (En u v)) wholeB).sum=⟨u,v⟩:=
 Ql _ 0 u v wholeB ⟨u,v⟩ ((Ahn v u hu hv hg).1 0 rfl) (by simp [wholeB]) (by simp [wholeB])
theorem Ahz {L:List Nat} (h:Lh L):∃u v:Nat,0<u/\0<v/\(Dt 0 (Bp L) wholeB).sum=⟨u,v⟩/\En u v=L:=by
 have h1:=Abo L 0
 have h2:=A7s L 0
 exact ⟨(pr 0 L).1,(pr 0 L).2,h2.1,h2.2,Ql _ 0 _ _ wholeB ⟨_,_⟩ h1 (by simp [wholeB]) (by simp [wholeB]),(A2t L 0 _ _ h h2.1 h2.2 h1).1 rfl⟩
theorem A9z {u v:Nat} (hu:0<u) (hlt:u<v):En u v=0::En v u:=by
 unfold En
 rw [Fs (show 0<v by omega),Nat.div_eq_of_lt hlt,Nat.mod_eq_of_lt hlt,Ig (Nn hu)]
theorem A7p:∀(b a:Nat),0<b->b<a->Nat.gcd a b=1->(∀n∈En a b,0<n)/\En a b≠[]:=by
 intro b
 induction b using Nat.strongRecOn with
 | _ b ih =>
  intro a hb hlt hg
  unfold En
  by_cases hr:a%b=0
  ·have h1:b ∣ a:=Nat.dvd_of_mod_eq_zero hr
   have h2:Nat.gcd a b=b:=Nat.gcd_eq_right h1
   obtain rfl:b=1:=by omega
   have e:cf a 1=[a]:=by rw [Fs (by omega),Nat.mod_one,Gw,Nat.div_one]
   rw [e]
   simp only [Fy]
   rw [if_neg (by omega)]
   exact ⟨fun n hn=>by simp at hn; omega,by simp⟩
  ·have h1:=Nat.mod_lt a hb
   have hg':Nat.gcd b (a%b)=1:=by
    rw [Nat.gcd_comm,<-Nat.gcd_rec,Nat.gcd_comm]
    exact hg
   obtain ⟨i1,_⟩:=ih (a%b) h1 b (by omega) h1 hg'
   rw [Fs hb,Ig (Nn (by omega))]
   refine ⟨fun n hn => ?_,by simp⟩
   rcases List.mem_cons.1 hn with rfl | hn
   ·exact (Nat.one_le_div_iff hb).2 (by omega)
   ·exact i1 n hn
theorem Alf:En 1 1=[]:=by unfold En; rw [Fs (by omega),show 1%1=0 from rfl,Gw]; rfl
theorem Art {u v:Nat} (hu:0<u) (hv:0<v) (hg:Nat.gcd u v=1):Lh (En u v)/\(En u v=[]->u=1/\v=1):=by
 have pos:∀L:List Nat,(∀n∈L,0<n)->Lh L:=fun L h=>by
  match L with
  | []=>trivial
  | [n]=>exact h n (by simp)
  | a::b::r=>exact fun m hm=>h m (List.mem_cons_of_mem _ hm)
 rcases Nat.lt_trichotomy u v with h | h | h
 ·obtain ⟨h1,h2⟩:=A7p u v hu h (by rw [Nat.gcd_comm]; exact hg)
  rw [A9z hu h]
  refine ⟨?_,by simp⟩
  generalize En v u=L at *
  cases L with
  | nil=>exact (h2 rfl).elim
  | cons b r=>exact h1
 ·subst h
  obtain rfl:=Vy hg
  rw [Alf]
  exact ⟨trivial,fun _=>⟨rfl,rfl⟩⟩
 ·obtain ⟨h1,h2⟩:=A7p v u hv h hg
  exact ⟨pos _ h1,fun h=>(h2 h).elim⟩
theorem Rc {u v:Nat} (hv:v<2 ^ 14):(En u v).length<=28:=Nat.le_trans (Yu _) (Uz 14 u v hv)
theorem Abm {u v N:Nat} (hu:u<=N) (hv:v<=N):∀n∈En u v,n<=N:=Aaq _ (Amg N u v hu hv)
theorem Qb:∀(P Q:List Int) (i:Nat) (s:Bd),Dt i (P++Q) s=Dt (i+P.length) Q (Dt i P s)
 | [],Q,i,s=>by simp [Dt]
 | n::P,Q,i,s=>by
  rw [List.cons_append,Dt,Dt,Qb P Q,List.length_cons]
  congr 1
  omega
structure Bnd (x:Frac) (m a b c d:Int):Prop where
 a0:0<=a
 b1:1<=b
 bm:b<=m
 c0:1<=c
 d0:0<=d
 dm:d<=m
 det:c*b-a*d=1
 lt1:a*x.den<x.num*b
 lt2:x.num*d<c*x.den
section
variable {x:Frac} {m a b c d:Int} (h:Bnd x m a b c d) (hx:Oa x) (hp:1<=x.num) (hp2:x.num<=10000) (hq:m<x.den) (hq2:x.den<=10000) (hm:1<=m) (hm2:m<=1000)
include h
omit h in
theorem Xz {u v U V:Int} (hu:0<=u) (hU:u<=U) (hv:0<=v) (hV:v<=V):0<=u*v/\u*v<=U*V:=
 ⟨Int.mul_nonneg hu hv,Int.le_trans (Ags hu hV) (Int.mul_le_mul_of_nonneg_right hU (by omega))⟩
omit h in
theorem Hh {u v:Int} (hu:0<=u) (hv:0<v):0<=u/v/\u/v*v<=u/\u<(u/v+1)*v:=
 ⟨Int.ediv_nonneg hu (by omega),Int.ediv_mul_le u (by omega),Int.lt_ediv_add_one_mul_self u hv⟩
theorem Bnd.down (hx:Oa x) (hp:1<=x.num) (hq:m<x.den) {n:Int} (n0:0<=n) (hn1:n*(c*x.den-x.num*d)<=x.num*b-a*x.den) (hn2:n*d<=m-b):Bnd x m (a+n*c) (b+n*d) c d:=by
 have e1:=Int.mul_nonneg n0 (show 0<=c by have:=h.c0; omega)
 have e2:=Int.mul_nonneg n0 h.d0
 have hb1:=h.b1
 have key:(a+n*c)*x.den<=x.num*(b+n*d):=by grind
 have hne:(a+n*c)*x.den≠x.num*(b+n*d):=fun he=>by
  have:=Zq hx (by omega) (by omega) (show 1<=b+n*d by omega) he
  omega
 exact ⟨by have:=h.a0; omega,by omega,by omega,h.c0,h.d0,h.dm,by have:=h.det; grind,by omega,h.lt2⟩
theorem Bnd.up (hx:Oa x) (hp:1<=x.num) (hq:m<x.den) {n:Int} (n0:0<=n) (hn1:n*(x.num*b-a*x.den)<=c*x.den-x.num*d) (hn2:n*b<=m-d):Bnd x m a b (c+n*a) (d+n*b):=by
 have e1:=Int.mul_nonneg n0 h.a0
 have e2:=Int.mul_nonneg n0 (show 0<=b by have:=h.b1; omega)
 have hb1:=h.b1
 have hd0:=h.d0
 have hc0:=h.c0
 have hbm:=h.bm
 have key:x.num*(d+n*b)<=(c+n*a)*x.den:=by grind
 have hlt:x.num*(d+n*b)<(c+n*a)*x.den:=by
  by_cases hz:d+n*b=0
  ·rw [hz,Int.mul_zero]
   exact Int.mul_pos (by omega) (by omega)
  ·have hne:(c+n*a)*x.den≠x.num*(d+n*b):=fun he=>by
    have:=Zq hx (by omega) (by omega) (show 1<=d+n*b by omega) he
    omega
   omega
 exact ⟨h.a0,h.b1,h.bm,by omega,by omega,by omega,by have:=h.det; grind,h.lt1,hlt⟩
end
def mn (a b:Int):Int:=if b<a then b else a
theorem Ayc (a b:Int):mn a b<=a/\mn a b<=b:=by unfold mn; split <;> omega
theorem A1g (a b:Int):mn a b=a\/mn a b=b:=by unfold mn; split <;> simp
def dnA (x:Frac) (m a b c d:Int):Int:=if d=0 then x.num/x.den else a+mn ((x.num*b-a*x.den)/(c*x.den-x.num*d)) ((m-b)/d)*c
def dnB (x:Frac) (m a b c d:Int):Int:=if d=0 then b else b+mn ((x.num*b-a*x.den)/(c*x.den-x.num*d)) ((m-b)/d)*d
def upN (x:Frac) (m a b c d:Int):Int:=mn ((c*x.den-x.num*d)/(x.num*b-a*x.den)) ((m-d)/b)
theorem Bnd.dn {x:Frac} {m a b c d:Int} (h:Bnd x m a b c d) (hx:Oa x) (hp:1<=x.num) (hq:m<x.den) (hm:1<=m):Bnd x m (dnA x m a b c d) (dnB x m a b c d) c d:=by
 have h1:=h.lt1
 have h2:=h.lt2
 have hb1:=h.b1
 have hc1:=h.c0
 unfold dnA dnB
 split
 ·next hz =>
  subst hz
  have hcb:=h.det
  rw [Int.mul_zero] at hcb
  obtain ⟨q0,q1,q2⟩:=Hh (u:=x.num) (v:=x.den) (by omega) (by omega)
  have hb:b=1:=by
   have:=Rr (c:=b) (a:=c) (by omega) hc1
   have hcomm:b*c=c*b:=Int.mul_comm b c
   omega
  subst hb
  have hne:x.num/x.den*x.den≠x.num*1:=fun he=>by
   have:=Zq hx (by omega) (by omega) (show (1:Int)<=1 by omega) he
   omega
  exact ⟨q0,by omega,h.bm,h.c0,h.d0,h.dm,by omega,by omega,by rw [Int.mul_zero]; exact Int.mul_pos (by omega) (by omega)⟩
 ·next hz =>
  have hd:=h.d0
  have hbm:=h.bm
  obtain ⟨q0,q1,q2⟩:=Hh (u:=x.num*b-a*x.den) (v:=c*x.den-x.num*d) (by omega) (by omega)
  obtain ⟨r0,r1,r2⟩:=Hh (u:=m-b) (v:=d) (by omega) (by omega)
  obtain ⟨l1,l2⟩:=Ayc ((x.num*b-a*x.den)/(c*x.den-x.num*d)) ((m-b)/d)
  have l0:0<=mn ((x.num*b-a*x.den)/(c*x.den-x.num*d)) ((m-b)/d):=by
   rcases A1g ((x.num*b-a*x.den)/(c*x.den-x.num*d)) ((m-b)/d) with e | e <;> rw [e] <;> assumption
  exact h.down hx hp hq l0 (Int.le_trans (Int.mul_le_mul_of_nonneg_right l1 (by omega)) q1) (Int.le_trans (Int.mul_le_mul_of_nonneg_right l2 (by omega)) r1)
theorem Bnd.upn0 {x:Frac} {m a b c d:Int} (h:Bnd x m a b c d):0<=upN x m a b c d:=by
 have h1:=h.lt1
 have h2:=h.lt2
 have hb1:=h.b1
 have hdm:=h.dm
 obtain ⟨q0,q1,q2⟩:=Hh (u:=c*x.den-x.num*d) (v:=x.num*b-a*x.den) (by omega) (by omega)
 obtain ⟨r0,r1,r2⟩:=Hh (u:=m-d) (v:=b) (by omega) (by omega)
 unfold upN
 rcases A1g ((c*x.den-x.num*d)/(x.num*b-a*x.den)) ((m-d)/b) with e | e <;> rw [e] <;> assumption
theorem Bnd.round {x:Frac} {m a b c d:Int} (h:Bnd x m a b c d) (hx:Oa x) (hp:1<=x.num) (hq:m<x.den) (hm:1<=m) {a' b' n:Int} (ha:a'=dnA x m a b c d) (hb:b'=dnB x m a b c d) (hn:n=upN x m a' b' c d) :
  (a'=a->b'=b->c+n*a'=c->d+n*b'=d->m<b+d/\1<=d)/\(¬(a'=a/\b'=b/\c+n*a'=c/\d+n*b'=d)->b+d<b'+(d+n*b')):=by
 have h':=h.dn hx hp hq hm
 rw [<-ha,<-hb] at h'
 have n0:=h'.upn0
 rw [<-hn] at n0
 have h1:=h.lt1
 have h2:=h.lt2
 have h1':=h'.lt1
 have hb1:=h.b1
 have hb1':=h'.b1
 have hc1:=h.c0
 have hd0:=h.d0
 have hdm:=h.dm
 have hbm:=h.bm
 have hbm':=h'.bm
 obtain ⟨q0,q1,q2⟩:=Hh (u:=c*x.den-x.num*d) (v:=x.num*b'-a'*x.den) (by omega) (by omega)
 obtain ⟨r0,r1,r2⟩:=Hh (u:=m-d) (v:=b') (by omega) (by omega)
 have nb:=Int.mul_nonneg n0 (show 0<=b' by omega)
 -- no step up: one of both is 0
 have nz:n=0->(c*x.den-x.num*d)<(x.num*b'-a'*x.den)\/m-d<b':=fun hz=>by
  have hz':upN x m a' b' c d=0:=by rw [<-hn]; exact hz
  unfold upN at hz'
  rcases A1g ((c*x.den-x.num*d)/(x.num*b'-a'*x.den)) ((m-d)/b') with e | e <;> rw [e] at hz'
  ·left; rw [hz'] at q2; omega
  ·right; rw [hz'] at r2; omega
 have nd:d=0->1<=n:=fun hz=>by
  refine Classical.byContradiction fun hlt => ?_
  have hz0:n=0:=by omega
  subst hz
  have hcb:=h.det
  rw [Int.mul_zero] at hcb
  have hb0:b=1:=by
   have:=Rr (c:=b) (a:=c) (by omega) hc1
   have hcomm:b*c=c*b:=Int.mul_comm b c
   omega
  have hc0:c=1:=by rw [hb0] at hcb; omega
  have hbb:b'=1:=by rw [hb]; unfold dnB; rw [if_pos rfl]; exact hb0
  have haa:a'=x.num/x.den:=by rw [ha]; unfold dnA; rw [if_pos rfl]
  obtain ⟨s0,s1,s2⟩:=Hh (u:=x.num) (v:=x.den) (by omega) (by omega)
  rw [<-haa] at s0 s1 s2
  rw [hc0,hbb] at nz
  rcases nz hz0 with e | e
  ·have:(a'+1)*x.den=a'*x.den+x.den:=by rw [Int.add_mul,Int.one_mul]
   omega
  ·omega
 constructor
 ·intro e1 e2 e3 e4
  have hz:n*b'=0:=by omega
  have hn0:n=0:=by
   rcases Int.mul_eq_zero.1 hz with e | e
   ·exact e
   ·omega
  have hd1:d≠0:=fun e=>by have:=nd e; omega
  refine ⟨?_,by omega⟩
  refine Classical.byContradiction fun hlt => ?_
  subst e1 e2
  rcases nz hn0 with e | e
  ·-- then a step down was there
   have hdn:b'=dnB x m a' b' c d:=hb
   unfold dnB at hdn
   rw [if_neg hd1] at hdn
   have hzz:mn ((x.num*b'-a'*x.den)/(c*x.den-x.num*d)) ((m-b')/d)=0:=by
    have:mn ((x.num*b'-a'*x.den)/(c*x.den-x.num*d)) ((m-b')/d)*d=0:=by omega
    rcases Int.mul_eq_zero.1 this with e | e
    ·exact e
    ·omega
   obtain ⟨s0,s1,s2⟩:=Hh (u:=x.num*b'-a'*x.den) (v:=c*x.den-x.num*d) (by omega) (by omega)
   obtain ⟨u0,u1,u2⟩:=Hh (u:=m-b') (v:=d) (by omega) (by omega)
   rcases A1g ((x.num*b'-a'*x.den)/(c*x.den-x.num*d)) ((m-b')/d) with g | g <;> rw [g] at hzz
   ·rw [hzz] at s2; omega
   ·rw [hzz] at u2; omega
  ·omega
 ·intro hne
  refine Classical.byContradiction fun hge=>hne ?_
  have hbb:b<=b':=by
   rw [hb]; unfold dnB
   split
   ·exact Int.le_refl _
   ·have l0:0<=mn ((x.num*b-a*x.den)/(c*x.den-x.num*d)) ((m-b)/d):=by
     obtain ⟨s0,_⟩:=Hh (u:=x.num*b-a*x.den) (v:=c*x.den-x.num*d) (by omega) (by omega)
     obtain ⟨u0,_⟩:=Hh (u:=m-b) (v:=d) (by omega) (by omega)
     rcases A1g ((x.num*b-a*x.den)/(c*x.den-x.num*d)) ((m-b)/d) with g | g <;> rw [g] <;> assumption
    have:=Int.mul_nonneg l0 hd0
    omega
  have hz:n*b'=0:=by omega
  have hn0:n=0:=by
   rcases Int.mul_eq_zero.1 hz with e | e
   ·exact e
   ·omega
  have hd1:d≠0:=fun e=>by have:=nd e; omega
  have hbe:b'=b:=by omega
  have hae:a'=a:=by
   rw [hb] at hbe
   unfold dnB at hbe
   rw [if_neg hd1] at hbe
   have hzz:mn ((x.num*b-a*x.den)/(c*x.den-x.num*d)) ((m-b)/d)=0:=by
    have:mn ((x.num*b-a*x.den)/(c*x.den-x.num*d)) ((m-b)/d)*d=0:=by omega
    rcases Int.mul_eq_zero.1 this with e | e
    ·exact e
    ·omega
   rw [ha]; unfold dnA
   rw [if_neg hd1,hzz]
   omega
  exact ⟨hae,hbe,by rw [hn0]; omega,by rw [hn0]; omega⟩
theorem Bnd.nb {x:Frac} {m a b c d:Int} (h:Bnd x m a b c d) (h1:m<b+d) (h2:1<=d):Nb x m ⟨a,b⟩ ⟨c,d⟩:=
 ⟨h.b1,h.bm,h2,h.dm,h.a0,h.det,h1,h.lt1,h.lt2⟩
def mvs (s:Bd) (D:List Bool):Bd:=D.foldl (fun s l=>s.mv l 1) s
theorem Abg (l:Bool):∀(n:Nat) (s:Bd),mvs s (List.replicate n l)=s.mv l n
 | 0,s=>(Bd.mv_zero s l).symm
 | n+1,s=>by
  rw [List.replicate_succ']
  show List.foldl _ s _=_
  rw [List.foldl_append]
  have:=Abg l n s
  unfold mvs at this
  rw [this]
  show (s.mv l n).mv l 1=_
  rw [Bd.mv_succ]
  rfl
theorem A2m (s:Bd) (D E:List Bool):mvs s (D++E)=mvs (mvs s D) E:=by
 unfold mvs; rw [List.foldl_append]
def Ge:Nat->List Nat->List Bool
 | _,[]=>[]
 | i,n::r=>List.replicate n (i%2==1)++Ge (i+1) r
theorem Qp:∀(L:List Nat) (i:Nat) (s:Bd),Dt i (Bp L) s=mvs s (Ge i L)
 | [],_,_=>rfl
 | n::r,i,s=>by
  have ih:=Qp r (i+1) (s.mv (i%2==1) n)
  show Dt (i+1) (Bp r) (s.mv (i%2==1) n)=_
  rw [ih,Ge,A2m,Abg]
theorem Mu:∀(L:List Nat) (i:Nat),(Ge i L).length=L.sum
 | [],_=>rfl
 | n::r,i=>by rw [Ge,List.length_append,List.length_replicate,Mu r,List.sum_cons]
def Fi:List Nat->Nat->List Nat
 | [],_=>[]
 | x::r,n=>if n=0 then [] else min x n::Fi r (n-min x n)
theorem Ze:∀(L:List Nat) (i n:Nat),Ge i (Fi L n)=(Ge i L).take n
 | [],_,n=>by simp [Fi,Ge]
 | x::r,i,n=>by
  rw [Fi]
  by_cases h:n=0
  ·rw [if_pos h,h]; simp [Ge]
  ·rw [if_neg h,Ge,Ge,Ze r,List.take_append,List.take_replicate,List.length_replicate]
   have e:n-min x n=n-x:=by omega
   rw [e,Nat.min_comm]
theorem A7g:∀(D:List Bool) (s:Bd),s.NN->s.det=1->(mvs s D).NN/\(mvs s D).det=1/\0<(mvs s D).sum.num*s.b-s.a*(mvs s D).sum.den/\0<s.c*(mvs s D).sum.den-(mvs s D).sum.num*s.d
 | [],s,hn,hd=>by
  refine ⟨hn,hd,?_,?_⟩
  ·show 0<(s.a+s.c)*s.b-s.a*(s.b+s.d)
   simp only [Bd.det] at hd
   have:(s.a+s.c)*s.b-s.a*(s.b+s.d)=s.c*s.b-s.a*s.d:=by grind
   omega
  ·show 0<s.c*(s.b+s.d)-(s.a+s.c)*s.d
   simp only [Bd.det] at hd
   have:s.c*(s.b+s.d)-(s.a+s.c)*s.d=s.c*s.b-s.a*s.d:=by grind
   omega
 | l::D,s,hn,hd=>by
  obtain ⟨i1,i2,i3,i4⟩:=A7g D (s.mv l 1) (hn.mv (by omega) l) (by rw [Bd.mv_det]; exact hd)
  have e:mvs s (l::D)=mvs (s.mv l 1) D:=rfl
  rw [e]
  refine ⟨i1,i2,?_,?_⟩
  all_goals
   clear i1 i2 e
   generalize mvs (s.mv l 1) D=t at *
  ·cases l with
   | true=>exact i3
   | false =>
    simp only [Bd.mv,Bool.false_eq_true,if_false,Int.one_mul] at i3 i4
    generalize t.sum.num=N at *
    generalize t.sum.den=M at *
    have h1:N*(s.b+s.d)-(s.a+s.c)*M=(N*s.b-s.a*M)+(N*s.d-s.c*M):=by grind
    omega
  ·cases l with
   | false=>exact i4
   | true =>
    simp only [Bd.mv,if_true,Int.one_mul] at i3 i4
    generalize t.sum.num=N at *
    generalize t.sum.den=M at *
    have h1:(s.c+s.a)*M-N*(s.d+s.b)=(s.c*M-N*s.d)+(s.a*M-N*s.b):=by grind
    omega
def frP (D:List Bool) (n:Nat):Frac:=(mvs wholeB (D.take n)).sum
theorem Aia:wholeB.det=1:=rfl
theorem Apm {D:List Bool} {j n:Nat} (hj:j<n) (hn:n<=D.length):(D[j]? = some true->0<Lc (frP D n) (frP D j))/\(D[j]? = some false->0<Lc (frP D j) (frP D n)):=by
 have hjl:j<D.length:=by omega
 obtain ⟨E,hE⟩:∃E,D.take n=D.take j++D[j]::E:=by
  refine ⟨(D.take n).drop (j+1),?_⟩
  have h1:(D.take n).take j=D.take j:=by rw [List.take_take,Nat.min_eq_left (by omega)]
  have h2:j<(D.take n).length:=by rw [List.length_take]; omega
  conv=>lhs; rw [<-List.take_append_drop j (D.take n),h1,List.drop_eq_getElem_cons h2]
  rw [List.getElem_take]
 obtain ⟨a1,a2,_,_⟩:=A7g (D.take j) wholeB Qq Aia
 have e1:frP D n=(mvs ((mvs wholeB (D.take j)).mv D[j] 1) E).sum:=by
  rw [frP,hE,A2m]; rfl
 have e2:frP D j=(mvs wholeB (D.take j)).sum:=rfl
 generalize mvs wholeB (D.take j)=s at *
 obtain ⟨_,_,b3,b4⟩:=A7g E (s.mv D[j] 1) (a1.mv (by omega) _) (by rw [Bd.mv_det]; exact a2)
 rw [e1,e2]
 rw [List.getElem?_eq_getElem hjl]
 constructor
 ·intro h
  have h':D[j]=true:=Option.some.inj h
  rw [h'] at b3 b4 ⊢
  simp only [Bd.mv,if_true,Int.one_mul] at b4
  show 0<s.sum.num*_-_*s.sum.den
  simp only [Bd.sum,Bd.mv,if_true,Int.one_mul] at b4 ⊢
  rw [Int.add_comm s.a,Int.add_comm s.b]
  exact b4
 ·intro h
  have h':D[j]=false:=Option.some.inj h
  rw [h'] at b3 b4 ⊢
  simp only [Bd.mv,Bool.false_eq_true,if_false,Int.one_mul] at b3
  show 0<_*s.sum.den-s.sum.num*_
  simp only [Bd.sum,Bd.mv,Bool.false_eq_true,if_false,Int.one_mul] at b3 ⊢
  exact b3
def upL (D:List Bool) (n:Nat):List Nat:=(List.range n).filter fun j=>D[j]?==some false
def dnL (D:List Bool) (n:Nat):List Nat:=(List.range n).filter fun j=>D[j]?==some true
def Gs (D:List Bool) (n:Nat):List Nat:=upL D n++n::(dnL D n).reverse
theorem Io (D:List Bool) (n:Nat):upL D (n+1)=upL D n++if D[n]? = some false then [n] else []:=by
 rw [upL,List.range_succ,List.filter_append,List.filter_cons,List.filter_nil,upL]
 simp only [beq_iff_eq]
theorem Lt (D:List Bool) (n:Nat):dnL D (n+1)=dnL D n++if D[n]? = some true then [n] else []:=by
 rw [dnL,List.range_succ,List.filter_append,List.filter_cons,List.filter_nil,dnL]
 simp only [beq_iff_eq]
theorem A4h {D:List Bool} {n:Nat} (h:n<D.length):Gs D (n+1)=if D[n] then upL D n++(n+1)::n::(dnL D n).reverse else upL D n++n::(n+1)::(dnL D n).reverse:=by
 rw [Gs,Io,Lt,List.getElem?_eq_getElem h]
 cases D[n] <;> simp
theorem Qa (D:List Bool):∀n,n<=D.length->(upL D n).length+(dnL D n).length=n
 | 0,_=>rfl
 | n+1,h=>by
  have ih:=Qa D n (by omega)
  rw [Io,Lt,List.getElem?_eq_getElem (by omega)]
  cases D[n] <;> simp <;> omega
theorem Akz {D:List Bool} {n:Nat} (h:n<=D.length):(Gs D n).length=n+1:=by
 have:=Qa D n h
 rw [Gs,List.length_append,List.length_cons,List.length_reverse]
 omega
theorem Aux {D:List Bool} {n j:Nat}:j∈upL D n↔j<n/\D[j]? = some false:=by simp [upL]
theorem Agq {D:List Bool} {n j:Nat}:j∈dnL D n↔j<n/\D[j]? = some true:=by simp [dnL]
def Dy:List Bool->List Nat
 | []=>[0]
 | l::D=>if l then (Dy D).map (·+1)++[0] else 0::(Dy D).map (·+1)
theorem Ou:∀D:List Bool,Gs D D.length=Dy D
 | []=>rfl
 | l::D=>by
  have ih:=Ou D
  rw [Dy,<-ih]
  have hr:List.range (D.length+1)=0::(List.range D.length).map (·+1):=List.range_succ_eq_map
  have hu:upL (l::D) (D.length+1)=(if l then [] else [0])++(upL D D.length).map (·+1):=by
   rw [upL,hr,List.filter_cons,List.filter_map]
   cases l <;> simp [upL,Function.comp_def]
  have hd:dnL (l::D) (D.length+1)=(if l then [0] else [])++(dnL D D.length).map (·+1):=by
   rw [dnL,hr,List.filter_cons,List.filter_map]
   cases l <;> simp [dnL,Function.comp_def]
  rw [List.length_cons,Gs,hu,hd,Gs]
  cases l <;> simp [List.map_reverse]
section
variable {D:List Bool}
theorem My:∀n,n<=D.length->(Gs D n).Perm (List.range (n+1))
 | 0,_ => .refl _
 | n+1,h=>by
  have ih:=My n (by omega)
  rw [List.range_succ]
  refine List.Perm.trans ?_ (List.perm_append_comm (l₁:=[n+1]))
  refine List.Perm.trans ?_ (List.Perm.cons (n+1) ih)
  rw [A4h (by omega)]
  split
  ·exact List.perm_middle
  ·rw [Gs]
   have e1:upL D n++n::(n+1)::(dnL D n).reverse=(upL D n++[n])++(n+1)::(dnL D n).reverse:=by simp
   have e2:upL D n++n::(dnL D n).reverse=(upL D n++[n])++(dnL D n).reverse:=by simp
   rw [e1,e2]
   exact List.perm_middle
theorem Adk {n:Nat} (h:n<=D.length):(Gs D n).Nodup:=(My n h).nodup_iff.2 List.nodup_range
theorem A8j:∀(d k:Nat),(upL D k).length<=(upL D (k+d)).length
 | 0,_=>Nat.le_refl _
 | d+1,k=>by
  have ih:=A8j d k
  rw [<-Nat.add_assoc,Io,List.length_append]
  omega
theorem A6a:∀(d k:Nat),(dnL D k).length<=(dnL D (k+d)).length
 | 0,_=>Nat.le_refl _
 | d+1,k=>by
  have ih:=A6a d k
  rw [<-Nat.add_assoc,Lt,List.length_append]
  omega
def Db (D:List Bool) (k:Nat):Nat:=if D[k]? = some true then D.length-(dnL D k).length else (upL D k).length
theorem Alh {k:Nat} (h:k<=D.length):(upL D k).length<=Db D k/\Db D k<=D.length-(dnL D k).length:=by
 have:=Qa D k h
 rw [Db]
 split <;> omega
theorem A2r {k m:Nat} (hk:k<m) (hm:m<=D.length):(D[k]? = some false->Db D k<Db D m)/\(D[k]? = some true->Db D m<Db D k):=by
 obtain ⟨b1,b2⟩:=Alh hm
 obtain ⟨d,rfl⟩:∃d,m=k+1+d:=⟨m-(k+1),by omega⟩
 have h1:=A8j (D:=D) d (k+1)
 have h2:=A6a (D:=D) d (k+1)
 have hs:=Qa D (k+1) (by omega)
 have hs2:=Qa D (k+1+d) hm
 constructor
 ·intro h
  have e:Db D k=(upL D k).length:=by rw [Db,if_neg (by rw [h]; simp)]
  rw [Io,if_pos h,List.length_append,List.length_singleton] at h1
  omega
 ·intro h
  have e:Db D k=D.length-(dnL D k).length:=by rw [Db,if_pos h]
  rw [Lt,if_pos h,List.length_append,List.length_singleton] at h2
  omega
theorem Ahv {k n:Nat} (hk:k<n) (h:D[k]? = some false):∃r,upL D n=upL D k++k::r:=by
 obtain ⟨d,rfl⟩:∃d,n=k+1+d:=⟨n-(k+1),by omega⟩
 have key:∀d,∃r,upL D (k+1+d)=upL D (k+1)++r:=by
  intro d
  induction d with
  | zero=>exact ⟨[],by simp⟩
  | succ d ih =>
   obtain ⟨r,hr⟩:=ih
   exact ⟨r++_,by rw [<-Nat.add_assoc,Io,hr,List.append_assoc]⟩
 obtain ⟨r,hr⟩:=key d
 exact ⟨r,by rw [hr,Io,if_pos h]; simp⟩
theorem Afi {k n:Nat} (hk:k<n) (h:D[k]? = some true):∃r,dnL D n=dnL D k++k::r:=by
 obtain ⟨d,rfl⟩:∃d,n=k+1+d:=⟨n-(k+1),by omega⟩
 have key:∀d,∃r,dnL D (k+1+d)=dnL D (k+1)++r:=by
  intro d
  induction d with
  | zero=>exact ⟨[],by simp⟩
  | succ d ih =>
   obtain ⟨r,hr⟩:=ih
   exact ⟨r++_,by rw [<-Nat.add_assoc,Lt,hr,List.append_assoc]⟩
 obtain ⟨r,hr⟩:=key d
 exact ⟨r,by rw [hr,Lt,if_pos h]; simp⟩
theorem Ahi {k:Nat} (h:k<=D.length):(Gs D D.length)[Db D k]? = some k:=by
 have hs:=Qa D D.length (Nat.le_refl _)
 rcases Nat.lt_or_ge k D.length with hk | hk
 ·cases hd:D[k] with
  | false =>
   have hd':D[k]? = some false:=by rw [List.getElem?_eq_getElem hk,hd]
   obtain ⟨r,hr⟩:=Ahv hk hd'
   have e:Db D k=(upL D k).length:=by rw [Db,if_neg (by rw [hd']; simp)]
   rw [e,Gs,hr]
   simp
  | true =>
   have hd':D[k]? = some true:=by rw [List.getElem?_eq_getElem hk,hd]
   obtain ⟨r,hr⟩:=Afi hk hd'
   have e:Db D k=D.length-(dnL D k).length:=by rw [Db,if_pos hd']
   have hl:(dnL D D.length).length=(dnL D k).length+1+r.length:=by rw [hr]; simp; omega
   rw [e,Gs,hr,List.reverse_append,List.reverse_cons]
   have e2:upL D D.length++D.length::(r.reverse++[k]++(dnL D k).reverse)=(upL D D.length++D.length::r.reverse)++k::(dnL D k).reverse:=by simp
   rw [e2,List.getElem?_append_right (by simp; omega)]
   have e3:D.length-(dnL D k).length-(upL D D.length++D.length::r.reverse).length=0:=by simp; omega
   rw [e3]; rfl
 ·have e:k=D.length:=by omega
  subst e
  have hn:D[D.length]? = none:=List.getElem?_eq_none (Nat.le_refl _)
  rw [Db,if_neg (by rw [hn]; simp),Gs]
  simp
theorem Arq {k i:Nat} (h:k<=D.length) (hi:(Gs D D.length)[i]? = some k):i=Db D k:=by
 have hn:=Adk (D:=D) (Nat.le_refl _)
 have h1:=Ahi h
 rw [List.Nodup,List.pairwise_iff_getElem] at hn
 have l1:=(List.getElem?_eq_some_iff.1 hi)
 have l2:=(List.getElem?_eq_some_iff.1 h1)
 obtain ⟨a1,a2⟩:=l1
 obtain ⟨b1,b2⟩:=l2
 rcases Nat.lt_trichotomy i (Db D k) with hlt | heq | hgt
 ·exact absurd (a2.trans b2.symm) (hn i _ a1 b1 hlt)
 ·exact heq
 ·exact absurd (b2.trans a2.symm) (hn _ i b1 a1 hgt)
end
def inA {α:Type} (l:List α) (k:Nat) (x:α):List α:=l.take k++x::l.drop k
theorem A2h {α:Type} {l:List α} {k:Nat} {x:α} (h:k<=l.length):(inA l k x).length=l.length+1:=by
 rw [inA,List.length_append,List.length_cons,List.length_take,List.length_drop]; omega
theorem Apv {α:Type} {l:List α} {x:α}:inA l l.length x=l++[x]:=by
 rw [inA,List.take_length,List.drop_length]
theorem Auj {α:Type} {l:List α} {k:Nat} {x:α} (h:k<=l.length):(inA l k x)[k]? = some x:=by
 rw [inA,List.getElem?_append_right (by rw [List.length_take]; omega),List.length_take]
 have:k-min k l.length=0:=by omega
 rw [this]; rfl
theorem Apw {α:Type} {l:List α} {k:Nat} {x:α} (h:k+1<=l.length):(inA l (k+1) x)[k]? = l[k]?:=by
 rw [inA,List.getElem?_append_left (by rw [List.length_take]; omega),List.getElem?_take]
 simp
theorem Ajn {α:Type} {l:List α} {k:Nat} {x y:α} (h:l[k]? = some y):((inA l (k+1) x).set (k+1) y).set k x=inA l k x:=by
 have hk:=(List.getElem?_eq_some_iff.1 h).1
 have hy:=(List.getElem?_eq_some_iff.1 h).2
 have e1:l.take (k+1)=l.take k++[y]:=by rw [List.take_add_one,h]; rfl
 have e2:l.drop k=y::l.drop (k+1):=by rw [List.drop_eq_getElem_cons hk,hy]
 have ht:(l.take k).length=k:=by rw [List.length_take]; omega
 rw [inA,inA,e1,e2]
 rw [List.append_assoc]
 rw [List.set_append_right _ _ (by rw [ht]; omega),List.set_append_right _ _ (by rw [ht]; omega),ht]
 have a1:k+1-k=1:=by omega
 have a2:k-k=0:=by omega
 rw [a1,a2]
 rfl
section
variable {D:List Bool}
def plc (D:List Bool) (n:Nat):Nat:=(upL D (n+1)).length
theorem Avl {n:Nat} (h:n<D.length):plc D n<=n+1:=by
 have:=Qa D (n+1) (by omega)
 rw [plc]; omega
theorem Avf {n:Nat} (h:n<D.length):Gs D (n+1)=inA (Gs D n) (plc D n) (n+1):=by
 rw [A4h h,inA,plc,Io,List.getElem?_eq_getElem h,Gs]
 cases D[n] with
 | true=>simp
 | false =>
  have e:upL D n++n::(dnL D n).reverse=(upL D n++[n])++(dnL D n).reverse:=by simp
  have hl:(upL D n++if some false=some false then [n] else []).length=(upL D n++[n]).length:=by simp
  rw [e,hl,List.take_left,List.drop_left]
  simp
theorem Alb {n i j:Nat} (h:n<D.length) (hj:(Gs D n)[i]? = some j):j<=n/\(i<plc D n->D[j]? = some false)/\(plc D n<=i->D[j]? = some true):=by
 have hm:j∈Gs D n:=List.mem_of_getElem? hj
 have hjn:j<=n:=by
  have:=(My n (by omega)).mem_iff.1 hm
  have:=List.mem_range.1 this
  omega
 refine ⟨hjn,?_,?_⟩
 ·intro hi
  rw [plc,Io,List.length_append,List.getElem?_eq_getElem h] at hi
  rw [Gs] at hj
  rcases Nat.lt_or_ge i (upL D n).length with hlt | hge
  ·rw [List.getElem?_append_left hlt] at hj
   exact (Aux.1 (List.mem_of_getElem? hj)).2
  ·cases hd:D[n] with
   | true =>
    rw [hd] at hi
    simp at hi
    omega
   | false =>
    rw [hd] at hi
    simp at hi
    have e:i=(upL D n).length:=by omega
    rw [e,List.getElem?_append_right (Nat.le_refl _),Nat.sub_self] at hj
    have:n=j:=by simpa using hj
    rw [<-this,List.getElem?_eq_getElem h,hd]
 ·intro hi
  rw [plc,Io,List.length_append,List.getElem?_eq_getElem h] at hi
  rw [Gs,List.getElem?_append_right (by omega)] at hj
  cases hd:D[n] with
  | true =>
   cases hk:i-(upL D n).length with
   | zero =>
    rw [hk] at hj
    have:n=j:=by simpa using hj
    rw [<-this,List.getElem?_eq_getElem h,hd]
   | succ m =>
    rw [hk,List.getElem?_cons_succ] at hj
    exact (Agq.1 (by simpa using List.mem_of_getElem? hj)).2
  | false =>
   rw [hd] at hi
   simp at hi
   obtain ⟨m,hm'⟩:∃m,i-(upL D n).length=m+1:=⟨i-(upL D n).length-1,by omega⟩
   rw [hm',List.getElem?_cons_succ] at hj
   exact (Agq.1 (by simpa using List.mem_of_getElem? hj)).2
theorem Arp {n i j:Nat} (h:n<D.length) (hj:(Gs D n)[i]? = some j):0<Lc (frP D (n+1)) (frP D j)↔plc D n<=i:=by
 obtain ⟨h1,h2,h3⟩:=Alb h hj
 obtain ⟨g1,g2⟩:=Apm (D:=D) (j:=j) (n:=n+1) (by omega) (by omega)
 constructor
 ·intro hg
  rcases Nat.lt_or_ge i (plc D n) with hlt | hge
  ·have a:=g2 (h2 hlt)
   have:Lc (frP D j) (frP D (n+1)) = -Lc (frP D (n+1)) (frP D j):=by
    simp only [Lc]; grind
   omega
  ·exact hge
 ·intro hi
  exact g1 (h3 hi)
theorem A8i {k m j:Nat} (hk:k<=D.length) (hm:m<k) (hj:m<j) (hjl:j<=D.length):(Db D m<Db D k->Db D m<Db D j)/\(Db D k<Db D m->Db D j<Db D m):=by
 have a:=A2r (D:=D) hm hk
 have b:=A2r (D:=D) hj hjl
 have hml:m<D.length:=by omega
 cases hd:D[m] with
 | false =>
  have h:D[m]? = some false:=by rw [List.getElem?_eq_getElem hml,hd]
  exact ⟨fun _=>b.1 h,fun c=>absurd (a.1 h) (by omega)⟩
 | true =>
  have h:D[m]? = some true:=by rw [List.getElem?_eq_getElem hml,hd]
  exact ⟨fun c=>absurd (a.2 h) (by omega),fun _=>b.2 h⟩
theorem Arx {k m:Nat} (hm:m<k) (hk:k<=D.length):Db D m≠Db D k:=by
 have a:=A2r (D:=D) hm hk
 have hml:m<D.length:=by omega
 cases hd:D[m] with
 | false=>have:=a.1 (by rw [List.getElem?_eq_getElem hml,hd]); omega
 | true=>have:=a.2 (by rw [List.getElem?_eq_getElem hml,hd]); omega
end
theorem Hb:∀D:List Bool,(Dy D).length=D.length+1
 | []=>rfl
 | l::D=>by
  have:=Hb D
  rw [Dy]
  cases l <;> simp [this]
theorem Nx {D:List Bool} {k:Nat} (h:k<=D.length):(Dy D)[Db D k]? = some k:=by rw [<-Ou]; exact Ahi h
theorem A8h {D:List Bool} {k i:Nat} (h:k<=D.length) (hi:(Dy D)[i]? = some k):i=Db D k:=Arq h (by rw [Ou]; exact hi)
theorem A2x {D:List Bool} {i k:Nat} (hi:(Dy D)[i]? = some k):k<=D.length:=by
 have hm:=List.mem_of_getElem? hi
 rw [<-Ou] at hm
 have:=(My D.length (Nat.le_refl _)).mem_iff.1 hm
 have:=List.mem_range.1 this
 omega
theorem Mf {D:List Bool} {k:Nat} (h:k<=D.length):Db D k<=D.length:=by
 have h1:=(List.getElem?_eq_some_iff.1 (Nx h)).1
 rw [Hb] at h1
 omega
def A2i (D:List Bool) (k a b:Nat):Prop:=∀j,k<=j->j<=D.length->a<=Db D j/\Db D j<b
theorem Apx (D:List Bool):A2i D 0 0 (D.length+1):=fun j _ hj=>⟨by omega,by have:=Mf hj; omega⟩
theorem Aul {D:List Bool} {k K a b:Nat} (h:A2i D k a b) (hk:k<K) (hK:K<=D.length) (hlt:Db D k<Db D K):A2i D (k+1) (Db D k+1) b:=fun j h1 h2=>by
 have:=(A8i hK hk (show k<j by omega) h2).1 hlt
 have:=h j (by omega) h2
 omega
theorem Auk {D:List Bool} {k K a b:Nat} (h:A2i D k a b) (hk:k<K) (hK:K<=D.length) (hlt:Db D K<Db D k):A2i D (k+1) a (Db D k):=fun j h1 h2=>by
 have:=(A8i hK hk (show k<j by omega) h2).2 hlt
 have:=h j (by omega) h2
 omega
def trl (D:List Bool) (k:Nat):List Nat:=(List.range k).map (Db D)
theorem Abt (D:List Bool) (k:Nat):(trl D k).length=k:=by simp [trl]
theorem Alx (D:List Bool) (k:Nat):trl D (k+1)=trl D k++[Db D k]:=by simp [trl,List.range_succ]
theorem Awa {D:List Bool} {k i:Nat} (h:i<k):(trl D k)[i]? = some (Db D i):=by simp [trl,h]
def Vx (n at':Nat):List Int:=(List.replicate n 0).set at' 1
theorem Akr (n a:Nat):(Vx n a).length=n:=by simp [Vx]
theorem Arl {n a i:Nat} (h:i<n):(Vx n a)[i]? = some (if i=a then 1 else 0):=by
 unfold Vx
 rw [List.getElem?_set]
 by_cases e:a=i
 ·rw [if_pos e,if_pos (by simpa [e] using h),if_pos e.symm]
 ·rw [if_neg e,if_neg (fun h=>e h.symm),List.getElem?_replicate,if_pos h]
theorem Aks {n a:Nat}:∀x∈Vx n a,0<=x/\x<=1:=fun x hx=>by
 unfold Vx at hx
 rcases List.mem_or_eq_of_mem_set hx with h | h
 ·have:=List.eq_of_mem_replicate h
  omega
 ·omega
end Go.Ev
