/- The code of functions that are walked, compiled for the evaluator, as text. Chains: places round an octave, and the three distances. Chains: what is valid, and the places of a chain, the reference's way. The notes of a chain and a place of the octave: when they meet, and how many places there are. Two pins, one each step and one at a place of the octave: when they sound together. What the law of chained barrels asks of whole numbers. Joining pins that all sound at one time: what First answers for them. Pins for the circles of joints: they do not clash; when all sound together, and how far apart. No condition but those that stand in each. -/
import Derived.Test.YtgehhippjhealaaGreatBTopW
import Derived.Test.YtgehhippjhealaaGreatBEvKer3
import Derived.Test.YtgehhippjhealaaGreatBEvOpen
import Derived.Test.YtgehhippjhealaaGreatBEvSort
import Derived.Test.YtgehhippjhealaaGreatBTopBax
import Derived.Test.YtgehhippjhealaaGreatBStWrong
set_option linter.unusedSimpArgs false
set_option linter.unusedVariables false
set_option maxRecDepth 100000
namespace Go.Ev.YtgehhippjhealaaGreatC
open Go.Proofs
def c183:IFunc:=⟨13,[.tmp 4],.seq (.ops [dO 4 (.mv (cB false))]) (.seq (.ops [dO 5 (.mv (tM 0)),dO 6 (.load none (tM 1)),dO 7 (.bin .lss (tM 5) (tM 6)),dO 8 (.mv (tM 7)),gO 9 (.mv (tM 0)) 8 false,gO 10 (.load none (tM 2)) 8 false,gO 11 (.bin .gtr (tM 9) (tM 10)) 8 false,dO 12 (.pick (tM 8) (cB true) (tM 11)),dO 4 (.mv (tM 12))]) .ret)⟩
theorem k183:(Bt Tryz.prog byr).fns 183=some c183:=by kernel_rfl
theorem t183:T.fns 183=some c183:=Bx k183 (by decide) (by decide)
end Go.Ev.YtgehhippjhealaaGreatC
set_option linter.unusedSimpArgs false
set_option linter.unusedVariables false
namespace Go.Ev
end Go.Ev
set_option linter.unusedSimpArgs false
set_option linter.unusedVariables false
namespace Go.Ev.YtgehhippjhealaaGreatC
open Go Go.Proofs
end Go.Ev.YtgehhippjhealaaGreatC
set_option linter.unusedSimpArgs false
set_option linter.unusedVariables false
namespace Go.Ev.YtgehhippjhealaaGreatC
open Go
section
variable {g st sn R p:Nat} (hg:0<g) (hst:0<st) (hR:R*sn%st=1%st)
include hg hst hR
end
end Go.Ev.YtgehhippjhealaaGreatC
set_option linter.unusedSimpArgs false
set_option linter.unusedVariables false
namespace Go.Ev.YtgehhippjhealaaGreatC
open Go Go.Proofs
end Go.Ev.YtgehhippjhealaaGreatC
set_option linter.unusedSimpArgs false
set_option linter.unusedVariables false
namespace Go.Ev.YtgehhippjhealaaGreatC
open Go Go.Proofs
theorem Ahr {n P:Nat} (hP:0<P) (hg:Nat.gcd n P=1):∀(y x:Nat) (a b:Int),InvI n P x y a b->Gu n P*n%P=1%P:=by
 intro y
 induction y using Nat.strongRecOn with
 | _ y ih =>
  intro x a b h
  by_cases h0:y=0
  ·subst h0
   exact (A2y h hP hg).2.2
  ·exact ih (x%y) (Nat.mod_lt _ (by omega)) y b _ (Zx h (by omega))
theorem Axl {n P:Nat} (hP:0<P) (hg:Nat.gcd n P=1):Gu n P*n%P=1%P:=Ahr hP hg P _ 1 0 (Yf n P hP)
end Go.Ev.YtgehhippjhealaaGreatC
set_option linter.unusedSimpArgs false
set_option linter.unusedVariables false
namespace Go.Ev.YtgehhippjhealaaGreatC
open Go Go.Proofs
theorem Zm (x m:Int):∃k,x.tmod m=x-m*k:=⟨x.tdiv m,by rw [Int.tmod_def]⟩
theorem Aig {p P:Nat} (hp:1<=p) (hP:1<=P):1<=Nat.lcm p P:=Nat.lcm_pos hp hP
theorem Aeq (t p P:Nat) (hp:1<=p) (hP:1<=P):jst (t%p,p) (P,t%P)=(t%Nat.lcm p P,Nat.lcm p P):=by
 have hg0:0<Nat.gcd p P:=Nat.gcd_pos_of_pos_left _ hp
 have hl:p*(P/Nat.gcd p P)=Nat.lcm p P:=by
  rw [Nat.lcm,Nat.mul_div_assoc _ (Nat.gcd_dvd_right p P)]
 have hj:=Aao (t%p) p P (t%P) hP
 have hR:=Axl (n:=p/Nat.gcd p P) (P:=P/Nat.gcd p P) (Nat.div_pos (Nat.le_of_dvd hP (Nat.gcd_dvd_right p P)) hg0) (Nat.gcd_div_gcd_div_gcd_of_pos_right hP)
 simp only [jst,hl]
 refine Prod.ext ?_ rfl
 simp only
 obtain ⟨hj1,hj2⟩:=hj
 unfold jn at hj2
 generalize hg:Nat.gcd p P=g at *
 have hpg:p=g*(p/g):=(Nat.mul_div_cancel' (hg ▸ Nat.gcd_dvd_left p P)).symm
 have hPg:P=g*(P/g):=(Nat.mul_div_cancel' (hg ▸ Nat.gcd_dvd_right p P)).symm
 generalize p/g=p' at *
 generalize P/g=P' at *
 generalize jw (t%p) p P (t%P)=w at *
 generalize Gu p' P'=R at *
 -- both remainders are alike for g
 have hgd:(g:Int) ∣ ((t%P:Nat):Int)-((t%p:Nat):Int):=by
  have h1:(t:Int)=p*(t/p:Nat)+(t%p:Nat):=by exact_mod_cast (Nat.div_add_mod t p).symm
  have h2:(t:Int)=P*(t/P:Nat)+(t%P:Nat):=by exact_mod_cast (Nat.div_add_mod t P).symm
  refine ⟨p'*(t/p:Nat)-P'*(t/P:Nat),?_⟩
  have h3:(p:Int)=g*p':=by exact_mod_cast hpg
  have h4:(P:Int)=g*P':=by exact_mod_cast hPg
  rw [h3] at h1
  rw [h4] at h2
  rw [Int.mul_sub,<-Int.mul_assoc,<-Int.mul_assoc]
  omega
 obtain ⟨D,hD⟩:=hgd
 have hD':(((t%P:Nat):Int)-((t%p:Nat):Int)).tdiv (g:Int)=D:=by
  rw [hD,Int.mul_tdiv_cancel_left _ (by omega)]
 rw [hD'] at hj2
 obtain ⟨k1,e1⟩:=Zm D (P':Int)
 rw [e1] at hj2
 obtain ⟨k2,e2⟩:=Zm ((D-P'*k1)*(R:Nat)) (P':Int)
 rw [e2] at hj2
 obtain ⟨k3,e3⟩:=Zm ((D-P'*k1)*(R:Nat)-P'*k2+P') (P':Int)
 rw [e3] at hj2
 obtain ⟨m,hm⟩:∃m:Int,(R:Int)*p'=1+P'*m:=by
  have h1:(P':Int) ∣ ((R*p':Nat):Int)-((1:Nat):Int):=by
   apply Int.dvd_of_emod_eq_zero
   apply Int.emod_eq_emod_iff_emod_sub_eq_zero.1
   exact_mod_cast hR
  obtain ⟨m,hm⟩:=h1
  refine ⟨m,?_⟩
  rw [Int.natCast_mul] at hm
  omega
 have hP1:(P:Int) ∣ ((t%p+w*p:Nat):Int)-(t:Int):=by
  have h2:(t:Int)=P*(t/P:Nat)+(t%P:Nat):=by exact_mod_cast (Nat.div_add_mod t P).symm
  have h3:(p:Int)=g*p':=by exact_mod_cast hpg
  have h4:(P:Int)=g*P':=by exact_mod_cast hPg
  refine ⟨D*m-(k1*R+k2+k3-1)*p'-(t/P:Nat),?_⟩
  have h5:((t%p+w*p:Nat):Int)=(t%p:Nat)+w*p:=by push_cast; rfl
  have h6:(w:Int)=D*R-P'*(k1*R+k2+k3-1):=by
   rw [<-hj2]
   simp only [Int.sub_mul,Int.mul_add,Int.mul_sub,Int.mul_one,Int.mul_assoc]
   omega
  rw [h5,h6,h2,h3]
  have h7:(D*R-P'*(k1*R+k2+k3-1))*(g*p')=g*(D*(R*p'))-g*P'*((k1*R+k2+k3-1)*p'):=by
   generalize (k1*R+k2+k3-1)=K
   rw [Int.sub_mul]
   congr 1
   ·simp only [Int.mul_comm,Int.mul_assoc,Int.mul_left_comm]
   ·simp only [Int.mul_comm,Int.mul_assoc,Int.mul_left_comm]
  rw [h7,hm]
  have h8:g*(D*(1+P'*m))=g*D+g*P'*(D*m):=by
   rw [Int.mul_add,Int.mul_one,Int.mul_add]
   congr 1
   simp only [Int.mul_comm,Int.mul_assoc,Int.mul_left_comm]
  rw [h8,<-hD,<-h4]
  generalize (k1*R+k2+k3-1)*(p':Int)=K
  rw [Int.mul_sub,Int.mul_sub]
  omega
 have hp1:(p:Int) ∣ ((t%p+w*p:Nat):Int)-(t:Int):=by
  have h1:(t:Int)=p*(t/p:Nat)+(t%p:Nat):=by exact_mod_cast (Nat.div_add_mod t p).symm
  refine ⟨w-(t/p:Nat),?_⟩
  have h5:((t%p+w*p:Nat):Int)=(t%p:Nat)+w*p:=by push_cast; rfl
  rw [h5,Int.mul_sub,Int.mul_comm (p:Int) w]
  omega
 have hL:(Nat.lcm p P:Int) ∣ ((t%p+w*p:Nat):Int)-(t:Int):=by
  rw [Int.ofNat_dvd_left] at hp1 hP1 ⊢
  exact Nat.lcm_dvd hp1 hP1
 have hlt:t%p+w*p<Nat.lcm p P:=by
  rw [<-hl]
  have h1:=Nat.mod_lt t hp
  have:(w+1)*p<=P'*p:=Nat.mul_le_mul_right _ hj1
  rw [Nat.add_mul,Nat.one_mul] at this
  rw [Nat.mul_comm p P']
  omega
 have h9:((t%p+w*p:Nat):Int)%(Nat.lcm p P:Int)=(t:Int)%(Nat.lcm p P:Int):=Int.emod_eq_emod_iff_emod_sub_eq_zero.2 (Int.emod_eq_zero_of_dvd hL)
 have h10:(t%p+w*p)%Nat.lcm p P=t%Nat.lcm p P:=by exact_mod_cast h9
 rw [Nat.mod_eq_of_lt hlt] at h10
 exact h10
theorem Acq (t:Nat):∀(ps:List Nat) (p:Nat),1<=p->(∀P∈ps,1<=P)->(ps.map fun P=>(P,t%P)).foldl jst (t%p,p)=(t%ps.foldl Nat.lcm p,ps.foldl Nat.lcm p)
 | [],p,_,_=>rfl
 | P::r,p,hp,h=>by
  rw [List.map_cons,List.foldl_cons,List.foldl_cons,Aeq t p P hp (h P (by simp))]
  exact Acq t r _ (Aig hp (h P (by simp))) fun Q hQ=>h Q (by simp [hQ])
theorem Afr (t:Nat) (ps:List Nat) (h:∀P∈ps,1<=P):jnF (ps.map fun P=>(P,t%P))=(t%ps.foldl Nat.lcm 1,ps.foldl Nat.lcm 1):=by
 have:=Acq t ps 1 (Nat.le_refl _) h
 rw [Nat.mod_one] at this
 exact this
theorem Aie (t:Nat) (ps:List Nat) (h:∀P∈ps,1<=P):clE (ps.map fun P=>(P,t%P))=[]:=by
 rw [clE,List.filter_eq_nil_iff]
 intro u hu
 obtain ⟨hv,hm⟩:=A7g _ _ u hu
 obtain ⟨h1,h2⟩:=Vq.1 hm
 rw [List.length_map] at h2
 simp only [Bool.not_eq_true',Bool.not_eq_false]
 have g1:(ps.map fun P=>(P,t%P)).getD u.1.1 (0,0)=(ps[u.1.1]'(by omega),t%ps[u.1.1]'(by omega)):=by
  rw [List.getD_eq_getElem?_getD,List.getElem?_map,List.getElem?_eq_getElem (by omega)]; rfl
 have g2:(ps.map fun P=>(P,t%P)).getD u.1.2 (0,0)=(ps[u.1.2]'(by omega),t%ps[u.1.2]'(by omega)):=by
  rw [List.getD_eq_getElem?_getD,List.getElem?_map,List.getElem?_eq_getElem (by omega)]; rfl
 simp only [calm,decide_eq_true_eq]
 rw [hv]
 simp only [gq,g1,g2]
 generalize ps[u.1.1]'(by omega)=P
 generalize ps[u.1.2]'(by omega)=Q
 apply Int.tmod_eq_zero_of_dvd
 have h1:(t:Int)=P*(t/P:Nat)+(t%P:Nat):=by exact_mod_cast (Nat.div_add_mod t P).symm
 have h2:(t:Int)=Q*(t/Q:Nat)+(t%Q:Nat):=by exact_mod_cast (Nat.div_add_mod t Q).symm
 have h3:(Nat.gcd P Q:Int) ∣ (P:Int):=Int.natCast_dvd_natCast.2 (Nat.gcd_dvd_left P Q)
 have h4:(Nat.gcd P Q:Int) ∣ (Q:Int):=Int.natCast_dvd_natCast.2 (Nat.gcd_dvd_right P Q)
 have h5:((t%P:Nat):Int)-((t%Q:Nat):Int)=Q*(t/Q:Nat)-P*(t/P:Nat):=by omega
 rw [h5]
 exact Int.dvd_sub (Int.dvd_mul_of_dvd_left h4) (Int.dvd_mul_of_dvd_left h3)
end Go.Ev.YtgehhippjhealaaGreatC
set_option linter.unusedSimpArgs false
set_option linter.unusedVariables false
namespace Go.Ev.YtgehhippjhealaaGreatC
open Go
def Fl (L:List Nat) (t:Nat):List (Nat×Nat):=L.map fun n=>(n,t%n)
theorem Aff {p:List Nat} (t:Nat):jnF (Fl (Ex p) t)=(t%agn p,agn p):=Afr t (Ex p) fun _ hn=>Rf hn
theorem Aui {p:List Nat}:0<agn p:=by
 have:∀(L:List Nat) (N:Nat),0<N->(∀n∈L,0<n)->0<L.foldl Nat.lcm N:=by
  intro L
  induction L with
  | nil=>intro N h _; exact h
  | cons n L ih=>intro N hN h; exact ih _ (Nat.lcm_pos hN (h n (by simp))) fun m hm=>h m (by simp [hm])
 exact this _ _ (by omega) fun n hn=>Rf hn
theorem Agc {p:List Nat} (t:Nat):clE (Fl (Ex p) t)=[]:=Aie t (Ex p) fun _ hn=>Rf hn
def Fn (l:List (Nat×Nat)) (t i:Nat):Bool:=decide (((t:Int)-((l.getD i (1,0)).2:Int)).tmod ((l.getD i (1,0)).1:Int)=0)
def A3b (l:List (Nat×Nat)) (t:Nat):List Nat:=(List.range l.length).filter (Fn l t)
theorem Agu {a t n:Nat}:(((a:Int)-(t%n:Nat)).tmod (n:Int)=0)↔t%n=a%n:=by
 rw [<-Int.dvd_iff_tmod_eq_zero]
 have m1:(n:Int) ∣ (t:Int)-(t%n:Nat):=⟨(t/n:Nat),by
  have:=Nat.mod_add_div t n
  have h2:((t%n+n*(t/n):Nat):Int)=(t:Int):=by rw [this]
  rw [Int.natCast_add,Int.natCast_mul] at h2
  omega⟩
 constructor
 ·intro h
  obtain ⟨k,hk⟩:=h
  have h2:(a:Int)%(n:Int)=((t%n:Nat):Int)%(n:Int):=by rw [show (a:Int)=((t%n:Nat):Int)+n*k by omega,Int.add_mul_emod_self_left]
  have h3:((a%n:Nat):Int)=((t%n%n:Nat):Int):=by simpa using h2
  rw [Nat.mod_mod] at h3
  omega
 ·intro h
  rw [h]
  exact ⟨(a/n:Nat),by
   have:=Nat.mod_add_div a n
   have h2:((a%n+n*(a/n):Nat):Int)=(a:Int):=by rw [this]
   rw [Int.natCast_add,Int.natCast_mul] at h2
   omega⟩
theorem Axg {p:List Nat} (hp:PermN p) (t a:Nat):decide (Fz p t=Fz p a)=((A3b (Fl (Ex p) t) a).length==(Ex p).length):=by
 rw [Bool.eq_iff_iff,decide_eq_true_eq,beq_iff_eq,Acp hp]
 have hl:(Fl (Ex p) t).length=(Ex p).length:=by simp [Fl]
 have g:∀i,(h:i<(Ex p).length)->Fn (Fl (Ex p) t) a i=true↔t%(Ex p)[i]=a%(Ex p)[i]:=fun i hi=>by
  have:(Fl (Ex p) t).getD i (1,0)=((Ex p)[i],t%(Ex p)[i]):=by
   rw [Fl,List.getD_eq_getElem?_getD,List.getElem?_map,List.getElem?_eq_getElem hi]; rfl
  rw [Fn,this,decide_eq_true_eq]
  exact Agu
 have hf:(A3b (Fl (Ex p) t) a).length=(Ex p).length↔∀i∈List.range (Ex p).length,Fn (Fl (Ex p) t) a i=true:=by
  rw [A3b,hl,<-List.length_filter_eq_length_iff,List.length_range]
 rw [hf]
 constructor
 ·intro h i hi
  have hi':=List.mem_range.1 hi
  exact (g i hi').2 (h _ (List.getElem_mem hi'))
 ·intro h n hn
  obtain ⟨i,hi,rfl⟩:=List.getElem_of_mem hn
  exact (g i hi).1 (h i (List.mem_range.2 hi))
end Go.Ev.YtgehhippjhealaaGreatC
