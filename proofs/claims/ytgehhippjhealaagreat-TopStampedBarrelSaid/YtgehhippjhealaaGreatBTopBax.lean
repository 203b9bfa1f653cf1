/- Entries of the works' calls that are proved by walks. The first time at which all pins sound, and the common period, as the barrel reckons them. What small functions of the barrel answer: within, CheckPins, open, First. Valid pins: CheckPins, open and First. The drums of the examples of layer 7. No condition but those that stand in each. -/
import Derived.Test.YtgehhippjhealaaGreatBTopW
import Derived.Test.YtgehhippjhealaaGreatBTopBar2
import Derived.Test.YtgehhippjhealaaGreatBEvOpen
set_option linter.unusedSimpArgs false
set_option linter.unusedVariables false
set_option maxRecDepth 100000
namespace Go.Ev.YtgehhippjhealaaGreatC
open Go Go.Proofs
def Ahy:AnsY:=⟨66,[(.slice (some 2) [(.agg [(wN 4),(wN 1)]),(.agg [(wN 6),(wN 3)]),(.agg [(wN 9),(wN 0)])] false),(wI [9] false)],(.tuple [(.ptr [(.slice (some 2) [(.agg [(wN 4),(wN 1)]),(.agg [(wN 6),(wN 3)]),(.agg [(wN 9),(wN 0)])] false),(.fmap [] [])] 0),(wN 0)]),false⟩
def A8f:AnsY:=⟨66,[(.slice (some 2) [(.agg [(wN 4),(wN 1)]),(.agg [(wN 6),(wN 3)]),(.agg [(wN 9),(wN 0)])] false),(wI [] false)],(.tuple [(.ptr [(.slice (some 2) [(.agg [(wN 4),(wN 1)]),(.agg [(wN 6),(wN 3)]),(.agg [(wN 9),(wN 0)])] false),(.fmap [] [])] 0),(wN 0)]),false⟩
def A8v:AnsY:=⟨66,[(.slice (some 2) [(.agg [(wN 4),(wN 1)]),(.agg [(wN 6),(wN 2)])] false),(wI [] false)],(.tuple [(.ptr [(.slice (some 2) [(.agg [(wN 4),(wN 1)]),(.agg [(wN 6),(wN 2)])] false),(.fmap [(.agg [(wN 0),(wN 1)])] [(wN 2)])] 0),(wN 0)]),false⟩
def Abi:AnsY:=⟨66,[(.slice (some 2) [(.agg [(wN 4),(wN 1)]),(.agg [(wN 6),(wN 3)]),(.agg [(wN 9),(wN 0)])] false),(wI [10] false)],(.tuple [(.ptr [(.slice (some 2) [(.agg [(wN 4),(wN 1)]),(.agg [(wN 6),(wN 3)]),(.agg [(wN 9),(wN 0)])] false),(.fmap [] [])] 0),(wN 0)]),false⟩
def A8o:AnsY:=⟨66,[(.slice (some 2) [(.agg [(wN 4),(wN 1)]),(.agg [(wN 6),(wN 3)]),(.agg [(wN 9),(wN 0)])] false),(wI [0,100] false)],(.tuple [(.ptr [(.slice (some 2) [(.agg [(wN 4),(wN 1)]),(.agg [(wN 6),(wN 3)]),(.agg [(wN 9),(wN 0)])] false),(.fmap [] [])] 0),(wN 0)]),false⟩
def A8a:AnsY:=⟨66,[(.slice (some 2) [(.agg [(wN 4),(wN 1)]),(.agg [(wN 6),(wN 3)]),(.agg [(wN 9),(wN 0)])] false),(wI [5,4] false)],(.tuple [(.ptr [(.slice (some 2) [(.agg [(wN 4),(wN 1)]),(.agg [(wN 6),(wN 3)]),(.agg [(wN 9),(wN 0)])] false),(.fmap [] [])] 0),(wN 0)]),false⟩
def A1p:AnsY:=⟨66,[(.slice (some 2) [(.agg [(wN 4),(wN 1)]),(.agg [(wN 6),(wN 2)]),(.agg [(wN 3),(wN 0)]),(.agg [(wN 5),(wN 4)])] false),(wI [] false)],(.tuple [(.ptr [(.slice (some 2) [(.agg [(wN 4),(wN 1)]),(.agg [(wN 6),(wN 2)]),(.agg [(wN 3),(wN 0)]),(.agg [(wN 5),(wN 4)])] false),(.fmap [(.agg [(wN 0),(wN 1)]),(.agg [(wN 1),(wN 2)])] [(wN 2),(wN 3)])] 0),(wN 0)]),false⟩
def Aak:AnsY:=⟨66,[(.slice (some 2) [(.agg [(wN 4),(wN 1)]),(.agg [(wN 6),(wN 3)]),(.agg [(wN 9),(wN 0)])] false),(wI [0] false)],(.tuple [(.ptr [(.slice (some 2) [(.agg [(wN 4),(wN 1)]),(.agg [(wN 6),(wN 3)]),(.agg [(wN 9),(wN 0)])] false),(.fmap [] [])] 0),(wN 0)]),false⟩
def A8m:AnsY:=⟨66,[(.slice (some 2) [(.agg [(wN 2),(wN 0)]),(.agg [(wN 2),(wN 1)])] false),(wI [0] false)],(.tuple [(.ptr [(.slice (some 2) [(.agg [(wN 2),(wN 0)]),(.agg [(wN 2),(wN 1)])] false),(.fmap [(.agg [(wN 0),(wN 1)])] [(wN 2)])] 0),(wN 0)]),false⟩
end Go.Ev.YtgehhippjhealaaGreatC
set_option linter.unusedSimpArgs false
set_option linter.unusedVariables false
namespace Go.Ev.YtgehhippjhealaaGreatC
open Go Go.Proofs
attribute [local irreducible] Res.all evC Df Dh Bq Bh Dn Bf Bj G GO GV GP GC R
set_option maxRecDepth 100000
theorem Ayh {a b:Int} (h1 : -9223372036854775807<=a) (h2:a<=9223372036854775807) (hb:0<b):Ea .quo (.int .i64 a) (.int .i64 b) = .ret (.int .i64 (a.tdiv b)):=by
 simp only [Ea,Id,if_true]
 have h3:(a.tdiv b).natAbs<=a.natAbs:=by rw [Int.natAbs_tdiv]; exact Nat.div_le_self _ _
 rw [if_neg (by omega),wrap64 (by omega) (by omega)]
theorem Auw {n P:Nat} (hP:0<P):Gu n P<P:=by
 unfold Gu
 cases hf:(List.range P).find? fun R=>R*n%P==1%P with
 | none=>exact hP
 | some S=>exact List.mem_range.1 (List.mem_of_find?_eq_some hf)
def jn (f p P o:Nat):Int:=((((o:Int)-f).tdiv (Nat.gcd p P)).tmod ((P/Nat.gcd p P:Nat):Int)*(Gu (p/Nat.gcd p P) (P/Nat.gcd p P):Nat)).tmod ((P/Nat.gcd p P:Nat):Int)
def jw (f p P o:Nat):Nat:=((jn f p P o+(P/Nat.gcd p P:Nat)).tmod ((P/Nat.gcd p P:Nat):Int)).toNat
def jst (s q:Nat×Nat):Nat×Nat:=(s.1+jw s.1 s.2 q.1 q.2*s.2,s.2*(q.1/Nat.gcd s.2 q.1))
def jnF (l:List (Nat×Nat)):Nat×Nat:=l.foldl jst (0,1)
def Ju (l:List (Nat×Nat)):AV:=if clE l=[] then .tuple [.int .i64 (jnF l).1,.int .i64 (jnF l).2,.bool true] else .tuple [.int .i64 0,.int .i64 0,.bool false]
theorem Aoq (f p P o:Nat) (hP:1<=P):0<P/Nat.gcd p P/\-((P/Nat.gcd p P:Nat):Int)<jn f p P o/\jn f p P o<((P/Nat.gcd p P:Nat):Int):=by
 have hg:0<Nat.gcd p P:=Nat.gcd_pos_of_pos_right _ hP
 have hst:0<P/Nat.gcd p P:=Nat.div_pos (Nat.le_of_dvd hP (Nat.gcd_dvd_right _ _)) hg
 refine ⟨hst,?_,Int.tmod_lt_of_pos _ (by omega)⟩
 exact Int.lt_tmod_of_pos _ (by omega)
theorem Aao (f p P o:Nat) (hP:1<=P):jw f p P o<P/Nat.gcd p P/\((jn f p P o+(P/Nat.gcd p P:Nat)).tmod ((P/Nat.gcd p P:Nat):Int))=(jw f p P o:Nat):=by
 obtain ⟨h1,h2,h3⟩:=Aoq f p P o hP
 have h4:((jn f p P o+(P/Nat.gcd p P:Nat)).tmod ((P/Nat.gcd p P:Nat):Int))<((P/Nat.gcd p P:Nat):Int):=Int.tmod_lt_of_pos _ (by omega)
 have h5:0<=((jn f p P o+(P/Nat.gcd p P:Nat)).tmod ((P/Nat.gcd p P:Nat):Int)):=by
  rw [Int.tmod_eq_emod_of_nonneg (by omega)]
  exact Int.emod_nonneg _ (by omega)
 unfold jw
 omega
theorem Azg {s q:Nat×Nat} {N:Nat} (hs:s.1<s.2) (hN:s.2<=N) (hq:1<=q.1/\q.1<=1000):(jst s q).1<(jst s q).2/\(jst s q).2<=N*1000:=by
 obtain ⟨h1,_⟩:=Aao s.1 s.2 q.1 q.2 hq.1
 have h2:q.1/Nat.gcd s.2 q.1<=1000:=Nat.le_trans (Nat.div_le_self _ _) hq.2
 refine ⟨?_,Nat.mul_le_mul hN h2⟩
 have h3:(jw s.1 s.2 q.1 q.2+1)*s.2<=q.1/Nat.gcd s.2 q.1*s.2:=Nat.mul_le_mul_right _ h1
 rw [Nat.add_mul,Nat.one_mul] at h3
 simp only [jst]
 rw [Nat.mul_comm s.2]
 omega
set_option maxHeartbeats 2000000 in
theorem Agl (l:List (Nat×Nat)) (hl:l.length<=5) (hp:∀p∈l,1<=p.1/\p.1<=1000/\p.2<=1000):Con T 1002 67 [Gb l] (Ju l):=by
 refine Bs t67 fun m hm V hV => ?_
 by_cases h0:clE l=[]
 ·have hj:Ju l = .tuple [.int .i64 (jnF l).1,.int .i64 (jnF l).2,.bool true]:=by rw [Ju,if_pos h0]
  rw [hj] at hV
  have e0:decide ((0:Int)>0)=false:=rfl
  simp (disch:=first | assumption | omega) only [c67,go_sem,↓reduceIte,Bu,Gb,Ei,h0,Ft,eK,eV,List.map_nil,List.length_nil,List.length_map,e0,Bool.false_eq_true,Int.natCast_zero]
  refine Bz (fun M st=>∃(k f p:Nat),M=l.length-k/\k<=l.length/\(f,p)=jnF (l.take k)/\f<p/\p<=1000 ^ k/\At st.env [(5,.int .i64 f),(6,.int .i64 p),(22,.slice (some 2) (l.map edA) false),(23,.int .i64 l.length),(24,.int .i64 k)]) l.length (by omega)
   ⟨0,0,1,by omega,by omega,rfl,by omega,by simp,by simp only [go_sem,↓reduceIte]⟩ ?_
  rintro M e h hM ⟨k,f,p,rfl,hk,hfp,hlt,hpk,hE⟩ Q hQ
  simp only [Bp,Bw] at hE
  obtain ⟨f5,f6,f22,f23,f24,-⟩:=hE
  by_cases hkl:k<l.length
  ·have hget:(l.map edA)[k]? = some (edA l[k]):=by rw [List.getElem?_map,List.getElem?_eq_getElem hkl]; rfl
   have hpq:=hp _ (List.getElem_mem hkl)
   have htk:jnF (l.take (k+1))=jst (f,p) l[k]:=by
    rw [jnF,List.take_succ_eq_append_getElem hkl,List.foldl_append,<-jnF,<-hfp]; rfl
   generalize hqd:l[k]=q at *
   obtain ⟨P,o⟩:=q
   simp only at hpq
   simp only [edA] at hget
   have hp12:p<=1000000000000:=by
    have h4:k<=4:=by omega
    exact Nat.le_trans hpk (Nat.le_trans (Nat.pow_le_pow_right (by omega) h4) (by decide))
   obtain ⟨w1,w2⟩:=Aao f p P o hpq.1
   obtain ⟨j1,j2,j3⟩:=Aoq f p P o hpq.1
   have hb:=Azg (s:=(f,p)) (q:=(P,o)) hlt hpk ⟨hpq.1,hpq.2.1⟩
   rw [<-htk] at hb
   have hjst:jst (f,p) (P,o)=(f+jw f p P o*p,p*(P/Nat.gcd p P)):=rfl
   have hjn:jn f p P o=((((o:Int)-f).tdiv (Nat.gcd p P)).tmod ((P/Nat.gcd p P:Nat):Int)*(Gu (p/Nat.gcd p P) (P/Nat.gcd p P):Nat)).tmod ((P/Nat.gcd p P:Nat):Int):=rfl
   have hcop:Nat.gcd (p/Nat.gcd p P) (P/Nat.gcd p P)=1:=Nat.gcd_div_gcd_div_gcd_of_pos_right (by omega)
   have hgp:0<Nat.gcd p P:=Nat.gcd_pos_of_pos_right _ (by omega)
   have hgP:Nat.gcd p P<=P:=Nat.gcd_le_right _ (by omega)
   have hstP:P/Nat.gcd p P<=P:=Nat.div_le_self _ _
   have hpc:p/Nat.gcd p P<=p:=Nat.div_le_self _ _
   have q1:(P:Int)/((Nat.gcd p P:Nat):Int)=((P/Nat.gcd p P:Nat):Int):=rfl
   have q2:(p:Int)/((Nat.gcd p P:Nat):Int)=((p/Nat.gcd p P:Nat):Int):=rfl
   have cs1:∀{base:Nat} {Q:EX×St->Prop} {d:Option Nat} {L:List IOper} {ks:List Kont} {e:Env} {h:Bd},GP (Bf T m) base Q d L ks e (Bf T m false (.fn 130) [.int .i64 (p:Int),.int .i64 (P:Int)] h)=GO (Bf T m) base Q L ks ⟨Bk e d (.int .i64 (Nat.gcd p P:Nat)),h⟩:=
    Es (Rr 1000 p P (by omega) (by omega) (by omega)) (by omega) (by repeat (first | exact By _ | refine Di _ _ _ _ ?_ | refine Fb _ _ _ ?_)) rfl
   have cs2:∀{base:Nat} {Q:EX×St->Prop} {d:Option Nat} {L:List IOper} {ks:List Kont} {e:Env} {h:Bd},GP (Bf T m) base Q d L ks e (Bf T m false (.fn 131) [.int .i64 ((p/Nat.gcd p P:Nat):Int),.int .i64 ((P/Nat.gcd p P:Nat):Int)] h)=GO (Bf T m) base Q L ks ⟨Bk e d (.int .i64 (Gu (p/Nat.gcd p P) (P/Nat.gcd p P):Nat)),h⟩:=
    Es (A6b (p/Nat.gcd p P) (P/Nat.gcd p P) j1 (by omega) (by omega) hcop) (by omega) (by repeat (first | exact By _ | refine Di _ _ _ _ ?_ | refine Fb _ _ _ ?_)) rfl
   have hRlt:Gu (p/Nat.gcd p P) (P/Nat.gcd p P)<P/Nat.gcd p P:=Auw j1
   have hwp:jw f p P o*p<=1000000000000000:=by
    have:jw f p P o*p<=1000*1000000000000:=Nat.mul_le_mul (by omega) hp12
    omega
   have hpS:p*(P/Nat.gcd p P)<=1000000000000000:=by
    have:p*(P/Nat.gcd p P)<=1000000000000*1000:=Nat.mul_le_mul hp12 (by omega)
    omega
   have hm1:∀x:Int,-((P/Nat.gcd p P:Nat):Int)<x->x<((P/Nat.gcd p P:Nat):Int)->-1000000<=x*((Gu (p/Nat.gcd p P) (P/Nat.gcd p P):Nat):Int)/\x*((Gu (p/Nat.gcd p P) (P/Nat.gcd p P):Nat):Int)<=1000000:=fun x hx1 hx2=>by
    have h3:(x*((Gu (p/Nat.gcd p P) (P/Nat.gcd p P):Nat):Int)).natAbs=x.natAbs*Gu (p/Nat.gcd p P) (P/Nat.gcd p P):=by rw [Int.natAbs_mul]; rfl
    have h4:x.natAbs*Gu (p/Nat.gcd p P) (P/Nat.gcd p P)<=1000*1000:=Nat.mul_le_mul (by omega) (by omega)
    omega
   have ht1 : -((P/Nat.gcd p P:Nat):Int)<(((o:Int)-f).tdiv (Nat.gcd p P)).tmod ((P/Nat.gcd p P:Nat):Int):=Int.lt_tmod_of_pos _ (by omega)
   have ht2:(((o:Int)-f).tdiv (Nat.gcd p P)).tmod ((P/Nat.gcd p P:Nat):Int)<((P/Nat.gcd p P:Nat):Int):=Int.tmod_lt_of_pos _ (by omega)
   obtain ⟨hm2,hm3⟩:=hm1 _ ht1 ht2
   have c1:((jw f p P o:Nat):Int)*(p:Int)=((jw f p P o*p:Nat):Int):=by simp
   have c2:(p:Int)*((P/Nat.gcd p P:Nat):Int)=((p*(P/Nat.gcd p P):Nat):Int):=by simp
   have c3:(f:Int)+((jw f p P o*p:Nat):Int)=((f+jw f p P o*p:Nat):Int):=by simp
   simp (disch:=first | assumption | omega) only [go_sem,↓reduceIte,Bu,f5,f6,f22,f23,f24,hkl,hget,cs1,cs2,Aar,q1,q2,Ayh,Ui]
   rw [hjst] at htk
   rw [htk] at hb
   exact hQ (l.length-(k+1)) _ (by omega) ⟨k+1,f+jw f p P o*p,p*(P/Nat.gcd p P),rfl,by omega,htk.symm,hb.1,by rw [Nat.pow_succ]; exact hb.2,by
    simp only [go_sem,↓reduceIte,f22,f23]
    refine ⟨?_,by rw [c2]⟩
    have i1:IntKind.i64.wrap ((jw f p P o*p:Nat):Int)=((jw f p P o*p:Nat):Int):=wrap64 (by omega) (by omega)
    rw [<-hjn,w2,c1,i1,wrap64 (by omega) (by omega)]⟩
  ·obtain rfl:k=l.length:=by omega
   rw [List.take_length] at hfp
   simp (disch:=first | assumption | omega) only [go_sem,↓reduceIte,Bu,f5,f6,f22,f23,f24,hkl]
   rw [<-hfp] at hV
   exact hV _ _ (by repeat (first | exact Dc _ _ | exact Bl _ _ _ _ | exact Do _ _ _ | exact Dm _ _ _ _ _ | exact Dr _ _ _ _ | exact Et _ _ | refine Bv ?_ ?_ | refine En ?_ | refine Eh ?_ ?_ | refine Fc ?_ ?_ ?_))
 ·have hj:Ju l = .tuple [.int .i64 0,.int .i64 0,.bool false]:=by rw [Ju,if_neg h0]
  rw [hj] at hV
  have hlen:(eK (clE l)).length=(clE l).length:=by simp [eK]
  have hpos:0<(clE l).length:=List.length_pos_iff.2 h0
  have e1:decide (((clE l).length:Int)>0)=true:=by simpa using hpos
  simp (disch:=first | assumption | omega) only [c67,go_sem,↓reduceIte,Bu,Gb,Ei,Ft,hlen,e1]
  exact hV _ _ (by repeat (first | exact Dc _ _ | exact Bl _ _ _ _ | exact Do _ _ _ | exact Dm _ _ _ _ _ | exact Dr _ _ _ _ | exact Et _ _ | refine Bv ?_ ?_ | refine En ?_ | refine Eh ?_ ?_ | refine Fc ?_ ?_ ?_))
end Go.Ev.YtgehhippjhealaaGreatC
set_option linter.unusedSimpArgs false
set_option linter.unusedVariables false
namespace Go.Ev.YtgehhippjhealaaGreatC
open Go Go.Proofs
attribute [local irreducible] Res.all evC Df Dh Bq Bh Dn Bf Bj G GO GV GP GC R
set_option maxRecDepth 100000
abbrev Hs (l:List Int):AV:=.slice none (l.map (.int .i64)) false
theorem Acd {k f:Nat} {first cap:List AV} {p:Int->Bool} (xs:List Int) (hl:xs.length<=1000) (hc:∀x∈xs,Con T k f (first++[.int .i64 x]++cap) (.bool (p x))) (hz:∀h x,fz h (first++[.int .i64 x]++cap) = .ret (first++[.int .i64 x]++cap)) :
  Con T (k+1) 220 [Hs xs,.clo f first cap] (.int .i64 (Hh p xs 0)):=by
 refine Bs t220 fun n hn V hV => ?_
 simp (disch:=first | assumption | omega) only [c220,go_sem,↓reduceIte]
 refine Bz (fun M s=>∃k:Nat,M=xs.length-k/\k<=xs.length/\At s.env [(0,Hs xs),(1,.clo f first cap),(7,.int .i64 xs.length),(8,.int .i64 k)]/\Hh p xs 0=Hh p (xs.drop k) k) xs.length (by omega) ⟨0,by simp,by omega,by simp [go_sem,↓reduceIte],rfl⟩ ?_
 rintro M e h hM ⟨k,rfl,hk,hE,hA⟩ P hP
 simp only [Bp,Bw] at hE
 obtain ⟨h0,h1,h7,h8,-⟩:=hE
 by_cases hlt:k<xs.length
 ·obtain ⟨y,hy⟩:=Fq hlt
  rw [Fa hy,Hh] at hA
  simp (disch:=first | assumption | omega) only [go_sem,↓reduceIte,h0,h1,h7,h8,hlt,hy]
  refine Dt (hc y (List.mem_of_getElem? hy)) hn (hz _ _) (Ir _ _) ?_
  by_cases hp:p y=true
  ·simp (disch:=first | assumption | omega) only [go_sem,↓reduceIte,h0,h1,h7,h8,hp]
   exact hV _ _ (by rw [Bl,hA,if_pos hp])
  ·simp (disch:=first | assumption | omega) only [go_sem,↓reduceIte,h0,h1,h7,h8,hp]
   exact hP (xs.length-(k+1)) _ (by omega) ⟨k+1,rfl,by omega,by simp only [go_sem,↓reduceIte,h0,h1,h7],by rw [hA,if_neg hp]; rfl⟩
 ·simp (disch:=first | assumption | omega) only [go_sem,↓reduceIte,h0,h1,h7,h8,hlt]
  exact hV _ _ (by rw [Bl,hA,List.drop_eq_nil_of_le (by omega)]; rfl)
theorem Adw {k f:Nat} {first cap:List AV} {p:Int->Bool} (xs:List Int) (hl:xs.length<=1000) (hc:∀x∈xs,Con T k f (first++[.int .i64 x]++cap) (.bool (p x))) (hz:∀h x,fz h (first++[.int .i64 x]++cap) = .ret (first++[.int .i64 x]++cap))
  (hf:∀h,Bj h 8 (.clo f first cap) = .ret (.clo f first cap)):Con T (k+2) 177 [Hs xs,.clo f first cap] (.bool (xs.any p)):=by
 refine Bs t177 fun n hn V hV => ?_
 simp (disch:=first | assumption | omega) only [c177,go_sem,↓reduceIte]
 refine Dt (Acd xs hl hc hz) hn (Di _ _ _ _ (Da (hf _) (By _))) (Fx _ _ _) ?_
 simp (disch:=first | assumption | omega) only [go_sem,↓reduceIte,Mi]
 exact hV _ _ (Do _ _ _)
theorem A2k (x lo hi:Int):Con T 1 188 ([]++[.int .i64 x]++[.ptr [.int .i64 lo] 0,.ptr [.int .i64 hi] 0]) (.bool (decide (x<lo)||decide (x>hi))):=by
 refine Bs t188 fun n hn V hV => ?_
 by_cases g1:x<lo
 ·simp (disch:=first | assumption | omega) only [c188,go_sem,↓reduceIte,g1,List.cons_append]
  refine hV _ _ ?_
  simp [g1,Do]
 ·simp (disch:=first | assumption | omega) only [c188,go_sem,↓reduceIte,g1,List.cons_append]
  refine hV _ _ ?_
  simp [g1,Do]
def Mb (lo hi:Int) (xs:List Int):Bool:=!xs.any fun x=>decide (x<lo)||decide (x>hi)
theorem A5b (lo hi:Int) (xs:List Int) (hl:xs.length<=1000):Con T 4 128 [.int .i64 lo,.int .i64 hi,Hs xs] (.bool (Mb lo hi xs)):=by
 refine Bs t128 fun n hn V hV => ?_
 simp (disch:=first | assumption | omega) only [c128,go_sem,↓reduceIte]
 refine Dt (Adw (p:=fun x=>decide (x<lo)||decide (x>hi)) xs hl (fun x _=>A2k x lo hi) (fun h x => ?_) (fun h => ?_)) hn (Di _ _ _ _ (Da (Ho (Dc _ _) (Bv (Fh (cs:=[.int .i64 lo]) (by simp [go_sem,↓reduceIte]) (Bv (Bl _ _ _ _) (Dc _ _))) (Bv (Fh (cs:=[.int .i64 hi]) (by simp [go_sem,↓reduceIte]) (Bv (Bl _ _ _ _) (Dc _ _))) (Dc _ _)))) (By _))) (Ir _ _) ?_
 ·exact Fb _ _ _ (Da (Dr _ _ _ _) (Da (Dr _ _ _ _) (By _)))
 ·exact Ho (Dc _ _) (Bv (Dr _ _ _ _) (Bv (Dr _ _ _ _) (Dc _ _)))
 simp (disch:=first | assumption | omega) only [go_sem,↓reduceIte]
 exact hV _ _ (Do _ _ _)
section
variable {n base:Nat} {Q:EX×St->Prop} {d:Option Nat} {L:List IOper} {ks:List Kont} {e:Env} {h:Bd}
theorem Yo {lo hi:Int} {xs:List Int} {x:Bool} (hn:4<=n) (hl:xs.length<=1000) :
  GP (Bf T n) base Q d L ks e (Bf T n false (.fn 128) [.int .i64 lo,.int .i64 hi,.slice none (xs.map (.int .i64)) x] h)=GO (Bf T n) base Q L ks ⟨Bk e d (.bool (Mb lo hi xs)),h⟩:=
 Es (A5b lo hi xs hl) hn (by repeat (first | exact By _ | refine Di _ _ _ _ ?_ | refine Fb _ _ _ ?_)) rfl
theorem Vw {lo hi a:Int} {x:Bool} (hn:4<=n) :
  GP (Bf T n) base Q d L ks e (Bf T n false (.fn 128) [.int .i64 lo,.int .i64 hi,.slice none [.int .i64 a] x] h)=GO (Bf T n) base Q L ks ⟨Bk e d (.bool (!(decide (a<lo)||decide (a>hi)))),h⟩:=by
 have:=Yo (base:=base) (Q:=Q) (d:=d) (L:=L) (ks:=ks) (e:=e) (h:=h) (lo:=lo) (hi:=hi) (xs:=[a]) (x:=x) hn (by simp)
 rw [show Mb lo hi [a]=(!(decide (a<lo)||decide (a>hi))) by simp [Mb]] at this
 exact this
end
theorem Adx {k f:Nat} {first cap:List AV} {p:Nat×Nat->Bool} (xs:List (Nat×Nat)) (hl:xs.length<=1000) (hc:∀x∈xs,Con T k f (first++[edA x]++cap) (.bool (p x))) (hz:∀h x,fz h (first++[edA x]++cap) = .ret (first++[edA x]++cap)) :
  Con T (k+1) 234 [Ei xs,.clo f first cap] (.int .i64 (Hh p xs 0)):=by
 refine Bs t234 fun n hn V hV => ?_
 simp (disch:=first | assumption | omega) only [c234,go_sem,↓reduceIte]
 refine Bz (fun M s=>∃k:Nat,M=xs.length-k/\k<=xs.length/\At s.env [(0,.slice (some 2) (xs.map edA) false),(1,.clo f first cap),(7,.int .i64 xs.length),(8,.int .i64 k)]/\Hh p xs 0=Hh p (xs.drop k) k) xs.length (by omega) ⟨0,by simp,by omega,by simp [go_sem,↓reduceIte,Ei],rfl⟩ ?_
 rintro M e h hM ⟨k,rfl,hk,hE,hA⟩ P hP
 simp only [Bp,Bw] at hE
 obtain ⟨h0,h1,h7,h8,-⟩:=hE
 by_cases hlt:k<xs.length
 ·obtain ⟨⟨ya,yb⟩,hy⟩:=Fq hlt
  have hc':=hc (ya,yb) (List.mem_of_getElem? hy)
  have hz':=fun h=>hz h (ya,yb)
  have hy2:(xs.map edA)[k]? = some (.agg [.int .i64 (ya:Int),.int .i64 (yb:Int)]):=by rw [List.getElem?_map,hy]; rfl
  simp only [edA] at hc' hz'
  rw [Fa hy,Hh] at hA
  simp (disch:=first | assumption | omega) only [go_sem,↓reduceIte,h0,h1,h7,h8,hlt,hy2]
  refine Dt hc' hn (hz' _) (Ir _ _) ?_
  by_cases hp:p (ya,yb)=true
  ·simp (disch:=first | assumption | omega) only [go_sem,↓reduceIte,h0,h1,h7,h8,hp]
   exact hV _ _ (by rw [Bl,hA,if_pos hp])
  ·simp (disch:=first | assumption | omega) only [go_sem,↓reduceIte,h0,h1,h7,h8,hp]
   exact hP (xs.length-(k+1)) _ (by omega) ⟨k+1,rfl,by omega,by simp only [go_sem,↓reduceIte,h0,h1,h7],by rw [hA,if_neg hp]; rfl⟩
 ·simp (disch:=first | assumption | omega) only [go_sem,↓reduceIte,h0,h1,h7,h8,hlt]
  exact hV _ _ (by rw [Bl,hA,List.drop_eq_nil_of_le (by omega)]; rfl)
theorem Abm {k f:Nat} {first cap:List AV} {p:Nat×Nat->Bool} (xs:List (Nat×Nat)) (hl:xs.length<=1000) (hc:∀x∈xs,Con T k f (first++[edA x]++cap) (.bool (p x))) (hz:∀h x,fz h (first++[edA x]++cap) = .ret (first++[edA x]++cap))
  (hf:∀h,Bj h 8 (.clo f first cap) = .ret (.clo f first cap)):Con T (k+2) 187 [Ei xs,.clo f first cap] (.bool (xs.any p)):=by
 refine Bs t187 fun n hn V hV => ?_
 simp (disch:=first | assumption | omega) only [c187,go_sem,↓reduceIte]
 refine Dt (Adx xs hl hc hz) hn (Di _ _ _ _ (Da (hf _) (By _))) (Fx _ _ _) ?_
 simp (disch:=first | assumption | omega) only [go_sem,↓reduceIte,Mi]
 exact hV _ _ (Do _ _ _)
end Go.Ev.YtgehhippjhealaaGreatC
set_option linter.unusedSimpArgs false
set_option linter.unusedVariables false
namespace Go.Ev.YtgehhippjhealaaGreatC
open Go Go.Proofs
attribute [local irreducible] Res.all evC Df Dh Bq Bh Dn Bf Bj G GO GV GP GC R
set_option maxRecDepth 100000
def Jo (q:Nat×Nat):Prop:=1<=q.1/\q.1<=200/\q.2<q.1
structure PinsV (l:List (Nat×Nat)):Prop where
 lo:1<=l.length
 hi:l.length<=5
 ok:∀q∈l,Jo q
theorem Axx (P o:Nat) (hv:Jo (P,o)):Con T 5 186 ([]++[edA (P,o)]++[]) (.bool false):=by
 obtain ⟨h1,h2,h3⟩:=hv
 simp only at h1 h2 h3
 refine Bs t186 fun n hn V hV => ?_
 have d1:decide ((P:Int)<1)=false:=decide_eq_false (by omega)
 have d2:decide ((P:Int)>200)=false:=decide_eq_false (by omega)
 have d3:decide ((o:Int)<0)=false:=decide_eq_false (by omega)
 have d4:decide ((o:Int)>(P:Int)-1)=false:=decide_eq_false (by omega)
 simp (disch:=first | assumption | omega) only [c186,go_sem,↓reduceIte,edA,List.cons_append,List.nil_append,List.append_nil,Vw,d1,d2,d3,d4,Bool.or_self,Bool.not_false,Bool.not_true,Bool.false_eq_true]
 exact hV _ _ (Do _ _ _)
theorem A1i (l:List (Nat×Nat)) (hl:PinsV l):Con T 8 127 [Ei l] (.int .i64 0):=by
 have h1:=hl.lo
 have h2:=hl.hi
 refine Bs t127 fun n hn V hV => ?_
 have d1:decide ((l.length:Int)<1)=false:=decide_eq_false (by omega)
 have d2:decide ((l.length:Int)>5)=false:=decide_eq_false (by omega)
 have cs:∀{base:Nat} {Q:EX×St->Prop} {d:Option Nat} {L:List IOper} {ks:List Kont} {e:Env} {h:Bd},GP (Bf T n) base Q d L ks e (Bf T n false (.fn 187) [.slice (some 2) (l.map edA) false,.clo 186 [] []] h)=GO (Bf T n) base Q L ks ⟨Bk e d (.bool (l.any fun _=>false)),h⟩:=
  Es (Abm (p:=fun _=>false) (k:=5) l (by omega) (fun q hq=>Axx q.1 q.2 (hl.ok q hq)) (fun h q=>Da (by repeat (first | exact Dc _ _ | exact Bl _ _ _ _ | exact Do _ _ _ | exact Dm _ _ _ _ _ | exact Dr _ _ _ _ | exact Et _ _ | refine Bv ?_ ?_ | refine En ?_ | refine Eh ?_ ?_ | refine Fc ?_ ?_ ?_)) (By _)) (fun h=>Ho (Dc _ _) (Dc _ _))) (by omega) (Di _ _ _ _ (Da (Ho (Dc _ _) (Dc _ _)) (By _))) (Ir _ _)
 have hany:(l.any fun _=>false)=false:=by simp
 simp (disch:=first | assumption | omega) only [c127,go_sem,↓reduceIte,Ei,List.length_map,Vw,d1,d2,cs,hany,Bool.or_self,Bool.not_false,Bool.not_true,Bool.false_eq_true]
 exact hV _ _ (Bl _ _ _ _)
theorem Gf (l:List (Nat×Nat)) (hl:PinsV l) (ts:List Int) (ht:∀t∈ts,0<=t/\t<=1000000000000) (hn:ts.length<=1000):Con T 1010 66 [Ei l,Hs ts] (.tuple [Gb l,.int .i64 0]):=by
 refine Bs t66 fun n hn' V hV => ?_
 have hw:Mb 0 1000000000000 ts=true:=by
  simp only [Mb,Bool.not_eq_true',List.any_eq_false,Bool.or_eq_true,decide_eq_true_eq]
  intro t htt
  have:=ht t htt
  omega
 have cs1:∀{base:Nat} {Q:EX×St->Prop} {d:Option Nat} {L:List IOper} {ks:List Kont} {e:Env} {h:Bd},GP (Bf T n) base Q d L ks e (Bf T n false (.fn 127) [Ei l] h)=GO (Bf T n) base Q L ks ⟨Bk e d (.int .i64 0),h⟩:=
  Es (A1i l hl) (by omega) (by repeat (first | exact By _ | refine Di _ _ _ _ ?_ | refine Fb _ _ _ ?_)) rfl
 have e0:((0:Int) != 0)=false:=rfl
 have hp:PinsOk l:=⟨hl.hi,fun q hq=>by have:=hl.ok q hq; unfold Jo at this; omega⟩
 simp (disch:=first | assumption | omega) only [c66,go_sem,↓reduceIte,cs1,Yo,hw,e0,Bool.false_eq_true,Bool.not_true]
 refine Xy (Nb (k:=1001) t129 (Adr l hp)) (by omega) fun v h' hv => ?_
 simp (disch:=first | assumption | omega) only [go_sem,↓reduceIte]
 refine hV _ _ ?_
 have h4:=hv 3
 exact Eh h4 (Bl _ _ _ _)
def Lh (l:List (Nat×Nat)):AV:=if clE l=[] then .tuple [.int .i64 (jnF l).1,.int .i64 (jnF l).2,.int .i64 0] else .tuple [.int .i64 0,.int .i64 0,.int .i64 21]
theorem Ace (l:List (Nat×Nat)) (hl:PinsV l):Con T 1020 25 [Ei l] (Lh l):=by
 refine Bs t25 fun n hn V hV => ?_
 have cs1:∀{base:Nat} {Q:EX×St->Prop} {d:Option Nat} {L:List IOper} {ks:List Kont} {e:Env} {h:Bd},GP (Bf T n) base Q d L ks e (Bf T n false (.fn 66) [Ei l,.slice none [] true] h)=GO (Bf T n) base Q L ks ⟨Bk e d (.tuple [Gb l,.int .i64 0]),h⟩:=
  Es (Gf l hl [] (by simp) (by simp)) (by omega) (by repeat (first | exact By _ | refine Di _ _ _ _ ?_ | refine Fb _ _ _ ?_)) rfl
 have cs2:∀{base:Nat} {Q:EX×St->Prop} {d:Option Nat} {L:List IOper} {ks:List Kont} {e:Env} {h:Bd},GP (Bf T n) base Q d L ks e (Bf T n false (.fn 67) [Gb l] h)=GO (Bf T n) base Q L ks ⟨Bk e d (Ju l),h⟩:=
  Es (Agl l hl.hi fun q hq=>by have:=hl.ok q hq; unfold Jo at this; omega) (by omega) (by unfold Gb; exact Da (Dr _ _ _ _) (By _)) (by unfold Ju; split <;> exact Bool.or_true _)
 have e0:((0:Int) != 0)=false:=rfl
 by_cases h0:clE l=[]
 ·have hj:Ju l = .tuple [.int .i64 (jnF l).1,.int .i64 (jnF l).2,.bool true]:=by rw [Ju,if_pos h0]
  have hf:Lh l = .tuple [.int .i64 (jnF l).1,.int .i64 (jnF l).2,.int .i64 0]:=by rw [Lh,if_pos h0]
  rw [hf] at hV
  rw [hj] at cs2
  simp (disch:=first | assumption | omega) only [c25,go_sem,↓reduceIte,cs1,cs2,e0,Bool.false_eq_true,Bool.not_true]
  exact hV _ _ (by repeat (first | exact Dc _ _ | exact Bl _ _ _ _ | exact Do _ _ _ | exact Dm _ _ _ _ _ | exact Dr _ _ _ _ | exact Et _ _ | refine Bv ?_ ?_ | refine En ?_ | refine Eh ?_ ?_ | refine Fc ?_ ?_ ?_))
 ·have hj:Ju l = .tuple [.int .i64 0,.int .i64 0,.bool false]:=by rw [Ju,if_neg h0]
  have hf:Lh l = .tuple [.int .i64 0,.int .i64 0,.int .i64 21]:=by rw [Lh,if_neg h0]
  rw [hf] at hV
  rw [hj] at cs2
  simp (disch:=first | assumption | omega) only [c25,go_sem,↓reduceIte,cs1,cs2,e0,Bool.false_eq_true,Bool.not_false]
  exact hV _ _ (by repeat (first | exact Dc _ _ | exact Bl _ _ _ _ | exact Do _ _ _ | exact Dm _ _ _ _ _ | exact Dr _ _ _ _ | exact Et _ _ | refine Bv ?_ ?_ | refine En ?_ | refine Eh ?_ ?_ | refine Fc ?_ ?_ ?_))
end Go.Ev.YtgehhippjhealaaGreatC
set_option linter.unusedSimpArgs false
set_option linter.unusedVariables false
set_option maxRecDepth 100000
namespace Go.Ev.YtgehhippjhealaaGreatC
open Go Go.Proofs
theorem wGz4:YOk T 2000 Ahy:=by
 have h:=Ek (Gf [(4,1),(6,3),(9,0)] ⟨by decide,by decide,by unfold Jo; decide⟩ [9] (by decide) (by decide)) (Nat.le_refl _)
 have e:AnsY.mk 66 [Ei [(4,1),(6,3),(9,0)],Hs [9]] (.tuple [Gb [(4,1),(6,3),(9,0)],.int .i64 0]) false=Ahy:=by kernel_rfl
 rw [<-e]
 exact (Fi h).mono (by decide)
theorem wGz6:YOk T 2000 A8f:=by
 have h:=Ek (Gf [(4,1),(6,3),(9,0)] ⟨by decide,by decide,by unfold Jo; decide⟩ [] (by decide) (by decide)) (Nat.le_refl _)
 have e:AnsY.mk 66 [Ei [(4,1),(6,3),(9,0)],Hs []] (.tuple [Gb [(4,1),(6,3),(9,0)],.int .i64 0]) false=A8f:=by kernel_rfl
 rw [<-e]
 exact (Fi h).mono (by decide)
theorem wGz9:YOk T 2000 A8v:=by
 have h:=Ek (Gf [(4,1),(6,2)] ⟨by decide,by decide,by unfold Jo; decide⟩ [] (by decide) (by decide)) (Nat.le_refl _)
 have e:AnsY.mk 66 [Ei [(4,1),(6,2)],Hs []] (.tuple [Gb [(4,1),(6,2)],.int .i64 0]) false=A8v:=by kernel_rfl
 rw [<-e]
 exact (Fi h).mono (by decide)
theorem wGz11:YOk T 2000 Abi:=by
 have h:=Ek (Gf [(4,1),(6,3),(9,0)] ⟨by decide,by decide,by unfold Jo; decide⟩ [10] (by decide) (by decide)) (Nat.le_refl _)
 have e:AnsY.mk 66 [Ei [(4,1),(6,3),(9,0)],Hs [10]] (.tuple [Gb [(4,1),(6,3),(9,0)],.int .i64 0]) false=Abi:=by kernel_rfl
 rw [<-e]
 exact (Fi h).mono (by decide)
theorem wGz13:YOk T 2000 A8o:=by
 have h:=Ek (Gf [(4,1),(6,3),(9,0)] ⟨by decide,by decide,by unfold Jo; decide⟩ [0,100] (by decide) (by decide)) (Nat.le_refl _)
 have e:AnsY.mk 66 [Ei [(4,1),(6,3),(9,0)],Hs [0,100]] (.tuple [Gb [(4,1),(6,3),(9,0)],.int .i64 0]) false=A8o:=by kernel_rfl
 rw [<-e]
 exact (Fi h).mono (by decide)
theorem wGz15:YOk T 2000 A8a:=by
 have h:=Ek (Gf [(4,1),(6,3),(9,0)] ⟨by decide,by decide,by unfold Jo; decide⟩ [5,4] (by decide) (by decide)) (Nat.le_refl _)
 have e:AnsY.mk 66 [Ei [(4,1),(6,3),(9,0)],Hs [5,4]] (.tuple [Gb [(4,1),(6,3),(9,0)],.int .i64 0]) false=A8a:=by kernel_rfl
 rw [<-e]
 exact (Fi h).mono (by decide)
theorem wGz21:YOk T 2000 A1p:=by
 have h:=Ek (Gf [(4,1),(6,2),(3,0),(5,4)] ⟨by decide,by decide,by unfold Jo; decide⟩ [] (by decide) (by decide)) (Nat.le_refl _)
 have e:AnsY.mk 66 [Ei [(4,1),(6,2),(3,0),(5,4)],Hs []] (.tuple [Gb [(4,1),(6,2),(3,0),(5,4)],.int .i64 0]) false=A1p:=by kernel_rfl
 rw [<-e]
 exact (Fi h).mono (by decide)
theorem wGz26:YOk T 2000 Aak:=by
 have h:=Ek (Gf [(4,1),(6,3),(9,0)] ⟨by decide,by decide,by unfold Jo; decide⟩ [0] (by decide) (by decide)) (Nat.le_refl _)
 have e:AnsY.mk 66 [Ei [(4,1),(6,3),(9,0)],Hs [0]] (.tuple [Gb [(4,1),(6,3),(9,0)],.int .i64 0]) false=Aak:=by kernel_rfl
 rw [<-e]
 exact (Fi h).mono (by decide)
theorem wGz28:YOk T 2000 A8m:=by
 have h:=Ek (Gf [(2,0),(2,1)] ⟨by decide,by decide,by unfold Jo; decide⟩ [0] (by decide) (by decide)) (Nat.le_refl _)
 have e:AnsY.mk 66 [Ei [(2,0),(2,1)],Hs [0]] (.tuple [Gb [(2,0),(2,1)],.int .i64 0]) false=A8m:=by kernel_rfl
 rw [<-e]
 exact (Fi h).mono (by decide)
end Go.Ev.YtgehhippjhealaaGreatC
