/- Which pins sound at a time. Again of layer 6: how often until all is as before. Power of layer 6: a habit done several times. Are two lists equal? A contract; its conditions stand in it. FROM STAMPS TO BARRELS: what the law's function answers, the works given. No condition but those that stand in each. -/
import Derived.Test.YtgehhippjhealaaGreatBStCol
import Derived.Test.YtgehhippjhealaaGreatBStBrl
import Derived.Test.YtgehhippjhealaaGreatBStWrong
set_option linter.unusedSimpArgs false
set_option linter.unusedVariables false
namespace Go.Ev.YtgehhippjhealaaGreatC
open Go Go.Proofs
def Ge (l:List (Nat×Nat)) (t:Nat) (i:Nat):List Int:=(List.range 5).map fun j=>if j<i/\Fn l t j=true then 1 else 0
theorem Rc {l:List (Nat×Nat)} {t i j:Nat} (hj:j<5):(Ge l t i)[j]? = some (if j<i/\Fn l t j=true then 1 else 0):=by
 rw [Ge,List.getElem?_map,List.getElem?_range hj]; rfl
theorem Mg (l:List (Nat×Nat)) (t i:Nat):(Ge l t i).length=5:=by simp [Ge]
theorem Afa {l:List (Nat×Nat)} {t i:Nat} (hi:i<5) (h:Fn l t i=true):(Ge l t i).set i 1=Ge l t (i+1):=by
 refine List.ext_getElem? fun j => ?_
 by_cases hj:j<5
 ·rw [List.getElem?_set,Rc hj,Rc hj,Mg]
  by_cases hij:i=j
  ·subst hij
   rw [if_pos rfl,if_pos hi,if_pos ⟨by omega,h⟩]
  ·rw [if_neg hij]
   have:(j<i/\Fn l t j=true)↔(j<i+1/\Fn l t j=true):=⟨fun ⟨a,b⟩=>⟨by omega,b⟩,fun ⟨a,b⟩=>⟨by omega,b⟩⟩
   simp only [this]
 ·rw [List.getElem?_eq_none (by rw [List.length_set,Mg]; omega),List.getElem?_eq_none (by rw [Mg]; omega)]
theorem Adm {l:List (Nat×Nat)} {t i:Nat} (h:Fn l t i=false):Ge l t i=Ge l t (i+1):=by
 refine List.map_congr_left fun j _ => ?_
 have:(j<i/\Fn l t j=true)↔(j<i+1/\Fn l t j=true):=by
  constructor
  ·rintro ⟨a,b⟩
   exact ⟨by omega,b⟩
  ·rintro ⟨a,b⟩
   refine ⟨?_,b⟩
   by_cases hji:j=i
   ·subst hji
    rw [h] at b; cases b
   ·omega
 simp only [this]
theorem A5v:∀(L:List Int),L.length=5->Dp ((List.replicate 5 (0:Int)).map (AV.int .i64)) 0 (L.map (.int .i64))=L.map (.int .i64)
 | [_,_,_,_,_],_=>rfl
theorem A4w:∀(L:List Int),L.length=5->Dp [AV.int .i64 0,.int .i64 0,.int .i64 0,.int .i64 0,.int .i64 0] 0 (L.map (.int .i64))=L.map (.int .i64)
 | [_,_,_,_,_],_=>rfl
attribute [local irreducible] Res.all evC Df Dh Bq Bh Dn Bf Bj G GO GV GP GC R
set_option maxRecDepth 100000
theorem Aam (l:List (Nat×Nat)) (hl:PinsV l) (t:Nat) (ht:t<=1099511627776):Con T 1 72 [.agg [Ei l],.int .i64 (t:Nat)] (.agg ((Ge l t l.length).map (.int .i64))):=by
 refine Bs t72 fun n hn V hV => ?_
 have h5:=hl.hi
 have hz0:(Ge l t 0).map (AV.int .i64)=[.int .i64 0,.int .i64 0,.int .i64 0,.int .i64 0,.int .i64 0]:=by simp [Ge,List.range_succ]
 have hs5:∀i,(Ge l t i).length=5:=fun i=>Mg l t i
 have htk:List.take 5 ((Ge l t l.length).map (AV.int .i64))=(Ge l t l.length).map (.int .i64):=List.take_of_length_le (by rw [List.length_map,hs5]; omega)
 have hob:((Ge l t l.length).map (AV.int .i64)).all oneB=true:=by
  rw [List.all_map]
  exact List.all_eq_true.2 fun _ _=>rfl
 have hsp:=A5v _ (hs5 l.length)
 have h55:(5:Nat)<=5:=Nat.le_refl _
 simp (disch:=first | assumption | omega) only [c72,go_sem,↓reduceIte,Ei,List.length_map]
 refine Bz (fun M st=>∃k:Nat,M=l.length-k/\k<=l.length/\At st.env [(1,.int .i64 (t:Nat)),(4,.optr 4 0 0),(5,.optr 5 0 0),(9,.slice (some 2) (l.map edA) false),(10,.int .i64 l.length),(11,.int .i64 k)]/\Bc st.heap 4 = .cells 0 ((List.replicate 5 (0:Int)).map (.int .i64))/\Bc st.heap 5 = .cells 0 ((Ge l t k).map (.int .i64))/\31<=st.heap.length) l.length (by omega)
  ⟨0,by omega,by omega,by simp only [go_sem,↓reduceIte],by simp only [go_sem,↓reduceIte]; rfl,by simp only [go_sem,↓reduceIte]; rw [hz0],by simp only [Be,List.length_replicate]; omega⟩ ?_
 rintro M e h hM ⟨k,rfl,hk,hE,h4,h5',hL⟩ P hP
 simp only [Bp,Bw] at hE h4 h5' hL
 obtain ⟨f1,f4,f5,f9,f10,f11,-⟩:=hE
 by_cases hlt:k<l.length
 ·have hlt':(k:Int)<(l.length:Int):=by omega
  have hget:(l.map edA)[k]? = some (edA l[k]):=by rw [List.getElem?_map,List.getElem?_eq_getElem hlt]; rfl
  have hpq:=hl.ok _ (List.getElem_mem hlt)
  have hgd:l.getD k (1,0)=l[k]:=by rw [List.getD_eq_getElem?_getD,List.getElem?_eq_getElem hlt]; rfl
  have hsb:Fn l t k=decide (((t:Int)-((l[k]).2:Int)).tmod ((l[k]).1:Int)=0):=by rw [Fn,hgd]
  generalize hqd:l[k]=q at *
  obtain ⟨P0,o⟩:=q
  simp only [Jo] at hpq hsb
  simp only [edA] at hget
  have hk5:k<5:=by omega
  have hr:=Ui (a:=(t:Int)-(o:Int)) (b:=(P0:Int)) (by omega)
  have hw:IntKind.i64.wrap ((t:Int)-(o:Int))=(t:Int)-(o:Int):=wrap64 (by omega) (by omega)
  have hk0:(Ge l t k)[k]? = some 0:=by rw [Rc hk5,if_neg (by omega)]
  have hk51:k+1<=5:=by omega
  by_cases hs:Fn l t k=true
  ·have he:((((t:Int)-(o:Int)).tmod (P0:Int))==0)=true:=by
    rw [hs] at hsb
    exact beq_iff_eq.2 (of_decide_eq_true hsb.symm)
   have hset:=Afa hk5 hs
   have hset':((Ge l t k).map (AV.int .i64)).set k (.int .i64 1)=(Ge l t (k+1)).map (.int .i64):=by rw [<-hset,List.map_set]
   simp (disch:=first | assumption | omega) only [go_sem,↓reduceIte,f1,f4,f5,f9,f10,f11,hlt',hget,hr,hw,he,h4,h5',hk5,hk0,hk51,hs5,hset']
   exact hP (l.length-(k+1)) _ (by omega) ⟨k+1,rfl,by omega,by simp only [go_sem,↓reduceIte,f1,f4,f5,f9,f10],by simp only [go_sem,↓reduceIte]; exact h4,by simp only [go_sem,↓reduceIte],by simp only [Be]; omega⟩
  ·have hs':Fn l t k=false:=by simpa using hs
   have he:((((t:Int)-(o:Int)).tmod (P0:Int))==0)=false:=by
    rw [hs'] at hsb
    exact beq_eq_false_iff_ne.2 (of_decide_eq_false hsb.symm)
   have hset:=Adm hs'
   rw [hset] at h5'
   simp (disch:=first | assumption | omega) only [go_sem,↓reduceIte,f1,f4,f5,f9,f10,f11,hlt',hget,hr,hw,he,h4,h5']
   exact hP (l.length-(k+1)) _ (by omega) ⟨k+1,rfl,by omega,by simp only [go_sem,↓reduceIte,f1,f4,f5,f9,f10],by simp only [go_sem,↓reduceIte]; exact h4,by simp only [go_sem,↓reduceIte]; exact h5',by simp only [Be]; omega⟩
 ·obtain rfl:k=l.length:=by omega
  have hlt':¬(l.length:Int)<(l.length:Int):=by omega
  simp (disch:=first | assumption | omega) only [go_sem,↓reduceIte,f4,f5,f10,f11,hlt',h4,h5',hs5,htk,hob,h55,hsp,List.length_map]
  exact hV _ _ (En (Lk fun c hc=>by
   obtain ⟨v,_,rfl⟩:=List.mem_map.1 hc
   exact Bl _ _ _ _))
theorem Adp {l:List (Nat×Nat)} {t k:Nat}:(List.range (k+1)).filter (Fn l t)=(List.range k).filter (Fn l t)++(if Fn l t k=true then [k] else []):=by
 rw [List.range_succ,List.filter_append,List.filter_cons,List.filter_nil]
theorem A6p (l:List (Nat×Nat)) (hl:PinsV l) (t:Nat) (ht:t<=1000000000000):Agz T 1020 31 [Ei l,.int .i64 (t:Nat)] (.tuple [De (nI6 (A3b l t)),.int .i64 0]):=by
 refine Aaj t31 fun n hn V hV => ?_
 have h5:=hl.hi
 have cs1:∀{base:Nat} {Q:EX×St->Prop} {d:Option Nat} {L:List IOper} {ks:List Kont} {e:Env} {h:Bd} {x:Bool},GP (Bf T n) base Q d L ks e (Bf T n false (.fn 66) [Ei l,.slice none [.int .i64 (t:Nat)] x] h)=GO (Bf T n) base Q L ks ⟨Bk e d (.tuple [Gb l,.int .i64 0]),h⟩:=
  Es (Gf l hl [(t:Int)] (by simp; omega) (by simp)) (by omega) (by repeat (first | exact By _ | refine Di _ _ _ _ ?_ | refine Fb _ _ _ ?_)) rfl
 have cs2:∀{base:Nat} {Q:EX×St->Prop} {d:Option Nat} {L:List IOper} {ks:List Kont} {e:Env} {h:Bd},GP (Bf T n) base Q d L ks e (Bf T n false (.fn 72) [.agg [Ei l],.int .i64 (t:Nat)] h)=GO (Bf T n) base Q L ks ⟨Bk e d (.agg ((Ge l t l.length).map (.int .i64))),h⟩:=
  Es (Aam l hl t (by omega)) (by omega) (Da (En (Bv (Dm _ _ _ _ _) (Dc _ _))) (Fb _ _ _ (By _))) (by exact Bool.true_or _)
 have e0:((0:Int) != 0)=false:=rfl
 have hs5:=Mg l t l.length
 have hob:((Ge l t l.length).map (AV.int .i64)).all oneB=true:=by
  rw [List.all_map]
  exact List.all_eq_true.2 fun _ _=>rfl
 have hsp:=A4w _ hs5
 have h55:(5:Nat)<=5:=Nat.le_refl _
 have hpl:lenA (Ei l)=some l.length:=by rw [Ei,Rb,List.length_map]
 simp (disch:=first | assumption | omega) only [c31,go_sem,↓reduceIte,cs1,e0,Gb,cs2,hs5,hob,hsp,h55,List.length_map,hpl]
 have hin:∀k,k<l.length->(Ge l t l.length)[k]? = some (if Fn l t k=true then 1 else 0):=fun k hk=>by
  rw [Rc (by omega)]
  congr 1
  have:(k<l.length/\Fn l t k=true)↔Fn l t k=true:=⟨fun h=>h.2,fun h=>⟨hk,h⟩⟩
  simp only [this]
 refine Bz (fun M st=>∃(k:Nat) (x:AV),M=l.length-k/\k<=l.length/\At st.env [(8,.optr 8 0 0),(9,x),(28,.int .i64 l.length),(29,.int .i64 k)]/\Bc st.heap 8 = .cells 0 ((Ge l t l.length).map (.int .i64))/\Own 47 st.heap x .i64 (nI6 ((List.range k).filter (Fn l t)))/\47<=st.heap.length) l.length (by omega)
  ⟨0,.slice none [] true,by omega,by omega,by simp only [go_sem,↓reduceIte],by simp only [go_sem,↓reduceIte],Kv ..,by simp only [Be,List.length_replicate]; omega⟩ ?_
 rintro M e h hM ⟨k,x,rfl,hk,hE,h8,hO,hL⟩ P hP
 simp only [Bp,Bw] at hE h8 hO hL
 obtain ⟨f8,f9,f28,f29,-⟩:=hE
 have hst:=Adp (l:=l) (t:=t) (k:=k)
 by_cases hlt:k<l.length
 ·have hlt':(k:Int)<(l.length:Int):=by omega
  have hk5:k<5:=by omega
  have hkg:=hin k hlt
  have hln:(nI6 ((List.range k).filter (Fn l t))).length<=k:=by
   rw [Eq]
   have:=List.length_filter_le (Fn l t) (List.range k)
   rwa [List.length_range] at this
  have hlA:=hO.lenA
  by_cases hs:Fn l t k=true
  ·rw [if_pos hs] at hkg hst
   have d1:decide ((1:Int)>0)=true:=rfl
   simp (disch:=first | assumption | omega) only [go_sem,↓reduceIte,f8,f9,f28,f29,hlt',hk5,h8,hkg,d1,hlA]
   rw [Agr hO (k1:=.i64) (k2:=.i64) (by simp only [go_sem,↓reduceIte]) (by simp only [go_sem,↓reduceIte])]
   simp (disch:=first | assumption | omega) only [go_sem,↓reduceIte]
   refine Wy (l2:=[(k:Int)]) (m:=1) (by first | with_reducible rfl | (simp only [Be,List.length_append,List.length_replicate]; done) | (simp only [Be,List.length_append,List.length_replicate]; omega)) hO hL rfl rfl (by omega) (by omega) fun x' h' hO' hF hL' _ => ?_
   simp (disch:=first | assumption | omega) only [go_sem,↓reduceIte,f29]
   refine hP (l.length-(k+1)) _ (by omega) ⟨k+1,x',rfl,by omega,by simp only [go_sem,↓reduceIte,f8,f28],by rw [<-h8]; exact hF 8 (by omega),?_,(show 47<=h'.length by omega)⟩
   rw [hst]
   have:nI6 ((List.range k).filter (Fn l t)++[k])=nI6 ((List.range k).filter (Fn l t))++[(k:Int)]:=by simp [nI6]
   rw [this]; exact hO'
  ·rw [if_neg hs] at hkg hst
   rw [List.append_nil] at hst
   have d1:decide ((0:Int)>0)=false:=rfl
   simp (disch:=first | assumption | omega) only [go_sem,↓reduceIte,f8,f9,f28,f29,hlt',hk5,h8,hkg,d1]
   exact hP (l.length-(k+1)) _ (by omega) ⟨k+1,x,rfl,by omega,by simp only [go_sem,↓reduceIte,f8,f9,f28],h8,by rw [hst]; exact hO,hL⟩
 ·obtain rfl:k=l.length:=by omega
  have hlt':¬(l.length:Int)<(l.length:Int):=by omega
  simp (disch:=first | assumption | omega) only [go_sem,↓reduceIte,f9,f28,f29,hlt']
  exact hV _ _ (Eh (Yq hO) (Bl _ _ _ _)) (Abq (Abx hO) (Aeo _ _ _ _))
end Go.Ev.YtgehhippjhealaaGreatC
set_option linter.unusedSimpArgs false
set_option linter.unusedVariables false
namespace Go.Ev.YtgehhippjhealaaGreatC
open Go Go.Proofs
theorem A7w {N c:Nat} (hN:1<=N):N/Nat.gcd N c*c=Nat.lcm N c:=by
 have hg:0<Nat.gcd N c:=Nat.gcd_pos_of_pos_left _ (by omega)
 obtain ⟨k,hk⟩:=Nat.gcd_dvd_left N c
 have h1:N/Nat.gcd N c=k:=by
  rw [Nat.div_eq_of_eq_mul_right hg hk]
 rw [h1,Nat.lcm]
 have h2:N*c=Nat.gcd N c*(k*c):=by rw [<-Nat.mul_assoc,<-hk]
 rw [Nat.div_eq_of_eq_mul_right hg h2]
theorem A9m {N c:Nat} (hN:1<=N):Nat.lcm N c<=N*c:=by
 rw [<-A7w hN]
 exact Nat.mul_le_mul_right _ (Nat.div_le_self _ _)
theorem Vg {p:List Nat} (hp:PermN p) {c:List Nat} (hc:c∈Ee p):1<=c.length/\c.length<=p.length:=by
 obtain ⟨i,hi,rfl⟩:=List.mem_map.1 hc
 have h1:=(Gk.1 hi).1
 exact ⟨Yw p i,Ru hp h1⟩
theorem Ahf {p:List Nat}:(Ee p).length<=p.length:=by
 have:(Vd p).length<=(List.range p.length).length:=List.length_filter_le _ _
 rw [List.length_range] at this
 rw [Ee,List.length_map]
 exact this
attribute [local irreducible] Res.all evC Df Dh Bq Bh Dn Bf Bj G GO GV GP GC R
set_option maxRecDepth 100000
set_option maxHeartbeats 1000000 in
theorem Ack (p:List Nat) (hp:PermN p) (h1:1<=p.length) (h10:p.length<=10):Con T 12 71 [.ptr [De (nI6 p)] 0] (.int .i64 (agn p)):=by
 refine Bs t71 fun n hn V hV => ?_
 simp (disch:=first | assumption | omega) only [c71,go_sem,↓reduceIte]
 refine Dt (Nn [De (nI6 p)] fun h=>Bv (Dm _ _ _ _ _) (Dc _ _)) (by omega) (Da (Dr _ _ _ _) (By _)) rfl ?_
 simp (disch:=first | assumption | omega) only [go_sem,↓reduceIte]
 refine A1t (fun st=>At st.env [(3,.optr 3 0 0),(8,.clo 94 [] [.ptr [.ptr [De (nI6 p)] 0] 0])]/\st.heap.length=26/\Bc st.heap 3 = .cells 0 [.int .i64 1])
  ⟨by simp only [go_sem,↓reduceIte],by simp [Be],by simp only [go_sem,↓reduceIte]⟩ ?_
 rintro e h ⟨hE,hlen,g3⟩
 simp only [Bp,Bw] at hE hlen g3
 obtain ⟨f3,f8,-⟩:=hE
 refine Na (g:=94) (first:=[]) (captured:=[.ptr [.ptr [De (nI6 p)] 0] 0]) (by simp only [go_sem,↓reduceIte,f8]) hlen fun lf l1 l2 l3 l4 l5 => ?_
 refine Nt p hp h10 26 0 27 (fun r h'=>Bc h' 26 = .loop 0 .ready none lf/\27<=h'.length/\∃(N:Nat) (D:List (List Nat)),Bc h' 3 = .cells 0 [.int .i64 N]/\D++r=Ee p/\N=(D.map List.length).foldl Nat.lcm 1/\1<=N/\N<=10 ^ D.length)
  (fun r h1 h2 hF hL hJ => ?_) (by omega) (fun c r h' x hb hX hJ => ?_) _ (by rw [Be,hlen]; rfl) ?_ _ (fun v h' hJ => ?_)
 ·obtain ⟨a1,a2,N,D,a3,a4⟩:=hJ
  exact ⟨by rw [hF _ (by omega),a1],by omega,N,D,by rw [hF _ (by omega),a3],a4⟩
 ·obtain ⟨a1,a2,N,D,a3,a4,a5,a6,a7⟩:=hJ
  obtain ⟨q,rfl⟩:∃q,n=q+2:=⟨n-2,by omega⟩
  obtain ⟨hc1,hc2⟩:=Vg hp (c:=c) (by rw [<-a4]; simp)
  have hDl:D.length+1<=10:=by
   have h1:=congrArg List.length a4
   have h2:=Ahf (p:=p)
   simp only [List.length_append,List.length_cons] at h1
   omega
  have hNb:N<=10 ^ 9:=Nat.le_trans a7 (Nat.pow_le_pow_right (by omega) (by omega))
  have hNb2:N<=1000000000:=hNb
  refine Vk a1 (by rw [l3]; rfl) ?_
  rw [l4]
  simp (disch:=first | assumption | omega) only [go_sem,↓reduceIte,l1,l2,l3,Kc]
  refine ⟨none,lf,a1,?_⟩
  rw [l5]
  have hlx:=hX.lenA
  rw [Eq] at hlx
  simp (disch:=first | assumption | omega) only [go_sem,↓reduceIte,f3,a3,hlx]
  refine Bz (fun M st=>∃(x0 y0:Nat),y0=M/\y0<=10/\x0<=1000000000/\1<=Nat.gcd x0 y0/\Nat.gcd x0 y0=Nat.gcd N c.length/\At st.env [(3,.optr 3 0 0),(4,x),(5,.int .i64 x0),(6,.int .i64 y0)]/\st.heap=setH h' 26 (.loop 0 .busy none lf)) c.length (by omega)
   ⟨N,c.length,rfl,by omega,hNb2,Nat.gcd_pos_of_pos_left _ (by omega),rfl,by simp only [go_sem,↓reduceIte,f3],rfl⟩ ?_
  rintro M e1 h1' hM ⟨x0,y0,rfl,b1,b2,b3,b4,hE,hH⟩ P hP
  simp only [Bp,Bw] at hE hH
  obtain ⟨k3,k4,k5,k6,-⟩:=hE
  subst hH
  by_cases hy0:0<y0
  ·have hy0':((y0:Int)>0):=by omega
   have hr:=A1o .i64 x0 y0 hy0
   have hg:Nat.gcd y0 (x0%y0)=Nat.gcd x0 y0:=by rw [Nat.gcd_comm x0 y0,Nat.gcd_rec y0 x0,Nat.gcd_comm]
   have hlt:=Nat.mod_lt x0 hy0
   simp (disch:=first | assumption | omega) only [go_sem,↓reduceIte,k5,k6,hy0',hr]
   exact hP (x0%y0) _ hlt ⟨y0,x0%y0,rfl,by omega,by omega,by rw [hg]; exact b3,by rw [hg]; exact b4,by simp only [go_sem,↓reduceIte,k3,k4],rfl⟩
  ·obtain rfl:y0=0:=by omega
   rw [Nat.gcd_zero_right] at b3 b4
   have hy0':decide ((0:Int)>0)=false:=rfl
   have hy0n:decide ((0:Nat)>0)=false:=rfl
   have hqd:=Aar (a:=(N:Int)) (b:=(x0:Int)) (by omega) (by omega) (by omega)
   have hdv:((N:Int)/(x0:Int))=((N/Nat.gcd N c.length:Nat):Int):=by rw [b4]; simp
   have hml:((N/Nat.gcd N c.length:Nat):Int)*(c.length:Int)=(Nat.lcm N c.length:Nat):=by rw [<-A7w a6]; simp
   have hlb:=A9m (c:=c.length) a6
   have hlb2:Nat.lcm N c.length<=N*10:=Nat.le_trans hlb (Nat.mul_le_mul_left _ (by omega))
   have hwr:IntKind.i64.wrap ((Nat.lcm N c.length:Nat):Int)=(Nat.lcm N c.length:Nat):=wrap64 (by omega) (by omega)
   have n26:¬(26=3):=by decide
   simp (disch:=first | assumption | omega) only [go_sem,↓reduceIte,k3,k4,k5,k6,hy0',hy0n,Bool.false_eq_true,a3,hlx,hqd,hdv,hml,hwr]
   have hpw:Nat.lcm N c.length<=10 ^ (D.length+1):=by
    rw [Nat.pow_succ]
    exact Nat.le_trans hlb2 (Nat.mul_le_mul_right _ a7)
   exact ⟨.busy,none,lf,rfl,⟨rfl,a2,Nat.lcm N c.length,D++[c],rfl,by rw [List.append_assoc]; exact a4,by rw [a5,List.map_append,List.foldl_append]; rfl,Nat.lcm_pos a6 hc1,by rw [List.length_append]; exact hpw⟩,a2⟩
 ·refine ⟨by simp only [go_sem,↓reduceIte],by rw [Be,hlen]; decide,1,[],by rw [Ba _ _ _ _ (by omega),g3]; rfl,rfl,rfl,by omega,by simp⟩
 ·obtain ⟨a1,a2,N,D,a3,a4,a5,a6,a7⟩:=hJ
  rw [List.append_nil] at a4
  refine ⟨.ready,none,lf,a1,by decide,?_⟩
  simp (disch:=first | assumption | omega) only [go_sem,↓reduceIte,f3,a3]
  refine hV _ _ ?_
  rw [Bl,a5,a4]
  rfl
theorem Abf (p:List Nat) (hp:PermN p) (h1:1<=p.length) (h10:p.length<=10):Con T 13 29 [De (nI6 p)] (.tuple [.int .i64 (agn p),.int .i64 0]):=by
 refine Bs t29 fun n hn V hV => ?_
 have e0:((0:Int) != 0)=false:=rfl
 simp (disch:=first | assumption | omega) only [c29,go_sem,↓reduceIte]
 refine Dt (Ub p hp h1 h10) (by omega) (Di _ _ _ _ (By _)) rfl ?_
 simp (disch:=first | assumption | omega) only [go_sem,↓reduceIte,e0]
 refine Dt (Ack p hp h1 h10) (by omega) (Da (Dr _ _ _ _) (By _)) (Fx _ _ _) ?_
 simp (disch:=first | assumption | omega) only [go_sem,↓reduceIte]
 exact hV _ _ (Eh (Bl _ _ _ _) (Bl _ _ _ _))
end Go.Ev.YtgehhippjhealaaGreatC
set_option linter.unusedSimpArgs false
set_option linter.unusedVariables false
namespace Go.Ev.YtgehhippjhealaaGreatC
open Go Go.Proofs
attribute [local irreducible] Res.all evC Df Dh Bq Bh Dn Bf Bj G GO GV GP GC R
set_option maxRecDepth 100000
theorem A9v (now:List Int) (h1:1<=now.length) (h10:now.length<=1000) {n:Nat} {h:Bd} {V:AV×Bd->Prop}
  (hV:∀key ver h',Bc h' key = .cells ver ((nI6 (List.range now.length)).map (.int .i64))->h.length<=key->(∀j,j<h.length->Bc h' j=Bc h j)->h.length<=h'.length->V (.oslice key ver none 0 now.length (some now.length),h')) :
  (Bf T (n+1) true (.fn 56) [.agg [De now]] h).all V:=by
 rw [Eg t56]
 have hfl:(List.replicate now.length [AV.int .i64 0]).flatten=(flT now.length 0).map (.int .i64):=by
  rw [Agq,List.map_replicate]
  simp
 have asn:Dq (.int .i64 (now.length:Int))=some now.length:=Uv _ _
 have hrm:now.length*8<=1099511627776:=by omega
 have hn1:Bc (h++List.replicate 20 .none) (h.length+1) = .none:=Fd _ _ _
 have hn20:Bc (h++List.replicate 20 .none) (h.length+20) = .none:=Fd _ _ _
 simp (disch:=first | assumption | omega) only [c56,go_sem,↓reduceIte,hfl,asn,hrm,hn1,hn20]
 refine Bz (fun M s=>∃k:Nat,M=now.length-k/\k<=now.length/\At s.env [(3,.oslice (h.length+20) 0 none 0 now.length (some now.length)),(10,.int .i64 now.length),(11,.int .i64 k)]/\Bc s.heap (h.length+20) = .cells 0 ((flT now.length k).map (.int .i64))/\(∀j,j<h.length->Bc s.heap j=Bc h j)/\h.length<=s.heap.length) now.length (by omega)
  ⟨0,by omega,by omega,by simp only [go_sem,↓reduceIte],by simp only [go_sem,↓reduceIte],fun j hj=>by rw [Ba _ _ _ _ (by omega),Ba _ _ _ _ (by omega),Bi],by simp only [Be,List.length_append]; omega⟩ ?_
 rintro M e h1' hM ⟨k,rfl,hk,hE,hH,hF,hL⟩ P hP
 simp only [Bp,Bw] at hE hH hF hL
 obtain ⟨f3,f10,f11,-⟩:=hE
 have hl:=Aue hk
 by_cases hlt:k<now.length
 ·have hlt':(k:Int)<(now.length:Int):=by omega
  have hset:=Avp hlt
  have hks:k+1<=(flT now.length k).length:=by omega
  have hmap:((flT now.length k).map (AV.int .i64)).set k (.int .i64 k)=(flT now.length (k+1)).map (.int .i64):=by rw [<-hset,List.map_set]
  simp (disch:=first | assumption | omega) only [go_sem,↓reduceIte,f3,f10,f11,hlt',hlt,hH,hks,hmap]
  exact hP (now.length-(k+1)) _ (by omega) ⟨k+1,rfl,by omega,by simp only [go_sem,↓reduceIte,f3,f10],by simp only [go_sem,↓reduceIte],fun j hj=>by rw [Ba _ _ _ _ (by omega)]; exact hF j hj,by simp only [Be]; omega⟩
 ·obtain rfl:k=now.length:=by omega
  have hlt':¬(now.length:Int)<(now.length:Int):=by omega
  rw [Auc] at hH
  simp (disch:=first | assumption | omega) only [go_sem,↓reduceIte,f3,f10,f11,hlt',Gt,mapR]
  exact hV _ _ _ hH (by omega) hF hL
theorem Aun {p O:List Nat} (hp:PermN p) {t:Nat} (hO:O.length=p.length) (h:∀c∈Ee p,∀x∈c,O[x]? = some (itp p t x)):O=Fz p t:=by
 refine List.ext_getElem? fun x => ?_
 by_cases hx:x<p.length
 ·have hm:x∈(Ee p).flatten:=(A0y hp).mem_iff.2 (by simpa using hx)
  obtain ⟨c,hc,hxc⟩:=List.mem_flatten.1 hm
  rw [h c hc x hxc,Fz,List.getElem?_map,List.getElem?_range hx]
  rfl
 ·rw [List.getElem?_eq_none (by omega),List.getElem?_eq_none (by simp [Fz]; omega)]
theorem Kp {p O:List Nat} {t x y:Nat} (hx:x<O.length) (h:O[y]? = some (itp p t y)\/y=x):(O.set x (itp p t x))[y]? = some (itp p t y):=by
 by_cases hxy:x=y
 ·subst hxy
  rw [List.getElem?_set_self hx]
 ·rw [List.getElem?_set_ne hxy]
  rcases h with h | h
  ·exact h
  ·exact absurd h.symm hxy
theorem B2i {p c:List Nat} (hp:PermN p) (hc:c∈Ee p) {k:Nat} (hk:k<c.length) (t:Nat):∃x,c[k]? = some x/\x<p.length/\c[(k+t)%c.length]? = some (itp p t x):=by
 obtain ⟨i,hi,rfl⟩:=List.mem_map.1 hc
 have hi2:=(Gk.1 hi).1
 refine ⟨itp p k i,A7p hp hi2 hk,Md hp _ _ hi2,?_⟩
 have hm:=Nat.mod_lt (k+t) (Yw p i)
 rw [A7p hp hi2 hm,<-In]
 have:=Lv hp hi2 (k+t)
 exact congrArg some this.symm
set_option maxHeartbeats 1000000 in
theorem Aap (p:List Nat) (hp:PermN p) (h1:1<=p.length) (h10:p.length<=10) (t:Nat) (ht:t<=1099511627776):Con T 13 30 [De (nI6 p),.int .i64 (t:Nat)] (.tuple [De (nI6 (Fz p t)),.int .i64 0]):=by
 refine Bs t30 fun n hn V hV => ?_
 obtain ⟨n,rfl⟩:∃n',n=n'+1:=⟨n-1,by omega⟩
 have e0:((0:Int) != 0)=false:=rfl
 have d1:¬((t:Int)<0):=by omega
 have d2:decide ((t:Int)>1099511627776)=false:=decide_eq_false (by omega)
 have hl:=Eq p
 simp (disch:=first | assumption | omega) only [c30,go_sem,↓reduceIte]
 refine Dt (Ub p hp h1 h10) (by omega) (Di _ _ _ _ (By _)) rfl ?_
 simp (disch:=first | assumption | omega) only [go_sem,↓reduceIte,e0,d1,d2]
 refine Fu (A9v (nI6 p) (by omega) (by omega) fun key ver h' hH hk hF hL => ?_)
 simp only [Be,List.length_replicate] at hk hL hF
 have g3:Bc h' 3 = .cells 0 [.int .i64 (t:Nat)]:=by rw [hF 3 (by omega)]; simp only [go_sem,↓reduceIte]
 have g8:Bc h' 8 = .none:=by rw [hF 8 (by omega)]; simp only [go_sem,↓reduceIte]
 simp (disch:=first | assumption | omega) only [go_sem,↓reduceIte,g8]
 refine Dt (Nn [De (nI6 p)] fun h=>Bv (Dm _ _ _ _ _) (Dc _ _)) (by omega) (Da (Dr _ _ _ _) (By _)) rfl ?_
 simp (disch:=first | assumption | omega) only [go_sem,↓reduceIte]
 rw [hl] at hH
 rw [hl]
 have hkl:=Ef hH (by simp)
 refine A1t (fun st=>At st.env [(3,.optr 3 0 0),(8,.optr 8 0 0),(34,.clo 94 [] [.ptr [.ptr [De (nI6 p)] 0] 0])]/\Bc st.heap 3 = .cells 0 [.int .i64 (t:Nat)]/\Bc st.heap 8 = .cells 0 [.oslice key ver none 0 p.length (some p.length)]/\Bc st.heap key = .cells ver ((nI6 (List.range p.length)).map (.int .i64))/\key<st.heap.length)
  ⟨by simp only [go_sem,↓reduceIte],by simp only [go_sem,↓reduceIte,g3],by simp only [go_sem,↓reduceIte],by rw [Ba _ _ _ _ (by omega),Ba _ _ _ _ (by omega)]; exact hH,by simp only [Be]; omega⟩ ?_
 clear hF hL g3 g8 hH hkl
 rintro e h ⟨hE,g3,g8,gK,hkl⟩
 simp only [Bp,Bw] at hE g3 g8 gK hkl
 obtain ⟨f3,f8,f34,-⟩:=hE
 generalize hlen:h.length=nn at *
 refine Na (g:=94) (first:=[]) (captured:=[.ptr [.ptr [De (nI6 p)] 0] 0]) (by simp only [go_sem,↓reduceIte,f34]) hlen fun lf l1 l2 l3 l4 l5 => ?_
 refine Nt p hp h10 nn 0 (nn+1) (fun r h'=>Bc h' nn = .loop 0 .ready none lf/\nn+1<=h'.length/\Bc h' 3 = .cells 0 [.int .i64 (t:Nat)]/\Bc h' 8 = .cells 0 [.oslice key ver none 0 p.length (some p.length)]/\∃(O:List Nat) (D:List (List Nat)),Bc h' key = .cells ver ((nI6 O).map (.int .i64))/\O.length=p.length/\D++r=Ee p/\∀c∈D,∀x∈c,O[x]? = some (itp p t x))
  (fun r h1 h2 hF hL hJ => ?_) (by omega) (fun c r h' x hb hX hJ => ?_) _ (by rw [Be,hlen]; omega) ?_ _ (fun v h' hJ => ?_)
 ·obtain ⟨a1,a2,a3,a4,O,D,a5,a6⟩:=hJ
  exact ⟨by rw [hF _ (by omega),a1],by omega,by rw [hF _ (by omega),a3],by rw [hF _ (by omega),a4],O,D,by rw [hF _ (by omega),a5],a6⟩
 ·obtain ⟨a1,a2,a3,a4,O,D,a5,a6,a7,a8⟩:=hJ
  obtain ⟨q,rfl⟩:∃q,n=q+1:=⟨n-1,by omega⟩
  have hcm:c∈Ee p:=by rw [<-a7]; simp
  obtain ⟨hc1,hc2⟩:=Vg hp hcm
  refine Vk a1 (by rw [l3]; rfl) ?_
  rw [l4]
  simp (disch:=first | assumption | omega) only [go_sem,↓reduceIte,l1,l2,l3,Kc]
  refine ⟨none,lf,a1,?_⟩
  rw [l5]
  have hlx:=hX.lenA
  rw [Eq] at hlx
  have n3:¬(nn=3):=by omega
  have n8:¬(nn=8):=by omega
  have nK:¬(nn=key):=by omega
  simp (disch:=first | assumption | omega) only [go_sem,↓reduceIte,f3,f8,hlx]
  refine Bz (fun M st=>∃(k:Nat) (O':List Nat),M=c.length-k/\k<=c.length/\At st.env [(3,.optr 3 0 0),(8,.optr 8 0 0),(9,x),(36,x),(37,.int .i64 c.length),(38,.int .i64 k)]/\Bc st.heap nn = .loop 0 .busy none lf/\nn+1<=st.heap.length/\Bc st.heap 3 = .cells 0 [.int .i64 (t:Nat)]/\Bc st.heap 8 = .cells 0 [.oslice key ver none 0 p.length (some p.length)]/\Bc st.heap key = .cells ver ((nI6 O').map (.int .i64))/\O'.length=p.length/\(∀d∈D,∀z∈d,O'[z]? = some (itp p t z))/\(∀j,j<k->∀z,c[j]? = some z->O'[z]? = some (itp p t z))/\ExO (nn+1) st.heap x (nI6 c)) c.length (by omega)
   ⟨0,O,by omega,by omega,by simp only [go_sem,↓reduceIte,f3,f8],by simp only [go_sem,↓reduceIte],by rw [Be]; omega,by rw [Ba _ _ _ _ (by omega),a3],by rw [Ba _ _ _ _ (by omega),a4],by rw [Ba _ _ _ _ (by omega),a5],a6,a8,fun j hj=>absurd hj (by omega),?_⟩ ?_
  ·rcases hX with hX | hX | ⟨key2,ver2,c1,c2,c3⟩
   ·exact .inl hX
   ·exact .inr (.inl hX)
   ·exact .inr (.inr ⟨key2,ver2,c1,c2,by rw [Ba _ _ _ _ (by omega),c3]⟩)
  clear hX hlx
  rintro M e1 h1' hM ⟨k,O',rfl,hk',hE,b1,b2,b3,b4,b5,b6,b7,b8,hX⟩ P hP
  simp only [Bp,Bw] at hE b1 b2 b3 b4 b5 hX
  obtain ⟨k3,k8,k9,k36,k37,k38,-⟩:=hE
  by_cases hlt:k<c.length
  ·have hlt':(k:Int)<(c.length:Int):=by omega
   obtain ⟨y,gy,hyl,gt⟩:=B2i hp hcm hlt t
   have gyI:(nI6 c)[k]? = some (y:Int):=by rw [nI6,List.getElem?_map,gy]; rfl
   obtain ⟨sm,hs⟩:∃sm:Nat,sm=k+t:=⟨_,rfl⟩
   rw [<-hs] at gt
   have e1:(k:Int)+(t:Int)=(sm:Int):=by omega
   have hr:=A1o .i64 sm c.length (by omega)
   have hml:=Nat.mod_lt sm (show 0<c.length by omega)
   have gtI:(nI6 c)[sm%c.length]? = some ((itp p t y:Nat):Int):=by rw [nI6,List.getElem?_map,gt]; rfl
   generalize sm%c.length=md at *
   have hcl0:=Eq c
   have hyO':y<O'.length:=by omega
   have hyO:y+1<=O'.length:=by omega
   have s1:((nI6 O').map (AV.int .i64)).set y (.int .i64 (itp p t y:Nat))=(nI6 (O'.set y (itp p t y))).map (.int .i64):=by simp only [nI6,List.map_set]
   rcases hX with rfl | ⟨hnil,_⟩ | ⟨key2,ver2,c1,rfl,c3⟩
   ·simp (disch:=first | assumption | omega) only [go_sem,↓reduceIte,k3,k8,k9,k36,k37,k38,hlt',gyI,b3,b4,b5,e1,hr,gtI,hml,hyl,hyO,s1,hcl0,List.length_map,Eq]
    refine hP (c.length-(k+1)) _ (by omega) ⟨k+1,O'.set y (itp p t y),rfl,by omega,by simp only [go_sem,↓reduceIte,k3,k8,k9,k36,k37],by rw [Ba _ _ _ _ (by omega),b1],by simp only [Be]; omega,by rw [Ba _ _ _ _ (by omega),b3],by rw [Ba _ _ _ _ (by omega),b4],by simp only [go_sem,↓reduceIte],by rw [List.length_set,b6],fun d hd z hz=>Kp hyO' (.inl (b7 d hd z hz)),?_,.inl rfl⟩
    intro j hj z hz
    by_cases hjk:j=k
    ·subst hjk
     rw [gy] at hz
     obtain rfl:=Option.some.inj hz
     exact Kp hyO' (.inr rfl)
    ·exact Kp hyO' (.inl (b8 j (by omega) z hz))
   ·rw [hnil] at gyI; cases gyI
   ·simp (disch:=first | assumption | omega) only [go_sem,↓reduceIte,k3,k8,k9,k36,k37,k38,hlt',gyI,b3,b4,b5,c3,hlt,e1,hr,gtI,hml,hyl,hyO,s1,hcl0,List.length_map,Eq]
    refine hP (c.length-(k+1)) _ (by omega) ⟨k+1,O'.set y (itp p t y),rfl,by omega,by simp only [go_sem,↓reduceIte,k3,k8,k9,k36,k37],by rw [Ba _ _ _ _ (by omega),b1],by simp only [Be]; omega,by rw [Ba _ _ _ _ (by omega),b3],by rw [Ba _ _ _ _ (by omega),b4],by simp only [go_sem,↓reduceIte],by rw [List.length_set,b6],fun d hd z hz=>Kp hyO' (.inl (b7 d hd z hz)),?_,.inr (.inr ⟨key2,ver2,c1,rfl,by rw [Ba _ _ _ _ (by omega),c3]⟩)⟩
    intro j hj z hz
    by_cases hjk:j=k
    ·subst hjk
     rw [gy] at hz
     obtain rfl:=Option.some.inj hz
     exact Kp hyO' (.inr rfl)
    ·exact Kp hyO' (.inl (b8 j (by omega) z hz))
  ·obtain rfl:k=c.length:=by omega
   have hlt':¬(c.length:Int)<(c.length:Int):=by omega
   simp (disch:=first | assumption | omega) only [go_sem,↓reduceIte,k37,k38,hlt',b1]
   refine ⟨.busy,none,lf,rfl,⟨rfl,b2,by rw [if_neg n3]; exact b3,by rw [if_neg n8,b4],O',D++[c],by rw [if_neg nK,b5],b6,by rw [List.append_assoc]; exact a7,fun d hd z hz => ?_⟩,b2⟩
   rcases List.mem_append.1 hd with hd | hd
   ·exact b7 d hd z hz
   ·obtain rfl:d=c:=by simpa using hd
    obtain ⟨j,hj⟩:=List.mem_iff_getElem?.1 hz
    exact b8 j (List.getElem?_eq_some_iff.1 hj).1 z hj
 ·refine ⟨by simp only [go_sem,↓reduceIte],by rw [Be,hlen]; omega,by rw [Ba _ _ _ _ (by omega),g3],by rw [Ba _ _ _ _ (by omega),g8],List.range p.length,[],by rw [Ba _ _ _ _ (by omega),gK],by simp,rfl,fun c hc=>by cases hc⟩
 ·obtain ⟨a1,a2,a3,a4,O,D,a5,a6,a7,a8⟩:=hJ
  rw [List.append_nil] at a7
  rw [a7] at a8
  have hO:=Aun hp a6 a8
  refine ⟨.ready,none,lf,a1,by decide,?_⟩
  have n8:¬(nn=8):=by omega
  simp (disch:=first | assumption | omega) only [go_sem,↓reduceIte,f8,a4,n8]
  refine hV _ _ (Eh (Vi (l:=nI6 O) (ver:=ver) (k:=.i64) ?_ (by rw [Eq,a6])) (Bl _ _ _ _) |>.trans (by rw [hO]))
  rw [Ba _ _ _ _ (by omega),a5]
end Go.Ev.YtgehhippjhealaaGreatC
set_option linter.unusedSimpArgs false
set_option linter.unusedVariables false
namespace Go.Ev.YtgehhippjhealaaGreatC
open Go Go.Proofs
theorem Abg {a b:List Int} {k:Nat} {y:Int} (ha:a[k]? = some y) (hb:b[k]? = some y):(a.drop k=b.drop k)↔(a.drop (k+1)=b.drop (k+1)):=by
 rw [Fa ha,Fa hb]
 simp
theorem A9x {a b:List Int} {k:Nat} {x y:Int} (ha:a[k]? = some x) (hb:b[k]? = some y) (h:x≠y):¬(a.drop k=b.drop k):=by
 rw [Fa ha,Fa hb]
 intro hc
 exact h (List.cons.inj hc).1
attribute [local irreducible] Res.all evC Df Dh Bq Bh Dn Bf Bj G GO GV GP GC R
set_option maxRecDepth 100000
theorem Aaf (a b:List Int) (h10:a.length<=1000):Con T 1 32 [De a,De b] (.bool (decide (a=b))):=by
 refine Bs t32 fun n hn V hV => ?_
 by_cases hl:a.length=b.length
 ·have e0:((a.length:Int) != b.length)=false:=by rw [hl]; simp
  simp (disch:=first | assumption | omega) only [c32,go_sem,↓reduceIte,e0]
  refine Bz (fun M s=>∃k:Nat,M=a.length-k/\k<=a.length/\At s.env [(0,De a),(1,De b),(5,.int .i64 k)]/\(a=b↔a.drop k=b.drop k)) a.length (by omega) ⟨0,by simp,by omega,by simp only [go_sem,↓reduceIte],Iff.rfl⟩ ?_
  rintro M e h hM ⟨k,rfl,hk,hE,hA⟩ P hP
  simp only [Bp,Bw] at hE
  obtain ⟨f0,f1,f5,-⟩:=hE
  by_cases hlt:k<a.length
  ·obtain ⟨x,hx⟩:=Fq hlt
   obtain ⟨y,hy⟩:=Fq (show k<b.length by omega)
   have hlt':(k:Int)<(a.length:Int):=by omega
   by_cases hxy:x=y
   ·subst hxy
    have ey:(x != x)=false:=by simp
    simp (disch:=first | assumption | omega) only [go_sem,↓reduceIte,f0,f1,f5,hlt',hx,hy,ey]
    exact hP (a.length-(k+1)) _ (by omega) ⟨k+1,rfl,by omega,by simp only [go_sem,↓reduceIte,f0,f1],hA.trans (Abg hx hy)⟩
   ·have ey:(x != y)=true:=by simpa using hxy
    simp (disch:=first | assumption | omega) only [go_sem,↓reduceIte,f0,f1,f5,hlt',hx,hy,ey]
    refine hV _ _ ?_
    rw [Do,decide_eq_false (fun hc=>A9x hx hy hxy (hA.1 hc))]
  ·have hlt':¬(k:Int)<(a.length:Int):=by omega
   have:a=b:=hA.2 (by rw [List.drop_eq_nil_of_le (by omega),List.drop_eq_nil_of_le (by omega)])
   simp (disch:=first | assumption | omega) only [go_sem,↓reduceIte,f0,f1,f5,hlt']
   refine hV _ _ ?_
   rw [Do,decide_eq_true this]
 ·have e0:((a.length:Int) != b.length)=true:=by
   simp only [bne_iff_ne,ne_eq]
   omega
  simp (disch:=first | assumption | omega) only [c32,go_sem,↓reduceIte,e0]
  refine hV _ _ ?_
  rw [Do,decide_eq_false (fun hc=>hl (by rw [hc]))]
end Go.Ev.YtgehhippjhealaaGreatC
set_option linter.unusedSimpArgs false
set_option linter.unusedVariables false
namespace Go.Ev.YtgehhippjhealaaGreatC
open Go Go.Proofs
theorem Axn {a b:List Nat}:nI6 a=nI6 b↔a=b:=by
 constructor
 ·intro h
  have:(nI6 a).map Int.toNat=(nI6 b).map Int.toNat:=by rw [h]
  simpa [nI6,Function.comp_def] using this
 ·rintro rfl; rfl
theorem Adv {α:Type} {l:List α} {k:Nat} (h:k<l.length):l.take (k+1)=l.take k++[l[k]]:=by
 rw [List.take_succ_eq_append_getElem h]
def edC (l:List (Nat×Nat)):List AV:=l.flatMap fun q=>[.int .i64 q.1,.int .i64 q.2]
theorem Ahm (l:List (Nat×Nat)) (a b:Nat):edC (l++[(a,b)])=edC l++[.int .i64 (a:Nat),.int .i64 (b:Nat)]:=by simp [edC]
theorem Auh (l:List (Nat×Nat)):Ed (some 2) l.length (edC l)=l.map edA:=by
 induction l with
 | nil=>rfl
 | cons q l ih =>
  simp only [Ed] at ih
  simp only [Ed,List.length_cons,List.range_succ_eq_map,List.map_cons,List.map_map]
  congr 1
  rw [<-ih]
  apply List.map_congr_left
  intro i _
  simp only [Function.comp,edC,List.flatMap_cons]
  rw [show (i+1)*2=i*2+2 by omega]
  rfl
theorem Agf {lo:Nat} {h:Bd} {x:AV} {l:List (Nat×Nat)} (ho:OwnG lo h x (some 2) l.length (edC l)):Bj h 8 x = .ret (Ei l):=by
 rw [A2b ho (Lk fun c hc => ?_),Auh,Ei]
 obtain ⟨q,_,hq⟩:=List.mem_flatMap.1 hc
 simp only [List.mem_cons,List.not_mem_nil,or_false] at hq
 rcases hq with rfl | rfl <;> exact Bl _ _ _ _
theorem Aej {lo:Nat} {h:Bd} {v:AV} {g:Option Nat} {n:Nat} {cs:List AV} (ho:OwnG lo h v g n cs):Go.Ev.lenA v=some n:=by
 rcases ho with ⟨hn,_,rfl⟩ | ⟨key,ver,_,rfl,_,_⟩
 ·rw [hn]; rfl
 ·rfl
theorem Awe {p:List Nat} (hp:PermN p) (h1:1<=p.length) (h10:p.length<=10) (h5:(Ee p).length<=5) (t:Nat):PinsV (Fl (Ex p) t):=by
 have hl:(Fl (Ex p) t).length=(Ee p).length:=by simp [Fl,Ex]
 refine ⟨?_,by omega,fun q hq => ?_⟩
 ·have:=Afm hp
  cases hc:Ee p with
  | nil=>rw [hc] at this; simp at this; omega
  | cons c r=>rw [hl,hc]; simp
 ·obtain ⟨n,hn,rfl⟩:=List.mem_map.1 hq
  have hn0:=Rf hn
  obtain ⟨c,hc,rfl⟩:=List.mem_map.1 hn
  have:=Vg hp hc
  exact ⟨by simp only; omega,by simp only; omega,Nat.mod_lt _ hn0⟩
attribute [local irreducible] Res.all evC Df Dh Bq Bh Dn Bf Bj G GO GV GP GC R
set_option maxRecDepth 100000
set_option maxHeartbeats 2000000 in
theorem A1k (kw n:Nat) (hw:Con T kw 27 [] (.bool true)) (hn:kw<=n) (hn2:1100<=n) (l:List Int) (a b:Nat) (ha:a<=4294967295) (hb:b<=4294967295) :
  (Dn (Bf T n) c6 [De l,.int .u32 a,.int .u32 b] []).all fun p=>p.1 = .bool true:=by
 obtain ⟨n,rfl⟩:∃n',n=n'+1:=⟨n-1,by omega⟩
 rw [A4c]
 have csW:∀{base:Nat} {Q:EX×St->Prop} {d:Option Nat} {L:List IOper} {ks:List Kont} {e:Env} {h:Bd},GP (Bf T (n+1)) base Q d L ks e (Bf T (n+1) false (.fn 27) [] h)=GO (Bf T (n+1)) base Q L ks ⟨Bk e d (.bool true),h⟩:=
  Es hw hn (By _) rfl
 by_cases h20:20<l.length
 ·have d1:decide ((l.length:Int)>20)=true:=decide_eq_true (by omega)
  simp (disch:=first | assumption | omega) only [c6,go_sem,↓reduceIte,d1,csW]
 have d1:decide ((l.length:Int)>20)=false:=decide_eq_false (by omega)
 have csJ:∀{base:Nat} {Q:EX×St->Prop} {d:Option Nat} {L:List IOper} {ks:List Kont} {e:Env} {h:Bd},GP (Bf T (n+1)) base Q d L ks e (Bf T (n+1) false (.fn 7) [De l] h)=GO (Bf T (n+1)) base Q L ks ⟨Bk e d (.int .i64 (Kr l)),h⟩:=
  Es (A6e l) (by omega) (Di _ _ _ _ (By _)) rfl
 by_cases hc:Kr l≠0
 ·have hc':(Kr l != 0)=true:=by simpa using hc
  simp (disch:=first | assumption | omega) only [c6,go_sem,↓reduceIte,d1,csJ,hc',csW]
 replace hc:Kr l=0:=Decidable.not_not.1 hc
 have hc':((0:Int) != 0)=false:=rfl
 obtain ⟨p,rfl,hp,h1,h10⟩:=Aea hc
 have hl:=Eq p
 have csC:∀{base:Nat} {Q:EX×St->Prop} {d:Option Nat} {L:List IOper} {ks:List Kont} {e:Env} {h:Bd},GP (Bf T (n+1)) base Q d L ks e (Bf T (n+1) false (.fn 28) [De (nI6 p)] h)=GO (Bf T (n+1)) base Q L ks ⟨Bk e d (Rx p),h⟩:=
  Es (Zb p hp h10) (by omega) (Di _ _ _ _ (By _)) rfl
 by_cases h5:5<(Ee p).length
 ·have d2:decide (((Ee p).length:Int)>5)=true:=decide_eq_true (by omega)
  simp (disch:=first | assumption | omega) only [c6,go_sem,↓reduceIte,d1,csJ,hc,hc',csC,Rx,List.length_map,d2,csW]
 have d2:decide (((Ee p).length:Int)>5)=false:=decide_eq_false (by omega)
 have csS:∀{base:Nat} {Q:EX×St->Prop} {d:Option Nat} {L:List IOper} {ks:List Kont} {e:Env} {h:Bd},GP (Bf T (n+1)) base Q d L ks e (Bf T (n+1) false (.fn 9) [De (nI6 p)] h)=GO (Bf T (n+1)) base Q L ks ⟨Bk e d (.tuple [Rx p,.int .i64 0]),h⟩:=
  Es (A4h p hp h1 h10) (by omega) (Di _ _ _ _ (By _)) (by exact Bool.true_or _)
 have enn:(((Ee p).length:Int) != ((Ee p).length:Int))=false:=by simp
 have w1:IntKind.i64.wrap (a:Int)=a:=wrap64 (by omega) (by omega)
 have w2:IntKind.i64.wrap (b:Int)=b:=wrap64 (by omega) (by omega)
 simp (disch:=first | assumption | omega) only [c6,go_sem,↓reduceIte,d1,csJ,hc,hc',csC,Rx,List.length_map,d2,csS,enn,w1,w2]
 have hLl:(Fl (Ex p) a).length=(Ee p).length:=by simp [Fl,Ex]
 refine Bz (fun M st=>∃(k:Nat) (x:AV),M=(Ee p).length-k/\k<=(Ee p).length/\At st.env [(0,De (nI6 p)),(7,.slice none ((Ee p).map fun c=>De (nI6 c)) false),(9,.int .i64 a),(10,.int .i64 b),(11,x),(12,.int .i64 k)]/\OwnG 174 st.heap x (some 2) k (edC ((Fl (Ex p) a).take k))/\174<=st.heap.length) (Ee p).length (by omega)
  ⟨0,.slice (some 2) [] true,by omega,by omega,by simp only [go_sem,↓reduceIte],Qz ..,by simp only [go_sem,↓reduceIte]⟩ ?_
 rintro M e h hM ⟨k,x,rfl,hk,hE,hO,hL⟩ P hP
 simp only [Bp,Bw] at hE hO hL
 obtain ⟨f0,f7,f9,f10,f11,f12,-⟩:=hE
 by_cases hlt:k<(Ee p).length
 ·have hlt':(k:Int)<((Ee p).length:Int):=by omega
  have hget:(Ee p)[k]? = some (Ee p)[k]:=List.getElem?_eq_getElem hlt
  obtain ⟨c1,c2⟩:=Vg hp (List.getElem_mem hlt)
  have hpk:(Fl (Ex p) a)[k]'(by omega)=((Ee p)[k].length,a%(Ee p)[k].length):=by
   simp [Fl,Ex]
  have hts:=Adv (l:=Fl (Ex p) a) (k:=k) (by omega)
  rw [hpk] at hts
  generalize hcd:(Ee p)[k]=c at *
  have hcl:=Eq c
  have g1:¬((c.length:Int)<1):=by omega
  have g2:decide ((c.length:Int)>10)=false:=decide_eq_false (by omega)
  have hr:=A1o .i64 a c.length (by omega)
  simp (disch:=first | assumption | omega) only [go_sem,↓reduceIte,f0,f7,f9,f10,f11,f12,hlt',hget,hcl,g1,g2,hr,List.length_map]
  refine Lu (lo:=174) (g:=some 2) (n:=k) (m:=1) (c2:=[.int .i64 (c.length:Nat),.int .i64 ((a%c.length:Nat):Int)]) (by first | with_reducible rfl | (simp only [Be,List.length_append,List.length_replicate]; done) | (simp only [Be,List.length_append,List.length_replicate]; omega)) hO (by decide) hL rfl rfl (by omega) (by omega) fun x' h' hO' hF hL' _ _ => ?_
  simp (disch:=first | assumption | omega) only [go_sem,↓reduceIte,f12]
  refine hP ((Ee p).length-(k+1)) _ (by omega) ⟨k+1,x',rfl,by omega,by simp only [go_sem,↓reduceIte,f0,f7,f9,f10],?_,(show 174<=h'.length by omega)⟩
  rw [hts,Ahm]
  exact hO'
 obtain rfl:k=(Ee p).length:=by omega
 have hlt':¬((Ee p).length:Int)<((Ee p).length:Int):=by omega
 rw [List.take_of_length_le (by omega),<-hLl] at hO
 have hV5:=Awe hp h1 h10 (by omega) a
 have hfz:=Agf hO
 have hxl:=Aej hO
 have hcl:=Agc (p:=p) a
 have hjn:=Aff (p:=p) a
 have hag:=Aui (p:=p)
 simp (disch:=first | assumption | omega) only [go_sem,↓reduceIte,f0,f7,f9,f10,f11,f12,hlt',List.length_map]
 refine Dt (Ace _ hV5) (by omega) (Da hfz (By _)) (by
  unfold Lh
  split <;> exact Bool.or_true _) ?_
 have hfv:Lh (Fl (Ex p) a) = .tuple [.int .i64 ((a%agn p:Nat):Int),.int .i64 (agn p:Nat),.int .i64 0]:=by
  rw [Lh,if_pos hcl,hjn]
 rw [hfv]
 simp (disch:=first | assumption | omega) only [go_sem,↓reduceIte,f0]
 refine Dt (Abf p hp h1 h10) (by omega) (Di _ _ _ _ (By _)) (A4e rfl) ?_
 have d3:¬((agn p:Int)<1):=by omega
 have d4:((agn p:Int) != (agn p:Int))=false:=by simp
 have hr:=A1o .i64 a (agn p) hag
 have d5:(((a%agn p:Nat):Int) != ((a%agn p:Nat):Int))=false:=by simp
 have hml:a%agn p<=a:=Nat.mod_le _ _
 have hpw:=Awu hp a
 obtain ⟨F,hFd⟩:∃F,F=a%agn p:=⟨_,rfl⟩
 rw [<-hFd] at hr d5 hml hpw ⊢
 simp (disch:=first | assumption | omega) only [go_sem,↓reduceIte,f9,hc',d3,d4,hr,d5,f0]
 have csP:∀{base:Nat} {Q:EX×St->Prop} {d:Option Nat} {L:List IOper} {ks:List Kont} {e:Env} {h:Bd} {t:Nat},t<=4294967295->GP (Bf T (n+1)) base Q d L ks e (Bf T (n+1) false (.fn 30) [De (nI6 p),.int .i64 (t:Nat)] h)=GO (Bf T (n+1)) base Q L ks ⟨Bk e d (.tuple [De (nI6 (Fz p t)),.int .i64 0]),h⟩:=fun ht =>
  Es (Aap p hp h1 h10 _ (by omega)) (by omega) (Di _ _ _ _ (Fb _ _ _ (By _))) (by exact Bool.true_or _)
 have hF4:F<=4294967295:=by omega
 refine (csP ha).symm ▸ ?_
 simp (disch:=first | assumption | omega) only [go_sem,↓reduceIte,f0]
 refine (csP hF4).symm ▸ ?_
 simp (disch:=first | assumption | omega) only [go_sem,↓reduceIte,f0,f10]
 refine (csP hb).symm ▸ ?_
 simp (disch:=first | assumption | omega) only [go_sem,↓reduceIte,f10,f11]
 refine Awn (A6p _ hV5 b (by omega)) (by omega) (Da hfz (Fb _ _ _ (By _))) ?_
 have e00:((0:Int)==0)=true:=rfl
 simp (disch:=first | assumption | omega) only [go_sem,↓reduceIte,e00]
 have csM:∀{base:Nat} {Q:EX×St->Prop} {d:Option Nat} {L:List IOper} {ks:List Kont} {e:Env} {h:Bd} (x y:List Nat),x.length<=1000->GP (Bf T (n+1)) base Q d L ks e (Bf T (n+1) false (.fn 32) [De (nI6 x),De (nI6 y)] h)=GO (Bf T (n+1)) base Q L ks ⟨Bk e d (.bool (decide (x=y))),h⟩:=fun {base Q d L ks e h} x y hx=>by
  have:=Es (base:=base) (Q:=Q) (d:=d) (l:=L) (ks:=ks) (e:=e) (h:=h) (n:=n+1) (as0:=[De (nI6 x),De (nI6 y)]) (Aaf (nI6 x) (nI6 y) (by rw [Eq]; exact hx)) (by omega) (Di _ _ _ _ (Di _ _ _ _ (By _))) rfl
  rw [this]
  simp only [Axn]
 have hs1:decide (Fz p a=Fz p F)=true:=decide_eq_true hpw
 have c1:=fun {base:Nat} {Q:EX×St->Prop} {d:Option Nat} {L:List IOper} {ks:List Kont} {e:Env} {h:Bd}=>csM (base:=base) (Q:=Q) (d:=d) (L:=L) (ks:=ks) (e:=e) (h:=h) (Fz p a) (Fz p F) (by simp [Fz]; omega)
 have c2:=fun {base:Nat} {Q:EX×St->Prop} {d:Option Nat} {L:List IOper} {ks:List Kont} {e:Env} {h:Bd}=>csM (base:=base) (Q:=Q) (d:=d) (L:=L) (ks:=ks) (e:=e) (h:=h) (Fz p a) (Fz p b) (by simp [Fz]; omega)
 have hb2:(((nI6 (A3b (Fl (Ex p) a) b)).length:Int)==((Fl (Ex p) a).length:Int))=decide (Fz p a=Fz p b):=by
  rw [Axg hp,Eq,Bool.eq_iff_iff,beq_iff_eq,beq_iff_eq]
  have:(Fl (Ex p) a).length=(Ex p).length:=by simp [Fl]
  omega
 have hbt:((true:Bool) != false)=true:=rfl
 simp (disch:=first | assumption | omega) only [go_sem,↓reduceIte,c1,c2,hs1,f11,hxl,hb2,beq_self_eq_true,hbt,csW,List.length_map]
end Go.Ev.YtgehhippjhealaaGreatC
