/- Are two lists equal? A contract; its conditions stand in it. Again of layer 6: how often until all is as before. Power of layer 6: a habit done several times. No condition but those that stand in each. -/
import Derived.Test.YtofpilpmiddpgaaGreatIStCol
set_option linter.unusedSimpArgs false
set_option linter.unusedVariables false
set_option maxRecDepth 100000
namespace Go.Ev.YtofpilpmiddpgaaGreatC
open Go Go.Proofs
theorem Aar {a b:List Int} {k:Nat} {y:Int} (ha:a[k]? = some y) (hb:b[k]? = some y):(a.drop k=b.drop k)↔(a.drop (k+1)=b.drop (k+1)):=by
 rw [Fa ha,Fa hb]
 simp
theorem Aas {a b:List Int} {k:Nat} {x y:Int} (ha:a[k]? = some x) (hb:b[k]? = some y) (h:x≠y):¬(a.drop k=b.drop k):=by
 rw [Fa ha,Fa hb]
 intro hc
 exact h (List.cons.inj hc).1
attribute [local irreducible] Res.all evC Dg Dj Bo Bg Dm Bf Bi G GO GV GP GC R
theorem A1e {f:Nat} (hf:T.fns f=some c12) (a b:List Int) (h10:a.length<=1000):Con T 1 f [Bx a,Bx b] (.bool (decide (a=b))):=by
 refine Br hf fun n hn V hV => ?_
 by_cases hl:a.length=b.length
 ·have e0:((a.length:Int) != b.length)=false:=by rw [hl]; simp
  simp (disch:=first | assumption | omega) only [c12,go_sem,↓reduceIte,e0]
  refine Db (fun M s=>∃k:Nat,M=a.length-k/\k<=a.length/\At s.env [(0,Bx a),(1,Bx b),(5,.int .i64 k)]/\(a=b↔a.drop k=b.drop k)) a.length (by omega) ⟨0,by simp,by omega,by simp only [go_sem,↓reduceIte],Iff.rfl⟩ ?_
  rintro M e h hM ⟨k,rfl,hk,hE,hA⟩ P hP
  simp only [Bq,Bw] at hE
  obtain ⟨f0,f1,f5,-⟩:=hE
  by_cases hlt:k<a.length
  ·obtain ⟨x,hx⟩:=Fo hlt
   obtain ⟨y,hy⟩:=Fo (show k<b.length by omega)
   have hlt':(k:Int)<(a.length:Int):=by omega
   by_cases hxy:x=y
   ·subst hxy
    have ey:(x != x)=false:=by simp
    simp (disch:=first | assumption | omega) only [go_sem,↓reduceIte,f0,f1,f5,hlt',hx,hy,ey]
    exact hP (a.length-(k+1)) _ (by omega) ⟨k+1,rfl,by omega,by simp only [go_sem,↓reduceIte,f0,f1],hA.trans (Aar hx hy)⟩
   ·have ey:(x != y)=true:=by simpa using hxy
    simp (disch:=first | assumption | omega) only [go_sem,↓reduceIte,f0,f1,f5,hlt',hx,hy,ey]
    refine hV _ _ ?_
    rw [Dl,decide_eq_false (fun hc=>Aas hx hy hxy (hA.1 hc))]
  ·have hlt':¬(k:Int)<(a.length:Int):=by omega
   have:a=b:=hA.2 (by rw [List.drop_eq_nil_of_le (by omega),List.drop_eq_nil_of_le (by omega)])
   simp (disch:=first | assumption | omega) only [go_sem,↓reduceIte,f0,f1,f5,hlt']
   refine hV _ _ ?_
   rw [Dl,decide_eq_true this]
 ·have e0:((a.length:Int) != b.length)=true:=by
   simp only [bne_iff_ne,ne_eq]
   omega
  simp (disch:=first | assumption | omega) only [c12,go_sem,↓reduceIte,e0]
  refine hV _ _ ?_
  rw [Dl,decide_eq_false (fun hc=>hl (by rw [hc]))]
theorem Aak (a b:List Int) (h10:a.length<=1000):Con T 1 12 [Bx a,Bx b] (.bool (decide (a=b))):=A1e t12 a b h10
end Go.Ev.YtofpilpmiddpgaaGreatC
namespace Go.Ev.YtofpilpmiddpgaaGreatC
open Go Go.Proofs
theorem A8v {N c:Nat} (hN:1<=N):N/Nat.gcd N c*c=Nat.lcm N c:=by
 have hg:0<Nat.gcd N c:=Nat.gcd_pos_of_pos_left _ (by omega)
 obtain ⟨k,hk⟩:=Nat.gcd_dvd_left N c
 have h1:N/Nat.gcd N c=k:=by
  rw [Nat.div_eq_of_eq_mul_right hg hk]
 rw [h1,Nat.lcm]
 have h2:N*c=Nat.gcd N c*(k*c):=by rw [<-Nat.mul_assoc,<-hk]
 rw [Nat.div_eq_of_eq_mul_right hg h2]
theorem Abj {N c:Nat} (hN:1<=N):Nat.lcm N c<=N*c:=by
 rw [<-A8v hN]
 exact Nat.mul_le_mul_right _ (Nat.div_le_self _ _)
theorem A8e {p:List Nat} (hp:PermN p) {c:List Nat} (hc:c∈Js p):1<=c.length/\c.length<=p.length:=by
 obtain ⟨i,hi,rfl⟩:=List.mem_map.1 hc
 have h1:=(Gv.1 hi).1
 exact ⟨Zz p i,Yl hp h1⟩
theorem Agh {p:List Nat}:(Js p).length<=p.length:=by
 have:(Ze p).length<=(List.range p.length).length:=List.length_filter_le _ _
 rw [List.length_range] at this
 rw [Js,List.length_map]
 exact this
attribute [local irreducible] Res.all evC Dg Dj Bo Bg Dm Bf Bi G GO GV GP GC R
set_option maxHeartbeats 1000000 in
theorem Adm (p:List Nat) (hp:PermN p) (h1:1<=p.length) (h10:p.length<=10):Con T 12 23 [.ptr [Bx (nI6 p)] 0] (.int .i64 (agn p)):=by
 refine Br t23 fun n hn V hV => ?_
 simp (disch:=first | assumption | omega) only [c23,go_sem,↓reduceIte]
 refine Dn (Wi [Bx (nI6 p)] fun h=>Bu (Ec _ _ _ _ _) (De _ _)) (by omega) (Dc (Ds _ _ _ _) (By _)) rfl ?_
 simp (disch:=first | assumption | omega) only [go_sem,↓reduceIte]
 refine Abc (fun st=>At st.env [(3,.optr 3 0 0),(8,.clo 57 [] [.ptr [.ptr [Bx (nI6 p)] 0] 0])]/\st.heap.length=26/\Bb st.heap 3 = .cells 0 [.int .i64 1])
  ⟨by simp only [go_sem,↓reduceIte],by simp [Bd],by simp only [go_sem,↓reduceIte]⟩ ?_
 rintro e h ⟨hE,hlen,g3⟩
 simp only [Bq,Bw] at hE hlen g3
 obtain ⟨f3,f8,-⟩:=hE
 refine Um (g:=57) (first:=[]) (captured:=[.ptr [.ptr [Bx (nI6 p)] 0] 0]) (by simp only [go_sem,↓reduceIte,f8]) hlen fun lf l1 l2 l3 l4 l5 => ?_
 refine Wr p hp h10 26 0 27 (fun r h'=>Bb h' 26 = .loop 0 .ready none lf/\27<=h'.length/\∃(N:Nat) (D:List (List Nat)),Bb h' 3 = .cells 0 [.int .i64 N]/\D++r=Js p/\N=(D.map List.length).foldl Nat.lcm 1/\1<=N/\N<=10 ^ D.length)
  (fun r h1 h2 hF hL hJ => ?_) (by omega) (fun c r h' x hb hX hJ => ?_) _ (by rw [Bd,hlen]; rfl) ?_ _ (fun v h' hJ => ?_)
 ·obtain ⟨a1,a2,N,D,a3,a4⟩:=hJ
  exact ⟨by rw [hF _ (by omega),a1],by omega,N,D,by rw [hF _ (by omega),a3],a4⟩
 ·obtain ⟨a1,a2,N,D,a3,a4,a5,a6,a7⟩:=hJ
  obtain ⟨q,rfl⟩:∃q,n=q+2:=⟨n-2,by omega⟩
  obtain ⟨hc1,hc2⟩:=A8e hp (c:=c) (by rw [<-a4]; simp)
  have hDl:D.length+1<=10:=by
   have h1:=congrArg List.length a4
   have h2:=Agh (p:=p)
   simp only [List.length_append,List.length_cons] at h1
   omega
  have hNb:N<=10 ^ 9:=Nat.le_trans a7 (Nat.pow_le_pow_right (by omega) (by omega))
  have hNb2:N<=1000000000:=hNb
  refine A0h a1 (by rw [l3]; rfl) ?_
  rw [l4]
  simp (disch:=first | assumption | omega) only [go_sem,↓reduceIte,l1,l2,l3,Ln]
  refine ⟨none,lf,a1,?_⟩
  rw [l5]
  have hlx:=hX.lenA
  rw [Dw] at hlx
  simp (disch:=first | assumption | omega) only [go_sem,↓reduceIte,f3,a3,hlx]
  refine Db (fun M st=>∃(x0 y0:Nat),y0=M/\y0<=10/\x0<=1000000000/\1<=Nat.gcd x0 y0/\Nat.gcd x0 y0=Nat.gcd N c.length/\At st.env [(3,.optr 3 0 0),(4,x),(5,.int .i64 x0),(6,.int .i64 y0)]/\st.heap=setH h' 26 (.loop 0 .busy none lf)) c.length (by omega)
   ⟨N,c.length,rfl,by omega,hNb2,Nat.gcd_pos_of_pos_left _ (by omega),rfl,by simp only [go_sem,↓reduceIte,f3],rfl⟩ ?_
  rintro M e1 h1' hM ⟨x0,y0,rfl,b1,b2,b3,b4,hE,hH⟩ P hP
  simp only [Bq,Bw] at hE hH
  obtain ⟨k3,k4,k5,k6,-⟩:=hE
  subst hH
  by_cases hy0:0<y0
  ·have hy0':((y0:Int)>0):=by omega
   have hr:=Aju .i64 x0 y0 hy0
   have hg:Nat.gcd y0 (x0%y0)=Nat.gcd x0 y0:=by rw [Nat.gcd_comm x0 y0,Nat.gcd_rec y0 x0,Nat.gcd_comm]
   have hlt:=Nat.mod_lt x0 hy0
   simp (disch:=first | assumption | omega) only [go_sem,↓reduceIte,k5,k6,hy0',hr]
   exact hP (x0%y0) _ hlt ⟨y0,x0%y0,rfl,by omega,by omega,by rw [hg]; exact b3,by rw [hg]; exact b4,by simp only [go_sem,↓reduceIte,k3,k4],rfl⟩
  ·obtain rfl:y0=0:=by omega
   rw [Nat.gcd_zero_right] at b3 b4
   have hy0':decide ((0:Int)>0)=false:=rfl
   have hy0n:decide ((0:Nat)>0)=false:=rfl
   have hqd:=Auf (a:=(N:Int)) (b:=(x0:Int)) (by omega) (by omega) (by omega)
   have hdv:((N:Int)/(x0:Int))=((N/Nat.gcd N c.length:Nat):Int):=by rw [b4]; simp
   have hml:((N/Nat.gcd N c.length:Nat):Int)*(c.length:Int)=(Nat.lcm N c.length:Nat):=by rw [<-A8v a6]; simp
   have hlb:=Abj (c:=c.length) a6
   have hlb2:Nat.lcm N c.length<=N*10:=Nat.le_trans hlb (Nat.mul_le_mul_left _ (by omega))
   have hwr:IntKind.i64.wrap ((Nat.lcm N c.length:Nat):Int)=(Nat.lcm N c.length:Nat):=wrap64 (by omega) (by omega)
   have n26:¬(26=3):=by decide
   simp (disch:=first | assumption | omega) only [go_sem,↓reduceIte,k3,k4,k5,k6,hy0',hy0n,Bool.false_eq_true,a3,hlx,hqd,hdv,hml,hwr]
   have hpw:Nat.lcm N c.length<=10 ^ (D.length+1):=by
    rw [Nat.pow_succ]
    exact Nat.le_trans hlb2 (Nat.mul_le_mul_right _ a7)
   exact ⟨.busy,none,lf,rfl,⟨rfl,a2,Nat.lcm N c.length,D++[c],rfl,by rw [List.append_assoc]; exact a4,by rw [a5,List.map_append,List.foldl_append]; rfl,Nat.lcm_pos a6 hc1,by rw [List.length_append]; exact hpw⟩,a2⟩
 ·refine ⟨by simp only [go_sem,↓reduceIte],by rw [Bd,hlen]; decide,1,[],by rw [Ba _ _ _ _ (by omega),g3]; rfl,rfl,rfl,by omega,by simp⟩
 ·obtain ⟨a1,a2,N,D,a3,a4,a5,a6,a7⟩:=hJ
  rw [List.append_nil] at a4
  refine ⟨.ready,none,lf,a1,by decide,?_⟩
  simp (disch:=first | assumption | omega) only [go_sem,↓reduceIte,f3,a3]
  refine hV _ _ ?_
  rw [Bm,a5,a4]
  rfl
theorem Aal (p:List Nat) (hp:PermN p) (h1:1<=p.length) (h10:p.length<=10):Con T 13 7 [Bx (nI6 p)] (.tuple [.int .i64 (agn p),.int .i64 0]):=by
 refine Br t7 fun n hn V hV => ?_
 have e0:((0:Int) != 0)=false:=rfl
 simp (disch:=first | assumption | omega) only [c7,go_sem,↓reduceIte]
 refine Dn (Nk p hp h1 h10) (by omega) (Bz _ _ _ _ (By _)) rfl ?_
 simp (disch:=first | assumption | omega) only [go_sem,↓reduceIte,e0]
 refine Dn (Adm p hp h1 h10) (by omega) (Dc (Ds _ _ _ _) (By _)) (Ge _ _ _) ?_
 simp (disch:=first | assumption | omega) only [go_sem,↓reduceIte]
 exact hV _ _ (Fc (Bm _ _ _ _) (Bm _ _ _ _))
theorem Aca (now:List Int) (h1:1<=now.length) (h10:now.length<=1000) {n:Nat} {h:Bc} {V:AV×Bc->Prop}
  (hV:∀key ver h',Bb h' key = .cells ver ((nI6 (List.range now.length)).map (.int .i64))->h.length<=key->(∀j,j<h.length->Bb h' j=Bb h j)->h.length<=h'.length->V (.oslice key ver none 0 now.length (some now.length),h')) :
  (Bf T (n+1) true (.fn 24) [.agg [Bx now]] h).all V:=by
 rw [Eg t24]
 have hfl:(List.replicate now.length [AV.int .i64 0]).flatten=(flT now.length 0).map (.int .i64):=by
  rw [Agy,List.map_replicate]
  simp
 have asn:Do (.int .i64 (now.length:Int))=some now.length:=Sn _ _
 have hrm:now.length*8<=1099511627776:=by omega
 have hn1:Bb (h++List.replicate 20 .none) (h.length+1) = .none:=Eq _ _ _
 have hn20:Bb (h++List.replicate 20 .none) (h.length+20) = .none:=Eq _ _ _
 simp (disch:=first | assumption | omega) only [c24,go_sem,↓reduceIte,hfl,asn,hrm,hn1,hn20]
 refine Db (fun M s=>∃k:Nat,M=now.length-k/\k<=now.length/\At s.env [(3,.oslice (h.length+20) 0 none 0 now.length (some now.length)),(10,.int .i64 now.length),(11,.int .i64 k)]/\Bb s.heap (h.length+20) = .cells 0 ((flT now.length k).map (.int .i64))/\(∀j,j<h.length->Bb s.heap j=Bb h j)/\h.length<=s.heap.length) now.length (by omega)
  ⟨0,by omega,by omega,by simp only [go_sem,↓reduceIte],by simp only [go_sem,↓reduceIte],fun j hj=>by rw [Ba _ _ _ _ (by omega),Ba _ _ _ _ (by omega),Bh],by simp only [Bd,List.length_append]; omega⟩ ?_
 rintro M e h1' hM ⟨k,rfl,hk,hE,hH,hF,hL⟩ P hP
 simp only [Bq,Bw] at hE hH hF hL
 obtain ⟨f3,f10,f11,-⟩:=hE
 have hl:=Amn hk
 by_cases hlt:k<now.length
 ·have hlt':(k:Int)<(now.length:Int):=by omega
  have hset:=Amo hlt
  have hks:k+1<=(flT now.length k).length:=by omega
  have hmap:((flT now.length k).map (AV.int .i64)).set k (.int .i64 k)=(flT now.length (k+1)).map (.int .i64):=by rw [<-hset,List.map_set]
  simp (disch:=first | assumption | omega) only [go_sem,↓reduceIte,f3,f10,f11,hlt',hlt,hH,hks,hmap]
  exact hP (now.length-(k+1)) _ (by omega) ⟨k+1,rfl,by omega,by simp only [go_sem,↓reduceIte,f3,f10],by simp only [go_sem,↓reduceIte],fun j hj=>by rw [Ba _ _ _ _ (by omega)]; exact hF j hj,by simp only [Bd]; omega⟩
 ·obtain rfl:k=now.length:=by omega
  have hlt':¬(now.length:Int)<(now.length:Int):=by omega
  rw [Amm] at hH
  simp (disch:=first | assumption | omega) only [go_sem,↓reduceIte,f3,f10,f11,hlt',Gf,mapR]
  exact hV _ _ _ hH (by omega) hF hL
theorem Aoz {p O:List Nat} (hp:PermN p) {t:Nat} (hO:O.length=p.length) (h:∀c∈Js p,∀x∈c,O[x]? = some (itp p t x)):O=Fz p t:=by
 refine List.ext_getElem? fun x => ?_
 by_cases hx:x<p.length
 ·have hm:x∈(Js p).flatten:=(A1a hp).mem_iff.2 (by simpa using hx)
  obtain ⟨c,hc,hxc⟩:=List.mem_flatten.1 hm
  rw [h c hc x hxc,Fz,List.getElem?_map,List.getElem?_range hx]
  rfl
 ·rw [List.getElem?_eq_none (by omega),List.getElem?_eq_none (by simp [Fz]; omega)]
theorem Lf {p O:List Nat} {t x y:Nat} (hx:x<O.length) (h:O[y]? = some (itp p t y)\/y=x):(O.set x (itp p t x))[y]? = some (itp p t y):=by
 by_cases hxy:x=y
 ·subst hxy
  rw [List.getElem?_set_self hx]
 ·rw [List.getElem?_set_ne hxy]
  rcases h with h | h
  ·exact h
  ·exact absurd h.symm hxy
theorem Aql {p c:List Nat} (hp:PermN p) (hc:c∈Js p) {k:Nat} (hk:k<c.length) (t:Nat):∃x,c[k]? = some x/\x<p.length/\c[(k+t)%c.length]? = some (itp p t x):=by
 obtain ⟨i,hi,rfl⟩:=List.mem_map.1 hc
 have hi2:=(Gv.1 hi).1
 refine ⟨itp p k i,A8j hp hi2 hk,Lt hp _ _ hi2,?_⟩
 have hm:=Nat.mod_lt (k+t) (Zz p i)
 rw [A8j hp hi2 hm,<-Hv]
 have:=Mm hp hi2 (k+t)
 exact congrArg some this.symm
set_option maxHeartbeats 1000000 in
theorem Aan (p:List Nat) (hp:PermN p) (h1:1<=p.length) (h10:p.length<=10) (t:Nat) (ht:t<=1099511627776):Con T 13 8 [Bx (nI6 p),.int .i64 (t:Nat)] (.tuple [Bx (nI6 (Fz p t)),.int .i64 0]):=by
 refine Br t8 fun n hn V hV => ?_
 obtain ⟨n,rfl⟩:∃n',n=n'+1:=⟨n-1,by omega⟩
 have e0:((0:Int) != 0)=false:=rfl
 have d1:¬((t:Int)<0):=by omega
 have d2:decide ((t:Int)>1099511627776)=false:=decide_eq_false (by omega)
 have hl:=Dw p
 simp (disch:=first | assumption | omega) only [c8,go_sem,↓reduceIte]
 refine Dn (Nk p hp h1 h10) (by omega) (Bz _ _ _ _ (By _)) rfl ?_
 simp (disch:=first | assumption | omega) only [go_sem,↓reduceIte,e0,d1,d2]
 refine Fq (Aca (nI6 p) (by omega) (by omega) fun key ver h' hH hk hF hL => ?_)
 simp only [Bd,List.length_replicate] at hk hL hF
 have g3:Bb h' 3 = .cells 0 [.int .i64 (t:Nat)]:=by rw [hF 3 (by omega)]; simp only [go_sem,↓reduceIte]
 have g8:Bb h' 8 = .none:=by rw [hF 8 (by omega)]; simp only [go_sem,↓reduceIte]
 simp (disch:=first | assumption | omega) only [go_sem,↓reduceIte,g8]
 refine Dn (Wi [Bx (nI6 p)] fun h=>Bu (Ec _ _ _ _ _) (De _ _)) (by omega) (Dc (Ds _ _ _ _) (By _)) rfl ?_
 simp (disch:=first | assumption | omega) only [go_sem,↓reduceIte]
 rw [hl] at hH
 rw [hl]
 have hkl:=Dz hH (by simp)
 refine Abc (fun st=>At st.env [(3,.optr 3 0 0),(8,.optr 8 0 0),(34,.clo 57 [] [.ptr [.ptr [Bx (nI6 p)] 0] 0])]/\Bb st.heap 3 = .cells 0 [.int .i64 (t:Nat)]/\Bb st.heap 8 = .cells 0 [.oslice key ver none 0 p.length (some p.length)]/\Bb st.heap key = .cells ver ((nI6 (List.range p.length)).map (.int .i64))/\key<st.heap.length)
  ⟨by simp only [go_sem,↓reduceIte],by simp only [go_sem,↓reduceIte,g3],by simp only [go_sem,↓reduceIte],by rw [Ba _ _ _ _ (by omega),Ba _ _ _ _ (by omega)]; exact hH,by simp only [Bd]; omega⟩ ?_
 clear hF hL g3 g8 hH hkl
 rintro e h ⟨hE,g3,g8,gK,hkl⟩
 simp only [Bq,Bw] at hE g3 g8 gK hkl
 obtain ⟨f3,f8,f34,-⟩:=hE
 generalize hlen:h.length=nn at *
 refine Um (g:=57) (first:=[]) (captured:=[.ptr [.ptr [Bx (nI6 p)] 0] 0]) (by simp only [go_sem,↓reduceIte,f34]) hlen fun lf l1 l2 l3 l4 l5 => ?_
 refine Wr p hp h10 nn 0 (nn+1) (fun r h'=>Bb h' nn = .loop 0 .ready none lf/\nn+1<=h'.length/\Bb h' 3 = .cells 0 [.int .i64 (t:Nat)]/\Bb h' 8 = .cells 0 [.oslice key ver none 0 p.length (some p.length)]/\∃(O:List Nat) (D:List (List Nat)),Bb h' key = .cells ver ((nI6 O).map (.int .i64))/\O.length=p.length/\D++r=Js p/\∀c∈D,∀x∈c,O[x]? = some (itp p t x))
  (fun r h1 h2 hF hL hJ => ?_) (by omega) (fun c r h' x hb hX hJ => ?_) _ (by rw [Bd,hlen]; omega) ?_ _ (fun v h' hJ => ?_)
 ·obtain ⟨a1,a2,a3,a4,O,D,a5,a6⟩:=hJ
  exact ⟨by rw [hF _ (by omega),a1],by omega,by rw [hF _ (by omega),a3],by rw [hF _ (by omega),a4],O,D,by rw [hF _ (by omega),a5],a6⟩
 ·obtain ⟨a1,a2,a3,a4,O,D,a5,a6,a7,a8⟩:=hJ
  obtain ⟨q,rfl⟩:∃q,n=q+1:=⟨n-1,by omega⟩
  have hcm:c∈Js p:=by rw [<-a7]; simp
  obtain ⟨hc1,hc2⟩:=A8e hp hcm
  refine A0h a1 (by rw [l3]; rfl) ?_
  rw [l4]
  simp (disch:=first | assumption | omega) only [go_sem,↓reduceIte,l1,l2,l3,Ln]
  refine ⟨none,lf,a1,?_⟩
  rw [l5]
  have hlx:=hX.lenA
  rw [Dw] at hlx
  have n3:¬(nn=3):=by omega
  have n8:¬(nn=8):=by omega
  have nK:¬(nn=key):=by omega
  simp (disch:=first | assumption | omega) only [go_sem,↓reduceIte,f3,f8,hlx]
  refine Db (fun M st=>∃(k:Nat) (O':List Nat),M=c.length-k/\k<=c.length/\At st.env [(3,.optr 3 0 0),(8,.optr 8 0 0),(9,x),(36,x),(37,.int .i64 c.length),(38,.int .i64 k)]/\Bb st.heap nn = .loop 0 .busy none lf/\nn+1<=st.heap.length/\Bb st.heap 3 = .cells 0 [.int .i64 (t:Nat)]/\Bb st.heap 8 = .cells 0 [.oslice key ver none 0 p.length (some p.length)]/\Bb st.heap key = .cells ver ((nI6 O').map (.int .i64))/\O'.length=p.length/\(∀d∈D,∀z∈d,O'[z]? = some (itp p t z))/\(∀j,j<k->∀z,c[j]? = some z->O'[z]? = some (itp p t z))/\ExO (nn+1) st.heap x (nI6 c)) c.length (by omega)
   ⟨0,O,by omega,by omega,by simp only [go_sem,↓reduceIte,f3,f8],by simp only [go_sem,↓reduceIte],by rw [Bd]; omega,by rw [Ba _ _ _ _ (by omega),a3],by rw [Ba _ _ _ _ (by omega),a4],by rw [Ba _ _ _ _ (by omega),a5],a6,a8,fun j hj=>absurd hj (by omega),?_⟩ ?_
  ·rcases hX with hX | hX | ⟨key2,ver2,c1,c2,c3⟩
   ·exact .inl hX
   ·exact .inr (.inl hX)
   ·exact .inr (.inr ⟨key2,ver2,c1,c2,by rw [Ba _ _ _ _ (by omega),c3]⟩)
  clear hX hlx
  rintro M e1 h1' hM ⟨k,O',rfl,hk',hE,b1,b2,b3,b4,b5,b6,b7,b8,hX⟩ P hP
  simp only [Bq,Bw] at hE b1 b2 b3 b4 b5 hX
  obtain ⟨k3,k8,k9,k36,k37,k38,-⟩:=hE
  by_cases hlt:k<c.length
  ·have hlt':(k:Int)<(c.length:Int):=by omega
   obtain ⟨y,gy,hyl,gt⟩:=Aql hp hcm hlt t
   have gyI:(nI6 c)[k]? = some (y:Int):=by rw [nI6,List.getElem?_map,gy]; rfl
   obtain ⟨sm,hs⟩:∃sm:Nat,sm=k+t:=⟨_,rfl⟩
   rw [<-hs] at gt
   have e1:(k:Int)+(t:Int)=(sm:Int):=by omega
   have hr:=Aju .i64 sm c.length (by omega)
   have hml:=Nat.mod_lt sm (show 0<c.length by omega)
   have gtI:(nI6 c)[sm%c.length]? = some ((itp p t y:Nat):Int):=by rw [nI6,List.getElem?_map,gt]; rfl
   generalize sm%c.length=md at *
   have hcl0:=Dw c
   have hyO':y<O'.length:=by omega
   have hyO:y+1<=O'.length:=by omega
   have s1:((nI6 O').map (AV.int .i64)).set y (.int .i64 (itp p t y:Nat))=(nI6 (O'.set y (itp p t y))).map (.int .i64):=by simp only [nI6,List.map_set]
   rcases hX with rfl | ⟨hnil,_⟩ | ⟨key2,ver2,c1,rfl,c3⟩
   ·simp (disch:=first | assumption | omega) only [go_sem,↓reduceIte,k3,k8,k9,k36,k37,k38,hlt',gyI,b3,b4,b5,e1,hr,gtI,hml,hyl,hyO,s1,hcl0,List.length_map,Dw]
    refine hP (c.length-(k+1)) _ (by omega) ⟨k+1,O'.set y (itp p t y),rfl,by omega,by simp only [go_sem,↓reduceIte,k3,k8,k9,k36,k37],by rw [Ba _ _ _ _ (by omega),b1],by simp only [Bd]; omega,by rw [Ba _ _ _ _ (by omega),b3],by rw [Ba _ _ _ _ (by omega),b4],by simp only [go_sem,↓reduceIte],by rw [List.length_set,b6],fun d hd z hz=>Lf hyO' (.inl (b7 d hd z hz)),?_,.inl rfl⟩
    intro j hj z hz
    by_cases hjk:j=k
    ·subst hjk
     rw [gy] at hz
     obtain rfl:=Option.some.inj hz
     exact Lf hyO' (.inr rfl)
    ·exact Lf hyO' (.inl (b8 j (by omega) z hz))
   ·rw [hnil] at gyI; cases gyI
   ·simp (disch:=first | assumption | omega) only [go_sem,↓reduceIte,k3,k8,k9,k36,k37,k38,hlt',gyI,b3,b4,b5,c3,hlt,e1,hr,gtI,hml,hyl,hyO,s1,hcl0,List.length_map,Dw]
    refine hP (c.length-(k+1)) _ (by omega) ⟨k+1,O'.set y (itp p t y),rfl,by omega,by simp only [go_sem,↓reduceIte,k3,k8,k9,k36,k37],by rw [Ba _ _ _ _ (by omega),b1],by simp only [Bd]; omega,by rw [Ba _ _ _ _ (by omega),b3],by rw [Ba _ _ _ _ (by omega),b4],by simp only [go_sem,↓reduceIte],by rw [List.length_set,b6],fun d hd z hz=>Lf hyO' (.inl (b7 d hd z hz)),?_,.inr (.inr ⟨key2,ver2,c1,rfl,by rw [Ba _ _ _ _ (by omega),c3]⟩)⟩
    intro j hj z hz
    by_cases hjk:j=k
    ·subst hjk
     rw [gy] at hz
     obtain rfl:=Option.some.inj hz
     exact Lf hyO' (.inr rfl)
    ·exact Lf hyO' (.inl (b8 j (by omega) z hz))
  ·obtain rfl:k=c.length:=by omega
   have hlt':¬(c.length:Int)<(c.length:Int):=by omega
   simp (disch:=first | assumption | omega) only [go_sem,↓reduceIte,k37,k38,hlt',b1]
   refine ⟨.busy,none,lf,rfl,⟨rfl,b2,by rw [if_neg n3]; exact b3,by rw [if_neg n8,b4],O',D++[c],by rw [if_neg nK,b5],b6,by rw [List.append_assoc]; exact a7,fun d hd z hz => ?_⟩,b2⟩
   rcases List.mem_append.1 hd with hd | hd
   ·exact b7 d hd z hz
   ·obtain rfl:d=c:=by simpa using hd
    obtain ⟨j,hj⟩:=List.mem_iff_getElem?.1 hz
    exact b8 j (List.getElem?_eq_some_iff.1 hj).1 z hj
 ·refine ⟨by simp only [go_sem,↓reduceIte],by rw [Bd,hlen]; omega,by rw [Ba _ _ _ _ (by omega),g3],by rw [Ba _ _ _ _ (by omega),g8],List.range p.length,[],by rw [Ba _ _ _ _ (by omega),gK],by simp,rfl,fun c hc=>by cases hc⟩
 ·obtain ⟨a1,a2,a3,a4,O,D,a5,a6,a7,a8⟩:=hJ
  rw [List.append_nil] at a7
  rw [a7] at a8
  have hO:=Aoz hp a6 a8
  refine ⟨.ready,none,lf,a1,by decide,?_⟩
  have n8:¬(nn=8):=by omega
  simp (disch:=first | assumption | omega) only [go_sem,↓reduceIte,f8,a4,n8]
  refine hV _ _ (Fc (Ml (l:=nI6 O) (ver:=ver) (k:=.i64) ?_ (by rw [Dw,a6])) (Bm _ _ _ _) |>.trans (by rw [hO]))
  rw [Ba _ _ _ _ (by omega),a5]
end Go.Ev.YtofpilpmiddpgaaGreatC
