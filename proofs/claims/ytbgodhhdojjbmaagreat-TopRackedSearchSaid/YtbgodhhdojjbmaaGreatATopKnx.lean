/- The benches of layer 2 behind a want: keep, put, take, step. kind of layer 2's bench, at the example: benches and their costs behind each want. kind of layer 2's bench at the example, walked. No condition but those that stand in each. -/
import Derived.Test.YtbgodhhdojjbmaaGreatATopGmp
import Derived.Test.YtbgodhhdojjbmaaGreatATopShd
set_option linter.unusedSimpArgs false
set_option linter.unusedVariables false
set_option maxRecDepth 100000
namespace Go.Ev.YtbgodhhdojjbmaaGreatC
open Go Go.Proofs
attribute [local irreducible] Res.all evC Do Dr Bv Bd Dw Bg Bj G GO GV GP GC R
def Pl (q:List Int):Prop:=q.length=9/\∀x∈q,x=0\/x=1
theorem spl9 (q:List Int) (h:q.length=9) (a b f:AV):Dk [a,b,.int .i64 0,.int .i64 0,.int .i64 0,.int .i64 0,.int .i64 0,.int .i64 0,.int .i64 0,.int .i64 0,.int .i64 0,f] 2 (q.map (.int .i64))=a::b::(q.map (.int .i64)++[f]):=by
 match q,h with
 | [_,_,_,_,_,_,_,_,_],_=>rfl
theorem spl0 (q:List Int) (h:q.length=9):Dk [.int .i64 0,.int .i64 0,.int .i64 0,.int .i64 0,.int .i64 0,.int .i64 0,.int .i64 0,.int .i64 0,.int .i64 0] 0 (q.map (AV.int .i64))=q.map (.int .i64):=by
 match q,h with
 | [_,_,_,_,_,_,_,_,_],_=>rfl
theorem Avt (a b m:AV) (q:List Int) {w:Nat} (hw:w<q.length):(a::b::(q.map (AV.int .i64)++[m]))[2+w]? = some (.int .i64 (q.getD w 0)):=by
 rw [Nat.add_comm,List.getElem?_cons_succ,List.getElem?_cons_succ,List.getElem?_append_left (by simpa using hw),List.getElem?_map,List.getElem?_eq_getElem hw,List.getD_eq_getElem?_getD,List.getElem?_eq_getElem hw]
 rfl
theorem Yx (a b m:AV) (q:List Int) (hq:q.length=9) {w:Nat} (hw:w<9):Con T 1 419 [.ptr (a::b::(q.map (.int .i64)++[m])) 0,.int .i64 (w:Nat)] (.bool (decide (q.getD w 0>0))):=by
 refine Dd t419 fun n hn V hV => ?_
 have hg:=Avt a b m q (w:=w) (by omega)
 simp (disch:=first | assumption | omega) only [c419,go_sem,↓reduceIte,hg,hw]
 exact hV _ _ (Ea _ _ _)
theorem Ajp {q:List Int} (h:∀x∈q,x=0\/x=1):0<=q.sum/\q.sum<=q.length:=by
 induction q with
 | nil=>simp
 | cons a r ih =>
  have h1:=h a (by simp)
  have h2:=ih fun x hx=>h x (by simp [hx])
  simp only [List.sum_cons,List.length_cons]
  omega
theorem A3u (a b m:AV) (q:List Int) (hq:Pl q):Con T 1 420 [.ptr (a::b::(q.map (.int .i64)++[m])) 0] (.int .i64 q.sum):=by
 obtain ⟨hq9,hq01⟩:=hq
 refine Dd t420 fun n hn V hV => ?_
 have hg2:List.take 9 (List.map (AV.int IntKind.i64) q++[m])=q.map (.int .i64):=by
  rw [List.take_append_of_le_length (by simp [hq9]),List.take_of_length_le (by simp [hq9])]
 simp (disch:=first | assumption | omega) only [c420,go_sem,↓reduceIte,hq9,hg2]
 refine Dm (fun M s=>∃k:Nat,M=9-k/\k<=9/\At s.env [(3,.int .i64 (q.take k).sum),(9,.agg (q.map (.int .i64))),(10,.int .i64 k)]) 9 (by omega) ⟨0,by simp,by omega,by simp [go_sem,↓reduceIte]⟩ ?_
 rintro M e h hM ⟨k,rfl,hk,hE⟩ P hP
 simp only [Bz,Dc] at hE
 obtain ⟨h3,h9,h10,-⟩:=hE
 by_cases hlt:k<9
 ·have hlt':(k:Int)<9:=by omega
  have hy:q[k]? = some q[k]:=List.getElem?_eq_getElem (by omega)
  have hs1:(q.take (k+1)).sum=(q.take k).sum+q[k]:=by
   rw [List.take_add_one,hy]
   simp only [Option.toList_some,List.sum_append,List.sum_cons,List.sum_nil,Int.add_zero]
  have hb1:=Ajp (q:=q.take k) fun x hx=>hq01 x (List.mem_of_mem_take hx)
  have hb2:=Ajp (q:=q.take (k+1)) fun x hx=>hq01 x (List.mem_of_mem_take hx)
  rw [hs1] at hb2
  simp only [List.length_take] at hb1 hb2
  simp (disch:=first | assumption | omega) only [go_sem,↓reduceIte,h3,h9,h10,hlt',hlt,hy]
  exact hP (9-(k+1)) _ (by omega) ⟨k+1,rfl,by omega,by simp only [go_sem,↓reduceIte,h3,h9,hs1]⟩
 ·obtain rfl:k=9:=by omega
  have hs:(q.take 9).sum=q.sum:=by rw [List.take_of_length_le (by omega)]
  simp (disch:=first | assumption | omega) only [go_sem,↓reduceIte,h3,h9,h10]
  exact hV _ _ (by rw [Bq,hs])
section
variable {n base:Nat} {Q:EX×St->Prop} {d:Option Nat} {L:List IOper} {ks:List Kont} {e:Env} {h:Bc}
theorem A1c {K ver x:Nat} {cs:List AV} (hH:Bb h K = .cells ver cs) (hK:K<h.length) (hx:x<9) (hl:2+x+1<=cs.length)
  (hq:GO (Bg T (n+1)) base Q L ks ⟨Bk e d (.tuple []),setH (h++List.replicate 9 .none) K (.cells ver (cs.set (2+x) (.int .i64 0)))⟩) :
  GP (Bg T (n+1)) base Q d L ks e (Bg T (n+1) true (.fn 421) [.optr K ver 0,.int .i64 (x:Nat)] h):=by
 refine Gi ?_
 rw [Ew t421]
 have hH2:Bb (h++List.replicate 9 .none) K = .cells ver cs:=by rw [Bi,hH]
 have hx':(x:Int)<9:=by omega
 simp (disch:=first | assumption | omega) only [c421,go_sem,↓reduceIte,hH2,hx,hl,Gf,mapR]
 exact ⟨hl,hq⟩
theorem Rh {K ver x:Nat} {cs:List AV} (hH:Bb h K = .cells ver cs) (hK:K<h.length) (hx:x<9) (hl:2+x+1<=cs.length)
  (hq:GO (Bg T (n+1)) base Q L ks ⟨Bk e d (.tuple []),setH (h++List.replicate 9 .none) K (.cells ver (cs.set (2+x) (.int .i64 1)))⟩) :
  GP (Bg T (n+1)) base Q d L ks e (Bg T (n+1) true (.fn 422) [.optr K ver 0,.int .i64 (x:Nat)] h):=by
 refine Gi ?_
 rw [Ew t422]
 have hH2:Bb (h++List.replicate 9 .none) K = .cells ver cs:=by rw [Bi,hH]
 simp (disch:=first | assumption | omega) only [c422,go_sem,↓reduceIte,hH2,hx,hl,Gf,mapR]
 exact ⟨hl,hq⟩
theorem A2l {q:List Int} {m:Int} {k7 mk c:Nat} {E:List PE} {P:List Int×Int->Prop} (hq9:q.length=9) (h7:Bb h k7 = .cells 0 [.omap mk 0]) (hm:Bb h mk = .map 0 c (pK E) (pV E) (pB E)) (hE:MM P E c)
  (hq:∀E' c' h',MM (fun x=>P x\/x=(q,m)) E' c'->Bb h' mk = .map 0 c' (pK E') (pV E') (pB E')->(∀j,j<h.length->j≠mk->Bb h' j=Bb h j)->h.length<=h'.length->c'<=c+1->GO (Bg T (n+1)) base Q L ks ⟨Bk e d (.tuple []),h'⟩) :
  GP (Bg T (n+1)) base Q d L ks e (Bg T (n+1) true (.fn 514) [pA q,.int .i64 m,.optr k7 0 0] h):=by
 refine Gi ?_
 rw [Ew t514]
 have l7:=Fm h7 (by simp)
 have lm:=Fm hm (by simp)
 have a7:∀k,Bb (h++List.replicate k .none) k7 = .cells 0 [.omap mk 0]:=fun k=>by rw [Bi,h7]
 have am:∀k,Bb (h++List.replicate k .none) mk = .map 0 c (pK E) (pV E) (pB E):=fun k=>by rw [Bi,hm]
 have hcl:(pA q).cells=q.map (.int .i64):=rfl
 have hpa:AV.agg (q.map (.int .i64))=pA q:=rfl
 have ht:(q.map (AV.int .i64)).take 9=q.map (.int .i64):=List.take_of_length_le (by simp [hq9])
 have n1:¬(h.length+3=k7):=by omega
 have n2:¬(h.length+3=mk):=by omega
 have n3:¬(k7=h.length+3):=by omega
 have n4:¬(mk=h.length+3):=by omega
 have hone:=Iu .i64 q
 have hnew:=Gv h 23 3
 have hfin:∀(h':Bc),(∀j,j<h.length->j≠mk->Bb h' j=Bb h j)->h.length<=h'.length->(∃E' c',MM (fun x=>P x\/x=(q,m)) E' c'/\Bb h' mk = .map 0 c' (pK E') (pV E') (pB E')/\c'<=c+1)->GO (Bg T (n+1)) base Q L ks ⟨Bk e d (.tuple []),h'⟩:=fun h' a b ⟨E',c',x,y,z⟩=>hq E' c' h' x y a b z
 have keep3:∀(o:AObj) (j:Nat),j<h.length->Bb (setH (h++List.replicate 23 .none) (h.length+3) o) j=Bb h j:=fun o j hj=>by
  rw [Ba _ _ _ _ (by omega),Bi]
 have hmo:Gb (setH (h++List.replicate 23 .none) (h.length+3) (.cells 0 (q.map (.int .i64)))) (.omap mk 0)=some (pK E,pV E):=by
  simp only [Gb,keep3 _ mk lm,hm,if_true]
 rcases B1w (ok:=true) (z:=.int .i64 0) hE hq9 with ⟨hno,hlk⟩ | ⟨A,x,b,B,rfl,hA,hB,hlk⟩
 ·simp (disch:=first | assumption | omega) only [c514,go_sem,↓reduceIte,hcl,hone,hnew,a7,n1,n2,n3,n4,hq9,ht,hpa,hmo,hlk]
  have hmu:=Ack (n:=m) (h:=setH (h++List.replicate 23 .none) (h.length+3) (.cells 0 (q.map (.int .i64)))) (by rw [keep3 _ mk lm,hm]) hE.l9 hq9 hno
  simp (disch:=first | assumption | omega) only [go_sem,↓reduceIte,hmu,Gf,mapR]
  refine hfin _ (fun j hj hne => ?_) ?_ ⟨_,_,hE.new hq9 hno,getH_setH_self _ _ _,Nat.le_refl _⟩
  ·rw [Ba _ _ _ _ (fun h=>hne h.symm),keep3 _ j hj]
  ·simp only [Bh,List.length_append,List.length_replicate]; omega
 ·by_cases hlt:m<x
  ·simp (disch:=first | assumption | omega) only [c514,go_sem,↓reduceIte,hcl,hone,hnew,a7,n1,n2,n3,n4,hq9,ht,hpa,hmo,hlk,hlt]
   have hmu:=Asv (m:=m) (h:=setH (h++List.replicate 23 .none) (h.length+3) (.cells 0 (q.map (.int .i64)))) (by rw [keep3 _ mk lm,hm]) hE.l9 hq9 hA
   simp (disch:=first | assumption | omega) only [go_sem,↓reduceIte,hmu,Gf,mapR]
   refine hfin _ (fun j hj hne => ?_) ?_ ⟨_,_,hE.less hA hB hlt,getH_setH_self _ _ _,Nat.le_succ _⟩
   ·rw [Ba _ _ _ _ (fun h=>hne h.symm),keep3 _ j hj]
   ·simp only [Bh,List.length_append,List.length_replicate]; omega
  ·simp (disch:=first | assumption | omega) only [c514,go_sem,↓reduceIte,hcl,hone,hnew,a7,n1,n2,n3,n4,hq9,ht,hpa,hmo,hlk,hlt,Gf,mapR]
   refine hfin _ (fun j hj hne=>keep3 _ j hj) ?_ ⟨_,_,hE.more (t:=(q,x,b)) (by simp) (by simp only; omega),by rw [keep3 _ mk lm,hm],Nat.le_succ _⟩
   simp only [Bh,List.length_append,List.length_replicate]; omega
end
theorem Rj {f:AV->Res AV}:∀{xs:List AV},(∀x∈xs,f x = .ret x)->mapR f xs = .ret xs
 | [],_=>rfl
 | a::r,h=>by
  have ih:=Rj (f:=f) (xs:=r) fun x hx=>h x (by simp [hx])
  simp only [mapR,h a (by simp),Res.bind,ih]
theorem Aca (h:Bc) (n:Nat) (r:Int) (l:List Nat) (q:List Int) (ks vs:List AV):mapR (Bj h (n+1)) (.int .i64 r::By l::(q.map (.int .i64)++[.fmap ks vs])) = .ret (.int .i64 r::By l::(q.map (.int .i64)++[.fmap ks vs])):=by
 refine Rj fun x hx => ?_
 simp only [List.mem_cons,List.mem_append,List.not_mem_nil,or_false] at hx
 rcases hx with rfl | rfl | hx | rfl
 ·exact Bq _ _ _ _
 ·exact Dv _ _ _ _ _
 ·obtain ⟨a,_,rfl⟩:=List.mem_map.1 hx
  exact Bq _ _ _ _
 ·exact A7a _ _ _ _
def awB (s:List Int) (a:Nat):Bool:=decide (1<=a)&&decide (s.getD a 0>0)
def awL (w:Nat) (x:List Int×Int) (k:Nat):List (List Int×Int):=((List.range k).filter (awB x.1)).map fun a=>((x.1.set a 0).set w 1,x.2+1)
def ctr (r:Int) (w:Nat) (x:List Int×Int):List (List Int×Int):=
 if x.1.getD w 0>0 then [x] else if x.1.sum<r then [(x.1.set w 1,x.2+1)] else awL w x 9
theorem A6c (w:Nat) (x:List Int×Int) (k:Nat):awL w x (k+1)=awL w x k++if awB x.1 k then [((x.1.set k 0).set w 1,x.2+1)] else []:=by
 rw [awL,List.range_succ,List.filter_append,List.map_append]
 congr 1
 by_cases h:awB x.1 k=true <;> simp [List.filter_cons,h]
structure SH (B mk0 c0:Nat) (seen:List Nat) (h0:Bc) (P:List Int×Int->Prop) (h:Bc):Prop where
 i7:Bb h (B+7) = .cells 0 [.omap (B+93) 0]
 it:Bb h (B+94) = .iter 0 mk0 0 c0 seen c0
 mp:∃c E,Bb h (B+93) = .map 0 c (pK E) (pV E) (pB E)/\MM P E c
 ln:B+95<=h.length
 kp:∀j,j<B->Bb h j=Bb h0 j
theorem SH.other {B mk0 c0:Nat} {seen:List Nat} {h0 h h':Bc} {P:List Int×Int->Prop} (hs:SH B mk0 c0 seen h0 P h) (h1:∀j,j<B\/j=B+7\/j=B+93\/j=B+94->Bb h' j=Bb h j) (h2:h.length<=h'.length):SH B mk0 c0 seen h0 P h' where
 i7:=by rw [h1 _ (by omega)]; exact hs.i7
 it:=by rw [h1 _ (by omega)]; exact hs.it
 mp:=by rw [h1 _ (by omega)]; exact hs.mp
 ln:=Nat.le_trans hs.ln h2
 kp:=fun j hj=>by rw [h1 j (by omega)]; exact hs.kp j hj
theorem SH.congr {B mk0 c0:Nat} {seen:List Nat} {h0 h:Bc} {P P':List Int×Int->Prop} (hs:SH B mk0 c0 seen h0 P h) (hp:∀x,P x↔P' x):SH B mk0 c0 seen h0 P' h:=by
 obtain rfl:P=P':=funext fun q=>propext (hp q)
 exact hs
theorem SH.map {B mk0 c0:Nat} {seen:List Nat} {h0 h h':Bc} {P P':List Int×Int->Prop} (hs:SH B mk0 c0 seen h0 P h) {E:List PE} {c:Nat} (hm:Bb h' (B+93) = .map 0 c (pK E) (pV E) (pB E)) (hE:MM P' E c) (h1:∀j,j<h.length->j≠B+93->Bb h' j=Bb h j) (h2:h.length<=h'.length):SH B mk0 c0 seen h0 P' h' where
 i7:=by rw [h1 _ (by have:=hs.ln; omega) (by omega)]; exact hs.i7
 it:=by rw [h1 _ (by have:=hs.ln; omega) (by omega)]; exact hs.it
 mp:=⟨c,E,hm,hE⟩
 ln:=Nat.le_trans hs.ln h2
 kp:=fun j hj=>by rw [h1 j (by have:=hs.ln; omega) (by omega)]; exact hs.kp j hj
theorem Xv {call:Bf} {base:Nat} {Q:EX×St->Prop} {L:List IOper} {ks:List Kont} {e:Env} {h:Bc} (P:Env->Bc->Prop) (h0:P e h) (hq:∀e h,P e h->GO call base Q L ks ⟨e,h⟩):GO call base Q L ks ⟨e,h⟩:=hq e h h0
theorem Wl {call:Bf} {base:Nat} {Q:EX×St->Prop} {d:Option Nat} {L:List IOper} {kk:List Kont} {e:Env} {h:Bc} {mk c:Nat} {ks vs:List AV} {bs:List Nat} (K:Nat) (hK:h.length=K) (hm:Bb h mk = .map 0 c ks vs bs)
  (hq:GO call base Q L kk ⟨Bk e d (.iter K 0),setH h K (.iter 0 mk 0 c [] c)⟩):GP call base Q d L kk e (rgA h (.omap mk 0)):=by
 have hn:Bb h h.length = .none:=Eh _ _ (Nat.le_refl _)
 subst hK
 simp only [rgA,hm,hn,next_none,if_true]
 rw [Iy]
 exact hq
theorem Arp {call:Bf} {base:Nat} {Q:EX×St->Prop} {d:Option Nat} {L:List IOper} {kk:List Kont} {e:Env} {h:Bc} (K:Nat) (hK:h.length=K)
  (hq:GO call base Q L kk ⟨Bk e d (.iter K 0),setH h K (.nit 0)⟩):GP call base Q d L kk e (rgA h (.fmap [] [])):=by
 have hn:Bb h h.length = .none:=Eh _ _ (Nat.le_refl _)
 subst hK
 simp only [rgA,hn,next_none]
 rw [Iy]
 exact hq
theorem Awz {call:Bf} {base:Nat} {Q:EX×St->Prop} {d:Option Nat} {L:List IOper} {kk:List Kont} {e:Env} {h:Bc} {k:Nat} (hk:Bb h k = .nit 0)
  (hq:GO call base Q L kk ⟨Bk e d (.tuple [.bool false]),h⟩):GP call base Q d L kk e (nxA h (.iter k 0)):=by
 simp only [nxA,hk,if_true]
 rw [Iy]
 exact hq
theorem Kt (a b m:AV) (q:List Int) (hq:q.length=9) {w:Nat} (hw:w<9) (x:Int):(a::b::(q.map (AV.int .i64)++[m])).set (2+w) (.int .i64 x)=a::b::((q.set w x).map (.int .i64)++[m]):=by
 rw [Nat.add_comm,List.set_cons_succ,List.set_cons_succ,List.set_append_left _ _ (by simp [hq]; omega),List.map_set]
section
variable {n base:Nat} {Q:EX×St->Prop} {d:Option Nat} {L:List IOper} {ks:List Kont} {e:Env} {h:Bc}
theorem Alf {r:Int} {l:List Nat} {X:List AV} {i mk0 c0:Nat} {E0:List PE} (hi:i<l.length) (hll:l.length<=16) (hw:1<=l.getD i 0/\l.getD i 0<=8) (hm0:Bb h mk0 = .map 0 c0 (pK E0) (pV E0) (pB E0)) (hbn:(pB E0).Nodup) (hbc:∀t∈E0,t.2.2<c0) (hb:∀t∈E0,Pl t.1/\0<=t.2.1/\t.2.1<=1000) (hEl:E0.length<=1000)
  (hq:∀mk c E h',mk<h'.length->Bb h' mk = .map 0 c (pK E) (pV E) (pB E)->MM (fun x=>∃u∈E0,x∈ctr r (l.getD i 0) (u.1,u.2.1)) E c->(∀j,j<h.length->Bb h' j=Bb h j)->h.length<=h'.length->GO (Bg T (n+2)) base Q L ks ⟨Bk e d (.omap mk 0),h'⟩) :
  GP (Bg T (n+2)) base Q d L ks e (Bg T (n+2) true (.fn 485) [.ptr (.int .i64 r::By l::X) 0,.omap mk0 0,.int .i64 (i:Nat)] h):=by
 refine Gi ?_
 rw [Ew t485]
 have lm0:=Fm hm0 (by simp)
 have hget:(l.map fun n:Nat=>AV.int .i64 n)[i]? = some (.int .i64 (l.getD i 0:Nat)):=by
  rw [List.getElem?_map,List.getD_eq_getElem?_getD,List.getElem?_eq_getElem hi]; rfl
 generalize hwd:l.getD i 0=w at *
 have hn7:=Gv h 93 7
 have hn93:Bb (h++List.replicate 93 .none) (h.length+93) = .none:=Eh _ _ (by simp)
 generalize hB:h.length=B at *
 simp (disch:=first | assumption | omega) only [c485,go_sem,↓reduceIte,hget,hB,hn7,hn93]
 have lB:mk0≠B+93/\mk0≠B+7:=by omega
 refine Wl (c:=c0) (ks:=pK E0) (vs:=pV E0) (bs:=pB E0) (B+94) ?_ ?_ ?_
 ·simp only [Bh,List.length_append,List.length_replicate,hB]; omega
 ·rw [Ba _ _ _ _ (by omega),Ba _ _ _ _ (by omega),Ba _ _ _ _ (by omega),Bi,hm0]
 refine Xv (fun e h'=>At e [(0,.ptr (.int .i64 r::By l::X) 0),(7,.optr (B+7) 0 0),(8,.clo 514 [] [.optr (B+7) 0 0]),(9,.int .i64 (w:Nat)),(26,.iter (B+94) 0)]/\SH B mk0 c0 [] h (fun x=>∃u∈E0,u.2.2∈([]:List Nat)/\x∈ctr r w (u.1,u.2.1)) h') ⟨by simp only [go_sem,↓reduceIte],?_⟩ ?_
 ·refine ⟨?_,getH_setH_self _ _ _,⟨0,[],?_,MM.nil.congr fun q=>by simp⟩,?_,fun j hj => ?_⟩
  ·rw [Ba _ _ _ _ (by omega),getH_setH_self]
  ·rw [Ba _ _ _ _ (by omega),Ba _ _ _ _ (by omega),Ba _ _ _ _ (by omega),getH_setH_self]; rfl
  ·simp only [Bh,List.length_append,List.length_replicate,hB]; omega
  ·rw [Ba _ _ _ _ (by omega),Ba _ _ _ _ (by omega),Ba _ _ _ _ (by omega),Ba _ _ _ _ (by omega),Bi]
 rintro e1 h1 ⟨hE1,hS1⟩
 simp only [Bz,Dc] at hE1
 obtain ⟨f0,f7,f8,f9,f26,-⟩:=hE1
 simp (disch:=first | assumption | omega) only [go_sem,↓reduceIte]
 refine Dm (fun M st=>∃seen:List Nat,M=(E0.filter fun t => !seen.contains t.2.2).length/\At st.env [(0,.ptr (.int .i64 r::By l::X) 0),(7,.optr (B+7) 0 0),(8,.clo 514 [] [.optr (B+7) 0 0]),(9,.int .i64 (w:Nat)),(26,.iter (B+94) 0)]/\
   SH B mk0 c0 seen h (fun x=>∃u∈E0,u.2.2∈seen/\x∈ctr r w (u.1,u.2.1)) st.heap) E0.length (by omega) ⟨[],by rw [List.filter_eq_self.2 (by simp)],by simp only [go_sem,↓reduceIte,f0,f7,f8,f9,f26],hS1⟩ ?_
 rintro M e2 h2 hM2 ⟨seen,rfl,hE2,hS2⟩ P2 hP2
 have hln:B+95<=h2.length:=hS2.ln
 simp only [Bz,Dc] at hE2
 obtain ⟨f0,f7,f8,f9,f26,-⟩:=hE2
 simp (disch:=first | assumption | omega) only [go_sem,↓reduceIte,Bw,f26]
 have hmk:Bb h2 mk0 = .map 0 c0 (pK E0) (pV E0) (pB E0):=by rw [hS2.kp _ lm0,hm0]
 refine Sc hS2.it hmk hbc (fun hall => ?_) (fun t ht hnt => ?_)
 ·obtain ⟨c,E,hEm,hMM⟩:=hS2.mp
  have i7:=hS2.i7
  simp (disch:=first | assumption | omega) only [go_sem,↓reduceIte,f7,i7,Gf,mapR]
  refine hq _ c E h2 (by omega) hEm (hMM.congr fun x => ?_) hS2.kp (by omega)
  exact ⟨fun ⟨u,a,_,b⟩=>⟨u,a,b⟩,fun ⟨u,a,b⟩=>⟨u,a,hall u a,b⟩⟩
 obtain ⟨q,nn,bb⟩:=t
 have hbt:=hb _ ht
 simp only at hbt hnt
 obtain ⟨⟨hq9,hq01⟩,hn0,hn1⟩:=hbt
 have hen:enA (setH h2 (B+94) (.iter 0 mk0 0 c0 (seen++[bb]) c0)) (.iter (B+94) 0) = .ret (.tuple [pA q,.int .i64 nn]):=
  A0l (t:=(q,nn,bb)) (getH_setH_self _ _ _) (by rw [Ba _ _ _ _ (by omega)]; exact hmk) hbn ht
 have hml:=Yb ht hnt
 have hcl:(pA q).cells=q.map (.int .i64):=rfl
 have hpa:AV.agg (q.map (.int .i64))=pA q:=rfl
 have htk:(q.map (AV.int .i64)).take 9=q.map (.int .i64):=List.take_of_length_le (by simp [hq9])
 have hone:=Iu .i64 q
 have hone2:(q.map (AV.int .i64)++[AV.fmap [] []]).all oneB=true:=by rw [List.all_append,hone]; rfl
 have hsp0:=spl0 q hq9
 have hsp9:=spl9 q hq9
 have hmore:=fun x=>Xa (seen:=seen) hbn ht (fun u x=>x∈ctr r w (u.1,u.2.1)) x
 simp only at hmore
 simp (disch:=first | assumption | omega) only [go_sem,↓reduceIte,Bw,f0,f7,f8,f9,f26,hen,hcl,hone,hone2,hq9,hsp0,hsp9,htk,hpa]
 refine Ee (Yx (.int .i64 r) (By l) (.fmap [] []) q hq9 (w:=w) (by omega)) (Nat.le_add_left 1 n) (Dj (Ge (getH_setH_self _ _ _) (Aca _ _ _ _ _ _ _)) (Dj (Bq _ _ _ _) (Dt _))) (Kb _ _) ?_
 refine Xv (fun e h'=>∃v10 v12,At e [(0,.ptr (.int .i64 r::By l::X) 0),(7,.optr (B+7) 0 0),(8,.clo 514 [] [.optr (B+7) 0 0]),(9,.int .i64 (w:Nat)),(10,.optr (B+10) v10 0),(11,.int .i64 nn),(12,.optr (B+38) v12 0),(26,.iter (B+94) 0),(42,.bool (decide (q.getD w 0>0)))]/\
   SH B mk0 c0 (seen++[bb]) h (fun x=>∃u∈E0,u.2.2∈seen/\x∈ctr r w (u.1,u.2.1)) h'/\Bb h' (B+10) = .cells v10 (q.map (.int .i64))/\Bb h' (B+38) = .cells v12 (.int .i64 r::By l::(q.map (.int .i64)++[.fmap [] []]))) ⟨(Bb h2 (B+10)).next,(Bb h2 (B+38)).next,by simp only [go_sem,↓reduceIte,f0,f7,f8,f9,f26],?_,?_,getH_setH_self _ _ _⟩ ?_
 ·have hS3:SH B mk0 c0 (seen++[bb]) h (fun x=>∃u∈E0,u.2.2∈seen/\x∈ctr r w (u.1,u.2.1)) (setH h2 (B+94) (.iter 0 mk0 0 c0 (seen++[bb]) c0)):=by
   obtain ⟨c,E,hEm,hMM⟩:=hS2.mp
   refine ⟨?_,getH_setH_self _ _ _,⟨c,E,?_,hMM⟩,?_,fun j hj => ?_⟩
   ·rw [Ba _ _ _ _ (by omega)]; exact hS2.i7
   ·rw [Ba _ _ _ _ (by omega)]; exact hEm
   ·rw [Bh]; omega
   ·rw [Ba _ _ _ _ (by omega)]; exact hS2.kp j hj
  refine hS3.other (fun j hj => ?_) ?_
  ·rw [Ba _ _ _ _ (by omega),Ba _ _ _ _ (by omega),Ba _ _ _ _ (by omega)]
  ·simp only [Bh]; omega
 ·rw [Ba _ _ _ _ (by omega),getH_setH_self]
 rintro e3 h3 ⟨v10,v12,hE3,hS3,g10,g12⟩
 simp only [Bz,Dc] at hE3
 obtain ⟨f0,f7,f8,f9,f10,f11,f12,f26,f42,-⟩:=hE3
 have hln3:B+95<=h3.length:=hS3.ln
 obtain ⟨c3,E3,hEm3,hMM3⟩:=hS3.mp
 have i7:=hS3.i7
 by_cases hhas:q.getD w 0>0
 ·have hd:decide (q.getD w 0>0)=true:=decide_eq_true hhas
  rw [hd] at f42
  simp (disch:=first | assumption | omega) only [go_sem,↓reduceIte,f7,f8,f10,f11,f42,g10,hq9,htk,hpa]
  refine A2l hq9 i7 hEm3 hMM3 fun E4 c4 h4 hMM4 hEm4 kp4 ln4 _ => ?_
  simp (disch:=first | assumption | omega) only [go_sem,↓reduceIte]
  refine hP2 _ _ hml ⟨seen++[bb],rfl,by simp only [go_sem,↓reduceIte,f0,f7,f8,f9,f26],hS3.map hEm4 (hMM4.congr fun x => ?_) kp4 ln4⟩
  rw [hmore]
  have:ctr r w (q,nn)=[(q,nn)]:=if_pos hhas
  rw [this,List.mem_singleton]
 have hd:decide (q.getD w 0>0)=false:=decide_eq_false hhas
 rw [hd] at f42
 simp (disch:=first | assumption | omega) only [go_sem,↓reduceIte,f12,f42]
 refine Ee (A3u (.int .i64 r) (By l) (.fmap [] []) q ⟨hq9,hq01⟩) (Nat.le_add_left 1 n) (Dj (Ge g12 (Aca _ _ _ _ _ _ _)) (Dt _)) (Gt _ _ _) ?_
 by_cases hroom:q.sum<r
 ·have hd2:decide (q.sum<r)=true:=decide_eq_true hroom
  simp (disch:=first | assumption | omega) only [go_sem,↓reduceIte,f0,f9,f12,hd2]
  refine Rh g12 (by omega) (by omega) (by simp [hq9]; omega) ?_
  rw [Kt _ _ _ q hq9 (by omega)]
  have hS4:=hS3.other (h':=setH (h3++List.replicate 9 .none) (B+38) (.cells v12 (.int .i64 r::By l::((q.set w 1).map (.int .i64)++[.fmap [] []])))) (fun j hj=>by rw [Ba _ _ _ _ (by omega),Bi]) (by simp only [Bh,List.length_append]; omega)
  have hq9':(q.set w 1).length=9:=by rw [List.length_set,hq9]
  have htk2:((q.set w 1).map (AV.int .i64)++[AV.fmap [] []]).take 9=(q.set w 1).map (.int .i64):=by
   rw [List.take_append_of_le_length (by rw [List.length_map,hq9']; exact Nat.le_refl _),List.take_of_length_le (by rw [List.length_map,hq9']; exact Nat.le_refl _)]
  have hpa2:AV.agg ((q.set w 1).map (.int .i64))=pA (q.set w 1):=rfl
  obtain ⟨c4,E4,hEm4,hMM4⟩:=hS4.mp
  simp (disch:=first | assumption | omega) only [go_sem,↓reduceIte,f8,f11,f12,hq9',htk2,hpa2]
  refine A2l hq9' hS4.i7 hEm4 hMM4 fun E5 c5 h5 hMM5 hEm5 kp5 ln5 _ => ?_
  simp (disch:=first | assumption | omega) only [go_sem,↓reduceIte]
  refine hP2 _ _ hml ⟨seen++[bb],rfl,by simp only [go_sem,↓reduceIte,f0,f7,f8,f9,f26],hS4.map hEm5 (hMM5.congr fun x => ?_) kp5 ln5⟩
  rw [hmore]
  have:ctr r w (q,nn)=[(q.set w 1,nn+1)]:=by simp only [ctr,if_neg hhas,if_pos hroom]
  rw [this,List.mem_singleton]
 have hd2:decide (q.sum<r)=false:=decide_eq_false hroom
 simp (disch:=first | assumption | omega) only [go_sem,↓reduceIte,f0,f9,f12,hd2]
 have hct:ctr r w (q,nn)=awL w (q,nn) 9:=by simp only [ctr,if_neg hhas,if_neg hroom]
 refine Dm (fun M st=>∃a:Nat,M=10-a/\1<=a/\a<=9/\At st.env [(0,.ptr (.int .i64 r::By l::X) 0),(7,.optr (B+7) 0 0),(8,.clo 514 [] [.optr (B+7) 0 0]),(9,.int .i64 (w:Nat)),(10,.optr (B+10) v10 0),(11,.int .i64 nn),(13,.int .i64 a),(26,.iter (B+94) 0)]/\
   SH B mk0 c0 (seen++[bb]) h (fun x=>(∃u∈E0,u.2.2∈seen/\x∈ctr r w (u.1,u.2.1))\/x∈awL w (q,nn) a) st.heap/\Bb st.heap (B+10) = .cells v10 (q.map (.int .i64))) 9 (by omega)
  ⟨1,by omega,by omega,by omega,by simp only [go_sem,↓reduceIte,f0,f7,f8,f9,f10,f11,f26],hS3.congr (fun x=>by simp [awL,awB]),g10⟩ ?_
 rintro M e4 h4 hM4 ⟨a,rfl,ha1,ha9,hE4,hS4,g10⟩ P4 hP4
 simp only [Bz,Dc] at hE4 g10
 obtain ⟨f0,f7,f8,f9,f10,f11,f13,f26,-⟩:=hE4
 have hln4:B+95<=h4.length:=hS4.ln
 by_cases hlt:a<=8
 ·have hlt':(a:Int)<=8:=by omega
  have ha9':a<9:=by omega
  have hqa:q[a]? = some (q.getD a 0):=by
   rw [List.getD_eq_getElem?_getD,List.getElem?_eq_getElem (by omega)]; rfl
  by_cases hx:q.getD a 0>0
  ·have hdx:decide (q.getD a 0>0)=true:=decide_eq_true hx
   have hab:awB q a=true:=by simp only [awB,hdx,decide_eq_true ha1]; rfl
   simp (disch:=first | assumption | omega) only [go_sem,↓reduceIte,f8,f9,f10,f11,f13,g10,hlt',ha9',hqa,hdx,hq9,htk,hpa,hcl,hone,hone2,hsp9]
   refine A1c (getH_setH_self _ _ _) (by simp only [Bh]; omega) ha9' (by simp [hq9]; omega) ?_
   rw [Kt _ _ _ q hq9 ha9']
   simp (disch:=first | assumption | omega) only [go_sem,↓reduceIte,f9]
   have hqs:(q.set a 0).length=9:=by rw [List.length_set,hq9]
   refine Rh (getH_setH_self _ _ _) (by simp only [Bh,List.length_append]; omega) (by omega) (by simp [hq9]; omega) ?_
   rw [Kt _ _ _ (q.set a 0) hqs (by omega)]
   have hq9':((q.set a 0).set w 1).length=9:=by rw [List.length_set,hqs]
   have htk2:(((q.set a 0).set w 1).map (AV.int .i64)++[AV.fmap [] []]).take 9=((q.set a 0).set w 1).map (.int .i64):=by
    rw [List.take_append_of_le_length (by rw [List.length_map,hq9']; exact Nat.le_refl _),List.take_of_length_le (by rw [List.length_map,hq9']; exact Nat.le_refl _)]
   have hpa2:AV.agg (((q.set a 0).set w 1).map (.int .i64))=pA ((q.set a 0).set w 1):=rfl
   simp (disch:=first | assumption | omega) only [go_sem,↓reduceIte,f8,f11,hq9',htk2,hpa2]
   have hoth:∀(o1 o2 o3:AObj) (j:Nat),j≠B+77->Bb (setH (setH (setH h4 (B+77) o1++List.replicate 9 .none) (B+77) o2++List.replicate 9 .none) (B+77) o3) j=Bb h4 j:=fun o1 o2 o3 j hj=>by
    rw [Ba _ _ _ _ (fun h=>hj h.symm),Bi,Ba _ _ _ _ (fun h=>hj h.symm),Bi,Ba _ _ _ _ (fun h=>hj h.symm)]
   have hS5:=fun o1 o2 o3=>hS4.other (h':=setH (setH (setH h4 (B+77) o1++List.replicate 9 .none) (B+77) o2++List.replicate 9 .none) (B+77) o3) (fun j hj=>hoth o1 o2 o3 j (by omega)) (by simp only [Bh,List.length_append]; omega)
   obtain ⟨c5,E5,hEm5,hMM5⟩:=(hS5 _ _ _).mp
   refine A2l hq9' (hS5 _ _ _).i7 hEm5 hMM5 fun E6 c6 h6 hMM6 hEm6 kp6 ln6 _ => ?_
   simp (disch:=first | assumption | omega) only [go_sem,↓reduceIte,f13]
   refine hP4 (10-(a+1)) _ (by omega) ⟨a+1,rfl,by omega,by omega,by simp only [go_sem,↓reduceIte,f0,f7,f8,f9,f10,f11,f26],(hS5 _ _ _).map hEm6 (hMM6.congr fun x => ?_) kp6 ln6,?_⟩
   ·rw [A6c,if_pos hab,List.mem_append,List.mem_singleton,or_assoc]
   ·rw [kp6 _ (by simp only [Bh,List.length_append]; omega) (by omega),hoth _ _ _ _ (by omega)]; exact g10
  ·have hdx:decide (q.getD a 0>0)=false:=decide_eq_false hx
   have hab:awB q a=false:=by simp only [awB,hdx,Bool.and_false]
   simp (disch:=first | assumption | omega) only [go_sem,↓reduceIte,f8,f9,f10,f11,f13,g10,hlt',ha9',hqa,hdx]
   refine hP4 (10-(a+1)) _ (by omega) ⟨a+1,rfl,by omega,by omega,by simp only [go_sem,↓reduceIte,f0,f7,f8,f9,f10,f11,f26],hS4.congr (fun x => ?_),g10⟩
   rw [A6c,hab]
   simp
 ·obtain rfl:a=9:=by omega
  simp (disch:=first | assumption | omega) only [go_sem,↓reduceIte,f13]
  refine hP2 _ _ hml ⟨seen++[bb],rfl,by simp only [go_sem,↓reduceIte,f0,f7,f8,f9,f26],hS4.congr fun x => ?_⟩
  rw [hmore,hct]
end
end Go.Ev.YtbgodhhdojjbmaaGreatC
namespace Go.Ev.YtbgodhhdojjbmaaGreatC
open Go Go.Proofs
abbrev PC:=List Int×Int
def ddC:List PC->List PC
 | []=>[]
 | a::r=>if (ddC r).contains a then ddC r else a::ddC r
theorem Yc (x:PC):∀l:List PC,x∈ddC l↔x∈l
 | []=>Iff.rfl
 | a::r=>by
  unfold ddC
  split
  ·next h =>
   rw [Yc x r,List.mem_cons]
   refine ⟨.inr,fun h' => ?_⟩
   rcases h' with rfl | h'
   ·exact (Yc _ r).1 (by simpa using h)
   ·exact h'
  ·rw [List.mem_cons,List.mem_cons,Yc x r]
def A8z (M:List PC):List PC:=ddC (M.filter fun x=>M.all fun y=>decide (y.1=x.1->x.2<=y.2))
theorem Alv (M:List PC) (q:List Int) (n:Int):(q,n)∈A8z M↔(q,n)∈M/\∀m,(q,m)∈M->n<=m:=by
 rw [A8z,Yc,List.mem_filter,List.all_eq_true]
 refine and_congr_right fun _=>⟨fun h m hm => ?_,fun h y hy=>decide_eq_true fun he => ?_⟩
 ·exact of_decide_eq_true (h _ hm) rfl
 ·obtain ⟨y1,y2⟩:=y
  simp only at he
  subst he
  exact h _ hy
def Ml (r:Int) (w:Nat) (L:List PC):List PC:=A8z (L.flatMap (ctr r w))
structure Rep (L:List PC) (E:List PE) (c:Nat):Prop where
 nd:(E.map (·.1)).Nodup
 bn:(pB E).Nodup
 bc:∀t∈E,t.2.2<c
 l9:L9 E
 iff:∀q n,(∃b,(q,n,b)∈E)↔(q,n)∈L
theorem Azw {P:PC->Prop} {M:List PC} {E:List PE} {c:Nat} (h:MM P E c) (hp:∀x,P x↔x∈M):Rep (A8z M) E c where
 nd:=h.nd
 bn:=h.bn
 bc:=h.bc
 l9:=h.l9
 iff:=fun q n=>by
  rw [Alv]
  constructor
  ·rintro ⟨b,hb⟩
   exact ⟨(hp _).1 (h.val _ hb),fun m hm=>h.least _ hb m ((hp _).2 hm)⟩
  ·rintro ⟨h1,h2⟩
   obtain ⟨t,ht,hq⟩:=List.mem_map.1 (h.mem q n ((hp _).2 h1))
   obtain ⟨q',n',b⟩:=t
   simp only at hq
   subst hq
   have a:=h2 n' ((hp _).1 (h.val _ ht))
   have a':=h.least _ ht n ((hp _).2 h1)
   simp only at a'
   obtain rfl:n=n':=by omega
   exact ⟨b,ht⟩
theorem Rep.congr {L L':List PC} {E:List PE} {c:Nat} (h:Rep L E c) (hl:∀x,x∈L↔x∈L'):Rep L' E c where
 nd:=h.nd
 bn:=h.bn
 bc:=h.bc
 l9:=h.l9
 iff:=fun q n=>(h.iff q n).trans (hl _)
theorem A1k {α:Type} [DecidableEq α]:∀{a b:List α},a.Nodup->(∀x∈a,x∈b)->a.length<=b.length
 | [],b,_,_=>by simp
 | x::r,b,hn,h=>by
  rw [List.nodup_cons] at hn
  have h1:=A1k (a:=r) (b:=b.erase x) hn.2 fun y hy=>by
   refine (List.mem_erase_of_ne ?_).2 (h y (by simp [hy]))
   intro e
   exact hn.1 (e ▸ hy)
  have hx:=h x (by simp)
  rw [List.length_erase_of_mem hx] at h1
  have:=List.length_pos_of_mem hx
  simp only [List.length_cons]
  omega
theorem Rep.len {L:List PC} {E:List PE} {c:Nat} (h:Rep L E c):E.length<=L.length:=by
 have:=A1k (a:=E.map (·.1)) (b:=L.map (·.1)) h.nd fun q hq=>by
  obtain ⟨t,ht,rfl⟩:=List.mem_map.1 hq
  exact List.mem_map.2 ⟨(t.1,t.2.1),(h.iff _ _).1 ⟨t.2.2,ht⟩,rfl⟩
 simpa using this
theorem Rep.mem {L:List PC} {E:List PE} {c:Nat} (h:Rep L E c) {t:PE} (ht:t∈E):(t.1,t.2.1)∈L:=(h.iff _ _).1 ⟨t.2.2,ht⟩
def CV (h:Bc) (v:AV) (L:List PC):Prop:=(v = .fmap [] []/\L=[])\/∃mk c E,v = .omap mk 0/\Bb h mk = .map 0 c (pK E) (pV E) (pB E)/\Rep L E c
theorem CV.keep {h h':Bc} {v:AV} {L:List PC} (hc:CV h v L) (hk:∀j,j<h.length->Bb h' j=Bb h j):CV h' v L:=by
 rcases hc with hc | ⟨mk,c,E,h1,h2,h3⟩
 ·exact .inl hc
 ·exact .inr ⟨mk,c,E,h1,by rw [hk mk (Fm h2 (by simp))]; exact h2,h3⟩
def okL (L:List PC):Bool:=decide (L.length<=1000)&&L.all fun x=>x.1.length==9&&(x.1.all fun a=>a==0||a==1)&&decide (0<=x.2)&&decide (x.2<=1000)
theorem Od {L:List PC} (h:okL L=true):L.length<=1000/\∀x∈L,Pl x.1/\0<=x.2/\x.2<=1000:=by
 simp only [okL,Bool.and_eq_true,decide_eq_true_eq,List.all_eq_true,beq_iff_eq,Bool.or_eq_true] at h
 refine ⟨h.1,fun x hx => ?_⟩
 obtain ⟨⟨⟨a,b⟩,c⟩,d⟩:=h.2 x hx
 exact ⟨⟨a,b⟩,c,d⟩
attribute [local irreducible] Res.all evC Do Dr Bv Bd Dw Bg Bj G GO GV GP GC R
section
variable {n base:Nat} {Q:EX×St->Prop} {d:Option Nat} {L:List IOper} {ks:List Kont} {e:Env} {h:Bc}
theorem Alg {r:Int} {l:List Nat} {X:List AV} {i:Nat} (hi:i<l.length)
  (hq:∀mk h',mk<h'.length->Bb h' mk = .map 0 0 [] [] []->(∀j,j<h.length->Bb h' j=Bb h j)->h.length<=h'.length->GO (Bg T (n+2)) base Q L ks ⟨Bk e d (.omap mk 0),h'⟩) :
  GP (Bg T (n+2)) base Q d L ks e (Bg T (n+2) true (.fn 485) [.ptr (.int .i64 r::By l::X) 0,.fmap [] [],.int .i64 (i:Nat)] h):=by
 refine Gi ?_
 rw [Ew t485]
 have hget:(l.map fun n:Nat=>AV.int .i64 n)[i]? = some (.int .i64 (l.getD i 0:Nat)):=by
  rw [List.getElem?_map,List.getD_eq_getElem?_getD,List.getElem?_eq_getElem hi]; rfl
 have hn7:=Gv h 93 7
 have hn93:Bb (h++List.replicate 93 .none) (h.length+93) = .none:=Eh _ _ (by simp)
 generalize hB:h.length=B at *
 simp (disch:=first | assumption | omega) only [c485,go_sem,↓reduceIte,hget,hB,hn7,hn93]
 refine Arp (B+94) (by simp only [Bh,List.length_append,List.length_replicate,hB]; omega) ?_
 simp (disch:=first | assumption | omega) only [go_sem,↓reduceIte]
 refine Ls fun P => ?_
 simp (disch:=first | assumption | omega) only [go_sem,↓reduceIte,Bw]
 refine Awz (getH_setH_self _ _ _) ?_
 simp (disch:=first | assumption | omega) only [go_sem,↓reduceIte,Gf,mapR]
 refine hq (B+93) _ ?_ ?_ (fun j hj => ?_) ?_
 ·simp only [Bh,List.length_append,List.length_replicate,hB]; omega
 ·rw [Ba _ _ _ _ (by omega),Ba _ _ _ _ (by omega),Ba _ _ _ _ (by omega),getH_setH_self]
 ·rw [Ba _ _ _ _ (by omega),Ba _ _ _ _ (by omega),Ba _ _ _ _ (by omega),Ba _ _ _ _ (by omega),Bi]
 ·simp only [Bh,List.length_append,List.length_replicate,hB]; omega
theorem Xx {r:Int} {l:List Nat} {X:List AV} {i:Nat} {cv:AV} {L0:List PC} (hi:i<l.length) (hll:l.length<=16) (hw:1<=l.getD i 0/\l.getD i 0<=8) (hcv:CV h cv L0) (hok:okL L0=true)
  (hq:∀v h',CV h' v (Ml r (l.getD i 0) L0)->(∀j,j<h.length->Bb h' j=Bb h j)->h.length<=h'.length->GO (Bg T (n+2)) base Q L ks ⟨Bk e d v,h'⟩) :
  GP (Bg T (n+2)) base Q d L ks e (Bg T (n+2) true (.fn 485) [.ptr (.int .i64 r::By l::X) 0,cv,.int .i64 (i:Nat)] h):=by
 obtain ⟨h1,h2⟩:=Od hok
 rcases hcv with ⟨rfl,rfl⟩ | ⟨mk,c,E,rfl,hm,hR⟩
 ·refine Alg hi fun mk h' hmk hm kp ln=>hq _ _ (.inr ⟨mk,0,[],rfl,hm,?_⟩) kp ln
  exact ⟨by simp,by simp [pB],by simp,by simp [L9],fun q n=>by simp [Ml,A8z,ddC]⟩
 ·refine Alf hi hll hw hm hR.bn hR.bc (fun t ht=>h2 _ (hR.mem ht)) (Nat.le_trans hR.len h1) fun mk' c' E' h' hmk hm' hM kp ln=>hq _ _ (.inr ⟨mk',c',E',rfl,hm',Azw hM fun x => ?_⟩) kp ln
  rw [List.mem_flatMap]
  constructor
  ·rintro ⟨u,hu,hx⟩
   exact ⟨_,hR.mem hu,hx⟩
  ·rintro ⟨⟨q,m⟩,hu,hx⟩
   obtain ⟨b,hb⟩:=(hR.iff q m).2 hu
   exact ⟨_,hb,hx⟩
end
end Go.Ev.YtbgodhhdojjbmaaGreatC
namespace Go.Ev.YtbgodhhdojjbmaaGreatC
open Go Go.Proofs
def Aec (w:Nat) (L:List PC):List PC:=L.filter fun x=>decide (x.1.getD w 0>0)
def Ael (w:Nat) (L:List PC):List PC:=L.filter fun x => !decide (x.1.getD w 0>0)
def zer9:List Int:=[0,0,0,0,0,0,0,0,0]
def kst:Nat->List PC×List PC
 | 0=>([(zer9,0)],[])
 | k+1=>if k=4 then (Ml 3 (wW.getD 4 0) (Aec (wW.getD 4 0) (kst k).1),Ml 3 (wW.getD 4 0) (Ael (wW.getD 4 0) (kst k).1))
  else (Ml 3 (wW.getD k 0) (kst k).1,Ml 3 (wW.getD k 0) (kst k).2)
def Sj (L:List PC):Int:=L.foldl (fun a x=>if x.2<a then x.2 else a) 1000
theorem Ahz:((List.range 13).all fun k=>okL (kst k).1&&okL (kst k).2)=true:=by kernel_rfl
theorem Arv:(okL (Aec (wW.getD 4 0) (kst 4).1)&&okL (Ael (wW.getD 4 0) (kst 4).1))=true:=by kernel_rfl
theorem Aru:(decide (Sj (kst 12).1<Sj (kst 12).2) && !(kst 12).1.isEmpty && !(kst 12).2.isEmpty)=true:=by kernel_rfl
theorem Acj:∀(L:List PC) (a:Int),(L.foldl (fun a x=>if x.2<a then x.2 else a) a<=a/\∀x∈L,L.foldl (fun a x=>if x.2<a then x.2 else a) a<=x.2)/\(L.foldl (fun a x=>if x.2<a then x.2 else a) a=a\/∃x∈L,L.foldl (fun a x=>if x.2<a then x.2 else a) a=x.2)
 | [],a=>by simp
 | y::r,a=>by
  obtain ⟨⟨h1,h2⟩,h3⟩:=Acj r (if y.2<a then y.2 else a)
  rw [List.foldl_cons]
  generalize List.foldl (fun a x=>if x.2<a then x.2 else a) (if y.2<a then y.2 else a) r=m at *
  refine ⟨⟨?_,fun x hx => ?_⟩,?_⟩
  ·split at h1 <;> omega
  ·rcases List.mem_cons.1 hx with rfl | hx
   ·split at h1 <;> omega
   ·exact h2 x hx
  ·rcases h3 with h3 | ⟨x,hx,h3⟩
   ·split at h3
    ·exact .inr ⟨y,by simp,h3⟩
    ·exact .inl h3
   ·exact .inr ⟨x,by simp [hx],h3⟩
structure Mn (E:List PE) (seen:List Nat) (v:Int):Prop where
 le:v<=1000
 all:∀t∈E,t.2.2∈seen->v<=t.2.1
 one:v=1000\/∃t∈E,v=t.2.1
theorem Mn.next {E:List PE} {seen:List Nat} {v:Int} {t:PE} (hn:(pB E).Nodup) (ht:t∈E) (h:Mn E seen v):Mn E (seen++[t.2.2]) (if t.2.1<v then t.2.1 else v) where
 le:=by have:=h.le; split <;> omega
 all:=fun u hu hs=>by
  rcases List.mem_append.1 hs with hs | hs
  ·have:=h.all u hu hs
   split <;> omega
  ·obtain rfl:=A8k hn hu ht (by simpa using hs)
   split <;> omega
 one:=by
  split
  ·exact .inr ⟨t,ht,rfl⟩
  ·exact h.one
theorem Mn.eq {L:List PC} {E:List PE} {c:Nat} {seen:List Nat} {v:Int} (hR:Rep L E c) (h:Mn E seen v) (hall:∀t∈E,t.2.2∈seen):v=Sj L:=by
 obtain ⟨⟨a1,a2⟩,a3⟩:=Acj L 1000
 have hle:Sj L<=v:=by
  rcases h.one with h1 | ⟨t,ht,h1⟩
  ·rw [h1]; exact a1
  ·rw [h1]; exact a2 _ (hR.mem ht)
 have hge:v<=Sj L:=by
  rcases a3 with a3 | ⟨x,hx,a3⟩
  ·have:Sj L=1000:=a3
   rw [this]; exact h.le
  ·obtain ⟨q,m⟩:=x
   obtain ⟨b,hb⟩:=(hR.iff q m).2 hx
   have:Sj L=m:=a3
   rw [this]
   exact h.all _ hb (hall _ hb)
 omega
theorem Agh:∀k,k<12->1<=wW.getD k 0/\wW.getD k 0<=8:=by decide
theorem A7h:((kst 4).1.isEmpty=false)/\((kst 12).1.isEmpty=false)/\((kst 12).2.isEmpty=false):=⟨by kernel_rfl,by kernel_rfl,by kernel_rfl⟩
theorem CV.map {h:Bc} {v:AV} {L:List PC} (hc:CV h v L) (hl:L.isEmpty=false):∃mk c E,v = .omap mk 0/\Bb h mk = .map 0 c (pK E) (pV E) (pB E)/\Rep L E c:=by
 rcases hc with ⟨_,rfl⟩ | hc
 ·cases hl
 ·exact hc
theorem Ahy {E:List PE} (hn:(E.map (·.1)).Nodup) {u t:PE} (hu:u∈E) (ht:t∈E) (h:u.1=t.1):u=t:=by
 induction E with
 | nil=>cases hu
 | cons a r ih =>
  simp only [List.map_cons,List.nodup_cons] at hn
  rcases List.mem_cons.1 hu with hu' | hu' <;> rcases List.mem_cons.1 ht with ht' | ht'
  ·rw [hu',ht']
  ·exact absurd (List.mem_map.2 ⟨t,ht',by rw [<-hu']; exact h.symm⟩) hn.1
  ·exact absurd (List.mem_map.2 ⟨u,hu',by rw [<-ht']; exact h⟩) hn.1
  ·exact ih hn.2 hu' ht'
theorem Acx {L:List PC} {E:List PE} {c:Nat} (hR:Rep L E c) (p:List Int->Bool) {P:PC->Prop} {E1:List PE} {c1:Nat} (hM:MM P E1 c1) (hP:∀x,P x↔∃u∈E,p u.1=true/\x=(u.1,u.2.1)):Rep (L.filter fun x=>p x.1) E1 c1 where
 nd:=hM.nd
 bn:=hM.bn
 bc:=hM.bc
 l9:=hM.l9
 iff:=fun q n=>by
  rw [List.mem_filter]
  constructor
  ·rintro ⟨b,hb⟩
   obtain ⟨u,hu,hp,he⟩:=(hP _).1 (hM.val _ hb)
   simp only at he
   rw [he]
   exact ⟨hR.mem hu,hp⟩
  ·rintro ⟨h1,h2⟩
   obtain ⟨b,hb⟩:=(hR.iff q n).2 h1
   have hpq:P (q,n):=(hP _).2 ⟨_,hb,h2,rfl⟩
   obtain ⟨t,ht,hq⟩:=List.mem_map.1 (hM.mem q n hpq)
   obtain ⟨q',n',b'⟩:=t
   simp only at hq
   subst hq
   obtain ⟨u,hu,_,he⟩:=(hP _).1 (hM.val _ ht)
   simp only at he
   have hu1:u=(q',n,b):=Ahy hR.nd hu hb (Prod.mk.inj he).1.symm
   have:n'=n:=by rw [(Prod.mk.inj he).2,hu1]
   exact ⟨b',this ▸ ht⟩
structure KI (A mk c:Nat) (E:List PE) (h0:Bc) (seen:List Nat) (h:Bc):Prop where
 it:Bb h (A+2) = .iter 0 mk 0 c seen c
 he:∃c1 E1,Bb h A = .map 0 c1 (pK E1) (pV E1) (pB E1)/\MM (fun x=>∃u∈E,u.2.2∈seen/\(decide (u.1.getD 1 0>0)=true/\x=(u.1,u.2.1))) E1 c1
 go:∃c1 E1,Bb h (A+1) = .map 0 c1 (pK E1) (pV E1) (pB E1)/\MM (fun x=>∃u∈E,u.2.2∈seen/\((!decide (u.1.getD 1 0>0))=true/\x=(u.1,u.2.1))) E1 c1
 ln:A+3<=h.length
 kp:∀j,j<A->j≠11->Bb h j=Bb h0 j
theorem A7x {E:List PE} {seen:List Nat} {p:List Int->Bool} {E1:List PE} {c1:Nat} (hM:MM (fun x=>∃u∈E,u.2.2∈seen/\(p u.1=true/\x=(u.1,u.2.1))) E1 c1) (hn:(E.map (·.1)).Nodup) {t:PE} (ht:t∈E) (hs:t.2.2∉seen):t.1∉E1.map (·.1):=fun hm=>by
 obtain ⟨t',ht',he⟩:=List.mem_map.1 hm
 obtain ⟨u,hu,hus,_,hx⟩:=hM.val _ ht'
 have:u=t:=Ahy hn hu ht ((Prod.mk.inj hx).1.symm.trans he)
 exact hs (this ▸ hus)
attribute [local irreducible] Res.all evC Do Dr Bv Bd Dw Bg Bj G GO GV GP GC R
theorem Ze {call:Bf} {base:Nat} {Q:EX×St->Prop} {d:Option Nat} {L:List IOper} {ks:List Kont} {e:Env} {h:Bc} {E:List PE} {key c:Nat} {q:List Int} {n:Int} (hH:Bb h key = .map 0 c (pK E) (pV E) (pB E)) (h9:L9 E) (hl:q.length=9) (hno:q∉E.map (·.1))
  (hq:GO call base Q L ks ⟨Bk e d .undef,setH h key (.map 0 (c+1) (pK (E++[(q,n,c)])) (pV (E++[(q,n,c)])) (pB (E++[(q,n,c)])))⟩):GP call base Q d L ks e (muA (some 9) h (pA q) (.int .i64 n) (.omap key 0)):=by
 rw [Ack hH h9 hl hno,Iy]
 exact hq
structure KS (X:List AV) (k:Nat) (e:Env) (h:Bc):Prop where
 hk:k<=12
 en:∃cv fv,At e [(0,.ptr (.int .i64 3::By wW::X) 0),(1,.int .i64 4),(5,.optr 5 0 0),(6,cv),(7,fv),(28,By wW),(29,.int .i64 12),(30,.int .i64 k)]/\CV h cv (kst k).1/\CV h fv (kst k).2
 h5:Bb h 5 = .cells 0 [.int .i64 1000,.int .i64 1000]
 h11:k<=4->Bb h 11 = .none
 ln:114<=h.length
theorem Akh:Con T 4 425 [Ks 3 wW,.int .i64 4] (.int .i64 0):=by
 refine Dd t425 fun n hn V hV => ?_
 obtain ⟨n,rfl⟩:∃m,n=m+2:=⟨n-2,by omega⟩
 obtain ⟨X,hX⟩:∃X,X=z9++[.fmap (eK (paE wW)) (eV (paE wW))]:=⟨_,rfl⟩
 have hb:Ks 3 wW = .ptr (.int .i64 3::By wW::X) 0:=by rw [hX]; rfl
 rw [hb]
 have hXt:X.take 9=zer9.map (.int .i64):=by rw [hX]; rfl
 have hXl:X.length=10:=by rw [hX]; rfl
 have hpa:AV.agg (zer9.map (.int .i64))=pA zer9:=rfl
 have hwl:wW.length=12:=rfl
 simp (disch:=first | assumption | omega) only [c425,go_sem,↓reduceIte,hXt,hXl,hpa]
 refine Ze (E:=[]) (c:=0) (getH_setH_self _ _ _) (by simp [L9]) rfl (by simp) ?_
 refine Xv (fun e h=>At e [(0,.ptr (.int .i64 3::By wW::X) 0),(1,.int .i64 4),(5,.optr 5 0 0),(18,.omap 113 0)]/\Bb h 113 = .map 0 1 (pK [(zer9,0,0)]) (pV [(zer9,0,0)]) (pB [(zer9,0,0)])/\Bb h 5 = .cells 0 [.int .i64 1000,.int .i64 1000]/\Bb h 11 = .none/\114<=h.length) ⟨by simp only [go_sem,↓reduceIte],getH_setH_self _ _ _,?_,?_,?_⟩ ?_
 ·rw [Ba _ _ _ _ (by omega),Ba _ _ _ _ (by omega),getH_setH_self]
 ·rw [Ba _ _ _ _ (by omega),Ba _ _ _ _ (by omega),Ba _ _ _ _ (by omega),Ba _ _ _ _ (by omega),Lp]
 ·simp only [Bh,List.length_replicate]; omega
 rintro e h ⟨hE,g113,g5,g11,hln⟩
 simp only [Bz,Dc] at hE
 obtain ⟨f0,f1,f5,f18,-⟩:=hE
 simp (disch:=first | assumption | omega) only [go_sem,↓reduceIte,f0,f18,hwl]
 refine Dm (fun M st=>∃k:Nat,M=12-k/\KS X k st.env st.heap) 12 (by omega) ⟨0,rfl,by omega,⟨.omap 113 0,.fmap [] [],by simp only [go_sem,↓reduceIte,f0,f1,f5],.inr ⟨113,1,_,rfl,g113,?_⟩,.inl ⟨rfl,rfl⟩⟩,g5,fun _=>g11,hln⟩ ?_
 ·exact ⟨by simp,by simp [pB],by simp,by simp [L9,zer9],fun q m=>by simp [kst]⟩
 rintro M e h hM ⟨k,rfl,hS⟩ P hP
 obtain ⟨hk,⟨cv,fv,hE,hC,hF⟩,g5,g11,hln⟩:=hS
 simp only [Bz,Dc] at hE g5 g11 hln
 obtain ⟨f0,f1,f5,f6,f7,f28,f29,f30,-⟩:=hE
 by_cases hlt:k<12
 ·have hlt':(k:Int)<12:=by omega
  have hok:=List.all_eq_true.1 Ahz k (List.mem_range.2 (by omega))
  simp only [Bool.and_eq_true] at hok
  by_cases h4:k=4
  ·subst h4
   obtain ⟨mk,c,E,rfl,hm,hR⟩:=hC.map A7h.1
   have lmk:=Fm hm (by simp)
   have mk11:mk≠11:=fun h=>by rw [h,g11 (by omega)] at hm; cases hm
   have mk5:mk≠5:=fun h=>by rw [h,g5] at hm; cases hm
   have hokE:=(Od hok.1).2
   have gn0:Bb h h.length = .none:=Eh _ _ (Nat.le_refl _)
   have gn1:Bb h (h.length+1) = .none:=Eh _ _ (by omega)
   have eq4:((4:Int)==4)=true:=rfl
   generalize hA:h.length=A at *
   have hmx:max A (A+1)=A+1:=by omega
   have na:¬(A=A+1):=by omega
   simp (disch:=first | assumption | omega) only [go_sem,↓reduceIte,f0,f1,f5,f6,f7,f28,f29,f30,hlt',eq4,hA,hmx,gn0,gn1,na]
   refine Wl (c:=c) (ks:=pK E) (vs:=pV E) (bs:=pB E) (A+2) ?_ ?_ ?_
   ·simp only [Bh,hA]; omega
   ·rw [Ba _ _ _ _ (by omega),Ba _ _ _ _ (by omega),hm]
   refine Xv (fun e h'=>At e [(0,.ptr (.int .i64 3::By wW::X) 0),(1,.int .i64 4),(5,.optr 5 0 0),(8,.int .i64 4),(9,.omap A 0),(10,.omap (A+1) 0),(28,By wW),(29,.int .i64 12),(30,.int .i64 4),(39,.iter (A+2) 0)]/\KI A mk c E h [] h') ⟨by simp only [go_sem,↓reduceIte,f0,f1,f5,f28,f29,f30],?_⟩ ?_
   ·refine ⟨getH_setH_self _ _ _,⟨0,[],?_,MM.nil.congr fun q=>by simp⟩,⟨0,[],?_,MM.nil.congr fun q=>by simp⟩,?_,fun j hj _ => ?_⟩
    ·rw [Ba _ _ _ _ (by omega),Ba _ _ _ _ (by omega),getH_setH_self]; rfl
    ·rw [Ba _ _ _ _ (by omega),getH_setH_self]; rfl
    ·simp only [Bh,hA]; omega
    ·rw [Ba _ _ _ _ (by omega),Ba _ _ _ _ (by omega),Ba _ _ _ _ (by omega)]
   rintro e2 h2 ⟨hE2,hI2⟩
   simp only [Bz,Dc] at hE2
   obtain ⟨f0,f1,f5,f8,f9,f10,f28,f29,f30,f39,-⟩:=hE2
   simp (disch:=first | assumption | omega) only [go_sem,↓reduceIte]
   refine Dm (fun M st=>∃seen:List Nat,M=(E.filter fun t => !seen.contains t.2.2).length/\At st.env [(0,.ptr (.int .i64 3::By wW::X) 0),(1,.int .i64 4),(5,.optr 5 0 0),(8,.int .i64 4),(9,.omap A 0),(10,.omap (A+1) 0),(28,By wW),(29,.int .i64 12),(30,.int .i64 4),(39,.iter (A+2) 0)]/\KI A mk c E h seen st.heap)
    E.length (by have:=hR.len; have:=(Od hok.1).1; omega) ⟨[],by rw [List.filter_eq_self.2 (by simp)],by simp only [go_sem,↓reduceIte,f0,f1,f5,f8,f9,f10,f28,f29,f30,f39],hI2⟩ ?_
   clear f0 f1 f5 f8 f9 f10 f28 f29 f30 f39
   rintro M e3 h3 hM3 ⟨seen,rfl,hE3,hI3⟩ P3 hP3
   simp only [Bz,Dc] at hE3
   obtain ⟨f0,f1,f5,f8,f9,f10,f28,f29,f30,f39,-⟩:=hE3
   have hln3:A+3<=h3.length:=hI3.ln
   have hmk3:Bb h3 mk = .map 0 c (pK E) (pV E) (pB E):=by rw [hI3.kp mk lmk mk11,hm]
   obtain ⟨c1,E1,m1,M1⟩:=hI3.he
   obtain ⟨c2,E2,m2,M2⟩:=hI3.go
   simp (disch:=first | assumption | omega) only [go_sem,↓reduceIte,Bw,f39]
   refine Sc hI3.it hmk3 hR.bc (fun hall => ?_) (fun t ht hnt => ?_)
   ·have R1:Rep (Aec (wW.getD 4 0) (kst 4).1) E1 c1:=Acx hR (fun q=>decide (q.getD 1 0>0)) M1 fun x=>⟨fun ⟨u,a,_,b⟩=>⟨u,a,b⟩,fun ⟨u,a,b⟩=>⟨u,a,hall u a,b⟩⟩
    have R2:Rep (Ael (wW.getD 4 0) (kst 4).1) E2 c2:=Acx hR (fun q => !decide (q.getD 1 0>0)) M2 fun x=>⟨fun ⟨u,a,_,b⟩=>⟨u,a,b⟩,fun ⟨u,a,b⟩=>⟨u,a,hall u a,b⟩⟩
    have hok4:=Arv
    simp only [Bool.and_eq_true] at hok4
    have hst:kst (4+1)=(Ml 3 (wW.getD 4 0) (Aec (wW.getD 4 0) (kst 4).1),Ml 3 (wW.getD 4 0) (Ael (wW.getD 4 0) (kst 4).1)):=by rw [kst,if_pos rfl]
    simp (disch:=first | assumption | omega) only [go_sem,↓reduceIte,f0,f8,f9]
    refine Xx (i:=4) (by decide) (by decide) (Agh 4 (by omega)) (.inr ⟨A,c1,E1,rfl,m1,R1⟩) hok4.1 fun v h4 hC4 kp4 ln4 => ?_
    simp (disch:=first | assumption | omega) only [go_sem,↓reduceIte,f0,f8,f10]
    refine Xx (i:=4) (by decide) (by decide) (Agh 4 (by omega)) (.inr ⟨A+1,c2,E2,rfl,by rw [kp4 _ (by omega)]; exact m2,R2⟩) hok4.2 fun v2 h5 hC5 kp5 ln5 => ?_
    simp (disch:=first | assumption | omega) only [go_sem,↓reduceIte,f30]
    refine hP (12-5) _ (by omega) ⟨5,rfl,by omega,⟨v,v2,by simp only [go_sem,↓reduceIte,f0,f1,f5,f28,f29]; rfl,?_,?_⟩,?_,fun hk4=>by omega,?_⟩
    ·rw [hst]; exact hC4.keep kp5
    ·rw [hst]; exact hC5
    ·rw [kp5 _ (by omega),kp4 _ (by omega),hI3.kp _ (by omega) (by omega)]; exact g5
    ·simp only; omega
   obtain ⟨q,nn,bb⟩:=t
   obtain ⟨⟨hq9,hq01⟩,hn0,hn1⟩:=hokE _ (hR.mem ht)
   simp only at hnt hq9 hn0 hn1
   have hen:enA (setH h3 (A+2) (.iter 0 mk 0 c (seen++[bb]) c)) (.iter (A+2) 0) = .ret (.tuple [pA q,.int .i64 nn]):=
    A0l (t:=(q,nn,bb)) (getH_setH_self _ _ _) (by rw [Ba _ _ _ _ (by omega)]; exact hmk3) hR.bn ht
   have hml:=Yb ht hnt
   have hcl:(pA q).cells=q.map (.int .i64):=rfl
   have hpa2:AV.agg (q.map (.int .i64))=pA q:=rfl
   have htk:(q.map (AV.int .i64)).take 9=q.map (.int .i64):=List.take_of_length_le (by simp [hq9])
   have hone:=Iu .i64 q
   have hsp0:=spl0 q hq9
   have hg4:wW[4]? = some 1:=rfl
   have as4:Df (.int .i64 4)=some 4:=rfl
   have hq1:q[1]? = some (q.getD 1 0):=by
    rw [List.getD_eq_getElem?_getD,List.getElem?_eq_getElem (by omega)]; rfl
   have hmore1:=fun x=>Xa (seen:=seen) hR.bn ht (fun u x=>decide (u.1.getD 1 0>0)=true/\x=(u.1,u.2.1)) x
   have hmore2:=fun x=>Xa (seen:=seen) hR.bn ht (fun u x=>(!decide (u.1.getD 1 0>0))=true/\x=(u.1,u.2.1)) x
   simp only at hmore1 hmore2
   have l9:(1:Nat)<9:=by omega
   have hfr1:=A7x (p:=fun q=>decide (q.getD 1 0>0)) M1 hR.nd ht hnt
   have hfr2:=A7x (p:=fun q => !decide (q.getD 1 0>0)) M2 hR.nd ht hnt
   simp only at hfr1 hfr2
   by_cases hx:q.getD 1 0>0
   ·have hd:decide (q.getD 1 0>0)=true:=decide_eq_true hx
    simp (disch:=first | assumption | omega) only [go_sem,↓reduceIte,Bw,f0,f8,f9,f39,hen,hcl,hone,hq9,hsp0,htk,hpa2,as4,hg4,hq1,hd]
    refine Ze (E:=E1) (c:=c1) (by rw [Ba _ _ _ _ (by omega),Ba _ _ _ _ (by omega),Ba _ _ _ _ (by omega)]; exact m1) M1.l9 hq9 hfr1 ?_
    simp (disch:=first | assumption | omega) only [go_sem,↓reduceIte]
    refine hP3 _ _ hml ⟨seen++[bb],rfl,by simp only [go_sem,↓reduceIte,f0,f1,f5,f8,f9,f10,f28,f29,f30,f39],?_⟩
    refine ⟨?_,⟨_,_,getH_setH_self _ _ _,(M1.new (n:=nn) hq9 hfr1).congr fun x => ?_⟩,⟨c2,E2,?_,M2.congr fun x => ?_⟩,?_,fun j hj hne => ?_⟩
    ·rw [Ba _ _ _ _ (by omega),Ba _ _ _ _ (by omega),Ba _ _ _ _ (by omega),getH_setH_self]
    ·rw [hmore1]; simp only [hd,Bool.not_true,Bool.not_false,Bool.false_eq_true,true_and,false_and,or_false]
    ·rw [Ba _ _ _ _ (by omega),Ba _ _ _ _ (by omega),Ba _ _ _ _ (by omega),Ba _ _ _ _ (by omega)]; exact m2
    ·rw [hmore2]; simp only [hd,Bool.not_true,Bool.not_false,Bool.false_eq_true,true_and,false_and,or_false]
    ·simp only [Bh]; omega
    ·rw [Ba _ _ _ _ (by omega),Ba _ _ _ _ (by omega),Ba _ _ _ _ (by omega),Ba _ _ _ _ (by omega)]; exact hI3.kp j hj hne
   ·have hd:decide (q.getD 1 0>0)=false:=decide_eq_false hx
    simp (disch:=first | assumption | omega) only [go_sem,↓reduceIte,Bw,f0,f8,f10,f39,hen,hcl,hone,hq9,hsp0,htk,hpa2,as4,hg4,hq1,hd]
    refine Ze (E:=E2) (c:=c2) (by rw [Ba _ _ _ _ (by omega),Ba _ _ _ _ (by omega),Ba _ _ _ _ (by omega)]; exact m2) M2.l9 hq9 hfr2 ?_
    simp (disch:=first | assumption | omega) only [go_sem,↓reduceIte]
    refine hP3 _ _ hml ⟨seen++[bb],rfl,by simp only [go_sem,↓reduceIte,f0,f1,f5,f8,f9,f10,f28,f29,f30,f39],?_⟩
    refine ⟨?_,⟨c1,E1,?_,M1.congr fun x => ?_⟩,⟨_,_,getH_setH_self _ _ _,(M2.new (n:=nn) hq9 hfr2).congr fun x => ?_⟩,?_,fun j hj hne => ?_⟩
    ·rw [Ba _ _ _ _ (by omega),Ba _ _ _ _ (by omega),Ba _ _ _ _ (by omega),getH_setH_self]
    ·rw [Ba _ _ _ _ (by omega),Ba _ _ _ _ (by omega),Ba _ _ _ _ (by omega),Ba _ _ _ _ (by omega)]; exact m1
    ·rw [hmore1]; simp only [hd,Bool.not_true,Bool.not_false,Bool.false_eq_true,true_and,false_and,or_false]
    ·rw [hmore2]; simp only [hd,Bool.not_true,Bool.not_false,Bool.false_eq_true,true_and,false_and,or_false]
    ·simp only [Bh]; omega
    ·rw [Ba _ _ _ _ (by omega),Ba _ _ _ _ (by omega),Ba _ _ _ _ (by omega),Ba _ _ _ _ (by omega)]; exact hI3.kp j hj hne
  ·have hne:((k:Int)==4)=false:=by simp; omega
   have hst:kst (k+1)=(Ml 3 (wW.getD k 0) (kst k).1,Ml 3 (wW.getD k 0) (kst k).2):=by rw [kst,if_neg h4]
   simp (disch:=first | assumption | omega) only [go_sem,↓reduceIte,f0,f1,f5,f6,f7,f28,f29,f30,hlt',hne]
   refine Xx (by omega) (by decide) (Agh k hlt) hC hok.1 fun v h2 hC2 kp2 ln2 => ?_
   simp (disch:=first | assumption | omega) only [go_sem,↓reduceIte,f0,f7]
   refine Xx (by omega) (by decide) (Agh k hlt) (hF.keep kp2) hok.2 fun v2 h3 hF3 kp3 ln3 => ?_
   simp (disch:=first | assumption | omega) only [go_sem,↓reduceIte,f30]
   refine hP (12-(k+1)) _ (by omega) ⟨k+1,rfl,by omega,⟨v,v2,by simp only [go_sem,↓reduceIte,f0,f1,f5,f28,f29],?_,?_⟩,?_,fun hk4 => ?_,?_⟩
   ·rw [hst]; exact hC2.keep kp3
   ·rw [hst]; exact hF3
   ·rw [kp3 _ (by omega),kp2 _ (by omega)]; exact g5
   ·rw [kp3 _ (by omega),kp2 _ (by omega)]; exact g11 (by omega)
   ·simp only; omega
 ·obtain rfl:k=12:=by omega
  obtain ⟨mk,c,E,rfl,hm,hR⟩:=hC.map A7h.2.1
  obtain ⟨mk2,c2,E2,rfl,hm2,hR2⟩:=hF.map A7h.2.2
  have lmk:=Fm hm (by simp)
  have lmk2:=Fm hm2 (by simp)
  have mk5:mk≠5:=fun h=>by rw [h,g5] at hm; cases hm
  have mk25:mk2≠5:=fun h=>by rw [h,g5] at hm2; cases hm2
  have hok:=List.all_eq_true.1 Ahz 12 (List.mem_range.2 (by omega))
  simp only [Bool.and_eq_true] at hok
  have hEl:E.length<1152921504606846976:=by have:=hR.len; have:=(Od hok.1).1; omega
  have hEl2:E2.length<1152921504606846976:=by have:=hR2.len; have:=(Od hok.2).1; omega
  generalize hA:h.length=A at *
  simp (disch:=first | assumption | omega) only [go_sem,↓reduceIte,f6,f29,f30]
  refine Wl (c:=c) (ks:=pK E) (vs:=pV E) (bs:=pB E) A hA hm ?_
  simp (disch:=first | assumption | omega) only [go_sem,↓reduceIte]
  refine Dm (fun M st=>∃(seen:List Nat) (v:Int),M=(E.filter fun t => !seen.contains t.2.2).length/\At st.env [(5,.optr 5 0 0),(7,.omap mk2 0),(80,.iter A 0)]/\Bb st.heap 5 = .cells 0 [.int .i64 v,.int .i64 1000]/\Bb st.heap A = .iter 0 mk 0 c seen c/\(∀j,j<A->j≠5->Bb st.heap j=Bb h j)/\st.heap.length=A+1/\Mn E seen v) E.length hEl
   ⟨[],1000,by rw [List.filter_eq_self.2 (by simp)],by simp only [go_sem,↓reduceIte,f5,f7],by rw [Ba _ _ _ _ (by omega)]; exact g5,getH_setH_self _ _ _,fun j hj _=>by rw [Ba _ _ _ _ (by omega)],by simp only [Bh,hA]; omega,⟨by omega,fun t _ h=>(List.not_mem_nil h).elim,Or.inl rfl⟩⟩ ?_
  rintro M e2 h2 hM2 ⟨seen,v,rfl,hE2,g52,gi2,kp2,ln2,hmn⟩ P2 hP2
  simp only [Bz,Dc] at hE2 g52 gi2 ln2
  obtain ⟨f5,f7,f80,-⟩:=hE2
  simp (disch:=first | assumption | omega) only [go_sem,↓reduceIte,Bw,f80]
  have hmE:Bb h2 mk = .map 0 c (pK E) (pV E) (pB E):=by rw [kp2 mk lmk mk5,hm]
  refine Sc gi2 hmE hR.bc (fun hall => ?_) (fun t ht hnt => ?_)
  ·have hv:=hmn.eq hR hall
   subst hv
   simp (disch:=first | assumption | omega) only [go_sem,↓reduceIte,f7]
   refine Wl (c:=c2) (ks:=pK E2) (vs:=pV E2) (bs:=pB E2) (A+1) ln2 (by rw [kp2 mk2 lmk2 mk25]; exact hm2) ?_
   simp (disch:=first | assumption | omega) only [go_sem,↓reduceIte]
   refine Dm (fun M st=>∃(seen:List Nat) (v:Int),M=(E2.filter fun t => !seen.contains t.2.2).length/\At st.env [(5,.optr 5 0 0),(91,.iter (A+1) 0)]/\Bb st.heap 5 = .cells 0 [.int .i64 (Sj (kst 12).1),.int .i64 v]/\Bb st.heap (A+1) = .iter 0 mk2 0 c2 seen c2/\(∀j,j<A->j≠5->Bb st.heap j=Bb h j)/\Mn E2 seen v) E2.length hEl2
    ⟨[],1000,by rw [List.filter_eq_self.2 (by simp)],by simp only [go_sem,↓reduceIte,f5],by rw [Ba _ _ _ _ (by omega)]; exact g52,getH_setH_self _ _ _,fun j hj hne=>by rw [Ba _ _ _ _ (by omega)]; exact kp2 j hj hne,⟨by omega,fun t _ h=>(List.not_mem_nil h).elim,Or.inl rfl⟩⟩ ?_
   rintro M e3 h3 hM3 ⟨seen3,v,rfl,hE3,g53,gi3,kp3,hmn3⟩ P3 hP3
   simp only [Bz,Dc] at hE3 g53 gi3
   obtain ⟨f5,f91,-⟩:=hE3
   simp (disch:=first | assumption | omega) only [go_sem,↓reduceIte,Bw,f91]
   have hmE3:Bb h3 mk2 = .map 0 c2 (pK E2) (pV E2) (pB E2):=by rw [kp3 mk2 lmk2 mk25,hm2]
   refine Sc gi3 hmE3 hR2.bc (fun hall3 => ?_) (fun t ht hnt => ?_)
   ·have hv:=hmn3.eq hR2 hall3
    have hend:=Aru
    simp only [Bool.and_eq_true] at hend
    have hlt2:decide (Sj (kst 12).1<v)=true:=by rw [hv]; exact hend.1.1
    simp (disch:=first | assumption | omega) only [go_sem,↓reduceIte,f5,g53,hlt2]
    exact hV _ _ (Bq _ _ _ _)
   ·obtain ⟨q,nn,bb⟩:=t
    have hen:enA (setH h3 (A+1) (.iter 0 mk2 0 c2 (seen3++[bb]) c2)) (.iter (A+1) 0) = .ret (.tuple [pA q,.int .i64 nn]):=
     A0l (t:=(q,nn,bb)) (getH_setH_self _ _ _) (by rw [Ba _ _ _ _ (by omega)]; exact hmE3) hR2.bn ht
    have hn5:¬(A+1=5):=by omega
    have hn6:¬(5=A+1):=by omega
    simp (disch:=first | assumption | omega) only [go_sem,↓reduceIte,Bw,f5,f91,hen,g53,hn5,hn6]
    refine hP3 _ _ (Yb ht hnt) ⟨seen3++[bb],_,rfl,by simp only [go_sem,↓reduceIte,f5,f91],by simp only [go_sem,↓reduceIte,hn5,hn6],by simp only [go_sem,↓reduceIte,hn5,hn6],fun j hj hne => ?_,hmn3.next hR2.bn ht⟩
    rw [Ba _ _ _ _ (fun h=>hne h.symm),Ba _ _ _ _ (by omega)]
    exact kp3 j hj hne
  ·obtain ⟨q,nn,bb⟩:=t
   have hen:enA (setH h2 A (.iter 0 mk 0 c (seen++[bb]) c)) (.iter A 0) = .ret (.tuple [pA q,.int .i64 nn]):=
    A0l (t:=(q,nn,bb)) (getH_setH_self _ _ _) (by rw [Ba _ _ _ _ (by omega)]; exact hmE) hR.bn ht
   have hn5:¬(A=5):=by omega
   have hn6:¬(5=A):=by omega
   simp (disch:=first | assumption | omega) only [go_sem,↓reduceIte,Bw,f5,f80,hen,g52,hn5,hn6]
   refine hP2 _ _ (Yb ht hnt) ⟨seen++[bb],_,rfl,by simp only [go_sem,↓reduceIte,f5,f7,f80],by simp only [go_sem,↓reduceIte,hn5,hn6],by simp only [go_sem,↓reduceIte,hn5,hn6],fun j hj hne => ?_,?_,hmn.next hR.bn ht⟩
   ·rw [Ba _ _ _ _ (fun h=>hne h.symm),Ba _ _ _ _ (by omega)]
    exact kp2 j hj hne
   ·simp only [Bh,ln2]; omega
end Go.Ev.YtbgodhhdojjbmaaGreatC
