/- The code of functions that are walked, compiled for the evaluator, as text. The code of functions that are walked, compiled for the evaluator, as text. The kept orders are as many as can be; what more work, earlier Dues and fewer orders change. Delays, step by step; what an exchange, more work, earlier Dues, one more order, later Dues and longer days change. Steps of neighbours bring a sequence of orders to that by Due, and no step makes the delay greater. A part of the proof. A part of the proof. No condition but those that stand in each. -/
import Derived.Test.YtbgodhhdojjbmaaGreatPTopW
import Derived.Test.YtbgodhhdojjbmaaGreatPL5Prog2
import Derived.Test.YtbgodhhdojjbmaaGreatPStSteps
import Derived.Test.YtbgodhhdojjbmaaGreatPEvKer3
import Derived.Test.YtbgodhhdojjbmaaGreatPStWrong
set_option linter.unusedSimpArgs false
set_option linter.unusedVariables false
set_option maxRecDepth 100000
namespace Go.Ev.YtbgodhhdojjbmaaGreatC
open Go.Proofs
def c86:IFunc:=⟨25,[.tmp 2],sO [dO 2 (.mv (cI 0))] (.seq (sO [mV 5 0,lN 6 5,bC 7 .lss 6 1] (.cond (tM 7) (.ops [⟨some 8,.bad,none⟩,⟨none,.bad,none⟩]) .skip)) (sO [mV 9 0,dO 10 (.indexAddr 1 (tM 9) (cI 0)),lD 11 10,mV 3 11] (.seq (sO [dO 4 (.mv (cI 1))] (.block 0 (.loop (.seq (sO [mV 12 4,mV 13 0,lN 14 13,bB 15 .lss 12 14] (.cond (tM 15) .skip (.exit 0))) (.seq (.block 1 (.ops [mV 18 3,mV 19 0,mV 20 4,iA 21 19 20,lD 22 21,dO 23 (.min [tM 18,tM 22]),mV 3 23])) (.ops [mV 16 4,bC 17 .add 16 1,mV 4 17])))))) (sO [mV 24 3,mV 2 24] .ret))))⟩
theorem k86:(Bx Tryz.prog byr).fns 86=some c86:=by kernel_rfl
theorem t86:T.fns 86=some c86:=Da k86 (by decide) (by decide)
end Go.Ev.YtbgodhhdojjbmaaGreatC
namespace Go.Ev.YtbgodhhdojjbmaaGreatC.P5
open Go
theorem Aiz {l:List Order} {w:List Int} (hw:∀x∈w,0<=x) {T:List Int} (h:Gb l w 0 T=true):Feas l w T:=by
 rw [Lv] at h
 intro d hd
 obtain ⟨x,hx,hxd⟩:=hd
 obtain ⟨k,i,hk,hp,hdrop⟩:=A2j (fun i=>decide (Dh l i<=d)) T ⟨x,hx,by simpa using hxd⟩
 have h3:T.filter (fun i=>decide (Dh l i<=d))=(T.take (k+1)).filter fun i=>decide (Dh l i<=d):=by
  conv=>lhs; rw [<-List.take_append_drop (k+1) T]
  rw [List.filter_append,hdrop,List.append_nil]
 have h4:=Mj hw (fun i=>decide (Dh l i<=d)) (T.take (k+1))
 have h5:=h k i hk
 have h6:Dh l i<=d:=by simpa using hp
 rw [h3]
 omega
theorem Ys {l m:List Order} {w v:List Int}:∀(S:List Int) (d d':Int),d'<=d->(∀i∈S,wk v i<=wk w i/\Dh l i<=Dh m i)->Gb l w d S=true->Gb m v d' S=true
 | [],_,_,_,_,_=>rfl
 | i::r,d,d',hd,hi,h=>by
  have h1:=hi i List.mem_cons_self
  simp only [Gb,Bool.and_eq_true,decide_eq_true_eq] at h ⊢
  exact ⟨by omega,Ys r (d+wk w i) (d'+wk v i) (by omega) (fun j hj=>hi j (List.mem_cons_of_mem _ hj)) h.2⟩
theorem Feas.mono {l m:List Order} {w v T:List Int} (hw:∀x∈w,0<=x) (hv:∀x∈v,0<=x) (hi:∀i∈T,wk v i<=wk w i/\Dh l i<=Dh m i) (h:Feas l w T):Feas m v T:=by
 have hp:(Ew (Dh l) [] T).Perm T:=by simpa using Jq (Dh l) T []
 have hs:(Ew (Dh l) [] T).Pairwise fun a b=>Dh l a<=Dh l b:=Ji _ _ _ List.Pairwise.nil
 have h1:=(Aco hw hs).2 (h.perm hp.symm)
 have h2:=Ys (m:=m) (v:=v) _ 0 0 (Int.le_refl 0) (fun i hi'=>hi i (hp.mem_iff.1 hi')) h1
 exact (Aiz hv h2).perm hp
def wi (l:List Order) (w:List Int) (D:Int):Int->List Int->Prop
 | _,[]=>True
 | day,i::r=>day+wk w i-Dh l i<=D/\wi l w D (day+wk w i) r
def atR (l:List Order) (i:Int):Int:=((Dx l).idxOf i:Nat)
end Go.Ev.YtbgodhhdojjbmaaGreatC.P5
namespace Go.Ev.YtbgodhhdojjbmaaGreatC
open Go Go.Proofs
attribute [local irreducible] Res.all evC Dg Di Bq Bg Do Bf Bj G GO GV GP GC R
end Go.Ev.YtbgodhhdojjbmaaGreatC
namespace Go.Ev.YtbgodhhdojjbmaaGreatC
open Go Go.Proofs
def ExO (lo:Nat) (h:Bc) (x:AV) (l:List Int):Prop:=x = .slice none (l.map (.int .i64)) true\/Own lo h x .i64 l
theorem ExO.frz {lo:Nat} {h:Bc} {x:AV} {l:List Int} {n:Nat} (hx:ExO lo h x l):Bj h (n+2) x = .ret (Fx l):=by
 rcases hx with rfl | hx
 ·exact Dn _ _ _ _ _
 ·exact Hv hx
theorem ExO.lenA {lo:Nat} {h:Bc} {x:AV} {l:List Int} (hx:ExO lo h x l):lenA x=some l.length:=by
 rcases hx with rfl | hx
 ·rw [A1d,List.length_map]
 ·exact hx.lenA
theorem ExO.cells {lo:Nat} {h:Bc} {x:AV} {l:List Int} (hx:ExO lo h x l):x.cells=[x]:=by
 rcases hx with rfl | hx
 ·rfl
 ·exact hx.cells
theorem ExO.oneB {lo:Nat} {h:Bc} {x:AV} {l:List Int} (hx:ExO lo h x l):oneB x=true:=by
 rcases hx with rfl | hx
 ·rfl
 ·exact hx.oneB
theorem ExO.other {lo:Nat} {h h':Bc} {x:AV} {l:List Int} (hx:ExO lo h x l) (hf:∀j,j<h.length->Bb h' j=Bb h j):ExO lo h' x l:=by
 rcases hx with rfl | hx
 ·exact .inl rfl
 ·exact .inr (hx.other fun j hj=>hf j (hx.keyLt j hj))
def mnL:List Nat->Nat
 | []=>0
 | a::r=>r.foldl Nat.min a
def mnI (l:List Int) (a:Int):Int:=l.foldl (fun x y=>if y<x then y else x) a
theorem Abd:∀(r:List Nat) (a:Nat),mnI (nI6 r) a=(r.foldl Nat.min a:Nat)
 | [],a=>rfl
 | b::r,a=>by
  have ih:=Abd r (Nat.min a b)
  have e:(if (b:Int)<(a:Int) then (b:Int) else a)=((Nat.min a b:Nat):Int):=by
   show _=((min a b:Nat):Int)
   split <;> omega
  simp only [mnI,nI6,List.map_cons,List.foldl_cons] at ih ⊢
  rw [e]
  exact ih
attribute [local irreducible] Res.all evC Dg Di Bq Bg Do Bf Bj G GO GV GP GC R
theorem Aij (a:Nat) (r:List Nat) (h10:r.length<=1000):Con T 1 86 [Fx (nI6 (a::r))] (.int .i64 (mnL (a::r))):=by
 refine Bs t86 fun n hn V hV => ?_
 have hl:=Eo (a::r)
 have g0:(nI6 (a::r))[0]? = some (a:Int):=rfl
 have hmn:=Abd r a
 have hmn2:(r.foldl Nat.min a:Nat)=mnL (a::r):=rfl
 rw [hmn2] at hmn
 have hdr:(nI6 (a::r)).drop 1=nI6 r:=rfl
 rw [<-hdr] at hmn
 have hR1:¬(((a::r).length:Nat):Int)<1:=by simp only [List.length_cons]; omega
 have hR2:1<=(a::r).length:=by simp only [List.length_cons]; omega
 have hR3:(a::r).length<=1001:=by simp only [List.length_cons]; omega
 generalize hN:nI6 (a::r)=N at *
 generalize hR:(a::r).length=R at *
 simp (disch:=first | assumption | omega) only [c86,go_sem,↓reduceIte,hl,g0,hR1]
 refine Dd (fun M s=>∃(k:Nat) (y:Int),M=R-k/\k<=R/\At s.env [(0,Fx N),(3,.int .i64 y),(4,.int .i64 k)]/\mnI (N.drop k) y=mnI (N.drop 1) a) (R-1) (by omega) ⟨1,a,by omega,by omega,by simp only [go_sem,↓reduceIte],rfl⟩ ?_
 rintro M e h hM ⟨k,y,rfl,hk,hE,hA⟩ P hP
 simp only [Bt,By] at hE
 obtain ⟨f0,f3,f4,-⟩:=hE
 by_cases hlt:k<R
 ·have hlt':(k:Int)<(R:Int):=by omega
  have gk:N[k]? = some (N.getD k 0):=by rw [List.getD_eq_getElem?_getD,List.getElem?_eq_getElem (by omega)]; rfl
  rw [Fv gk] at hA
  have hA2:mnI (N.drop (k+1)) (if N.getD k 0<y then N.getD k 0 else y)=mnI (N.drop 1) a:=hA
  simp (disch:=first | assumption | omega) only [go_sem,↓reduceIte,f0,f3,f4,hlt',gk,Lf,hl]
  exact hP (R-(k+1)) _ (by omega) ⟨k+1,_,rfl,by omega,by simp only [go_sem,↓reduceIte,f0],hA2⟩
 ·have hlt':¬(k:Int)<(R:Int):=by omega
  rw [List.drop_eq_nil_of_le (by omega)] at hA
  have hy:y=mnI (N.drop 1) a:=hA
  simp (disch:=first | assumption | omega) only [go_sem,↓reduceIte,f0,f3,f4,hlt',hl]
  refine hV _ _ ?_
  rw [Bk,hy,hmn]
end Go.Ev.YtbgodhhdojjbmaaGreatC
