/- The code of functions that are walked, compiled for the evaluator, as text. The kept orders are as many as can be; what more work, earlier Dues and fewer orders change. Delays, step by step; what an exchange, more work, earlier Dues, one more order, later Dues and longer days change. Steps of neighbours bring a sequence of orders to that by Due, and no step makes the delay greater. A part of the proof. The code of functions that are walked, compiled for the evaluator, as text. A part of the proof. A part of the proof. All circles gathered: Circles of layer 6. No condition but those that stand in each. -/
import Derived.Test.YtofpilpmiddpgaaGreatITopW
import Derived.Test.YtofpilpmiddpgaaGreatIL5Prog2
import Derived.Test.YtofpilpmiddpgaaGreatIStOpen
import Derived.Test.YtofpilpmiddpgaaGreatIEvKer3
import Derived.Test.YtofpilpmiddpgaaGreatIStWrong
import Derived.Test.YtofpilpmiddpgaaGreatIStSteps
set_option linter.unusedSimpArgs false
set_option linter.unusedVariables false
set_option maxRecDepth 100000
namespace Go.Ev.YtofpilpmiddpgaaGreatC
open Go.Proofs
def c13:IFunc:=⟨15,[.tmp 2],sO [dO 2 (.mv (.const (.slice none [] true)))] (sO [dO 3 (.mv (.const (.slice none [] true)))] (.seq (sO [dO 4 (.mv (cI 0))] (.block 0 (.loop (.seq (sO [mV 5 4,mV 6 0,bB 7 .lss 5 6] (.cond (tM 7) .skip (.exit 0))) (.seq (.block 1 (.ops [mV 10 3,mV 11 4,dO 12 (.buildSlice none [.int .i64 0] [(0,(1,tM 11))]),dO 13 (.append none 8 (tM 10) (tM 12)),mV 3 13])) (.ops [mV 8 4,bC 9 .add 8 1,mV 4 9])))))) (sO [mV 14 3,mV 2 14] .ret)))⟩
theorem k13:(Bp Tryz.prog byr).fns 13=some c13:=by kernel_rfl
theorem t13:T.fns 13=some c13:=Bt k13 (by decide) (by decide)
end Go.Ev.YtofpilpmiddpgaaGreatC
namespace Go.Ev.YtofpilpmiddpgaaGreatC.P5
open Go
theorem Agw {l:List Order} {w:List Int} (hw:∀x∈w,0<=x) {T:List Int} (h:Fj l w 0 T=true):Feas l w T:=by
 rw [Kw] at h
 intro d hd
 obtain ⟨x,hx,hxd⟩:=hd
 obtain ⟨k,i,hk,hp,hdrop⟩:=A0g (fun i=>decide (Dd l i<=d)) T ⟨x,hx,by simpa using hxd⟩
 have h3:T.filter (fun i=>decide (Dd l i<=d))=(T.take (k+1)).filter fun i=>decide (Dd l i<=d):=by
  conv=>lhs; rw [<-List.take_append_drop (k+1) T]
  rw [List.filter_append,hdrop,List.append_nil]
 have h4:=Lg hw (fun i=>decide (Dd l i<=d)) (T.take (k+1))
 have h5:=h k i hk
 have h6:Dd l i<=d:=by simpa using hp
 rw [h3]
 omega
theorem Wm {l m:List Order} {w v:List Int}:∀(S:List Int) (d d':Int),d'<=d->(∀i∈S,wk v i<=wk w i/\Dd l i<=Dd m i)->Fj l w d S=true->Fj m v d' S=true
 | [],_,_,_,_,_=>rfl
 | i::r,d,d',hd,hi,h=>by
  have h1:=hi i List.mem_cons_self
  simp only [Fj,Bool.and_eq_true,decide_eq_true_eq] at h ⊢
  exact ⟨by omega,Wm r (d+wk w i) (d'+wk v i) (by omega) (fun j hj=>hi j (List.mem_cons_of_mem _ hj)) h.2⟩
theorem Feas.mono {l m:List Order} {w v T:List Int} (hw:∀x∈w,0<=x) (hv:∀x∈v,0<=x) (hi:∀i∈T,wk v i<=wk w i/\Dd l i<=Dd m i) (h:Feas l w T):Feas m v T:=by
 have hp:(Ek (Dd l) [] T).Perm T:=by simpa using Iw (Dd l) T []
 have hs:(Ek (Dd l) [] T).Pairwise fun a b=>Dd l a<=Dd l b:=Il _ _ _ List.Pairwise.nil
 have h1:=(Aay hw hs).2 (h.perm hp.symm)
 have h2:=Wm (m:=m) (v:=v) _ 0 0 (Int.le_refl 0) (fun i hi'=>hi i (hp.mem_iff.1 hi')) h1
 exact (Agw hv h2).perm hp
def wi (l:List Order) (w:List Int) (D:Int):Int->List Int->Prop
 | _,[]=>True
 | day,i::r=>day+wk w i-Dd l i<=D/\wi l w D (day+wk w i) r
def atR (l:List Order) (i:Int):Int:=((Dq l).idxOf i:Nat)
end Go.Ev.YtofpilpmiddpgaaGreatC.P5
namespace Go.Ev.YtofpilpmiddpgaaGreatC
open Go Go.Proofs
attribute [local irreducible] Res.all evC Dg Dj Bo Bg Dm Bf Bi G GO GV GP GC R
section
variable {n base:Nat} {Q:EX×St->Prop} {d:Option Nat} {L:List IOper} {ks:List Kont} {e:Env} {h:Bc}
theorem Abd {call:Bl} {b m kk:Nat} {y:AV} {k:IntKind} {l2:List Int} (hkk:kk=h.length) (hy:Dh h y=some (none,m,l2.map (.int k))) (hm:m=l2.length) (hm0:0<m) (hr:m*b<=1099511627776)
  (H:GO call base Q L ks ⟨Bj e d (.oslice h.length (Bb h h.length).next none 0 l2.length none),setH h h.length (.cells (Bb h h.length).next (l2.map (.int k)))⟩) :
  GP call base Q d L ks e (Df kk none b (.slice none [] true) y h):=by
 subst hm hkk
 have hroom:=Ka hr
 have h0:¬l2.length=0:=by omega
 have:Df h.length none b (.slice none [] true) y h = .ret (.oslice h.length (Bb h h.length).next none 0 l2.length none,setH h h.length (.cells (Bb h h.length).next (l2.map (.int k)))):=by
  simp only [Df,hy,List.length_nil,hroom,ne_eq,not_true_eq_false,if_false,Bool.true_eq_false,or_self,h0,Nat.zero_add,Ef,List.nil_append]
 rw [this,Hc]
 exact H
end
end Go.Ev.YtofpilpmiddpgaaGreatC
namespace Go.Ev.YtofpilpmiddpgaaGreatC
open Go.Proofs
def c25:IFunc:=⟨4,[.tmp 2],sO [dO 1 (.box (tM 0)),dO 2 (.mv (.const .nilfn))] (sO [dO 3 (.mkFunc 57 [] [tM 1]),mV 2 3] .ret)⟩
theorem k25:(Bp Tryz.prog byr).fns 25=some c25:=by kernel_rfl
theorem t25:T.fns 25=some c25:=Bt k25 (by decide) (by decide)
def c57:IFunc:=⟨32,[],sO [lD 6 1,dO 7 (.nilCheck (tM 6)),dO 8 (.fieldAddr 0 (tM 7)),dO 9 (.load (some 1) (tM 8)),dO 10 (.mkFunc 58 [tM 9] []),mV 3 10] (.seq .skip (sO [lD 11 1,dO 12 (.nilCheck (tM 11)),dO 13 (.fieldAddr 0 (tM 12)),dO 14 (.fieldAddr 0 (tM 13)),lD 15 14,lN 16 15,dO 17 (.mv (cI 0))] (.block 0 (.loop (sO [bB 18 .lss 17 16] (.seq (.cond (tM 18) .skip (.exit 0)) (.seq (.block 1 (sO [mV 19 17,mV 4 19] (sO [mV 20 3,mV 21 4,dO 22 (.call true (tM 20) [tM 21]),mV 5 22] (.seq (sO [mV 23 5,dO 24 (.callF false 59 [tM 23]),mV 25 4,bB 26 .lss 24 25] (.cond (tM 26) (.exit 1) .skip)) (sO [mV 27 0,mV 28 5,dO 29 (.call true (tM 27) [tM 28]),dO 30 (.un .not (tM 29))] (.cond (tM 30) .ret .skip)))))) (.ops [bC 31 .add 17 1,mV 17 31]))))))))⟩
theorem k57:(Bp Tryz.prog byr).fns 57=some c57:=by kernel_rfl
theorem t57:T.fns 57=some c57:=Bt k57 (by decide) (by decide)
def c58:IFunc:=⟨27,[.tmp 4],sO [dO 2 (.box (tM 0)),dO 4 (.mv (.const (.slice none [] true)))] (sO [mV 7 1,dO 8 (.buildSlice none [.int .i64 0] [(0,(1,tM 7))]),mV 5 8] (.seq (sO [dO 9 (.fieldAddr 0 (tM 2)),lD 10 9,mV 11 1,iA 12 10 11,lD 13 12,mV 6 13] (.block 0 (.loop (.seq (sO [mV 14 6,mV 15 1,bB 16 .neq 14 15] (.cond (tM 16) .skip (.exit 0))) (.seq (.block 1 (.ops [mV 22 5,mV 23 6,dO 24 (.buildSlice none [.int .i64 0] [(0,(1,tM 23))]),dO 25 (.append none 8 (tM 22) (tM 24)),mV 5 25])) (.ops [dO 17 (.fieldAddr 0 (tM 2)),lD 18 17,mV 19 6,iA 20 18 19,lD 21 20,mV 6 21])))))) (sO [mV 26 5,mV 4 26] .ret)))⟩
theorem k58:(Bp Tryz.prog byr).fns 58=some c58:=by kernel_rfl
theorem t58:T.fns 58=some c58:=Bt k58 (by decide) (by decide)
def c59:IFunc:=⟨25,[.tmp 2],sO [dO 2 (.mv (cI 0))] (.seq (sO [mV 5 0,lN 6 5,bC 7 .lss 6 1] (.cond (tM 7) (.ops [⟨some 8,.bad,none⟩,⟨none,.bad,none⟩]) .skip)) (sO [mV 9 0,dO 10 (.indexAddr 1 (tM 9) (cI 0)),lD 11 10,mV 3 11] (.seq (sO [dO 4 (.mv (cI 1))] (.block 0 (.loop (.seq (sO [mV 12 4,mV 13 0,lN 14 13,bB 15 .lss 12 14] (.cond (tM 15) .skip (.exit 0))) (.seq (.block 1 (.ops [mV 18 3,mV 19 0,mV 20 4,iA 21 19 20,lD 22 21,dO 23 (.min [tM 18,tM 22]),mV 3 23])) (.ops [mV 16 4,bC 17 .add 16 1,mV 4 17])))))) (sO [mV 24 3,mV 2 24] .ret))))⟩
theorem k59:(Bp Tryz.prog byr).fns 59=some c59:=by kernel_rfl
theorem t59:T.fns 59=some c59:=Bt k59 (by decide) (by decide)
def c7:IFunc:=⟨16,[.tmp 2,.tmp 3],sO [dO 2 (.mv (cI 0)),dO 3 (.mv (cI 0))] (sO [mV 7 0,dO 8 (.callF false 22 [tM 7]),mV 6 8,xT 9 6 0,xT 10 6 1,mV 4 9,mV 5 10] (.seq (sO [mV 11 5,bC 12 .neq 11 0] (.cond (tM 12) (sO [mV 13 5,dO 2 (.mv (cI 0)),mV 3 13] .ret) .skip)) (sO [mV 14 4,dO 15 (.callF false 23 [tM 14]),mV 2 15,dO 3 (.mv (cI 0))] .ret)))⟩
theorem k7:(Bp Tryz.prog byr).fns 7=some c7:=by kernel_rfl
theorem t7:T.fns 7=some c7:=Bt k7 (by decide) (by decide)
def c23:IFunc:=⟨26,[.tmp 2],sO [dO 2 (.mv (cI 0))] (sO [dO 3 (.alloc [.int .i64 0]),eO (.store 1 (tM 3) (cI 1))] (.seq (sO [mV 7 0,dO 8 (.callF false 25 [tM 7])] (.block 0 (.rangeF (tM 8) [9] (.ops [mV 4 9]) (.block 1 (sO [lD 10 3,mV 11 4,lN 12 11,mV 5 10,mV 6 12] (.seq (.block 2 (.loop (.seq (sO [mV 13 6,bC 14 .gtr 13 0] (.cond (tM 14) .skip (.exit 2))) (.block 3 (.ops [mV 15 6,mV 16 5,mV 17 6,bB 18 .rem 16 17,mV 5 15,mV 6 18]))))) (.ops [lD 19 3,mV 20 5,bB 21 .quo 19 20,mV 22 4,lN 23 22,bB 24 .mul 21 23,eO (.store 1 (tM 3) (tM 24))]))))))) (sO [lD 25 3,mV 2 25] .ret)))⟩
theorem k23:(Bp Tryz.prog byr).fns 23=some c23:=by kernel_rfl
theorem t23:T.fns 23=some c23:=Bt k23 (by decide) (by decide)
def c8:IFunc:=⟨57,[.tmp 4,.tmp 5],sO [dO 3 (.box (tM 1)),dO 4 (.mv (.const (.slice none [] true))),dO 5 (.mv (cI 0))] (sO [mV 13 0,dO 14 (.callF false 22 [tM 13]),mV 12 14,xT 15 12 0,xT 16 12 1,mV 6 15,mV 7 16] (.seq (.block 0 (sO [mV 18 7,bC 19 .neq 18 0,mV 17 19] (.cond (tM 17) (sO [mV 20 7,dO 4 (.mv (.const (.slice none [] true))),mV 5 20] .ret) (sO [lD 22 3,bC 23 .lss 22 0,mV 24 23,gO 25 (.load none (tM 3)) 24 false,gO 26 (.bin .gtr (tM 25) (cI 1099511627776)) 24 false,dO 27 (.pick (tM 24) (cB true) (tM 26)),mV 21 27] (.cond (tM 21) (sO [dO 4 (.mv (.const (.slice none [] true))),dO 5 (.mv (cI 2))] .ret) .skip))))) (sO [mV 28 6,dO 29 (.nilCheck (tM 28)),dO 30 (.fieldAddr 0 (tM 29)),dO 31 (.load (some 1) (tM 30)),dO 32 (.callF true 24 [tM 31]),dO 8 (.alloc [.slice none [] true]),eO (.store 1 (tM 8) (tM 32))] (.seq (sO [mV 33 6,dO 34 (.callF false 25 [tM 33])] (.block 1 (.rangeF (tM 34) [35] (.ops [mV 9 35]) (.block 2 (sO [mV 36 9,lN 37 36,dO 38 (.mv (cI 0))] (.block 3 (.loop (sO [bB 39 .lss 38 37] (.seq (.cond (tM 39) .skip (.exit 3)) (.seq (.block 4 (sO [mV 40 38,iA 41 36 38,lD 42 41,mV 10 40,mV 11 42] (.ops [lD 43 8,mV 44 11,mV 45 9,mV 46 10,lD 47 3,bB 48 .add 46 47,mV 49 9,lN 50 49,bB 51 .rem 48 50,iA 52 45 51,lD 53 52,iA 54 43 44,eO (.store 1 (tM 54) (tM 53))]))) (.ops [bC 55 .add 38 1,mV 38 55]))))))))))) (sO [lD 56 8,mV 4 56,dO 5 (.mv (cI 0))] .ret)))))⟩
theorem k8:(Bp Tryz.prog byr).fns 8=some c8:=by kernel_rfl
theorem t8:T.fns 8=some c8:=Bt k8 (by decide) (by decide)
def c68:IFunc:=⟨47,[.tmp 4,.tmp 5],sO [dO 4 (.mv (.const (.slice none [] true))),dO 5 (.mv (cI 0))] (sO [mV 12 0,mV 13 1,dO 14 (.buildSlice none [.int .i64 0] [(0,(1,tM 13))]),dO 15 (.callF false 125 [tM 12,tM 14]),mV 11 15,xT 16 11 0,xT 17 11 1,mV 6 16,mV 7 17] (.seq (sO [mV 18 7,bC 19 .neq 18 0] (.cond (tM 19) (sO [mV 20 7,dO 4 (.mv (.const (.slice none [] true))),mV 5 20] .ret) .skip)) (sO [mV 21 6,dO 22 (.nilCheck (tM 21)),dO 23 (.fieldAddr 0 (tM 22)),dO 24 (.load (some 1) (tM 23)),mV 25 1,dO 26 (.callF false 126 [tM 24,tM 25]),dO 8 (.alloc [.int .i64 0,.int .i64 0,.int .i64 0,.int .i64 0,.int .i64 0]),eO (.store 5 (tM 8) (tM 26))] (sO [dO 9 (.mv (.const (.slice none [] true)))] (.seq (sO [mV 27 0,lN 28 27,dO 29 (.mv (cI 0))] (.block 0 (.loop (sO [bB 30 .lss 29 28] (.seq (.cond (tM 30) .skip (.exit 0)) (.seq (.block 1 (sO [mV 31 29,mV 10 31] (sO [mV 32 10,dO 33 (.indexAddrA 5 1 (tM 8) (tM 32)),lD 34 33,bC 35 .gtr 34 0] (.cond (tM 35) (.ops [mV 36 9,mV 37 9,lN 38 37,mV 39 9,lN 40 39,dO 41 (.slice none (tM 36) none (some (tM 38)) (some (tM 40))),mV 42 10,dO 43 (.buildSlice none [.int .i64 0] [(0,(1,tM 42))]),dO 44 (.append none 8 (tM 41) (tM 43)),mV 9 44]) .skip)))) (.ops [bC 45 .add 29 1,mV 29 45]))))))) (sO [mV 46 9,mV 4 46,dO 5 (.mv (cI 0))] .ret))))))⟩
theorem k68:(Bp Tryz.prog byr).fns 68=some c68:=by kernel_rfl
theorem t68:T.fns 68=some c68:=Bt k68 (by decide) (by decide)
end Go.Ev.YtofpilpmiddpgaaGreatC
namespace Go.Ev.YtofpilpmiddpgaaGreatC
open Go Go.Proofs
def ExO (lo:Nat) (h:Bc) (x:AV) (l:List Int):Prop:=x = .slice none (l.map (.int .i64)) true\/Own lo h x .i64 l
theorem ExO.frz {lo:Nat} {h:Bc} {x:AV} {l:List Int} {n:Nat} (hx:ExO lo h x l):Bi h (n+2) x = .ret (Bx l):=by
 rcases hx with rfl | hx
 ·exact Ec _ _ _ _ _
 ·exact Ol hx
theorem ExO.lenA {lo:Nat} {h:Bc} {x:AV} {l:List Int} (hx:ExO lo h x l):lenA x=some l.length:=by
 rcases hx with rfl | hx
 ·rw [Zi,List.length_map]
 ·exact hx.lenA
theorem ExO.cells {lo:Nat} {h:Bc} {x:AV} {l:List Int} (hx:ExO lo h x l):x.cells=[x]:=by
 rcases hx with rfl | hx
 ·rfl
 ·exact hx.cells
theorem ExO.oneB {lo:Nat} {h:Bc} {x:AV} {l:List Int} (hx:ExO lo h x l):oneB x=true:=by
 rcases hx with rfl | hx
 ·rfl
 ·exact hx.oneB
theorem ExO.other {lo:Nat} {h h':Bc} {x:AV} {l:List Int} (hx:ExO lo h x l) (hf:∀j,j<h.length->Bb h' j=Bb h j):ExO lo h' x l:=by
 rcases hx with rfl | hx
 ·exact .inl rfl
 ·exact .inr (hx.other fun j hj=>hf j (hx.keyLt j hj))
theorem ExO.weak {lo lo':Nat} {h:Bc} {x:AV} {l:List Int} (hl:lo'<=lo) (hx:ExO lo h x l):ExO lo' h x l:=by
 rcases hx with rfl | ⟨a,b⟩ | ⟨key,ver,a,b,c⟩
 ·exact .inl rfl
 ·exact .inr (.inl ⟨a,b⟩)
 ·exact .inr (.inr ⟨key,ver,by omega,b,c⟩)
theorem A7h {call:Bl} {base:Nat} {Q:EX×St->Prop} {d:Option Nat} {L:List IOper} {ks:List Kont} {e:Env} {h:Bc} {lo b kk:Nat} {x:AV} {l:List Int} {a:Int} {ex:Bool} (hkk:kk=h.length) (hx:ExO lo h x l) (hlo:lo<=h.length) (hr:(l.length+1)*b<=1099511627776)
  (H:∀x' h',Own lo h' x' .i64 (l++[a])->(∀j,j<lo->Bb h' j=Bb h j)->h.length<=h'.length->GO call base Q L ks ⟨Bj e d x',h'⟩) :
  GP call base Q d L ks e (Df kk none b x (.slice none [.int .i64 a] ex) h):=by
 rcases hx with rfl | hx
 ·subst hkk
  have hroom:=Ka hr
  have:Df h.length none b (.slice none (l.map (.int .i64)) true) (.slice none [.int .i64 a] ex) h = .ret (.oslice h.length (Bb h h.length).next none 0 (l.length+1) none,setH h h.length (.cells (Bb h h.length).next ((l++[a]).map (.int .i64)))):=by
   have h1:¬(1:Nat)=0:=by omega
   have hc:Dh h (.slice none [.int .i64 a] ex)=some (none,1,[AV.int .i64 a]):=rfl
   simp only [Df,hc,List.length_map,hroom,ne_eq,not_true_eq_false,if_false,Bool.true_eq_false,or_self,h1,Ef,List.map_append,List.map_cons,List.map_nil]
  rw [this,Hc]
  refine H _ _ (.inr ⟨h.length,_,hlo,by rw [List.length_append]; rfl,by simp⟩) (fun j hj=>Ba _ _ _ _ (by omega)) (by rw [Bd]; omega)
 ·exact Hn hkk hx hlo hr fun x' h' a1 a2 a3 _ _=>H x' h' a1 a2 a3
def mnL:List Nat->Nat
 | []=>0
 | a::r=>r.foldl Nat.min a
def mnI (l:List Int) (a:Int):Int:=l.foldl (fun x y=>if y<x then y else x) a
theorem A9e:∀(r:List Nat) (a:Nat),mnI (nI6 r) a=(r.foldl Nat.min a:Nat)
 | [],a=>rfl
 | b::r,a=>by
  have ih:=A9e r (Nat.min a b)
  have e:(if (b:Int)<(a:Int) then (b:Int) else a)=((Nat.min a b:Nat):Int):=by
   show _=((min a b:Nat):Int)
   split <;> omega
  simp only [mnI,nI6,List.map_cons,List.foldl_cons] at ih ⊢
  rw [e]
  exact ih
theorem Mw:∀(r:List Nat) (a m:Nat),m<=r.foldl Nat.min a↔m<=a/\∀x∈r,m<=x
 | [],a,m=>by simp
 | b::r,a,m=>by
  rw [List.foldl_cons,Mw r _ m]
  have:m<=Nat.min a b↔m<=a/\m<=b:=Nat.le_min
  rw [this]
  simp only [List.mem_cons,forall_eq_or_imp]
  exact ⟨fun ⟨⟨h1,h2⟩,h3⟩=>⟨h1,h2,h3⟩,fun ⟨h1,h2,h3⟩=>⟨⟨h1,h2⟩,h3⟩⟩
theorem Aoi (p:List Nat) (i:Nat):(mnL (cyc p i)<i↔Iv p i=false)/\(mnL (cyc p i)=i↔Iv p i=true):=by
 have h1:i<=mnL (cyc p i)↔Iv p i=true:=by
  rw [cyc,mnL,Mw,Iv,List.all_eq_true]
  constructor
  ·intro ⟨_,h⟩ x hx
   rw [cyc] at hx
   rcases List.mem_cons.1 hx with rfl | hx
   ·simp
   ·simpa using h x hx
  ·intro h
   exact ⟨Nat.le_refl _,fun x hx=>by simpa using h x (by rw [cyc]; exact List.mem_cons_of_mem _ hx)⟩
 have h2:mnL (cyc p i)<=i:=by
  have:=(Mw (Sq p i p.length (stp p i)) i (mnL (cyc p i))).1 (Nat.le_refl _)
  exact this.1
 constructor
 ·constructor
  ·intro h
   cases hm:Iv p i with
   | false=>rfl
   | true=>have:=h1.2 hm; omega
  ·intro h
   have:¬i<=mnL (cyc p i):=fun hc=>by rw [h1.1 hc] at h; cases h
   omega
 ·constructor
  ·intro h
   exact h1.1 (by omega)
  ·intro h
   have:=h1.2 h
   omega
attribute [local irreducible] Res.all evC Dg Dj Bo Bg Dm Bf Bi G GO GV GP GC R
theorem A8t {p:List Nat} (hp:PermN p) {i:Nat} (hi:i<p.length) (m:Nat):(nI6 p)[itp p m i]? = some ((itp p (m+1) i:Nat):Int):=by
 have hlt:=Lt hp m i hi
 rw [Hw hlt,A4k,Jd hlt]
theorem Abz (p:List Nat) (hp:PermN p) (h10:p.length<=10) {i:Nat} (hi:i<p.length) {n:Nat} {h:Bc} {V:AV×Bc->Prop}
  (hV:∀x h',ExO h.length h' x (nI6 (cyc p i))->(∀j,j<h.length->Bb h' j=Bb h j)->h.length<=h'.length->V (x,h')) :
  (Bf T (n+1) true (.fn 58) [.agg [Bx (nI6 p)],.int .i64 (i:Nat)] h).all V:=by
 rw [Eg t58]
 obtain ⟨q0,q1,q2,q3,q4⟩:=Ip hp hi
 have hl:=Dw p
 have g0:=A8t hp hi 0
 have e0:itp p 0 i=i:=rfl
 rw [e0] at g0
 have hnb:Bb (h++List.replicate 27 .none) (h.length+2) = .none:=Eq _ _ _
 simp (disch:=first | assumption | omega) only [c58,go_sem,↓reduceIte,hl,g0,hnb]
 refine Db (fun M st=>∃(m:Nat) (x:AV),M=per p i-m/\0<m/\m<=per p i/\At st.env [(1,.int .i64 (i:Nat)),(2,.optr (h.length+2) 0 0),(5,x),(6,.int .i64 (itp p m i:Nat))]/\Bb st.heap (h.length+2) = .cells 0 [Bx (nI6 p)]/\ExO (h.length+27) st.heap x (nI6 ((List.range m).map fun j=>itp p j i))/\h.length+27<=st.heap.length/\(∀j,j<h.length->Bb st.heap j=Bb h j)) (per p i-1) (by omega)
  ⟨1,.slice none [.int .i64 i] true,by omega,by omega,by omega,by simp only [go_sem,↓reduceIte],by simp only [go_sem,↓reduceIte],.inl rfl,by simp only [Bd,List.length_append,List.length_replicate]; omega,fun j hj=>by rw [Ba _ _ _ _ (by omega),Bh]⟩ ?_
 rintro M e h1 hM ⟨m,x,rfl,hm0,hm,hE,hB,hX,hL,hF⟩ P hP
 simp only [Bq,Bw] at hE hX hL hB hF
 obtain ⟨f1,f2,f5,f6,-⟩:=hE
 have gm:=A8t hp hi m
 have hsn:nI6 ((List.range (m+1)).map fun j=>itp p j i)=nI6 ((List.range m).map fun j=>itp p j i)++[((itp p m i:Nat):Int)]:=by simp [nI6,List.range_succ]
 have hln:(nI6 ((List.range m).map fun j=>itp p j i)).length=m:=by simp [nI6]
 by_cases hlt:m<per p i
 ·have hne:itp p m i≠i:=q3 m hm0 hlt
  have hne':(((itp p m i:Nat):Int) != (i:Int))=true:=by
   simp only [bne_iff_ne,ne_eq]
   omega
  simp (disch:=first | assumption | omega) only [go_sem,↓reduceIte,f1,f2,f5,f6,hne']
  refine A7h (by first | with_reducible rfl | (simp only [Bd,List.length_append,List.length_replicate]; done) | (simp only [Bd,List.length_append,List.length_replicate]; omega)) hX hL (by rw [hln]; omega) fun x' h' hX' hF' hL' => ?_
  have hB':Bb h' (h.length+2) = .cells 0 [Bx (nI6 p)]:=by rw [hF' _ (by omega),hB]
  simp (disch:=first | assumption | omega) only [go_sem,↓reduceIte,f2,f6,hB',gm,hl]
  exact hP (per p i-(m+1)) _ (by omega) ⟨m+1,x',rfl,by omega,by omega,by simp only [go_sem,↓reduceIte,f1,f2],hB',by rw [hsn]; exact .inr hX',(show h.length+27<=h'.length by omega),fun j hj=>by rw [hF' j (by omega),hF j hj]⟩
 ·obtain rfl:m=per p i:=by omega
  have hne':(((itp p (per p i) i:Nat):Int) != (i:Int))=false:=by rw [q2]; simp
  rw [<-q4] at hX
  simp (disch:=first | assumption | omega) only [go_sem,↓reduceIte,f1,f5,f6,hne',Gf,mapR]
  exact hV _ _ (hX.weak (by omega)) hF (by omega)
theorem Agm (a:Nat) (r:List Nat) (h10:r.length<=1000):Con T 1 59 [Bx (nI6 (a::r))] (.int .i64 (mnL (a::r))):=by
 refine Br t59 fun n hn V hV => ?_
 have hl:=Dw (a::r)
 have g0:(nI6 (a::r))[0]? = some (a:Int):=rfl
 have hmn:=A9e r a
 have hmn2:(r.foldl Nat.min a:Nat)=mnL (a::r):=rfl
 rw [hmn2] at hmn
 have hdr:(nI6 (a::r)).drop 1=nI6 r:=rfl
 rw [<-hdr] at hmn
 have hR1:¬(((a::r).length:Nat):Int)<1:=by simp only [List.length_cons]; omega
 have hR2:1<=(a::r).length:=by simp only [List.length_cons]; omega
 have hR3:(a::r).length<=1001:=by simp only [List.length_cons]; omega
 generalize hN:nI6 (a::r)=N at *
 generalize hR:(a::r).length=R at *
 simp (disch:=first | assumption | omega) only [c59,go_sem,↓reduceIte,hl,g0,hR1]
 refine Db (fun M s=>∃(k:Nat) (y:Int),M=R-k/\k<=R/\At s.env [(0,Bx N),(3,.int .i64 y),(4,.int .i64 k)]/\mnI (N.drop k) y=mnI (N.drop 1) a) (R-1) (by omega) ⟨1,a,by omega,by omega,by simp only [go_sem,↓reduceIte],rfl⟩ ?_
 rintro M e h hM ⟨k,y,rfl,hk,hE,hA⟩ P hP
 simp only [Bq,Bw] at hE
 obtain ⟨f0,f3,f4,-⟩:=hE
 by_cases hlt:k<R
 ·have hlt':(k:Int)<(R:Int):=by omega
  have gk:N[k]? = some (N.getD k 0):=by rw [List.getD_eq_getElem?_getD,List.getElem?_eq_getElem (by omega)]; rfl
  rw [Fa gk] at hA
  have hA2:mnI (N.drop (k+1)) (if N.getD k 0<y then N.getD k 0 else y)=mnI (N.drop 1) a:=hA
  simp (disch:=first | assumption | omega) only [go_sem,↓reduceIte,f0,f3,f4,hlt',gk,Mi,hl]
  exact hP (R-(k+1)) _ (by omega) ⟨k+1,_,rfl,by omega,by simp only [go_sem,↓reduceIte,f0],hA2⟩
 ·have hlt':¬(k:Int)<(R:Int):=by omega
  rw [List.drop_eq_nil_of_le (by omega)] at hA
  have hy:y=mnI (N.drop 1) a:=hA
  simp (disch:=first | assumption | omega) only [go_sem,↓reduceIte,f0,f3,f4,hlt',hl]
  refine hV _ _ ?_
  rw [Bm,hy,hmn]
end Go.Ev.YtofpilpmiddpgaaGreatC
namespace Go.Ev.YtofpilpmiddpgaaGreatC
open Go Go.Proofs
theorem A4f {lo:Nat} {h:Bc} {v:AV} {n m:Nat} {cs cs2:List AV} (ho:OwnG lo h v none n cs) (hcs:mapR (Bi h m) cs = .ret cs2):Bi h (m+1) v = .ret (.slice none cs2 false):=by
 rcases ho with ⟨rfl,rfl,rfl⟩ | ⟨key,ver,_,rfl,hH,h2⟩
 ·have:cs2=[]:=by
   rw [De] at hcs
   exact (Res.ret.inj hcs).symm
  rw [this]
  rfl
 ·have e:(cs.drop 0).take (n*Be none)=cs:=by rw [List.drop_zero,List.take_of_length_le (by omega)]
  rw [Bi]
  simp only [hH]
  rw [if_pos ⟨trivial,by omega⟩,e,hcs]
  rfl
theorem OwnG.keyLt {lo:Nat} {h:Bc} {v:AV} {g:Option Nat} {n:Nat} {cs:List AV} (ho:OwnG lo h v g n cs):∀j,Ea v=some j->j<h.length:=by
 intro j hj
 rcases ho with ⟨_,_,rfl⟩ | ⟨key,ver,_,rfl,hH,_⟩
 ·cases hj
 ·obtain rfl:key=j:=by simpa [Ea] using hj
  exact Dz hH (by simp)
def Mj (p:List Nat) (k:Nat):List (List Nat):=(((List.range p.length).drop k).filter (Iv p)).map (cyc p)
theorem Acd (p:List Nat):Mj p 0=Js p:=rfl
theorem Afr (p:List Nat):Mj p p.length=[]:=by
 rw [Mj,List.drop_eq_nil_of_le (by simp)]
 rfl
theorem Acc {p:List Nat} {k:Nat} (hk:k<p.length):Mj p k=if Iv p k then cyc p k::Mj p (k+1) else Mj p (k+1):=by
 have:(List.range p.length).drop k=k::(List.range p.length).drop (k+1):=by
  rw [List.drop_eq_getElem_cons (by simpa using hk),List.getElem_range]
 rw [Mj,this,List.filter_cons]
 split
 ·rfl
 ·rfl
theorem Yl {p:List Nat} (hp:PermN p) {i:Nat} (hi:i<p.length):(cyc p i).length<=p.length:=(Ip hp hi).2.1
attribute [local irreducible] Res.all evC Dg Dj Bo Bg Dm Bf Bi G GO GV GP GC R
theorem Wi (cs:List AV) (hz:∀h,mapR (Bi h 4) cs = .ret cs):Con T 1 25 [.ptr cs 0] (.clo 57 [] [.ptr [.ptr cs 0] 0]):=by
 refine Br t25 fun n hn V hV => ?_
 simp (disch:=first | assumption | omega) only [c25,go_sem,↓reduceIte]
 refine hV _ _ (Gq (De _ _) (Bu (Et (cs:=[.ptr cs 0]) (by simp only [go_sem,↓reduceIte]) (Bu ?_ (De _ _))) (De _ _)))
 exact Ds _ _ _ _
theorem Wr (p:List Nat) (hp:PermN p) (h10:p.length<=10) (key ver B0:Nat) (J:List (List Nat)->Bc->Prop) (hJ:∀r h h',(∀j,j<h.length->Bb h' j=Bb h j)->h.length<=h'.length->J r h->J r h') {n:Nat} (hn:3<=n)
  (hy:∀c r h x,B0<=h.length->ExO B0 h x (nI6 c)->J (c::r) h->(Bf T (n-1) true (.yld key ver) [x] h).all fun q=>q.1 = .bool true/\J r q.2/\B0<=q.2.length) (h:Bc) (hB:h.length=B0) (h0:J (Js p) h) (V:AV×Bc->Prop) (hV:∀v h',J [] h'->V (v,h')) :
  (Bf T n true (.fn 57) [.yld key ver,.ptr [.ptr [Bx (nI6 p)] 0] 0] h).all V:=by
 obtain ⟨m,rfl⟩:∃m,n=m+2:=⟨n-2,by omega⟩
 rw [Eg t57]
 have hl:=Dw p
 rw [<-Acd] at h0
 simp (disch:=first | assumption | omega) only [c57,go_sem,↓reduceIte,hl]
 refine Db (fun M st=>∃k:Nat,M=p.length-k/\k<=p.length/\At st.env [(0,.yld key ver),(3,.clo 58 [.agg [Bx (nI6 p)]] []),(16,.int .i64 p.length),(17,.int .i64 k)]/\J (Mj p k) st.heap/\B0<=st.heap.length) p.length (by omega)
  ⟨0,by omega,by omega,by simp only [go_sem,↓reduceIte],hJ _ h _ (fun j hj=>Bh _ _ _) (by simp only [List.length_append]; omega) h0,by simp only [List.length_append]; omega⟩ ?_
 rintro M e h1 hM ⟨k,rfl,hk,hE,hJ1,hb1⟩ P hP
 simp only [Bq,Bw] at hE hJ1 hb1
 obtain ⟨f0,f3,f16,f17,-⟩:=hE
 by_cases hlt:k<p.length
 ·have hlt':(k:Int)<(p.length:Int):=by omega
  have hcl:=Yl hp hlt
  have hmn:=(Aoi p k).1
  rw [Acc hlt] at hJ1
  simp (disch:=first | assumption | omega) only [go_sem,↓reduceIte,f0,f3,f16,f17,hlt']
  refine Fq (Abz p hp h10 hlt fun x h2 hX hF hL => ?_)
  have hJ2:=hJ _ _ _ hF hL hJ1
  simp (disch:=first | assumption | omega) only [go_sem,↓reduceIte]
  refine Dn (Agm k (Sq p k p.length (stp p k)) (by have:(Sq p k p.length (stp p k)).length+1=(cyc p k).length:=rfl; omega)) (by omega) (Dc hX.frz (By _)) (Ge _ _ _) ?_
  have hcy:mnL (k::Sq p k p.length (stp p k))=mnL (cyc p k):=rfl
  rw [hcy]
  cases hm:Iv p k with
  | true =>
   rw [hm,if_pos rfl] at hJ2
   have he:¬(mnL (cyc p k):Int)<(k:Int):=fun hc=>by
    have:=hmn.1 (by omega)
    rw [hm] at this
    cases this
   simp (disch:=first | assumption | omega) only [go_sem,↓reduceIte,f0,he]
   refine Fq (Res.all_mono _ (hy (cyc p k) (Mj p (k+1)) _ x (by omega) (hX.weak hb1) hJ2) ?_)
   rintro ⟨v,h'⟩ ⟨hv1,hJ',hb'⟩
   simp only at hv1 hJ' hb'
   subst hv1
   simp (disch:=first | assumption | omega) only [go_sem,↓reduceIte,f17]
   exact hP (p.length-(k+1)) _ (by omega) ⟨k+1,rfl,by omega,by simp only [go_sem,↓reduceIte,f0,f3,f16],hJ',hb'⟩
  | false =>
   rw [hm,if_neg (by decide)] at hJ2
   have he:(mnL (cyc p k):Int)<(k:Int):=by have:=hmn.2 hm; omega
   simp (disch:=first | assumption | omega) only [go_sem,↓reduceIte,f17,he]
   exact hP (p.length-(k+1)) _ (by omega) ⟨k+1,rfl,by omega,by simp only [go_sem,↓reduceIte,f0,f3,f16],hJ2,(show B0<=h2.length by omega)⟩
 ·obtain rfl:k=p.length:=by omega
  have hlt':¬(p.length:Int)<(p.length:Int):=by omega
  rw [Afr] at hJ1
  simp (disch:=first | assumption | omega) only [go_sem,↓reduceIte,f16,f17,hlt',Gf,mapR]
  exact hV _ _ hJ1
end Go.Ev.YtofpilpmiddpgaaGreatC
namespace Go.Ev.YtofpilpmiddpgaaGreatC
open Go Go.Proofs
def GaO (B:Nat) (h:Bc) (o:AV) (X:List (AV×List Nat)):Prop:=OwnG B h o none X.length (X.map (·.1))/\∀q∈X,ExO B h q.1 (nI6 q.2)/\q.2≠[]
theorem GaO.key {B:Nat} {h:Bc} {o:AV} {X:List (AV×List Nat)} (hg:GaO B h o X) {x:AV} {c:List Nat} (hx:ExO B h x (nI6 c)) (hc:c≠[]):∀k,Ea o=some k->Ea x≠some k:=by
 intro k hk hk2
 obtain ⟨h1,h2⟩:=hg
 rcases h1 with ⟨_,_,rfl⟩ | ⟨key,ver,_,rfl,hH,_⟩
 ·cases hk
 ·obtain rfl:key=k:=by simpa [Ea] using hk
  rcases hx with rfl | ⟨_,rfl⟩ | ⟨key2,ver2,_,rfl,hH2⟩
  ·cases hk2
  ·cases hk2
  ·obtain rfl:key2=key:=by simpa [Ea] using hk2
   rw [hH] at hH2
   have hcs:X.map (·.1)=(nI6 c).map (AV.int .i64):=by
    injection hH2
   cases c with
   | nil=>exact hc rfl
   | cons a r =>
    cases X with
    | nil=>cases hcs
    | cons q X =>
     simp only [List.map_cons,nI6] at hcs
     have hq1:=(List.cons.inj hcs).1
     have:=(h2 q (by simp)).1
     rw [hq1] at this
     rcases this with hh | ⟨_,hh⟩ | ⟨_,_,_,hh,_⟩ <;> cases hh
theorem GaO.other {B:Nat} {h h':Bc} {o:AV} {X:List (AV×List Nat)} (hg:GaO B h o X) (hf:∀j,B<=j->j<h.length->Bb h' j=Bb h j):GaO B h' o X:=by
 obtain ⟨h1,h2⟩:=hg
 refine ⟨?_,fun q hq=>⟨?_,(h2 q hq).2⟩⟩
 ·rcases h1 with h1 | ⟨key,ver,a,rfl,hH,b⟩
  ·exact .inl h1
  ·exact .inr ⟨key,ver,a,rfl,by rw [hf key a (Dz hH (by simp)),hH],b⟩
 ·rcases (h2 q hq).1 with hx | ⟨a,b⟩ | ⟨key,ver,a,b,c⟩
  ·exact .inl hx
  ·exact .inr (.inl ⟨a,b⟩)
  ·exact .inr (.inr ⟨key,ver,a,b,by rw [hf key a (Dz c (by simp)),c]⟩)
theorem OwnG.cells {lo:Nat} {h:Bc} {v:AV} {g:Option Nat} {n:Nat} {cs:List AV} (ho:OwnG lo h v g n cs):v.cells=[v]:=by
 rcases ho with ⟨_,_,rfl⟩ | ⟨_,_,_,rfl,_⟩ <;> rfl
theorem OwnG.oneB {lo:Nat} {h:Bc} {v:AV} {g:Option Nat} {n:Nat} {cs:List AV} (ho:OwnG lo h v g n cs):oneB v=true:=by
 rcases ho with ⟨_,_,rfl⟩ | ⟨_,_,_,rfl,_⟩ <;> rfl
theorem Aaq {h:Bc} {K ver:Nat} {a:AV} {c:Option Nat} (hK:Bb h K = .cells ver [a]):Dh h (.oslice K ver none 0 1 c)=some (none,1,[a]):=by
 simp [Dh,Be,hK]
theorem GaO.more {B:Nat} {h h1 h2:Bc} {o x x':AV} {X:List (AV×List Nat)} {c:List Nat} (hg:GaO B h o X) (hx:ExO B h x (nI6 c)) (hc:c≠[]) (h1e:∀j,B<=j->j<h.length->Bb h1 j=Bb h j) (hl:h.length<=h1.length)
  (ho:OwnG B h2 x' none (X.length+1) (X.map (·.1)++[x])) (hF:∀j,j<h1.length->Ea o≠some j->Bb h2 j=Bb h1 j):GaO B h2 x' (X++[(x,c)]):=by
 refine ⟨by rw [List.length_append,List.map_append]; exact ho,fun q hq => ?_⟩
 have key:∀(y:AV) (d:List Nat),ExO B h y (nI6 d)->d≠[]->ExO B h2 y (nI6 d):=by
  intro y d hy hd
  have hk:=fun k hk=>hg.key hy hd k hk
  rcases hy with hy | ⟨a,b⟩ | ⟨key,ver,a,b,e⟩
  ·exact .inl hy
  ·exact .inr (.inl ⟨a,b⟩)
  ·have hlt:=Dz e (by simp)
   have hne:Ea o≠some key:=fun hko=>hk key hko (by rw [b]; rfl)
   exact .inr (.inr ⟨key,ver,a,b,by rw [hF key (by omega) hne,h1e key a hlt,e]⟩)
 rcases List.mem_append.1 hq with hq | hq
 ·exact ⟨key _ _ (hg.2 q hq).1 (hg.2 q hq).2,(hg.2 q hq).2⟩
 ·obtain rfl:q=(x,c):=by simpa using hq
  exact ⟨key _ _ hx hc,hc⟩
theorem GaO.frz {B:Nat} {h:Bc} {o:AV} {X:List (AV×List Nat)} {m:Nat} (hg:GaO B h o X):Bi h (m+3) o = .ret (.slice none (X.map fun q=>Bx (nI6 q.2)) false):=by
 obtain ⟨h1,h2⟩:=hg
 refine A4f h1 ?_
 clear h1
 induction X with
 | nil=>rfl
 | cons q X ih=>exact Bu (h2 q (by simp)).1.frz (ih fun q hq=>h2 q (by simp [hq]))
attribute [local irreducible] Res.all evC Dg Dj Bo Bg Dm Bf Bi G GO GV GP GC R
theorem Nk (p:List Nat) (hp:PermN p) (h1:1<=p.length) (h10:p.length<=10):Con T 10 22 [Bx (nI6 p)] (.tuple [.ptr [Bx (nI6 p)] 0,.int .i64 0]):=
 Alx t22 (Ams p hp h1 h10) fun v h' ⟨K,key,ver,hv,hK,hH,_⟩=>by
  subst hv
  exact Fc (Et hK (Bu (Ml hH (by rw [Dw])) (De _ _))) (Bm _ _ _ _)
end Go.Ev.YtofpilpmiddpgaaGreatC
