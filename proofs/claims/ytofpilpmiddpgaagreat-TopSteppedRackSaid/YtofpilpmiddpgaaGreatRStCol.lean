/- The code of functions that are walked, compiled for the evaluator, as text. The kept orders are as many as can be; what more work, earlier Dues and fewer orders change. Delays, step by step; what an exchange, more work, earlier Dues, one more order, later Dues and longer days change. Steps of neighbours bring a sequence of orders to that by Due, and no step makes the delay greater. A part of the proof. The code of functions that are walked, compiled for the evaluator, as text. A part of the proof. A part of the proof. All circles gathered: Circles of layer 6. No condition but those that stand in each. -/
import Derived.Test.YtofpilpmiddpgaaGreatRTopW
import Derived.Test.YtofpilpmiddpgaaGreatRL5Prog2
import Derived.Test.YtofpilpmiddpgaaGreatRStSteps
import Derived.Test.YtofpilpmiddpgaaGreatREvKer3
import Derived.Test.YtofpilpmiddpgaaGreatRStWrong
set_option linter.unusedSimpArgs false
set_option linter.unusedVariables false
set_option maxRecDepth 100000
namespace Go.Ev.YtofpilpmiddpgaaGreatC
open Go.Proofs
def c13:IFunc:=⟨15,[.tmp 2],sO [dO 2 (.mv (.const (.slice none [] true)))] (sO [dO 3 (.mv (.const (.slice none [] true)))] (.seq (sO [dO 4 (.mv (cI 0))] (.block 0 (.loop (.seq (sO [mV 5 4,mV 6 0,bB 7 .lss 5 6] (.cond (tM 7) .skip (.exit 0))) (.seq (.block 1 (.ops [mV 10 3,mV 11 4,dO 12 (.buildSlice none [.int .i64 0] [(0,(1,tM 11))]),dO 13 (.append none 8 (tM 10) (tM 12)),mV 3 13])) (.ops [mV 8 4,bC 9 .add 8 1,mV 4 9])))))) (sO [mV 14 3,mV 2 14] .ret)))⟩
theorem k13:(Bp Tryz.prog byr).fns 13=some c13:=by kernel_rfl
theorem t13:T.fns 13=some c13:=Bt k13 (by decide) (by decide)
end Go.Ev.YtofpilpmiddpgaaGreatC
namespace Go.Ev.YtofpilpmiddpgaaGreatC.P5
open Go
theorem Age {l:List Order} {w:List Int} (hw:∀x∈w,0<=x) {T:List Int} (h:Fl l w 0 T=true):Feas l w T:=by
 rw [Kv] at h
 intro d hd
 obtain ⟨x,hx,hxd⟩:=hd
 obtain ⟨k,i,hk,hp,hdrop⟩:=A0a (fun i=>decide (De l i<=d)) T ⟨x,hx,by simpa using hxd⟩
 have h3:T.filter (fun i=>decide (De l i<=d))=(T.take (k+1)).filter fun i=>decide (De l i<=d):=by
  conv=>lhs; rw [<-List.take_append_drop (k+1) T]
  rw [List.filter_append,hdrop,List.append_nil]
 have h4:=Lg hw (fun i=>decide (De l i<=d)) (T.take (k+1))
 have h5:=h k i hk
 have h6:De l i<=d:=by simpa using hp
 rw [h3]
 omega
theorem Wk {l m:List Order} {w v:List Int}:∀(S:List Int) (d d':Int),d'<=d->(∀i∈S,wk v i<=wk w i/\De l i<=De m i)->Fl l w d S=true->Fl m v d' S=true
 | [],_,_,_,_,_=>rfl
 | i::r,d,d',hd,hi,h=>by
  have h1:=hi i List.mem_cons_self
  simp only [Fl,Bool.and_eq_true,decide_eq_true_eq] at h ⊢
  exact ⟨by omega,Wk r (d+wk w i) (d'+wk v i) (by omega) (fun j hj=>hi j (List.mem_cons_of_mem _ hj)) h.2⟩
theorem Feas.mono {l m:List Order} {w v T:List Int} (hw:∀x∈w,0<=x) (hv:∀x∈v,0<=x) (hi:∀i∈T,wk v i<=wk w i/\De l i<=De m i) (h:Feas l w T):Feas m v T:=by
 have hp:(Ek (De l) [] T).Perm T:=by simpa using It (De l) T []
 have hs:(Ek (De l) [] T).Pairwise fun a b=>De l a<=De l b:=Ij _ _ _ List.Pairwise.nil
 have h1:=(Aao hw hs).2 (h.perm hp.symm)
 have h2:=Wk (m:=m) (v:=v) _ 0 0 (Int.le_refl 0) (fun i hi'=>hi i (hp.mem_iff.1 hi')) h1
 exact (Age hv h2).perm hp
def wi (l:List Order) (w:List Int) (D:Int):Int->List Int->Prop
 | _,[]=>True
 | day,i::r=>day+wk w i-De l i<=D/\wi l w D (day+wk w i) r
def atR (l:List Order) (i:Int):Int:=((Du l).idxOf i:Nat)
end Go.Ev.YtofpilpmiddpgaaGreatC.P5
namespace Go.Ev.YtofpilpmiddpgaaGreatC
open Go Go.Proofs
attribute [local irreducible] Res.all evC Dd Dg Bo Bf Dl Bg Bi G GO GV GP GC R
section
variable {n base:Nat} {Q:EX×St->Prop} {d:Option Nat} {L:List IOper} {ks:List Kont} {e:Env} {h:Bc}
theorem Oz {call:Bl} {b m kk:Nat} {y:AV} {k:IntKind} {l2:List Int} (hkk:kk=h.length) (hy:Db h y=some (none,m,l2.map (.int k))) (hm:m=l2.length) (hm0:0<m) (hr:m*b<=1099511627776)
  (H:GO call base Q L ks ⟨Bj e d (.oslice h.length (Bb h h.length).next none 0 l2.length none),setH h h.length (.cells (Bb h h.length).next (l2.map (.int k)))⟩) :
  GP call base Q d L ks e (Dc kk none b (.slice none [] true) y h):=by
 subst hm hkk
 have hroom:=Jv hr
 have h0:¬l2.length=0:=by omega
 have:Dc h.length none b (.slice none [] true) y h = .ret (.oslice h.length (Bb h h.length).next none 0 l2.length none,setH h h.length (.cells (Bb h h.length).next (l2.map (.int k)))):=by
  simp only [Dc,hy,List.length_nil,hroom,ne_eq,not_true_eq_false,if_false,Bool.true_eq_false,or_self,h0,Nat.zero_add,Ed,List.nil_append]
 rw [this,Gq]
 exact H
theorem Agp {l:List Int} {x:AV} (h1:1<=l.length) (h10:l.length<=1000) (hx:Db (h++List.replicate 6 .none) x=some (none,l.length,l.map (.int .i64)))
  (hq:∀key ver h',Bb h' key = .cells ver (l.map (.int .i64))->h.length<=key->key<h'.length->(∀j,j<h.length->Bb h' j=Bb h j)->h.length<=h'.length->GO (Bg T (n+1)) base Q L ks ⟨Bj e d (.oslice key ver none 0 l.length none),h'⟩) :
  GP (Bg T (n+1)) base Q d L ks e (Bg T (n+1) true (.fn 17) [x] h):=by
 refine Fm ?_
 rw [Ei t17]
 simp (disch:=omega) only [c17,go_sem,↓reduceIte]
 refine Oz (m:=l.length) (l2:=l) (by simp only [List.length_append,List.length_replicate]) hx rfl (by omega) (by omega) ?_
 simp (disch:=omega) only [go_sem,↓reduceIte,Ge,mapR]
 refine hq _ _ _ (getH_setH_self ..) (by simp) (by simp only [Bd,List.length_append,List.length_replicate]; omega) (fun j hj => ?_) (by simp only [Bd,List.length_append,List.length_replicate]; omega)
 rw [Ba _ _ _ _ (by simp; omega),Bh]
end
end Go.Ev.YtofpilpmiddpgaaGreatC
namespace Go.Ev.YtofpilpmiddpgaaGreatC
open Go.Proofs
def c7:IFunc:=⟨16,[.tmp 2,.tmp 3],sO [dO 2 (.mv (cI 0)),dO 3 (.mv (cI 0))] (sO [mV 7 0,dO 8 (.callF false 22 [tM 7]),mV 6 8,xT 9 6 0,xT 10 6 1,mV 4 9,mV 5 10] (.seq (sO [mV 11 5,bC 12 .neq 11 0] (.cond (tM 12) (sO [mV 13 5,dO 2 (.mv (cI 0)),mV 3 13] .ret) .skip)) (sO [mV 14 4,dO 15 (.callF false 23 [tM 14]),mV 2 15,dO 3 (.mv (cI 0))] .ret)))⟩
theorem k7:(Bp Tryz.prog byr).fns 7=some c7:=by kernel_rfl
theorem t7:T.fns 7=some c7:=Bt k7 (by decide) (by decide)
def c23:IFunc:=⟨26,[.tmp 2],sO [dO 2 (.mv (cI 0))] (sO [dO 3 (.alloc [.int .i64 0]),eO (.store 1 (tM 3) (cI 1))] (.seq (sO [mV 7 0,dO 8 (.callF false 25 [tM 7])] (.block 0 (.rangeF (tM 8) [9] (.ops [mV 4 9]) (.block 1 (sO [lD 10 3,mV 11 4,lN 12 11,mV 5 10,mV 6 12] (.seq (.block 2 (.loop (.seq (sO [mV 13 6,bC 14 .gtr 13 0] (.cond (tM 14) .skip (.exit 2))) (.block 3 (.ops [mV 15 6,mV 16 5,mV 17 6,bB 18 .rem 16 17,mV 5 15,mV 6 18]))))) (.ops [lD 19 3,mV 20 5,bB 21 .quo 19 20,mV 22 4,lN 23 22,bB 24 .mul 21 23,eO (.store 1 (tM 3) (tM 24))]))))))) (sO [lD 25 3,mV 2 25] .ret)))⟩
theorem k23:(Bp Tryz.prog byr).fns 23=some c23:=by kernel_rfl
theorem t23:T.fns 23=some c23:=Bt k23 (by decide) (by decide)
def c68:IFunc:=⟨47,[.tmp 4,.tmp 5],sO [dO 4 (.mv (.const (.slice none [] true))),dO 5 (.mv (cI 0))] (sO [mV 12 0,mV 13 1,dO 14 (.buildSlice none [.int .i64 0] [(0,(1,tM 13))]),dO 15 (.callF false 125 [tM 12,tM 14]),mV 11 15,xT 16 11 0,xT 17 11 1,mV 6 16,mV 7 17] (.seq (sO [mV 18 7,bC 19 .neq 18 0] (.cond (tM 19) (sO [mV 20 7,dO 4 (.mv (.const (.slice none [] true))),mV 5 20] .ret) .skip)) (sO [mV 21 6,dO 22 (.nilCheck (tM 21)),dO 23 (.fieldAddr 0 (tM 22)),dO 24 (.load (some 1) (tM 23)),mV 25 1,dO 26 (.callF false 126 [tM 24,tM 25]),dO 8 (.alloc [.int .i64 0,.int .i64 0,.int .i64 0,.int .i64 0,.int .i64 0]),eO (.store 5 (tM 8) (tM 26))] (sO [dO 9 (.mv (.const (.slice none [] true)))] (.seq (sO [mV 27 0,lN 28 27,dO 29 (.mv (cI 0))] (.block 0 (.loop (sO [bB 30 .lss 29 28] (.seq (.cond (tM 30) .skip (.exit 0)) (.seq (.block 1 (sO [mV 31 29,mV 10 31] (sO [mV 32 10,dO 33 (.indexAddrA 5 1 (tM 8) (tM 32)),lD 34 33,bC 35 .gtr 34 0] (.cond (tM 35) (.ops [mV 36 9,mV 37 9,lN 38 37,mV 39 9,lN 40 39,dO 41 (.slice none (tM 36) none (some (tM 38)) (some (tM 40))),mV 42 10,dO 43 (.buildSlice none [.int .i64 0] [(0,(1,tM 42))]),dO 44 (.append none 8 (tM 41) (tM 43)),mV 9 44]) .skip)))) (.ops [bC 45 .add 29 1,mV 29 45]))))))) (sO [mV 46 9,mV 4 46,dO 5 (.mv (cI 0))] .ret))))))⟩
theorem k68:(Bp Tryz.prog byr).fns 68=some c68:=by kernel_rfl
theorem t68:T.fns 68=some c68:=Bt k68 (by decide) (by decide)
end Go.Ev.YtofpilpmiddpgaaGreatC
namespace Go.Ev.YtofpilpmiddpgaaGreatC
open Go Go.Proofs
def ExO (lo:Nat) (h:Bc) (x:AV) (l:List Int):Prop:=x = .slice none (l.map (.int .i64)) true\/Own lo h x .i64 l
theorem ExO.frz {lo:Nat} {h:Bc} {x:AV} {l:List Int} {n:Nat} (hx:ExO lo h x l):Bi h (n+2) x = .ret (Dk l):=by
 rcases hx with rfl | hx
 ·exact Eg _ _ _ _ _
 ·exact Oc hx
theorem ExO.lenA {lo:Nat} {h:Bc} {x:AV} {l:List Int} (hx:ExO lo h x l):lenA x=some l.length:=by
 rcases hx with rfl | hx
 ·rw [Za,List.length_map]
 ·exact hx.lenA
theorem ExO.cells {lo:Nat} {h:Bc} {x:AV} {l:List Int} (hx:ExO lo h x l):x.cells=[x]:=by
 rcases hx with rfl | hx
 ·rfl
 ·exact hx.cells
theorem ExO.oneB {lo:Nat} {h:Bc} {x:AV} {l:List Int} (hx:ExO lo h x l):oneB x=true:=by
 rcases hx with rfl | hx
 ·rfl
 ·exact hx.oneB
theorem ExO.other {lo:Nat} {h h':Bc} {x:AV} {l:List Int} (hx:ExO lo h x l) (hf:∀j,j<h.length->Bb h' j=Bb h j):ExO lo h' x l:=by
 rcases hx with rfl | hx
 ·exact .inl rfl
 ·exact .inr (hx.other fun j hj=>hf j (hx.keyLt j hj))
attribute [local irreducible] Res.all evC Dd Dg Bo Bf Dl Bg Bi G GO GV GP GC R
end Go.Ev.YtofpilpmiddpgaaGreatC
namespace Go.Ev.YtofpilpmiddpgaaGreatC
open Go Go.Proofs
theorem A4d {lo:Nat} {h:Bc} {v:AV} {n m:Nat} {cs cs2:List AV} (ho:OwnG lo h v none n cs) (hcs:mapR (Bi h m) cs = .ret cs2):Bi h (m+1) v = .ret (.slice none cs2 false):=by
 rcases ho with ⟨rfl,rfl,rfl⟩ | ⟨key,ver,_,rfl,hH,h2⟩
 ·have:cs2=[]:=by
   rw [Df] at hcs
   exact (Res.ret.inj hcs).symm
  rw [this]
  rfl
 ·have e:(cs.drop 0).take (n*Be none)=cs:=by rw [List.drop_zero,List.take_of_length_le (by omega)]
  rw [Bi]
  simp only [hH]
  rw [if_pos ⟨trivial,by omega⟩,e,hcs]
  rfl
theorem OwnG.keyLt {lo:Nat} {h:Bc} {v:AV} {g:Option Nat} {n:Nat} {cs:List AV} (ho:OwnG lo h v g n cs):∀j,Do v=some j->j<h.length:=by
 intro j hj
 rcases ho with ⟨_,_,rfl⟩ | ⟨key,ver,_,rfl,hH,_⟩
 ·cases hj
 ·obtain rfl:key=j:=by simpa [Do] using hj
  exact Dy hH (by simp)
attribute [local irreducible] Res.all evC Dd Dg Bo Bf Dl Bg Bi G GO GV GP GC R
end Go.Ev.YtofpilpmiddpgaaGreatC
namespace Go.Ev.YtofpilpmiddpgaaGreatC
open Go Go.Proofs
def GaO (B:Nat) (h:Bc) (o:AV) (X:List (AV×List Nat)):Prop:=OwnG B h o none X.length (X.map (·.1))/\∀q∈X,ExO B h q.1 (nI6 q.2)/\q.2≠[]
theorem GaO.key {B:Nat} {h:Bc} {o:AV} {X:List (AV×List Nat)} (hg:GaO B h o X) {x:AV} {c:List Nat} (hx:ExO B h x (nI6 c)) (hc:c≠[]):∀k,Do o=some k->Do x≠some k:=by
 intro k hk hk2
 obtain ⟨h1,h2⟩:=hg
 rcases h1 with ⟨_,_,rfl⟩ | ⟨key,ver,_,rfl,hH,_⟩
 ·cases hk
 ·obtain rfl:key=k:=by simpa [Do] using hk
  rcases hx with rfl | ⟨_,rfl⟩ | ⟨key2,ver2,_,rfl,hH2⟩
  ·cases hk2
  ·cases hk2
  ·obtain rfl:key2=key:=by simpa [Do] using hk2
   rw [hH] at hH2
   have hcs:X.map (·.1)=(nI6 c).map (AV.int .i64):=by
    injection hH2
   cases c with
   | nil=>exact hc rfl
   | cons a r =>
    cases X with
    | nil=>cases hcs
    | cons q X =>
     simp only [List.map_cons,nI6] at hcs
     have hq1:=(List.cons.inj hcs).1
     have:=(h2 q (by simp)).1
     rw [hq1] at this
     rcases this with hh | ⟨_,hh⟩ | ⟨_,_,_,hh,_⟩ <;> cases hh
theorem GaO.other {B:Nat} {h h':Bc} {o:AV} {X:List (AV×List Nat)} (hg:GaO B h o X) (hf:∀j,B<=j->j<h.length->Bb h' j=Bb h j):GaO B h' o X:=by
 obtain ⟨h1,h2⟩:=hg
 refine ⟨?_,fun q hq=>⟨?_,(h2 q hq).2⟩⟩
 ·rcases h1 with h1 | ⟨key,ver,a,rfl,hH,b⟩
  ·exact .inl h1
  ·exact .inr ⟨key,ver,a,rfl,by rw [hf key a (Dy hH (by simp)),hH],b⟩
 ·rcases (h2 q hq).1 with hx | ⟨a,b⟩ | ⟨key,ver,a,b,c⟩
  ·exact .inl hx
  ·exact .inr (.inl ⟨a,b⟩)
  ·exact .inr (.inr ⟨key,ver,a,b,by rw [hf key a (Dy c (by simp)),c]⟩)
theorem OwnG.cells {lo:Nat} {h:Bc} {v:AV} {g:Option Nat} {n:Nat} {cs:List AV} (ho:OwnG lo h v g n cs):v.cells=[v]:=by
 rcases ho with ⟨_,_,rfl⟩ | ⟨_,_,_,rfl,_⟩ <;> rfl
theorem OwnG.oneB {lo:Nat} {h:Bc} {v:AV} {g:Option Nat} {n:Nat} {cs:List AV} (ho:OwnG lo h v g n cs):oneB v=true:=by
 rcases ho with ⟨_,_,rfl⟩ | ⟨_,_,_,rfl,_⟩ <;> rfl
theorem A2v {h:Bc} {K ver:Nat} {a:AV} {c:Option Nat} (hK:Bb h K = .cells ver [a]):Db h (.oslice K ver none 0 1 c)=some (none,1,[a]):=by
 simp [Db,Be,hK]
theorem GaO.more {B:Nat} {h h1 h2:Bc} {o x x':AV} {X:List (AV×List Nat)} {c:List Nat} (hg:GaO B h o X) (hx:ExO B h x (nI6 c)) (hc:c≠[]) (h1e:∀j,B<=j->j<h.length->Bb h1 j=Bb h j) (hl:h.length<=h1.length)
  (ho:OwnG B h2 x' none (X.length+1) (X.map (·.1)++[x])) (hF:∀j,j<h1.length->Do o≠some j->Bb h2 j=Bb h1 j):GaO B h2 x' (X++[(x,c)]):=by
 refine ⟨by rw [List.length_append,List.map_append]; exact ho,fun q hq => ?_⟩
 have key:∀(y:AV) (d:List Nat),ExO B h y (nI6 d)->d≠[]->ExO B h2 y (nI6 d):=by
  intro y d hy hd
  have hk:=fun k hk=>hg.key hy hd k hk
  rcases hy with hy | ⟨a,b⟩ | ⟨key,ver,a,b,e⟩
  ·exact .inl hy
  ·exact .inr (.inl ⟨a,b⟩)
  ·have hlt:=Dy e (by simp)
   have hne:Do o≠some key:=fun hko=>hk key hko (by rw [b]; rfl)
   exact .inr (.inr ⟨key,ver,a,b,by rw [hF key (by omega) hne,h1e key a hlt,e]⟩)
 rcases List.mem_append.1 hq with hq | hq
 ·exact ⟨key _ _ (hg.2 q hq).1 (hg.2 q hq).2,(hg.2 q hq).2⟩
 ·obtain rfl:q=(x,c):=by simpa using hq
  exact ⟨key _ _ hx hc,hc⟩
theorem GaO.frz {B:Nat} {h:Bc} {o:AV} {X:List (AV×List Nat)} {m:Nat} (hg:GaO B h o X):Bi h (m+3) o = .ret (.slice none (X.map fun q=>Dk (nI6 q.2)) false):=by
 obtain ⟨h1,h2⟩:=hg
 refine A4d h1 ?_
 clear h1
 induction X with
 | nil=>rfl
 | cons q X ih=>exact Bv (h2 q (by simp)).1.frz (ih fun q hq=>h2 q (by simp [hq]))
attribute [local irreducible] Res.all evC Dd Dg Bo Bf Dl Bg Bi G GO GV GP GC R
end Go.Ev.YtofpilpmiddpgaaGreatC
