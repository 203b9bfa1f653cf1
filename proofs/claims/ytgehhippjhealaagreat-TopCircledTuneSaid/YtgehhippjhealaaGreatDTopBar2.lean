/- The inverse of a number for a period: what the loop keeps, and what it ends with. The code of functions that are walked, compiled for the evaluator, as text. The divisor of two numbers, and the inverse, as the barrel reckons them. The drum of pins: the pairs that clash, by a map and a range that deletes. No condition but those that stand in each. -/
import Derived.Test.YtgehhippjhealaaGreatDEvComp
import Derived.Test.YtgehhippjhealaaGreatDTopW
import Derived.Test.YtgehhippjhealaaGreatDEvKer3
import Derived.Test.YtgehhippjhealaaGreatDTopGmp
set_option linter.unusedSimpArgs false
set_option linter.unusedVariables false
set_option maxRecDepth 100000
namespace Go.Ev.YtgehhippjhealaaGreatC
open Go
open Go.Proofs
def c131:IFunc:=⟨38,[.tmp 4],sO [dO 4 (.mv (cI 0))] (sO [dO 5 (.mv (cI 1)),dO 6 (.mv (cI 0))] (.seq (sO [mV 10 0,mV 11 1,bB 12 .rem 10 11,mV 13 1,mV 7 12,mV 8 13] (.block 0 (.loop (.seq (sO [mV 14 8,bC 15 .neq 14 0] (.cond (tM 15) .skip (.exit 0))) (.block 1 (sO [mV 16 7,mV 17 8,bB 18 .quo 16 17,mV 9 18] (sO [mV 19 8,mV 20 7,mV 21 9,mV 22 8,bB 23 .mul 21 22,bB 24 .sub 20 23,mV 7 19,mV 8 24] (.ops [mV 25 6,mV 26 5,mV 27 9,mV 28 6,bB 29 .mul 27 28,bB 30 .sub 26 29,mV 5 25,mV 6 30])))))))) (sO [mV 31 5,mV 32 1,bB 33 .rem 31 32,mV 34 1,bB 35 .add 33 34,mV 36 1,bB 37 .rem 35 36,mV 4 37] .ret)))⟩
theorem k131:(Bt Tryz.prog byr).fns 131=some c131:=by kernel_rfl
theorem t131:T.fns 131=some c131:=Bw k131 (by decide) (by decide)
def c67:IFunc:=⟨67,[.tmp 2,.tmp 3,.tmp 4],sO [dO 2 (.mv (cI 0)),dO 3 (.mv (cI 0)),dO 4 (.mv (cB false))] (.seq (sO [mV 12 0,dO 13 (.nilCheck (tM 12)),dO 14 (.fieldAddr 1 (tM 13)),lD 15 14,dO 16 (.lenM (tM 15)),bC 17 .gtr 16 0] (.cond (tM 17) (sO [dO 2 (.mv (cI 0)),dO 3 (.mv (cI 0)),dO 4 (.mv (cB false))] .ret) .skip)) (sO [dO 5 (.mv (cI 0)),dO 6 (.mv (cI 1))] (.seq (sO [mV 18 0,dO 19 (.nilCheck (tM 18)),dO 20 (.fieldAddr 0 (tM 19)),dO 21 (.fieldAddr 0 (tM 20)),lD 22 21,lN 23 22,dO 24 (.mv (cI 0))] (.block 0 (.loop (sO [bB 25 .lss 24 23] (.seq (.cond (tM 25) .skip (.exit 0)) (.seq (.block 1 (sO [dO 26 (.indexAddr 2 (tM 22) (tM 24)),dO 27 (.load (some 2) (tM 26)),dO 8 (.alloc [.int .i64 0,.int .i64 0]),eO (.store 2 (tM 8) (tM 27))] (sO [mV 28 6,dO 29 (.fieldAddr 0 (tM 8)),lD 30 29,dO 31 (.callF false 130 [tM 28,tM 30]),mV 9 31] (sO [dO 32 (.fieldAddr 0 (tM 8)),lD 33 32,mV 34 9,bB 35 .quo 33 34,mV 10 35] (sO [dO 36 (.fieldAddr 1 (tM 8)),lD 37 36,mV 38 5,bB 39 .sub 37 38,mV 40 9,bB 41 .quo 39 40,mV 42 10,bB 43 .rem 41 42,mV 44 6,mV 45 9,bB 46 .quo 44 45,mV 47 10,dO 48 (.callF false 131 [tM 46,tM 47]),bB 49 .mul 43 48,mV 50 10,bB 51 .rem 49 50,mV 11 51] (sO [mV 52 5,mV 53 11,mV 54 10,bB 55 .add 53 54,mV 56 10,bB 57 .rem 55 56,mV 58 6,bB 59 .mul 57 58,bB 60 .add 52 59,mV 5 60] (.ops [mV 61 6,mV 62 10,bB 63 .mul 61 62,mV 6 63]))))))) (.ops [bC 64 .add 24 1,mV 24 64]))))))) (sO [mV 65 5,mV 66 6,mV 2 65,mV 3 66,dO 4 (.mv (cB true))] .ret))))⟩
theorem k67:(Bt Tryz.prog byr).fns 67=some c67:=by kernel_rfl
theorem t67:T.fns 67=some c67:=Bw k67 (by decide) (by decide)
end Go.Ev.YtgehhippjhealaaGreatC
namespace Go.Ev.YtgehhippjhealaaGreatC
open Go Go.Proofs
attribute [local irreducible] Res.all evC Dd Df Br Bh Dj Bd Bi G GO GV GP GC R
theorem Hm (h:Bc) (n k:Nat):Bb (h++List.replicate n .none) (h.length+k) = .none:=by
 rw [Bg]
 exact Ef _ _ (by omega)
def prs (k:Nat):List (Nat×Nat):=(List.range k).flatMap fun b=>(List.range b).map fun a=>(a,b)
def prU (k i:Nat):List (Nat×Nat):=prs k++(List.range i).map fun a=>(a,k)
theorem Qp (k:Nat):prU k 0=prs k:=by simp [prU]
theorem Aax (k i:Nat):prU k (i+1)=prU k i++[(i,k)]:=by simp [prU,List.range_succ,List.append_assoc]
theorem Aaf (k:Nat):prU k k=prs (k+1):=by simp [prU,prs,List.range_succ]
theorem Ahz {k:Nat} {q:Nat×Nat}:q∈prs k↔q.1<q.2/\q.2<k:=by
 obtain ⟨a,b⟩:=q
 simp only [prs,List.mem_flatMap,List.mem_range,List.mem_map,Prod.mk.injEq]
 constructor
 ·rintro ⟨b',hb,a',ha,rfl,rfl⟩; exact ⟨ha,hb⟩
 ·rintro ⟨h1,h2⟩; exact ⟨b,h2,a,h1,rfl,rfl⟩
theorem Agb {k i:Nat} {q:Nat×Nat}:q∈prU k i↔(q.1<q.2/\q.2<k)\/(q.1<i/\q.2=k):=by
 obtain ⟨a,b⟩:=q
 simp only [prU,List.mem_append,Ahz,List.mem_map,List.mem_range,Prod.mk.injEq]
 constructor
 ·rintro (h | ⟨a',h,rfl,rfl⟩)
  ·exact .inl h
  ·exact .inr ⟨h,rfl⟩
 ·rintro (h | ⟨h,rfl⟩)
  ·exact .inl h
  ·exact .inr ⟨a,h,rfl,rfl⟩
theorem A7v:∀k,(prs k).Nodup
 | 0=>by simp [prs]
 | k+1=>by
  rw [<-Aaf]
  have h:∀i,(prU k i).Nodup:=fun i=>by
   induction i with
   | zero=>rw [Qp]; exact A7v k
   | succ i ih =>
    rw [Aax,List.nodup_append]
    refine ⟨ih,by simp,fun x hx y hy => ?_⟩
    obtain rfl:y=(i,k):=by simpa using hy
    intro e
    subst e
    have:=Agb.1 hx
    simp at this
  exact h k
def calm (l:List (Nat×Nat)) (t:LE):Bool:=decide (((((l.getD t.1.1 (0,0)).2:Nat):Int)-(((l.getD t.1.2 (0,0)).2:Nat):Int)).tmod (t.2.1:Int)=0)
end Go.Ev.YtgehhippjhealaaGreatC
