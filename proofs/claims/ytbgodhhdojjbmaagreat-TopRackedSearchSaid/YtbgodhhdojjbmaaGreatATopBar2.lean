/- The inverse of a number for a period: what the loop keeps, and what it ends with. The code of functions that are walked, compiled for the evaluator, as text. The divisor of two numbers, and the inverse, as the barrel reckons them. The drum of pins: the pairs that clash, by a map and a range that deletes. No condition but those that stand in each. -/
import Derived.Test.YtbgodhhdojjbmaaGreatAEvComp
import Derived.Test.YtbgodhhdojjbmaaGreatATopW
import Derived.Test.YtbgodhhdojjbmaaGreatAEvKer3
import Derived.Test.YtbgodhhdojjbmaaGreatATopGmp
set_option linter.unusedSimpArgs false
set_option linter.unusedVariables false
set_option maxRecDepth 100000
namespace Go.Ev.YtbgodhhdojjbmaaGreatC
open Go
open Go.Proofs
def c229:IFunc:=⟨13,[.tmp 4],sO [dO 4 (.mv (cI 0))] (.seq (sO [mV 5 1,bC 6 .eql 5 0] (.cond (tM 6) (sO [mV 7 0,mV 4 7] .ret) .skip)) (sO [mV 8 1,mV 9 0,mV 10 1,bB 11 .rem 9 10,dO 12 (.callF false 229 [tM 8,tM 11]),mV 4 12] .ret))⟩
theorem k229:(Bm Tryz.prog byr).fns 229=some c229:=by kernel_rfl
theorem t229:T.fns 229=some c229:=Bp k229 (by decide) (by decide)
def c226:IFunc:=⟨93,[.tmp 2],sO [dO 2 (.mv (.const .nilptr))] (sO [mV 10 0,dO 11 (.build [.slice (some 2) [] true] [(0,(1,tM 10))]),⟨some 12,.mkMap,none⟩,dO 13 (.build [.slice (some 2) [] true,.fmap [] []] [(0,(1,tM 11)),(1,(1,tM 12))]),dO 14 (.box (tM 13)),mV 3 14] (.seq (sO [mV 15 3,dO 16 (.nilCheck (tM 15)),dO 17 (.fieldAddr 0 (tM 16)),dO 18 (.fieldAddr 0 (tM 17)),lD 19 18,lN 20 19,dO 21 (.mv (cI 0))] (.block 0 (.loop (sO [bB 22 .lss 21 20] (.seq (.cond (tM 22) .skip (.exit 0)) (.seq (.block 1 (sO [mV 23 21,dO 24 (.indexAddr 2 (tM 19) (tM 21)),dO 25 (.load (some 2) (tM 24)),dO 5 (.alloc [.int .i64 0,.int .i64 0]),mV 4 23,eO (.store 2 (tM 5) (tM 25))] (sO [mV 26 3,dO 27 (.nilCheck (tM 26)),dO 28 (.fieldAddr 0 (tM 27)),dO 29 (.fieldAddr 0 (tM 28)),lD 30 29,mV 31 4,dO 32 (.slice (some 2) (tM 30) none (some (tM 31)) none),lN 33 32,dO 34 (.mv (cI 0))] (.block 2 (.loop (sO [bB 35 .lss 34 33] (.seq (.cond (tM 35) .skip (.exit 2)) (.seq (.block 3 (sO [mV 36 34,dO 37 (.indexAddr 2 (tM 32) (tM 34)),dO 38 (.load (some 2) (tM 37)),dO 7 (.alloc [.int .i64 0,.int .i64 0]),mV 6 36,eO (.store 2 (tM 7) (tM 38))] (.ops [mV 39 3,dO 40 (.nilCheck (tM 39)),dO 41 (.fieldAddr 1 (tM 40)),lD 42 41,mV 43 6,mV 44 4,dO 45 (.build [.int .i64 0,.int .i64 0] [(0,(1,tM 43)),(1,(1,tM 44))]),dO 46 (.fieldAddr 0 (tM 7)),lD 47 46,dO 48 (.fieldAddr 0 (tM 5)),lD 49 48,dO 50 (.callF false 229 [tM 47,tM 49]),eO (.mapUpdate (some 2) (tM 42) (tM 45) (tM 50))]))) (.ops [bC 51 .add 34 1,mV 34 51]))))))))) (.ops [bC 52 .add 21 1,mV 21 52]))))))) (.seq (sO [mV 53 3,dO 54 (.nilCheck (tM 53)),dO 55 (.fieldAddr 1 (tM 54)),lD 56 55,dO 57 (.range (tM 56))] (.block 4 (.loop (sO [dO 58 (.next (tM 57)),xT 59 58 0] (.seq (.cond (tM 59) .skip (.exit 4)) (.block 5 (sO [dO 60 (.entry (tM 57)),xT 61 60 0,xT 62 60 1,dO 8 (.alloc [.int .i64 0,.int .i64 0]),eO (.store 2 (tM 8) (tM 61)),mV 9 62] (sO [mV 63 3,dO 64 (.nilCheck (tM 63)),dO 65 (.fieldAddr 0 (tM 64)),dO 66 (.fieldAddr 0 (tM 65)),lD 67 66,dO 68 (.fieldAddr 0 (tM 8)),lD 69 68,dO 70 (.indexAddr 2 (tM 67) (tM 69)),dO 71 (.fieldAddr 1 (tM 70)),lD 72 71,mV 73 3,dO 74 (.nilCheck (tM 73)),dO 75 (.fieldAddr 0 (tM 74)),dO 76 (.fieldAddr 0 (tM 75)),lD 77 76,dO 78 (.fieldAddr 1 (tM 8)),lD 79 78,dO 80 (.indexAddr 2 (tM 77) (tM 79)),dO 81 (.fieldAddr 1 (tM 80)),lD 82 81,bB 83 .sub 72 82,mV 84 9,bB 85 .rem 83 84,bC 86 .eql 85 0] (.cond (tM 86) (.ops [mV 87 3,dO 88 (.nilCheck (tM 87)),dO 89 (.fieldAddr 1 (tM 88)),lD 90 89,dO 91 (.load (some 2) (tM 8)),eO (.delete (some 2) (tM 90) (tM 91))]) .skip))))))))) (sO [mV 92 3,mV 2 92] .ret))))⟩
theorem k226:(Bm Tryz.prog byr).fns 226=some c226:=by kernel_rfl
theorem t226:T.fns 226=some c226:=Bp k226 (by decide) (by decide)
def c218:IFunc:=⟨67,[.tmp 2,.tmp 3,.tmp 4],sO [dO 2 (.mv (cI 0)),dO 3 (.mv (cI 0)),dO 4 (.mv (cB false))] (.seq (sO [mV 12 0,dO 13 (.nilCheck (tM 12)),dO 14 (.fieldAddr 1 (tM 13)),lD 15 14,dO 16 (.lenM (tM 15)),bC 17 .gtr 16 0] (.cond (tM 17) (sO [dO 2 (.mv (cI 0)),dO 3 (.mv (cI 0)),dO 4 (.mv (cB false))] .ret) .skip)) (sO [dO 5 (.mv (cI 0)),dO 6 (.mv (cI 1))] (.seq (sO [mV 18 0,dO 19 (.nilCheck (tM 18)),dO 20 (.fieldAddr 0 (tM 19)),dO 21 (.fieldAddr 0 (tM 20)),lD 22 21,lN 23 22,dO 24 (.mv (cI 0))] (.block 0 (.loop (sO [bB 25 .lss 24 23] (.seq (.cond (tM 25) .skip (.exit 0)) (.seq (.block 1 (sO [dO 26 (.indexAddr 2 (tM 22) (tM 24)),dO 27 (.load (some 2) (tM 26)),dO 8 (.alloc [.int .i64 0,.int .i64 0]),eO (.store 2 (tM 8) (tM 27))] (sO [mV 28 6,dO 29 (.fieldAddr 0 (tM 8)),lD 30 29,dO 31 (.callF false 229 [tM 28,tM 30]),mV 9 31] (sO [dO 32 (.fieldAddr 0 (tM 8)),lD 33 32,mV 34 9,bB 35 .quo 33 34,mV 10 35] (sO [dO 36 (.fieldAddr 1 (tM 8)),lD 37 36,mV 38 5,bB 39 .sub 37 38,mV 40 9,bB 41 .quo 39 40,mV 42 10,bB 43 .rem 41 42,mV 44 6,mV 45 9,bB 46 .quo 44 45,mV 47 10,dO 48 (.callF false 276 [tM 46,tM 47]),bB 49 .mul 43 48,mV 50 10,bB 51 .rem 49 50,mV 11 51] (sO [mV 52 5,mV 53 11,mV 54 10,bB 55 .add 53 54,mV 56 10,bB 57 .rem 55 56,mV 58 6,bB 59 .mul 57 58,bB 60 .add 52 59,mV 5 60] (.ops [mV 61 6,mV 62 10,bB 63 .mul 61 62,mV 6 63]))))))) (.ops [bC 64 .add 24 1,mV 24 64]))))))) (sO [mV 65 5,mV 66 6,mV 2 65,mV 3 66,dO 4 (.mv (cB true))] .ret))))⟩
theorem k218:(Bm Tryz.prog byr).fns 218=some c218:=by kernel_rfl
theorem t218:T.fns 218=some c218:=Bp k218 (by decide) (by decide)
def c216:IFunc:=⟨19,[.tmp 4,.tmp 5],sO [dO 4 (.mv (.const .nilptr)),dO 5 (.mv (cI 0))] (sO [mV 7 0,dO 8 (.callF false 225 [tM 7]),mV 6 8] (.seq (.block 0 (sO [mV 10 6,bC 11 .neq 10 0,mV 9 11] (.cond (tM 9) (sO [mV 12 6,dO 4 (.mv (.const .nilptr)),mV 5 12] .ret) (sO [mV 14 1,dO 15 (.callF false 220 [cI 0,cI 1000000000000,tM 14]),dO 16 (.un .not (tM 15)),mV 13 16] (.cond (tM 13) (sO [dO 4 (.mv (.const .nilptr)),dO 5 (.mv (cI 3))] .ret) .skip))))) (sO [mV 17 0,dO 18 (.callF true 226 [tM 17]),mV 4 18,dO 5 (.mv (cI 0))] .ret)))⟩
theorem k216:(Bm Tryz.prog byr).fns 216=some c216:=by kernel_rfl
theorem t216:T.fns 216=some c216:=Bp k216 (by decide) (by decide)
def c225:IFunc:=⟨14,[.tmp 2],sO [dO 2 (.mv (cI 0))] (sO [dO 3 (.mv (.const (.clo 281 [] [])))] (.seq (.block 0 (sO [mV 5 0,lN 6 5,dO 7 (.buildSlice none [.int .i64 0] [(0,(1,tM 6))]),dO 8 (.callF false 220 [cI 1,cI 5,tM 7]),dO 9 (.un .not (tM 8)),mV 4 9] (.cond (tM 4) (sO [dO 2 (.mv (cI 6))] .ret) (sO [mV 11 0,mV 12 3,dO 13 (.callF false 282 [tM 11,tM 12]),mV 10 13] (.cond (tM 10) (sO [dO 2 (.mv (cI 3))] .ret) .skip))))) (sO [dO 2 (.mv (cI 0))] .ret)))⟩
theorem k225:(Bm Tryz.prog byr).fns 225=some c225:=by kernel_rfl
theorem t225:T.fns 225=some c225:=Bp k225 (by decide) (by decide)
def c220:IFunc:=⟨11,[.tmp 6],sO [dO 3 (.box (tM 0)),dO 4 (.box (tM 1)),dO 6 (.mv (cB false))] (sO [mV 7 2,dO 8 (.mkFunc 278 [] [tM 3,tM 4]),dO 9 (.callF false 79 [tM 7,tM 8]),dO 10 (.un .not (tM 9)),mV 6 10] .ret)⟩
theorem k220:(Bm Tryz.prog byr).fns 220=some c220:=by kernel_rfl
theorem t220:T.fns 220=some c220:=Bp k220 (by decide) (by decide)
def c281:IFunc:=⟨18,[.tmp 2],sO [dO 1 (.box (tM 0)),dO 2 (.mv (cB false))] (sO [dO 3 (.fieldAddr 0 (tM 1)),lD 4 3,dO 5 (.buildSlice none [.int .i64 0] [(0,(1,tM 4))]),dO 6 (.callF false 220 [cI 1,cI 200,tM 5]),dO 7 (.un .not (tM 6)),mV 8 7,gO 9 (.fieldAddr 0 (tM 1)) 8 false,gO 10 (.load none (tM 9)) 8 false,gO 11 (.bin .sub (tM 10) (cI 1)) 8 false,gO 12 (.fieldAddr 1 (tM 1)) 8 false,gO 13 (.load none (tM 12)) 8 false,gO 14 (.buildSlice none [.int .i64 0] [(0,(1,tM 13))]) 8 false,gO 15 (.callF false 220 [cI 0,tM 11,tM 14]) 8 false,gO 16 (.un .not (tM 15)) 8 false,dO 17 (.pick (tM 8) (cB true) (tM 16)),mV 2 17] .ret)⟩
theorem k281:(Bm Tryz.prog byr).fns 281=some c281:=by kernel_rfl
theorem t281:T.fns 281=some c281:=Bp k281 (by decide) (by decide)
def c278:IFunc:=⟨13,[.tmp 4],sO [dO 4 (.mv (cB false))] (sO [mV 5 0,lD 6 1,bB 7 .lss 5 6,mV 8 7,gV 9 0 8 false,gO 10 (.load none (tM 2)) 8 false,gO 11 (.bin .gtr (tM 9) (tM 10)) 8 false,dO 12 (.pick (tM 8) (cB true) (tM 11)),mV 4 12] .ret)⟩
theorem k278:(Bm Tryz.prog byr).fns 278=some c278:=by kernel_rfl
theorem t278:T.fns 278=some c278:=Bp k278 (by decide) (by decide)
def c282:IFunc:=⟨9,[.tmp 4],sO [dO 4 (.mv (cB false))] (sO [mV 5 0,mV 6 1,dO 7 (.callF false 327 [tM 5,tM 6]),bC 8 .geq 7 0,mV 4 8] .ret)⟩
theorem k282:(Bm Tryz.prog byr).fns 282=some c282:=by kernel_rfl
theorem t282:T.fns 282=some c282:=Bp k282 (by decide) (by decide)
def c327:IFunc:=⟨19,[.tmp 4],sO [dO 4 (.mv (cI 0))] (.seq (sO [mV 6 0,lN 7 6,dO 8 (.mv (cI 0))] (.block 0 (.loop (sO [bB 9 .lss 8 7] (.seq (.cond (tM 9) .skip (.exit 0)) (.seq (.block 1 (sO [mV 10 8,mV 5 10] (sO [mV 11 1,mV 12 0,mV 13 5,dO 14 (.indexAddr 2 (tM 12) (tM 13)),dO 15 (.load (some 2) (tM 14)),dO 16 (.call false (tM 11) [tM 15])] (.cond (tM 16) (sO [mV 17 5,mV 4 17] .ret) .skip)))) (.ops [bC 18 .add 8 1,mV 8 18]))))))) (sO [dO 4 (.mv (cI (-1)))] .ret))⟩
theorem k327:(Bm Tryz.prog byr).fns 327=some c327:=by kernel_rfl
theorem t327:T.fns 327=some c327:=Bp k327 (by decide) (by decide)
def c79:IFunc:=⟨9,[.tmp 4],sO [dO 4 (.mv (cB false))] (sO [mV 5 0,mV 6 1,dO 7 (.callF false 128 [tM 5,tM 6]),bC 8 .geq 7 0,mV 4 8] .ret)⟩
theorem k79:(Bm Tryz.prog byr).fns 79=some c79:=by kernel_rfl
theorem t79:T.fns 79=some c79:=Bp k79 (by decide) (by decide)
def c128:IFunc:=⟨19,[.tmp 4],sO [dO 4 (.mv (cI 0))] (.seq (sO [mV 6 0,lN 7 6,dO 8 (.mv (cI 0))] (.block 0 (.loop (sO [bB 9 .lss 8 7] (.seq (.cond (tM 9) .skip (.exit 0)) (.seq (.block 1 (sO [mV 10 8,mV 5 10] (sO [mV 11 1,mV 12 0,mV 13 5,iA 14 12 13,lD 15 14,dO 16 (.call false (tM 11) [tM 15])] (.cond (tM 16) (sO [mV 17 5,mV 4 17] .ret) .skip)))) (.ops [bC 18 .add 8 1,mV 8 18]))))))) (sO [dO 4 (.mv (cI (-1)))] .ret))⟩
theorem k128:(Bm Tryz.prog byr).fns 128=some c128:=by kernel_rfl
theorem t128:T.fns 128=some c128:=Bp k128 (by decide) (by decide)
end Go.Ev.YtbgodhhdojjbmaaGreatC
namespace Go.Ev.YtbgodhhdojjbmaaGreatC
open Go Go.Proofs
attribute [local irreducible] Res.all evC Do Dr Bv Bd Dw Bg Bj G GO GV GP GC R
theorem Agn {a b:Int} (hb:b≠0):Ef .rem (.int .i64 a) (.int .i64 b) = .ret (.int .i64 (a.tmod b)):=by
 simp only [Ef,Kg,if_true]
 rw [if_neg hb]
theorem A0h:∀(k:Nat) (a b:Nat),b<=k->a<=1000000000000->b<=1000000000000->Con T (k+1) 229 [.int .i64 a,.int .i64 b] (.int .i64 (Nat.gcd a b:Nat))
 | k,a,b,hk,ha,hb=>by
  refine Dd t229 fun n hn V hV => ?_
  by_cases h0:b=0
  ·subst h0
   simp (disch:=first | assumption | omega) only [c229,go_sem,↓reduceIte]
   exact hV _ _ (by rw [Nat.gcd_zero_right]; exact (by repeat (first | exact Dp _ _ | exact Bq _ _ _ _ | exact Ea _ _ _ | exact Dv _ _ _ _ _ | exact Eq _ _ _ _ | exact Ex _ _ | refine Db ?_ ?_ | refine Eo ?_ | refine Ey ?_ ?_ | refine Fg ?_ ?_ ?_)))
  ·obtain ⟨k,rfl⟩:∃k',k=k'+1:=⟨k-1,by omega⟩
   have hb0:((b:Int)==0)=false:=by simpa using h0
   have hlt:a%b<b:=Nat.mod_lt _ (by omega)
   have ih:=A0h k b (a%b) (by omega) hb (by omega)
   have hrem:(a:Int)%(b:Int)=((a%b:Nat):Int):=rfl
   have cs:∀{base:Nat} {Q:EX×St->Prop} {d:Option Nat} {L:List IOper} {ks:List Kont} {e:Env} {h:Bc},GP (Bg T n) base Q d L ks e (Bg T n false (.fn 229) [.int .i64 (b:Int),.int .i64 ((a%b:Nat):Int)] h)=GO (Bg T n) base Q L ks ⟨Bk e d (.int .i64 (Nat.gcd b (a%b):Nat)),h⟩:=
    Hb ih (by omega) (by repeat (first | exact Dt _ | refine Fi _ _ _ _ ?_ | refine Fw _ _ _ ?_)) rfl
   simp (disch:=first | assumption | omega) only [c229,go_sem,↓reduceIte,hb0,Bool.false_eq_true,A0b,hrem,cs]
   have hg:Nat.gcd a b=Nat.gcd b (a%b):=by rw [Nat.gcd_comm a b,Nat.gcd_rec b a,Nat.gcd_comm]
   exact hV _ _ (by rw [hg]; exact (by repeat (first | exact Dp _ _ | exact Bq _ _ _ _ | exact Ea _ _ _ | exact Dv _ _ _ _ _ | exact Eq _ _ _ _ | exact Ex _ _ | refine Db ?_ ?_ | refine Eo ?_ | refine Ey ?_ ?_ | refine Fg ?_ ?_ ?_)))
theorem Gv (h:Bc) (n k:Nat):Bb (h++List.replicate n .none) (h.length+k) = .none:=by
 rw [Bi]
 exact Eh _ _ (by omega)
def prs (k:Nat):List (Nat×Nat):=(List.range k).flatMap fun b=>(List.range b).map fun a=>(a,b)
def prU (k i:Nat):List (Nat×Nat):=prs k++(List.range i).map fun a=>(a,k)
theorem Lw (k:Nat):prU k 0=prs k:=by simp [prU]
theorem Sm (k i:Nat):prU k (i+1)=prU k i++[(i,k)]:=by simp [prU,List.range_succ,List.append_assoc]
theorem Zl (k:Nat):prU k k=prs (k+1):=by simp [prU,prs,List.range_succ]
theorem A2n {k:Nat} {q:Nat×Nat}:q∈prs k↔q.1<q.2/\q.2<k:=by
 obtain ⟨a,b⟩:=q
 simp only [prs,List.mem_flatMap,List.mem_range,List.mem_map,Prod.mk.injEq]
 constructor
 ·rintro ⟨b',hb,a',ha,rfl,rfl⟩; exact ⟨ha,hb⟩
 ·rintro ⟨h1,h2⟩; exact ⟨b,h2,a,h1,rfl,rfl⟩
theorem A2m {k i:Nat} {q:Nat×Nat}:q∈prU k i↔(q.1<q.2/\q.2<k)\/(q.1<i/\q.2=k):=by
 obtain ⟨a,b⟩:=q
 simp only [prU,List.mem_append,A2n,List.mem_map,List.mem_range,Prod.mk.injEq]
 constructor
 ·rintro (h | ⟨a',h,rfl,rfl⟩)
  ·exact .inl h
  ·exact .inr ⟨h,rfl⟩
 ·rintro (h | ⟨h,rfl⟩)
  ·exact .inl h
  ·exact .inr ⟨a,h,rfl,rfl⟩
theorem Wt:∀k,(prs k).Nodup
 | 0=>by simp [prs]
 | k+1=>by
  rw [<-Zl]
  have h:∀i,(prU k i).Nodup:=fun i=>by
   induction i with
   | zero=>rw [Lw]; exact Wt k
   | succ i ih =>
    rw [Sm,List.nodup_append]
    refine ⟨ih,by simp,fun x hx y hy => ?_⟩
    obtain rfl:y=(i,k):=by simpa using hy
    intro e
    subst e
    have:=A2m.1 hx
    simp at this
  exact h k
def gq (l:List (Nat×Nat)) (q:Nat×Nat):Nat:=Nat.gcd (l.getD q.1 (0,0)).1 (l.getD q.2 (0,0)).1
def enE (l:List (Nat×Nat)) (ps:List (Nat×Nat)):List LE:=ps.zipIdx.map fun t=>(t.1,gq l t.1,t.2)
theorem Ako (l ps:List (Nat×Nat)) (q:Nat×Nat):enE l (ps++[q])=enE l ps++[(q,gq l q,ps.length)]:=by
 simp [enE,List.zipIdx_append]
theorem A6n (l ps:List (Nat×Nat)):(enE l ps).map (·.1)=ps:=by
 simp only [enE,List.map_map]
 exact List.zipIdx_map_fst 0 ps
theorem Ara (l ps:List (Nat×Nat)):(enE l ps).length=ps.length:=by simp [enE]
theorem Ahd (l ps:List (Nat×Nat)):eB (enE l ps)=List.range ps.length:=by
 simp only [eB,enE,List.map_map]
 have:=List.zipIdx_map_snd 0 ps
 rw [List.range_eq_range']
 exact this
theorem Awj (l ps:List (Nat×Nat)):∀t∈enE l ps,t.2.2<ps.length:=fun t ht=>by
 have:t.2.2∈eB (enE l ps):=List.mem_map_of_mem (f:=fun t:LE=>t.2.2) ht
 rw [Ahd] at this
 exact List.mem_range.1 this
theorem Arb (l ps:List (Nat×Nat)):∀t∈enE l ps,t.2.1=gq l t.1/\t.1∈ps:=fun t ht=>by
 obtain ⟨u,hu,rfl⟩:=List.mem_map.1 ht
 exact ⟨rfl,(List.mem_zipIdx' hu).2 ▸ List.getElem_mem _⟩
def calm (l:List (Nat×Nat)) (t:LE):Bool:=decide (((((l.getD t.1.1 (0,0)).2:Nat):Int)-(((l.getD t.1.2 (0,0)).2:Nat):Int)).tmod (t.2.1:Int)=0)
def clE (l:List (Nat×Nat)):List LE:=(enE l (prs l.length)).filter fun t => !calm l t
def Gj (l:List (Nat×Nat)):AV:=.slice (some 2) (l.map edA) false
def Kx (l:List (Nat×Nat)):AV:=.ptr [Gj l,.fmap (eK (clE l)) (eV (clE l))] 0
structure PinsOk (l:List (Nat×Nat)):Prop where
 len:l.length<=5
 per:∀p∈l,1<=p.1/\p.1<=1000/\p.2<=1000
def B1d (l:List (Nat×Nat)) (h:Bc) (v:AV) (h':Bc):Prop:=∀n,Bj h' (n+4) v = .ret (Kx l)
set_option maxHeartbeats 2000000 in
theorem Ahq (l:List (Nat×Nat)) (hl:PinsOk l):∀m,1001<=m->∀(h:Bc) (V:AV×Bc->Prop),(∀v h',B1d l h v h'->V (v,h'))->
  G (Bg T m) h.length (Fin c226.results V) c226.body [] ⟨[Gj l],h++List.replicate c226.ntmps .none⟩:=by
 intro m hm h0 V hV
 obtain ⟨m,rfl⟩:∃m',m=m'+1:=⟨m-1,by omega⟩
 have hnew:=Gv h0 93 93
 have hnew14:=Gv h0 93 14
 have hl5:=hl.len
 have hp:=hl.per
 generalize hB:h0.length=B at *
 have hn5:=Gv h0 93 5
 rw [hB] at hn5
 simp (disch:=first | assumption | omega) only [c226,go_sem,↓reduceIte,Bw,hnew,hnew14,hB,next_none,Gj]
 have m14:¬(B+14=B+93):=by omega
 have n14:¬(B+93=B+14):=by omega
 refine Dm (fun M st=>∃k:Nat,M=l.length-k/\k<=l.length/\At st.env [(3,.optr (B+14) 0 0),(19,.slice (some 2) (l.map edA) false),(20,.int .i64 l.length),(21,.int .i64 k)]/\
   Bb st.heap (B+93) = .map 0 (prs k).length (eK (enE l (prs k))) (eV (enE l (prs k))) (eB (enE l (prs k)))/\Bb st.heap (B+14) = .cells 0 [.slice (some 2) (l.map edA) false,.omap (B+93) 0]/\st.heap.length=B+94) l.length (by omega)
  ⟨0,by omega,by omega,by simp only [go_sem,↓reduceIte],by simp only [go_sem,↓reduceIte,n14]; rfl,by simp only [go_sem,↓reduceIte],by simp only [Bh,List.length_append,List.length_replicate,hB]; omega⟩ ?_
 rintro M e h hM ⟨k,rfl,hk,hE,gM,gB,hlen⟩ P hP
 simp only [Bz,Dc] at hE gM gB hlen
 obtain ⟨f3,f19,f20,f21,-⟩:=hE
 by_cases hlt:k<l.length
 ·have hget:(l.map edA)[k]? = some (edA l[k]):=by rw [List.getElem?_map,List.getElem?_eq_getElem hlt]; rfl
  have hpk:=hp _ (List.getElem_mem hlt)
  have hgD:l.getD k (0,0)=l[k]:=by rw [List.getD_eq_getElem?_getD,List.getElem?_eq_getElem hlt]; rfl
  generalize hqd:l[k]=q at *
  obtain ⟨pk,ok⟩:=q
  simp only at hpk
  have hsplice:∀cs:List AV,cs.length=2->Dk cs 0 [AV.int .i64 (pk:Int),AV.int .i64 (ok:Int)]=[AV.int .i64 (pk:Int),AV.int .i64 (ok:Int)]:=fun cs hcs=>Qw _ _ hcs
  simp only [edA] at hget
  simp (disch:=first | assumption | omega) only [go_sem,↓reduceIte,Bw,f3,f19,f20,f21,hlt,hget,gB]
  refine ⟨⟨by omega,by omega⟩,?_⟩
  have htkl:((l.map edA).take k).length=k:=by rw [List.length_take,List.length_map]; omega
  simp only [Int.toNat_natCast,htkl]
  refine Dm (fun M st=>∃(i v5:Nat),M=k-i/\i<=k/\At st.env [(3,.optr (B+14) 0 0),(4,.int .i64 k),(5,.optr (B+5) v5 0),(19,.slice (some 2) (l.map edA) false),(20,.int .i64 l.length),(21,.int .i64 k),(32,.slice (some 2) ((l.map edA).take k) (false&&k==l.length)),(33,.int .i64 k),(34,.int .i64 i)]/\
    Bb st.heap (B+93) = .map 0 (prU k i).length (eK (enE l (prU k i))) (eV (enE l (prU k i))) (eB (enE l (prU k i)))/\Bb st.heap (B+14) = .cells 0 [.slice (some 2) (l.map edA) false,.omap (B+93) 0]/\Bb st.heap (B+5) = .cells v5 [.int .i64 pk,.int .i64 ok]/\st.heap.length=B+94) k (by omega)
   ⟨0,(Bb h (B+5)).next,by omega,by omega,by simp only [go_sem,↓reduceIte,f3,f19,f20,f21],by
    have n1:¬(B+5=B+93):=by omega
    have n2:¬(B+93=B+5):=by omega
    simp only [go_sem,↓reduceIte,n1,n2,Lw,gM],by
    have n1:¬(B+5=B+14):=by omega
    have n2:¬(B+14=B+5):=by omega
    simp only [go_sem,↓reduceIte,n1,n2,gB],by simp only [go_sem,↓reduceIte],by simp only [Bh,hlen]; omega⟩ ?_
  rintro M e2 h2 hM2 ⟨i,v5,rfl,hi,hE2,gM2,gB2,g5,hlen2⟩ P2 hP2
  simp only [Bz,Dc] at hE2 gM2 gB2 g5 hlen2
  obtain ⟨f3,f4,f5,f19,f20,f21,f32,f33,f34,-⟩:=hE2
  by_cases hik:i<k
  ·have hget2:((l.map edA).take k)[i]? = some (edA (l[i]'(by omega))):=by
    rw [List.getElem?_take,if_pos hik,List.getElem?_map,List.getElem?_eq_getElem (by omega)]; rfl
   have hpi:=hp _ (List.getElem_mem (show i<l.length by omega))
   have hgDi:l.getD i (0,0)=l[i]'(by omega):=by rw [List.getD_eq_getElem?_getD,List.getElem?_eq_getElem (by omega)]; rfl
   generalize hqi:l[i]'(by omega)=q at *
   obtain ⟨pi,oi⟩:=q
   simp only at hpi
   simp only [edA] at hget2
   have hq:gq l (i,k)=Nat.gcd pi pk:=by simp only [gq]; rw [hgDi,hgD]
   have hnot:(i,k)∉(enE l (prU k i)).map (·.1):=by
    rw [A6n]
    intro hm
    have:=A2m.1 hm
    simp at this
   have hfk:=Lo (i,k) (enE l (prU k i)) 0 hnot
   have hpush:=Ako l (prU k i) (i,k)
   rw [<-Sm,hq] at hpush
   have hlenS:(prU k (i+1)).length=(prU k i).length+1:=by rw [Sm]; simp
   have hko:Ei (some 2) (.agg [.int .i64 (i:Int),.int .i64 (k:Int)])=true:=rfl
   simp only [edA] at hfk
   have hk1:eK (enE l (prU k i))++[AV.agg [.int .i64 (i:Int),.int .i64 (k:Int)]]=eK (enE l (prU k (i+1))):=by rw [hpush]; simp [eK,edA]
   have hv1:eV (enE l (prU k i))++[AV.int .i64 ((Nat.gcd pi pk:Nat):Int)]=eV (enE l (prU k (i+1))):=by rw [hpush]; simp [eV]
   have hb1:eB (enE l (prU k i))++[(prU k i).length]=eB (enE l (prU k (i+1))):=by rw [hpush]; simp [eB]
   have n7:¬(B+7=B+93):=by omega
   have m7:¬(B+93=B+7):=by omega
   have n7b:¬(B+7=B+14):=by omega
   have m7b:¬(B+14=B+7):=by omega
   have n7c:¬(B+7=B+5):=by omega
   have m7c:¬(B+5=B+7):=by omega
   have n5:¬(B+93=B+5):=by omega
   have n5b:¬(B+93=B+14):=by omega
   have hgc:Nat.gcd pi pk<=pi:=Nat.gcd_le_left _ (by omega)
   have cs:∀{base:Nat} {Q:EX×St->Prop} {d:Option Nat} {L:List IOper} {ks:List Kont} {e:Env} {h:Bc},GP (Bg T (m+1)) base Q d L ks e (Bg T (m+1) false (.fn 229) [.int .i64 (pi:Int),.int .i64 (pk:Int)] h)=GO (Bg T (m+1)) base Q L ks ⟨Bk e d (.int .i64 (Nat.gcd pi pk:Nat)),h⟩:=
    Hb (A0h 1000 pi pk (by omega) (by omega) (by omega)) (by omega) (by repeat (first | exact Dt _ | refine Fi _ _ _ _ ?_ | refine Fw _ _ _ ?_)) rfl
   simp (disch:=first | assumption | omega) only [go_sem,↓reduceIte,Bw,f3,f4,f5,f19,f20,f21,f32,f33,f34,hik,hget2,gB2,g5,cs,n7,m7,n7b,m7b,n7c,m7c,muA,gM2,hfk,hko]
   rw [hk1,hv1,hb1]
   exact hP2 (k-(i+1)) _ (by omega) ⟨i+1,v5,rfl,by omega,by simp only [go_sem,↓reduceIte,f3,f4,f5,f19,f20,f21,f32,f33],by simp only [go_sem,↓reduceIte,hlenS],by simp only [go_sem,↓reduceIte,n7b,m7b,n5b,n14,m14,gB2],by
    have n5c:¬(B+5=B+93):=by omega
    simp only [go_sem,↓reduceIte,n7c,m7c,n5,n5c,g5],by simp only [Bh,hlen2]; omega⟩
  ·obtain rfl:i=k:=by omega
   simp (disch:=first | assumption | omega) only [go_sem,↓reduceIte,Bw,f3,f4,f5,f19,f20,f21,f32,f33,f34,hik]
   rw [Zl] at gM2
   exact hP (l.length-(i+1)) _ (by omega) ⟨i+1,rfl,by omega,by simp only [go_sem,↓reduceIte,f3,f19,f20],gM2,gB2,hlen2⟩
 ·obtain rfl:k=l.length:=by omega
  have gN:Bb h (B+94) = .none:=Eh _ _ (by omega)
  obtain ⟨E,hEd⟩:∃E,E=enE l (prs l.length):=⟨_,rfl⟩
  obtain ⟨c,hc⟩:∃c,c=(prs l.length).length:=⟨_,rfl⟩
  have hbcE:∀t∈E,t.2.2<c:=by rw [hEd,hc]; exact Awj l _
  have hbnE:(eB E).Nodup:=by rw [hEd,Ahd]; exact List.nodup_range
  have hndE:(E.map (·.1)).Nodup:=by rw [hEd,A6n]; exact Wt _
  have hvlE:∀t∈E,t.2.1=gq l t.1/\t.1.1<t.1.2/\t.1.2<l.length:=fun t ht=>by
   rw [hEd] at ht
   obtain ⟨h1,h2⟩:=Arb l _ t ht
   exact ⟨h1,A2n.1 h2⟩
  have hcl:clE l=E.filter fun t => !calm l t:=by rw [clE,hEd]
  rw [<-hEd,<-hc] at gM
  have hEl:E.length<=10:=by
   rw [hEd,Ara]
   have:∀k,k<6->(prs k).length<=10:=by decide
   exact this _ (by omega)
  have hrg:rgA h (.omap (B+93) 0) = .ret (.iter (B+94) 0,setH h (B+94) (.iter 0 (B+93) 0 c [] c)):=by
   simp only [rgA,gM,hlen,gN,next_none,if_true]
  simp (disch:=first | assumption | omega) only [go_sem,↓reduceIte,Bw,f3,f19,f20,f21,hlt,gB,hrg]
  have n94a:¬(B+94=B+93):=by omega
  have n94b:¬(B+94=B+14):=by omega
  refine Dm (fun M st=>∃seen:List Nat,M=(E.filter fun t => !seen.contains t.2.2).length/\At st.env [(3,.optr (B+14) 0 0),(57,.iter (B+94) 0)]/\
    Bb st.heap (B+93) = .map 0 c (eK (E.filter (Fo (calm l) seen))) (eV (E.filter (Fo (calm l) seen))) (eB (E.filter (Fo (calm l) seen)))/\Bb st.heap (B+14) = .cells 0 [.slice (some 2) (l.map edA) false,.omap (B+93) 0]/\Bb st.heap (B+94) = .iter 0 (B+93) 0 c seen c/\st.heap.length=B+95) E.length
   (by omega)
   ⟨[],by rw [List.filter_eq_self.2 (by simp)],by simp only [go_sem,↓reduceIte,f3],by rw [Ba _ _ _ _ (by omega),A4l]; exact gM,by rw [Ba _ _ _ _ (by omega)]; exact gB,getH_setH_self _ _ _,by rw [Bh]; omega⟩ ?_
  rintro M e2 h2 hM2 ⟨seen,rfl,hE2,gM2,gB2,gI,hl9⟩ P2 hP2
  simp only [Bz,Dc] at hE2 gM2 gB2 gI hl9
  obtain ⟨f3,f57,-⟩:=hE2
  have hbc:∀t∈E.filter (Fo (calm l) seen),t.2.2<c:=fun t ht=>hbcE t ((List.mem_filter.1 ht).1)
  simp (disch:=first | assumption | omega) only [go_sem,↓reduceIte,Bw,f57]
  refine Id gI gM2 hbc (fun hall => ?_) (fun t ht hnt => ?_)
  ·rw [A4k _ hall,<-hcl] at gM2
   simp (disch:=first | assumption | omega) only [go_sem,↓reduceIte,Bw,f3]
   refine hV _ _ fun n => ?_
   refine Ge gB2 ?_
   have hmp:∀(f:AV->Res AV) (xs:List AV),(∀x∈xs,f x = .ret x)->mapR f xs = .ret xs:=fun f xs hx=>by
    induction xs with
    | nil=>rfl
    | cons a r ih =>
     simp only [mapR,hx a (by simp),Res.bind,ih fun x h=>hx x (by simp [h])]
   have hag:∀(n:Nat) (q:Nat×Nat),Bj h2 (n+2) (edA q) = .ret (edA q):=fun n q=>(by repeat (first | exact Dp _ _ | exact Bq _ _ _ _ | exact Ea _ _ _ | exact Dv _ _ _ _ _ | exact Eq _ _ _ _ | exact Ex _ _ | refine Db ?_ ?_ | refine Eo ?_ | refine Ey ?_ ?_ | refine Fg ?_ ?_ ?_))
   have hom:Bj h2 (n+3) (.omap (B+93) 0) = .ret (.fmap (eK (clE l)) (eV (clE l))):=
    Nx gM2 (hmp _ _ fun x hx=>by
     obtain ⟨t,_,rfl⟩:=List.mem_map.1 hx
     exact hag n _) (hmp _ _ fun x hx=>by
     obtain ⟨t,_,rfl⟩:=List.mem_map.1 hx
     exact Bq _ _ _ _)
   have hsl:Bj h2 (n+3) (.slice (some 2) (l.map edA) false) = .ret (Gj l):=(by repeat (first | exact Dp _ _ | exact Bq _ _ _ _ | exact Ea _ _ _ | exact Dv _ _ _ _ _ | exact Eq _ _ _ _ | exact Ex _ _ | refine Db ?_ ?_ | refine Eo ?_ | refine Ey ?_ ?_ | refine Fg ?_ ?_ ?_))
   simp only [mapR,hsl,hom,Res.bind]
  ·have htE:t∈E:=(List.mem_filter.1 ht).1
   obtain ⟨v1,v2,v3⟩:=hvlE t htE
   have hbn2:(eB (E.filter (Fo (calm l) seen))).Nodup:=List.Nodup.sublist (List.Sublist.map _ List.filter_sublist) hbnE
   have hen:enA (setH h2 (B+94) (.iter 0 (B+93) 0 c (seen++[t.2.2]) c)) (.iter (B+94) 0) = .ret (.tuple [edA t.1,.int .i64 (t.2.1:Nat)]):=
    Rc (mk:=B+93) (mv:=0) (since:=c) (getH_setH_self _ _ _) (by rw [Ba _ _ _ _ (by omega)]; exact gM2) hbn2 ht
   have hml:(E.filter fun u => !(seen++[t.2.2]).contains u.2.2).length<(E.filter fun u => !seen.contains u.2.2).length:=by
    refine Gn _ _ (fun u hu => ?_) t ?_ ?_ E htE
    ·simp at hu ⊢
     exact hu.1
    ·simpa using hnt
    ·simp
   obtain ⟨A,B',hsp⟩:=List.append_of_mem ht
   have hA:t.1∉A.map (·.1):=by
    have hnd:((E.filter (Fo (calm l) seen)).map (·.1)).Nodup:=List.Nodup.sublist (List.Sublist.map _ List.filter_sublist) hndE
    rw [hsp,List.map_append,List.map_cons,List.nodup_append] at hnd
    exact fun hm=>hnd.2.2 _ hm _ List.mem_cons_self rfl
   have hfk:=Hy t.1 t B' rfl A 0 hA
   rw [<-hsp,Nat.zero_add] at hfk
   have hko:=Ie t.1
   have x1:=Rx A B' t
   have x2:=Ry A B' t
   have x3:=Rw A B' t
   rw [<-hsp] at x1 x2 x3
   have hga:(l.map edA)[t.1.1]? = some (edA (l.getD t.1.1 (0,0))):=by
    rw [List.getElem?_map,List.getD_eq_getElem?_getD,List.getElem?_eq_getElem (by omega)]; rfl
   have hgb:(l.map edA)[t.1.2]? = some (edA (l.getD t.1.2 (0,0))):=by
    rw [List.getElem?_map,List.getD_eq_getElem?_getD,List.getElem?_eq_getElem (by omega)]; rfl
   have hpa:=hp _ (List.getElem_mem (show t.1.1<l.length by omega))
   have hpb:=hp _ (List.getElem_mem (show t.1.2<l.length by omega))
   have ea:l.getD t.1.1 (0,0)=l[t.1.1]'(by omega):=by rw [List.getD_eq_getElem?_getD,List.getElem?_eq_getElem (by omega)]; rfl
   have eb:l.getD t.1.2 (0,0)=l[t.1.2]'v3:=by rw [List.getD_eq_getElem?_getD,List.getElem?_eq_getElem v3]; rfl
   have hn0:1<=t.2.1:=by
    rw [v1,gq,ea]
    exact Nat.gcd_pos_of_pos_left _ (by omega)
   have hdv:calm l t=decide (((((l.getD t.1.1 (0,0)).2:Nat):Int)-(((l.getD t.1.2 (0,0)).2:Nat):Int)).tmod (t.2.1:Int)=0):=rfl
   rw [<-ea] at hpa
   rw [<-eb] at hpb
   obtain ⟨⟨ta,tb⟩,tn,tbn⟩:=t
   simp only at hga hgb hpa hpb hn0 hdv v2 v3 hfk hko hen hnt hml ea eb
   generalize l.getD ta (0,0)=qa at *
   generalize l.getD tb (0,0)=qb at *
   obtain ⟨pa,oa⟩:=qa
   obtain ⟨pb,ob⟩:=qb
   simp only [edA] at hga hgb hfk hko hen hpa hpb hdv
   have hta:ta<l.length:=by omega
   have n8a:¬(B+8=B+93):=by omega
   have n8b:¬(B+8=B+14):=by omega
   have n8c:¬(B+8=B+94):=by omega
   have m8a:¬(B+93=B+8):=by omega
   have m8b:¬(B+14=B+8):=by omega
   have m8c:¬(B+94=B+8):=by omega
   have m94a:¬(B+93=B+94):=by omega
   have m94b:¬(B+14=B+94):=by omega
   have hr1:((oa:Int)-(ob:Int)).tmod (tn:Int)=((oa:Int)-(ob:Int)).tmod (tn:Int):=rfl
   by_cases hlp:((oa:Int)-(ob:Int)).tmod (tn:Int)=0
   ·have hcm:calm l ((ta,tb),tn,tbn)=true:=by rw [hdv]; simpa using hlp
    have hgone:=A1e (calm l) hbnE hsp hcm
    have e00:((0:Int)==0)=true:=rfl
    simp (disch:=first | assumption | omega) only [go_sem,↓reduceIte,Bw,f3,f57,hen,edA,gB2,hga,hgb,hta,v3,Agn,hlp,e00,n8a,n8b,n8c,m8a,m8b,m8c,n94a,n94b,m94a,m94b,dlA,gM2,hfk,hko,x1,x2,x3]
    exact hP2 _ _ hml ⟨seen++[tbn],rfl,by simp only [go_sem,↓reduceIte,f3,f57],by simp only [go_sem,↓reduceIte,hgone],by simp only [go_sem,↓reduceIte,n8a,n8b,n8c,m8a,m8b,m8c,n94a,n94b,m94a,m94b,m14,n14,gB2],by simp only [go_sem,↓reduceIte,n8a,n8b,n8c,m8a,m8b,m8c,n94a,n94b,m94a,m94b],by simp only [Bh,hl9]; omega⟩
   ·have hcm:calm l ((ta,tb),tn,tbn)=false:=by rw [hdv]; simpa using hlp
    have hkp:=A7f (calm l) (E:=E) (seen:=seen) (b:=tbn) fun u hu he=>by
     obtain rfl:=Rb hbnE hu htE he
     exact hcm
    have e00:(((oa:Int)-(ob:Int)).tmod (tn:Int)==0)=false:=by simpa using hlp
    simp (disch:=first | assumption | omega) only [go_sem,↓reduceIte,Bw,f3,f57,hen,edA,gB2,hga,hgb,hta,v3,Agn,e00,Bool.false_eq_true,n8a,n8b,n8c,m8a,m8b,m8c,n94a,n94b,m94a,m94b]
    exact hP2 _ _ hml ⟨seen++[tbn],rfl,by simp only [go_sem,↓reduceIte,f3,f57],by simp only [go_sem,↓reduceIte,hkp,gM2,n8a,n8b,n8c,m8a,m8b,m8c,n94a,n94b,m94a,m94b],by simp only [go_sem,↓reduceIte,n8a,n8b,n8c,m8a,m8b,m8c,n94a,n94b,m94a,m94b,m14,n14,gB2],by simp only [go_sem,↓reduceIte,n8a,n8b,n8c,m8a,m8b,m8c,n94a,n94b,m94a,m94b],by simp only [Bh,hl9]; omega⟩
end Go.Ev.YtbgodhhdojjbmaaGreatC
