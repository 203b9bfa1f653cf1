/- The inverse of a number for a period: what the loop keeps, and what it ends with. The code of functions that are walked, compiled for the evaluator, as text. The divisor of two numbers, and the inverse, as the barrel reckons them. The drum of pins: the pairs that clash, by a map and a range that deletes. No condition but those that stand in each. -/
import Derived.Test.YtgehhippjhealaaGreatBEvComp
import Derived.Test.YtgehhippjhealaaGreatBTopW
import Derived.Test.YtgehhippjhealaaGreatBEvKer3
import Derived.Test.YtgehhippjhealaaGreatBTopGmp
set_option linter.unusedSimpArgs false
set_option linter.unusedVariables false
namespace Go.Ev.YtgehhippjhealaaGreatC
open Go
structure InvI (n P x y:Nat) (a b:Int):Prop where
 ha:∃k:Int,a*n=x+k*P
 hb:∃k:Int,b*n=y+k*P
 hg:Nat.gcd x y=Nat.gcd n P
 hs:(0<=a/\b<=0/\a*y-b*x=P)\/(a<=0/\0<=b/\b*x-a*y=P)
 hx:x<=P
 hy:y<=P
 la : -(P:Int)<=a/\a<=P
 lb : -(P:Int)<=b/\b<=P
theorem Yf (n P:Nat) (hP:0<P):InvI n P (n%P) P 1 0 where
 ha:=⟨(n/P:Nat),by
  have h:=Nat.mod_add_div n P
  have h2:((n%P+P*(n/P):Nat):Int)=(n:Int):=by rw [h]
  rw [Int.one_mul,<-h2,Int.natCast_add,Int.natCast_mul,Int.mul_comm (P:Int)]⟩
 hb:=⟨-1,by omega⟩
 hg:=by rw [<-Nat.gcd_rec,Nat.gcd_comm]
 hs:=.inl ⟨by omega,by omega,by omega⟩
 hx:=Nat.le_of_lt (Nat.mod_lt _ hP)
 hy:=Nat.le_refl _
 la:=by omega
 lb:=by omega
theorem Xl {b:Int} {y:Nat} (hb:0<=b) (hy:0<y):b<=b*y:=by
 have h:b*1<=b*(y:Int):=Int.mul_le_mul_of_nonneg_left (by omega) hb
 omega
theorem Zx {n P x y:Nat} {a b:Int} (h:InvI n P x y a b) (hy:0<y):InvI n P y (x%y) b (a-(x/y:Nat)*b):=by
 have h3:((x:Nat):Int)=((x%y:Nat):Int)+(x/y:Nat)*(y:Int):=by
  have h:=Nat.mod_add_div x y
  rw [Nat.mul_comm] at h
  have h2:((x%y+x/y*y:Nat):Int)=(x:Int):=congrArg _ h
  rw [Int.natCast_add,Int.natCast_mul] at h2
  exact h2.symm
 have hs':(0<=b/\a-(x/y:Nat)*b<=0/\b*(x%y:Nat)-(a-(x/y:Nat)*b)*y=P)\/(b<=0/\0<=a-(x/y:Nat)*b/\(a-(x/y:Nat)*b)*y-b*(x%y:Nat)=P):=by
  have hq:(0:Int)<=(x/y:Nat):=Int.natCast_nonneg _
  have e:(a-(x/y:Nat)*b)*y-b*(x%y:Nat)=a*y-b*x:=by
   rw [h3,Int.sub_mul,Int.mul_add,Int.mul_comm ((x/y:Nat):Int) b,Int.mul_assoc]
   omega
  rcases h.hs with ⟨s1,s2,s3⟩ | ⟨s1,s2,s3⟩
  ·have h5:(x/y:Nat)*b<=0:=Int.mul_nonpos_of_nonneg_of_nonpos hq s2
   exact .inr ⟨s2,by omega,by rw [e]; exact s3⟩
  ·have h5:0<=(x/y:Nat)*b:=Int.mul_nonneg hq s2
   exact .inl ⟨s2,by omega,by omega⟩
 refine ⟨h.hb,?_,?_,hs',h.hy,Nat.le_trans (Nat.le_of_lt (Nat.mod_lt _ hy)) h.hy,h.lb,?_⟩
 ·obtain ⟨k1,e1⟩:=h.ha
  obtain ⟨k2,e2⟩:=h.hb
  refine ⟨k1-(x/y:Nat)*k2,?_⟩
  rw [Int.sub_mul,e1,Int.mul_assoc,e2,Int.mul_add,Int.sub_mul,Int.mul_assoc]
  omega
 ·rw [<-h.hg,Nat.gcd_comm,<-Nat.gcd_rec,Nat.gcd_comm]
 ·have hm:(0:Int)<=(x%y:Nat):=Int.natCast_nonneg _
  rcases hs' with ⟨s1,s2,s3⟩ | ⟨s1,s2,s3⟩
  ·have h5:0<=b*(x%y:Nat):=Int.mul_nonneg s1 hm
   have h6:=Xl (b:=-(a-(x/y:Nat)*b)) (by omega) hy
   rw [Int.neg_mul] at h6
   omega
  ·have h5:b*(x%y:Nat)<=0:=Int.mul_nonpos_of_nonpos_of_nonneg s1 hm
   have h6:=Xl s2 hy
   omega
def Gu (n P:Nat):Nat:=((List.range P).find? fun R=>R*n%P==1%P).getD 0
theorem Agi {n P R S:Nat} (hR:R*n%P=1%P) (hS:S*n%P=1%P) (h1:R<P) (h2:S<P):R=S:=by
 have h3:R*(S*n)%P=R:=by rw [Nat.mul_mod,hS,<-Nat.mul_mod,Nat.mul_one,Nat.mod_eq_of_lt h1]
 have h4:S*(R*n)%P=S:=by rw [Nat.mul_mod,hR,<-Nat.mul_mod,Nat.mul_one,Nat.mod_eq_of_lt h2]
 rw [Nat.mul_left_comm,h4] at h3
 exact h3.symm
theorem Awk {n P R:Nat} (hR:R*n%P=1%P) (h1:R<P):Gu n P=R:=by
 unfold Gu
 cases hf:(List.range P).find? fun R=>R*n%P==1%P with
 | none =>
  have:=List.find?_eq_none.1 hf R (List.mem_range.2 h1)
  simp [hR] at this
 | some S =>
  have h3:=List.find?_some hf
  have h4:=List.mem_range.1 (List.mem_of_find?_eq_some hf)
  exact Agi (by simpa using h3) hR h4 h1
theorem A2y {n P x:Nat} {a b:Int} (h:InvI n P x 0 a b) (hP:0<P) (hg:Nat.gcd n P=1):(a.tmod P+P).tmod P=(Gu n P:Nat)/\Gu n P<P/\Gu n P*n%P=1%P:=by
 have hx:x=1:=by have:=h.hg; rw [Nat.gcd_zero_right,hg] at this; exact this
 obtain ⟨k,hk⟩:=h.ha
 have hP':(0:Int)<P:=by omega
 have h1:(a.tmod P+P).tmod P=a%P:=by
  have h2 : -(P:Int)<a.tmod P:=by
   have:=Int.lt_tmod_of_pos a hP'
   omega
  rw [Int.tmod_eq_emod_of_nonneg (by omega),Int.add_emod_right,Int.tmod_def,Int.sub_mul_emod_self_left]
 have h5:(0:Int)<=a%P:=Int.emod_nonneg _ (by omega)
 have h6:a%P<P:=Int.emod_lt_of_pos _ hP'
 obtain ⟨R,hR⟩:∃R:Nat,a%P=R:=⟨(a%P).toNat,by omega⟩
 have h7:R*n%P=1%P:=by
  have h8:((R:Int)*n)%P=1%P:=by
   rw [<-hR,Int.mul_emod,Int.emod_emod_of_dvd _ (Int.dvd_refl _),<-Int.mul_emod,hk,hx,Int.add_mul_emod_self_right]
   rfl
  have h9:((R*n%P:Nat):Int)=((1%P:Nat):Int):=by simpa using h8
  omega
 have h8:Gu n P=R:=Awk h7 (by omega)
 rw [h1,h8]
 exact ⟨hR,by omega,h7⟩
end Go.Ev.YtgehhippjhealaaGreatC
set_option linter.unusedSimpArgs false
set_option linter.unusedVariables false
set_option maxRecDepth 100000
namespace Go.Ev.YtgehhippjhealaaGreatC
open Go.Proofs
def c130:IFunc:=⟨13,[.tmp 4],.seq (.ops [dO 4 (.mv (cI 0))]) (.seq (.seq (.ops [dO 5 (.mv (tM 1)),dO 6 (.bin .eql (tM 5) (cI 0))]) (.cond (tM 6) (.seq (.ops [dO 7 (.mv (tM 0)),dO 4 (.mv (tM 7))]) .ret) .skip)) (.seq (.ops [dO 8 (.mv (tM 1)),dO 9 (.mv (tM 0)),dO 10 (.mv (tM 1)),dO 11 (.bin .rem (tM 9) (tM 10)),dO 12 (.callF false 130 [tM 8,tM 11]),dO 4 (.mv (tM 12))]) .ret))⟩
theorem k130:(Bt Tryz.prog byr).fns 130=some c130:=by kernel_rfl
theorem t130:T.fns 130=some c130:=Bx k130 (by decide) (by decide)
def c131:IFunc:=⟨38,[.tmp 4],.seq (.ops [dO 4 (.mv (cI 0))]) (.seq (.ops [dO 5 (.mv (cI 1)),dO 6 (.mv (cI 0))]) (.seq (.seq (.ops [dO 10 (.mv (tM 0)),dO 11 (.mv (tM 1)),dO 12 (.bin .rem (tM 10) (tM 11)),dO 13 (.mv (tM 1)),dO 7 (.mv (tM 12)),dO 8 (.mv (tM 13))]) (.block 0 (.loop (.seq (.seq (.ops [dO 14 (.mv (tM 8)),dO 15 (.bin .neq (tM 14) (cI 0))]) (.cond (tM 15) .skip (.exit 0))) (.block 1 (.seq (.ops [dO 16 (.mv (tM 7)),dO 17 (.mv (tM 8)),dO 18 (.bin .quo (tM 16) (tM 17)),dO 9 (.mv (tM 18))]) (.seq (.ops [dO 19 (.mv (tM 8)),dO 20 (.mv (tM 7)),dO 21 (.mv (tM 9)),dO 22 (.mv (tM 8)),dO 23 (.bin .mul (tM 21) (tM 22)),dO 24 (.bin .sub (tM 20) (tM 23)),dO 7 (.mv (tM 19)),dO 8 (.mv (tM 24))]) (.ops [dO 25 (.mv (tM 6)),dO 26 (.mv (tM 5)),dO 27 (.mv (tM 9)),dO 28 (.mv (tM 6)),dO 29 (.bin .mul (tM 27) (tM 28)),dO 30 (.bin .sub (tM 26) (tM 29)),dO 5 (.mv (tM 25)),dO 6 (.mv (tM 30))])))))))) (.seq (.ops [dO 31 (.mv (tM 5)),dO 32 (.mv (tM 1)),dO 33 (.bin .rem (tM 31) (tM 32)),dO 34 (.mv (tM 1)),dO 35 (.bin .add (tM 33) (tM 34)),dO 36 (.mv (tM 1)),dO 37 (.bin .rem (tM 35) (tM 36)),dO 4 (.mv (tM 37))]) .ret)))⟩
theorem k131:(Bt Tryz.prog byr).fns 131=some c131:=by kernel_rfl
theorem t131:T.fns 131=some c131:=Bx k131 (by decide) (by decide)
def c129:IFunc:=⟨93,[.tmp 2],.seq (.ops [dO 2 (.mv (.const .nilptr))]) (.seq (.ops [dO 10 (.mv (tM 0)),dO 11 (.build [.slice (some 2) [] true] [(0,(1,tM 10))]),⟨some 12,.mkMap,none⟩,dO 13 (.build [.slice (some 2) [] true,.fmap [] []] [(0,(1,tM 11)),(1,(1,tM 12))]),dO 14 (.box (tM 13)),dO 3 (.mv (tM 14))]) (.seq (.seq (.ops [dO 15 (.mv (tM 3)),dO 16 (.nilCheck (tM 15)),dO 17 (.fieldAddr 0 (tM 16)),dO 18 (.fieldAddr 0 (tM 17)),dO 19 (.load none (tM 18)),dO 20 (.len (tM 19)),dO 21 (.mv (cI 0))]) (.block 0 (.loop (.seq (.ops [dO 22 (.bin .lss (tM 21) (tM 20))]) (.seq (.cond (tM 22) .skip (.exit 0)) (.seq (.block 1 (.seq (.ops [dO 23 (.mv (tM 21)),dO 24 (.indexAddr 2 (tM 19) (tM 21)),dO 25 (.load (some 2) (tM 24)),dO 5 (.alloc [.int .i64 0,.int .i64 0]),dO 4 (.mv (tM 23)),eO (.store 2 (tM 5) (tM 25))]) (.seq (.ops [dO 26 (.mv (tM 3)),dO 27 (.nilCheck (tM 26)),dO 28 (.fieldAddr 0 (tM 27)),dO 29 (.fieldAddr 0 (tM 28)),dO 30 (.load none (tM 29)),dO 31 (.mv (tM 4)),dO 32 (.slice (some 2) (tM 30) none (some (tM 31)) none),dO 33 (.len (tM 32)),dO 34 (.mv (cI 0))]) (.block 2 (.loop (.seq (.ops [dO 35 (.bin .lss (tM 34) (tM 33))]) (.seq (.cond (tM 35) .skip (.exit 2)) (.seq (.block 3 (.seq (.ops [dO 36 (.mv (tM 34)),dO 37 (.indexAddr 2 (tM 32) (tM 34)),dO 38 (.load (some 2) (tM 37)),dO 7 (.alloc [.int .i64 0,.int .i64 0]),dO 6 (.mv (tM 36)),eO (.store 2 (tM 7) (tM 38))]) (.ops [dO 39 (.mv (tM 3)),dO 40 (.nilCheck (tM 39)),dO 41 (.fieldAddr 1 (tM 40)),dO 42 (.load none (tM 41)),dO 43 (.mv (tM 6)),dO 44 (.mv (tM 4)),dO 45 (.build [.int .i64 0,.int .i64 0] [(0,(1,tM 43)),(1,(1,tM 44))]),dO 46 (.fieldAddr 0 (tM 7)),dO 47 (.load none (tM 46)),dO 48 (.fieldAddr 0 (tM 5)),dO 49 (.load none (tM 48)),dO 50 (.callF false 130 [tM 47,tM 49]),eO (.mapUpdate (some 2) (tM 42) (tM 45) (tM 50))]))) (.ops [dO 51 (.bin .add (tM 34) (cI 1)),dO 34 (.mv (tM 51))]))))))))) (.ops [dO 52 (.bin .add (tM 21) (cI 1)),dO 21 (.mv (tM 52))]))))))) (.seq (.seq (.ops [dO 53 (.mv (tM 3)),dO 54 (.nilCheck (tM 53)),dO 55 (.fieldAddr 1 (tM 54)),dO 56 (.load none (tM 55)),dO 57 (.range (tM 56))]) (.block 4 (.loop (.seq (.ops [dO 58 (.next (tM 57)),dO 59 (.extract (tM 58) 0)]) (.seq (.cond (tM 59) .skip (.exit 4)) (.block 5 (.seq (.ops [dO 60 (.entry (tM 57)),dO 61 (.extract (tM 60) 0),dO 62 (.extract (tM 60) 1),dO 8 (.alloc [.int .i64 0,.int .i64 0]),eO (.store 2 (tM 8) (tM 61)),dO 9 (.mv (tM 62))]) (.seq (.ops [dO 63 (.mv (tM 3)),dO 64 (.nilCheck (tM 63)),dO 65 (.fieldAddr 0 (tM 64)),dO 66 (.fieldAddr 0 (tM 65)),dO 67 (.load none (tM 66)),dO 68 (.fieldAddr 0 (tM 8)),dO 69 (.load none (tM 68)),dO 70 (.indexAddr 2 (tM 67) (tM 69)),dO 71 (.fieldAddr 1 (tM 70)),dO 72 (.load none (tM 71)),dO 73 (.mv (tM 3)),dO 74 (.nilCheck (tM 73)),dO 75 (.fieldAddr 0 (tM 74)),dO 76 (.fieldAddr 0 (tM 75)),dO 77 (.load none (tM 76)),dO 78 (.fieldAddr 1 (tM 8)),dO 79 (.load none (tM 78)),dO 80 (.indexAddr 2 (tM 77) (tM 79)),dO 81 (.fieldAddr 1 (tM 80)),dO 82 (.load none (tM 81)),dO 83 (.bin .sub (tM 72) (tM 82)),dO 84 (.mv (tM 9)),dO 85 (.bin .rem (tM 83) (tM 84)),dO 86 (.bin .eql (tM 85) (cI 0))]) (.cond (tM 86) (.ops [dO 87 (.mv (tM 3)),dO 88 (.nilCheck (tM 87)),dO 89 (.fieldAddr 1 (tM 88)),dO 90 (.load none (tM 89)),dO 91 (.load (some 2) (tM 8)),eO (.delete (some 2) (tM 90) (tM 91))]) .skip))))))))) (.seq (.ops [dO 92 (.mv (tM 3)),dO 2 (.mv (tM 92))]) .ret))))⟩
theorem k129:(Bt Tryz.prog byr).fns 129=some c129:=by kernel_rfl
theorem t129:T.fns 129=some c129:=Bx k129 (by decide) (by decide)
def c67:IFunc:=⟨67,[.tmp 2,.tmp 3,.tmp 4],.seq (.ops [dO 2 (.mv (cI 0)),dO 3 (.mv (cI 0)),dO 4 (.mv (cB false))]) (.seq (.seq (.ops [dO 12 (.mv (tM 0)),dO 13 (.nilCheck (tM 12)),dO 14 (.fieldAddr 1 (tM 13)),dO 15 (.load none (tM 14)),dO 16 (.lenM (tM 15)),dO 17 (.bin .gtr (tM 16) (cI 0))]) (.cond (tM 17) (.seq (.ops [dO 2 (.mv (cI 0)),dO 3 (.mv (cI 0)),dO 4 (.mv (cB false))]) .ret) .skip)) (.seq (.ops [dO 5 (.mv (cI 0)),dO 6 (.mv (cI 1))]) (.seq (.seq (.ops [dO 18 (.mv (tM 0)),dO 19 (.nilCheck (tM 18)),dO 20 (.fieldAddr 0 (tM 19)),dO 21 (.fieldAddr 0 (tM 20)),dO 22 (.load none (tM 21)),dO 23 (.len (tM 22)),dO 24 (.mv (cI 0))]) (.block 0 (.loop (.seq (.ops [dO 25 (.bin .lss (tM 24) (tM 23))]) (.seq (.cond (tM 25) .skip (.exit 0)) (.seq (.block 1 (.seq (.ops [dO 26 (.indexAddr 2 (tM 22) (tM 24)),dO 27 (.load (some 2) (tM 26)),dO 8 (.alloc [.int .i64 0,.int .i64 0]),eO (.store 2 (tM 8) (tM 27))]) (.seq (.ops [dO 28 (.mv (tM 6)),dO 29 (.fieldAddr 0 (tM 8)),dO 30 (.load none (tM 29)),dO 31 (.callF false 130 [tM 28,tM 30]),dO 9 (.mv (tM 31))]) (.seq (.ops [dO 32 (.fieldAddr 0 (tM 8)),dO 33 (.load none (tM 32)),dO 34 (.mv (tM 9)),dO 35 (.bin .quo (tM 33) (tM 34)),dO 10 (.mv (tM 35))]) (.seq (.ops [dO 36 (.fieldAddr 1 (tM 8)),dO 37 (.load none (tM 36)),dO 38 (.mv (tM 5)),dO 39 (.bin .sub (tM 37) (tM 38)),dO 40 (.mv (tM 9)),dO 41 (.bin .quo (tM 39) (tM 40)),dO 42 (.mv (tM 10)),dO 43 (.bin .rem (tM 41) (tM 42)),dO 44 (.mv (tM 6)),dO 45 (.mv (tM 9)),dO 46 (.bin .quo (tM 44) (tM 45)),dO 47 (.mv (tM 10)),dO 48 (.callF false 131 [tM 46,tM 47]),dO 49 (.bin .mul (tM 43) (tM 48)),dO 50 (.mv (tM 10)),dO 51 (.bin .rem (tM 49) (tM 50)),dO 11 (.mv (tM 51))]) (.seq (.ops [dO 52 (.mv (tM 5)),dO 53 (.mv (tM 11)),dO 54 (.mv (tM 10)),dO 55 (.bin .add (tM 53) (tM 54)),dO 56 (.mv (tM 10)),dO 57 (.bin .rem (tM 55) (tM 56)),dO 58 (.mv (tM 6)),dO 59 (.bin .mul (tM 57) (tM 58)),dO 60 (.bin .add (tM 52) (tM 59)),dO 5 (.mv (tM 60))]) (.ops [dO 61 (.mv (tM 6)),dO 62 (.mv (tM 10)),dO 63 (.bin .mul (tM 61) (tM 62)),dO 6 (.mv (tM 63))]))))))) (.ops [dO 64 (.bin .add (tM 24) (cI 1)),dO 24 (.mv (tM 64))]))))))) (.seq (.ops [dO 65 (.mv (tM 5)),dO 66 (.mv (tM 6)),dO 2 (.mv (tM 65)),dO 3 (.mv (tM 66)),dO 4 (.mv (cB true))]) .ret))))⟩
theorem k67:(Bt Tryz.prog byr).fns 67=some c67:=by kernel_rfl
theorem t67:T.fns 67=some c67:=Bx k67 (by decide) (by decide)
def c66:IFunc:=⟨19,[.tmp 4,.tmp 5],.seq (.ops [dO 4 (.mv (.const .nilptr)),dO 5 (.mv (cI 0))]) (.seq (.ops [dO 7 (.mv (tM 0)),dO 8 (.callF false 127 [tM 7]),dO 6 (.mv (tM 8))]) (.seq (.block 0 (.seq (.ops [dO 10 (.mv (tM 6)),dO 11 (.bin .neq (tM 10) (cI 0)),dO 9 (.mv (tM 11))]) (.cond (tM 9) (.seq (.ops [dO 12 (.mv (tM 6)),dO 4 (.mv (.const .nilptr)),dO 5 (.mv (tM 12))]) .ret) (.seq (.ops [dO 14 (.mv (tM 1)),dO 15 (.callF false 128 [cI 0,cI 1000000000000,tM 14]),dO 16 (.un .not (tM 15)),dO 13 (.mv (tM 16))]) (.cond (tM 13) (.seq (.ops [dO 4 (.mv (.const .nilptr)),dO 5 (.mv (cI 3))]) .ret) .skip))))) (.seq (.ops [dO 17 (.mv (tM 0)),dO 18 (.callF true 129 [tM 17]),dO 4 (.mv (tM 18)),dO 5 (.mv (cI 0))]) .ret)))⟩
theorem k66:(Bt Tryz.prog byr).fns 66=some c66:=by kernel_rfl
theorem t66:T.fns 66=some c66:=Bx k66 (by decide) (by decide)
def c25:IFunc:=⟨28,[.tmp 2,.tmp 3,.tmp 4],.seq (.ops [dO 2 (.mv (cI 0)),dO 3 (.mv (cI 0)),dO 4 (.mv (cI 0))]) (.seq (.ops [dO 11 (.mv (tM 0)),dO 12 (.callF false 66 [tM 11,.const (.slice none [] true)]),dO 10 (.mv (tM 12)),dO 13 (.extract (tM 10) 0),dO 14 (.extract (tM 10) 1),dO 5 (.mv (tM 13)),dO 6 (.mv (tM 14))]) (.seq (.seq (.ops [dO 15 (.mv (tM 6)),dO 16 (.bin .neq (tM 15) (cI 0))]) (.cond (tM 16) (.seq (.ops [dO 17 (.mv (tM 6)),dO 2 (.mv (cI 0)),dO 3 (.mv (cI 0)),dO 4 (.mv (tM 17))]) .ret) .skip)) (.seq (.ops [dO 19 (.mv (tM 5)),dO 20 (.callF false 67 [tM 19]),dO 18 (.mv (tM 20)),dO 21 (.extract (tM 18) 0),dO 22 (.extract (tM 18) 1),dO 23 (.extract (tM 18) 2),dO 7 (.mv (tM 21)),dO 8 (.mv (tM 22)),dO 9 (.mv (tM 23))]) (.seq (.seq (.ops [dO 24 (.mv (tM 9)),dO 25 (.un .not (tM 24))]) (.cond (tM 25) (.seq (.ops [dO 2 (.mv (cI 0)),dO 3 (.mv (cI 0)),dO 4 (.mv (cI 21))]) .ret) .skip)) (.seq (.ops [dO 26 (.mv (tM 7)),dO 27 (.mv (tM 8)),dO 2 (.mv (tM 26)),dO 3 (.mv (tM 27)),dO 4 (.mv (cI 0))]) .ret)))))⟩
theorem k25:(Bt Tryz.prog byr).fns 25=some c25:=by kernel_rfl
theorem t25:T.fns 25=some c25:=Bx k25 (by decide) (by decide)
def c127:IFunc:=⟨14,[.tmp 2],.seq (.ops [dO 2 (.mv (cI 0))]) (.seq (.ops [dO 3 (.mv (.const (.clo 186 [] [])))]) (.seq (.block 0 (.seq (.ops [dO 5 (.mv (tM 0)),dO 6 (.len (tM 5)),dO 7 (.buildSlice none [.int .i64 0] [(0,(1,tM 6))]),dO 8 (.callF false 128 [cI 1,cI 5,tM 7]),dO 9 (.un .not (tM 8)),dO 4 (.mv (tM 9))]) (.cond (tM 4) (.seq (.ops [dO 2 (.mv (cI 6))]) .ret) (.seq (.ops [dO 11 (.mv (tM 0)),dO 12 (.mv (tM 3)),dO 13 (.callF false 187 [tM 11,tM 12]),dO 10 (.mv (tM 13))]) (.cond (tM 10) (.seq (.ops [dO 2 (.mv (cI 3))]) .ret) .skip))))) (.seq (.ops [dO 2 (.mv (cI 0))]) .ret)))⟩
theorem k127:(Bt Tryz.prog byr).fns 127=some c127:=by kernel_rfl
theorem t127:T.fns 127=some c127:=Bx k127 (by decide) (by decide)
def c128:IFunc:=⟨11,[.tmp 6],.seq (.ops [dO 3 (.box (tM 0)),dO 4 (.box (tM 1)),dO 6 (.mv (cB false))]) (.seq (.ops [dO 7 (.mv (tM 2)),dO 8 (.mkFunc 188 [] [tM 3,tM 4]),dO 9 (.callF false 177 [tM 7,tM 8]),dO 10 (.un .not (tM 9)),dO 6 (.mv (tM 10))]) .ret)⟩
theorem k128:(Bt Tryz.prog byr).fns 128=some c128:=by kernel_rfl
theorem t128:T.fns 128=some c128:=Bx k128 (by decide) (by decide)
def c186:IFunc:=⟨18,[.tmp 2],.seq (.ops [dO 1 (.box (tM 0)),dO 2 (.mv (cB false))]) (.seq (.ops [dO 3 (.fieldAddr 0 (tM 1)),dO 4 (.load none (tM 3)),dO 5 (.buildSlice none [.int .i64 0] [(0,(1,tM 4))]),dO 6 (.callF false 128 [cI 1,cI 200,tM 5]),dO 7 (.un .not (tM 6)),dO 8 (.mv (tM 7)),gO 9 (.fieldAddr 0 (tM 1)) 8 false,gO 10 (.load none (tM 9)) 8 false,gO 11 (.bin .sub (tM 10) (cI 1)) 8 false,gO 12 (.fieldAddr 1 (tM 1)) 8 false,gO 13 (.load none (tM 12)) 8 false,gO 14 (.buildSlice none [.int .i64 0] [(0,(1,tM 13))]) 8 false,gO 15 (.callF false 128 [cI 0,tM 11,tM 14]) 8 false,gO 16 (.un .not (tM 15)) 8 false,dO 17 (.pick (tM 8) (cB true) (tM 16)),dO 2 (.mv (tM 17))]) .ret)⟩
theorem k186:(Bt Tryz.prog byr).fns 186=some c186:=by kernel_rfl
theorem t186:T.fns 186=some c186:=Bx k186 (by decide) (by decide)
def c188:IFunc:=⟨13,[.tmp 4],.seq (.ops [dO 4 (.mv (cB false))]) (.seq (.ops [dO 5 (.mv (tM 0)),dO 6 (.load none (tM 1)),dO 7 (.bin .lss (tM 5) (tM 6)),dO 8 (.mv (tM 7)),gO 9 (.mv (tM 0)) 8 false,gO 10 (.load none (tM 2)) 8 false,gO 11 (.bin .gtr (tM 9) (tM 10)) 8 false,dO 12 (.pick (tM 8) (cB true) (tM 11)),dO 4 (.mv (tM 12))]) .ret)⟩
theorem k188:(Bt Tryz.prog byr).fns 188=some c188:=by kernel_rfl
theorem t188:T.fns 188=some c188:=Bx k188 (by decide) (by decide)
def c187:IFunc:=⟨9,[.tmp 4],.seq (.ops [dO 4 (.mv (cB false))]) (.seq (.ops [dO 5 (.mv (tM 0)),dO 6 (.mv (tM 1)),dO 7 (.callF false 234 [tM 5,tM 6]),dO 8 (.bin .geq (tM 7) (cI 0)),dO 4 (.mv (tM 8))]) .ret)⟩
theorem k187:(Bt Tryz.prog byr).fns 187=some c187:=by kernel_rfl
theorem t187:T.fns 187=some c187:=Bx k187 (by decide) (by decide)
def c234:IFunc:=⟨19,[.tmp 4],.seq (.ops [dO 4 (.mv (cI 0))]) (.seq (.seq (.ops [dO 6 (.mv (tM 0)),dO 7 (.len (tM 6)),dO 8 (.mv (cI 0))]) (.block 0 (.loop (.seq (.ops [dO 9 (.bin .lss (tM 8) (tM 7))]) (.seq (.cond (tM 9) .skip (.exit 0)) (.seq (.block 1 (.seq (.ops [dO 10 (.mv (tM 8)),dO 5 (.mv (tM 10))]) (.seq (.ops [dO 11 (.mv (tM 1)),dO 12 (.mv (tM 0)),dO 13 (.mv (tM 5)),dO 14 (.indexAddr 2 (tM 12) (tM 13)),dO 15 (.load (some 2) (tM 14)),dO 16 (.call false (tM 11) [tM 15])]) (.cond (tM 16) (.seq (.ops [dO 17 (.mv (tM 5)),dO 4 (.mv (tM 17))]) .ret) .skip)))) (.ops [dO 18 (.bin .add (tM 8) (cI 1)),dO 8 (.mv (tM 18))]))))))) (.seq (.ops [dO 4 (.mv (cI (-1)))]) .ret))⟩
theorem k234:(Bt Tryz.prog byr).fns 234=some c234:=by kernel_rfl
theorem t234:T.fns 234=some c234:=Bx k234 (by decide) (by decide)
def c177:IFunc:=⟨9,[.tmp 4],.seq (.ops [dO 4 (.mv (cB false))]) (.seq (.ops [dO 5 (.mv (tM 0)),dO 6 (.mv (tM 1)),dO 7 (.callF false 220 [tM 5,tM 6]),dO 8 (.bin .geq (tM 7) (cI 0)),dO 4 (.mv (tM 8))]) .ret)⟩
theorem k177:(Bt Tryz.prog byr).fns 177=some c177:=by kernel_rfl
theorem t177:T.fns 177=some c177:=Bx k177 (by decide) (by decide)
def c220:IFunc:=⟨19,[.tmp 4],.seq (.ops [dO 4 (.mv (cI 0))]) (.seq (.seq (.ops [dO 6 (.mv (tM 0)),dO 7 (.len (tM 6)),dO 8 (.mv (cI 0))]) (.block 0 (.loop (.seq (.ops [dO 9 (.bin .lss (tM 8) (tM 7))]) (.seq (.cond (tM 9) .skip (.exit 0)) (.seq (.block 1 (.seq (.ops [dO 10 (.mv (tM 8)),dO 5 (.mv (tM 10))]) (.seq (.ops [dO 11 (.mv (tM 1)),dO 12 (.mv (tM 0)),dO 13 (.mv (tM 5)),dO 14 (.indexAddr 1 (tM 12) (tM 13)),dO 15 (.load none (tM 14)),dO 16 (.call false (tM 11) [tM 15])]) (.cond (tM 16) (.seq (.ops [dO 17 (.mv (tM 5)),dO 4 (.mv (tM 17))]) .ret) .skip)))) (.ops [dO 18 (.bin .add (tM 8) (cI 1)),dO 8 (.mv (tM 18))]))))))) (.seq (.ops [dO 4 (.mv (cI (-1)))]) .ret))⟩
theorem k220:(Bt Tryz.prog byr).fns 220=some c220:=by kernel_rfl
theorem t220:T.fns 220=some c220:=Bx k220 (by decide) (by decide)
end Go.Ev.YtgehhippjhealaaGreatC
set_option linter.unusedSimpArgs false
set_option linter.unusedVariables false
namespace Go.Ev.YtgehhippjhealaaGreatC
open Go Go.Proofs
attribute [local irreducible] Res.all evC Df Dh Bq Bh Dn Bf Bj G GO GV GP GC R
set_option maxRecDepth 100000
theorem Ui {a b:Int} (hb:b≠0):Ea .rem (.int .i64 a) (.int .i64 b) = .ret (.int .i64 (a.tmod b)):=by
 simp only [Ea,Id,if_true]
 rw [if_neg hb]
theorem Rr:∀(k:Nat) (a b:Nat),b<=k->a<=1000000000000->b<=1000000000000->Con T (k+1) 130 [.int .i64 a,.int .i64 b] (.int .i64 (Nat.gcd a b:Nat))
 | k,a,b,hk,ha,hb=>by
  refine Bs t130 fun n hn V hV => ?_
  by_cases h0:b=0
  ·subst h0
   simp (disch:=first | assumption | omega) only [c130,go_sem,↓reduceIte]
   exact hV _ _ (by rw [Nat.gcd_zero_right]; exact (by repeat (first | exact Dc _ _ | exact Bl _ _ _ _ | exact Do _ _ _ | exact Dm _ _ _ _ _ | exact Dr _ _ _ _ | exact Et _ _ | refine Bv ?_ ?_ | refine En ?_ | refine Eh ?_ ?_ | refine Fc ?_ ?_ ?_)))
  ·obtain ⟨k,rfl⟩:∃k',k=k'+1:=⟨k-1,by omega⟩
   have hb0:((b:Int)==0)=false:=by simpa using h0
   have hlt:a%b<b:=Nat.mod_lt _ (by omega)
   have ih:=Rr k b (a%b) (by omega) hb (by omega)
   have hrem:(a:Int)%(b:Int)=((a%b:Nat):Int):=rfl
   have cs:∀{base:Nat} {Q:EX×St->Prop} {d:Option Nat} {L:List IOper} {ks:List Kont} {e:Env} {h:Bd},GP (Bf T n) base Q d L ks e (Bf T n false (.fn 130) [.int .i64 (b:Int),.int .i64 ((a%b:Nat):Int)] h)=GO (Bf T n) base Q L ks ⟨Bk e d (.int .i64 (Nat.gcd b (a%b):Nat)),h⟩:=
    Es ih (by omega) (by repeat (first | exact By _ | refine Di _ _ _ _ ?_ | refine Fb _ _ _ ?_)) rfl
   simp (disch:=first | assumption | omega) only [c130,go_sem,↓reduceIte,hb0,Bool.false_eq_true,Adh,hrem,cs]
   have hg:Nat.gcd a b=Nat.gcd b (a%b):=by rw [Nat.gcd_comm a b,Nat.gcd_rec b a,Nat.gcd_comm]
   exact hV _ _ (by rw [hg]; exact (by repeat (first | exact Dc _ _ | exact Bl _ _ _ _ | exact Do _ _ _ | exact Dm _ _ _ _ _ | exact Dr _ _ _ _ | exact Et _ _ | refine Bv ?_ ?_ | refine En ?_ | refine Eh ?_ ?_ | refine Fc ?_ ?_ ?_)))
theorem A6b (n P:Nat) (hP:0<P) (hb:P<=1000000) (hn:n<=1000000000000) (hg:Nat.gcd n P=1):Con T 1 131 [.int .i64 n,.int .i64 P] (.int .i64 (Gu n P:Nat)):=by
 refine Bs t131 fun m hm V hV => ?_
 have hrem:(n:Int)%(P:Int)=((n%P:Nat):Int):=rfl
 have hP0:¬(P:Int)=0:=by omega
 simp (disch:=first | assumption | omega) only [c131,go_sem,↓reduceIte,Adh,hrem]
 refine Bz (fun M st=>∃(x y:Nat) (a b:Int),y=M/\InvI n P x y a b/\At st.env [(1,.int .i64 P),(5,.int .i64 a),(6,.int .i64 b),(7,.int .i64 x),(8,.int .i64 y)]) P (by omega)
  ⟨n%P,P,1,0,rfl,Yf n P hP,by simp only [go_sem,↓reduceIte]⟩ ?_
 rintro M e h hM ⟨x,y,a,b,rfl,hI,hE⟩ Q hQ
 simp only [Bp,Bw] at hE
 obtain ⟨f1,f5,f6,f7,f8,-⟩:=hE
 have hla:=hI.la
 have hlb:=hI.lb
 have hx:=hI.hx
 have hy:=hI.hy
 by_cases h0:y=0
 ·subst h0
  obtain ⟨e1,e2,e3⟩:=A2y hI hP hg
  have e0:(((0:Nat):Int) != 0)=false:=rfl
  have hr1:a.tmod (P:Int)<P:=Int.tmod_lt_of_pos _ (by omega)
  have hr2 : -(P:Int)<a.tmod P:=by have:=Int.lt_tmod_of_pos a (show (0:Int)<P by omega); omega
  simp (disch:=first | assumption | omega) only [go_sem,↓reduceIte,f1,f5,f6,f7,f8,e0,Bool.false_eq_true,Ui,e1]
  exact hV _ _ (by repeat (first | exact Dc _ _ | exact Bl _ _ _ _ | exact Do _ _ _ | exact Dm _ _ _ _ _ | exact Dr _ _ _ _ | exact Et _ _ | refine Bv ?_ ?_ | refine En ?_ | refine Eh ?_ ?_ | refine Fc ?_ ?_ ?_))
 ·have hs:=Zx hI (show 0<y by omega)
  have hla2:=hs.lb
  have hlt:x%y<y:=Nat.mod_lt _ (by omega)
  have hy0:((y:Int) != 0)=true:=by simpa using h0
  have hq:(x:Int)/(y:Int)=((x/y:Nat):Int):=rfl
  have hq2:((x/y:Nat):Int)*(y:Int)=(x:Int)-((x%y:Nat):Int):=by
   have h:=Nat.mod_add_div x y
   rw [Nat.mul_comm] at h
   have h2:((x%y+x/y*y:Nat):Int)=(x:Int):=congrArg _ h
   rw [Int.natCast_add,Int.natCast_mul] at h2
   omega
  have hle:x/y<=x:=Nat.div_le_self _ _
  have hq3:(x:Int)-((x:Int)-((x%y:Nat):Int))=((x%y:Nat):Int):=by omega
  obtain ⟨w,hw⟩:∃w:Int,w=((x/y:Nat):Int)*b:=⟨_,rfl⟩
  simp (disch:=first | assumption | omega) only [go_sem,↓reduceIte,f1,f5,f6,f7,f8,hy0,Aar,hq,hq2,hq3]
  exact hQ (x%y) _ hlt ⟨y,x%y,b,_,rfl,hs,by simp only [go_sem,↓reduceIte,f1,f5,f6,f7,f8]⟩
end Go.Ev.YtgehhippjhealaaGreatC
set_option linter.unusedSimpArgs false
set_option linter.unusedVariables false
namespace Go.Ev.YtgehhippjhealaaGreatC
open Go Go.Proofs
attribute [local irreducible] Res.all evC Df Dh Bq Bh Dn Bf Bj G GO GV GP GC R
set_option maxRecDepth 100000
theorem Fd (h:Bd) (n k:Nat):Bc (h++List.replicate n .none) (h.length+k) = .none:=by
 rw [Bi]
 exact Em _ _ (by omega)
def prs (k:Nat):List (Nat×Nat):=(List.range k).flatMap fun b=>(List.range b).map fun a=>(a,b)
def prU (k i:Nat):List (Nat×Nat):=prs k++(List.range i).map fun a=>(a,k)
theorem Kg (k:Nat):prU k 0=prs k:=by simp [prU]
theorem Re (k i:Nat):prU k (i+1)=prU k i++[(i,k)]:=by simp [prU,List.range_succ,List.append_assoc]
theorem Xb (k:Nat):prU k k=prs (k+1):=by simp [prU,prs,List.range_succ]
theorem Vq {k:Nat} {q:Nat×Nat}:q∈prs k↔q.1<q.2/\q.2<k:=by
 obtain ⟨a,b⟩:=q
 simp only [prs,List.mem_flatMap,List.mem_range,List.mem_map,Prod.mk.injEq]
 constructor
 ·rintro ⟨b',hb,a',ha,rfl,rfl⟩; exact ⟨ha,hb⟩
 ·rintro ⟨h1,h2⟩; exact ⟨b,h2,a,h1,rfl,rfl⟩
theorem Zs {k i:Nat} {q:Nat×Nat}:q∈prU k i↔(q.1<q.2/\q.2<k)\/(q.1<i/\q.2=k):=by
 obtain ⟨a,b⟩:=q
 simp only [prU,List.mem_append,Vq,List.mem_map,List.mem_range,Prod.mk.injEq]
 constructor
 ·rintro (h | ⟨a',h,rfl,rfl⟩)
  ·exact .inl h
  ·exact .inr ⟨h,rfl⟩
 ·rintro (h | ⟨h,rfl⟩)
  ·exact .inl h
  ·exact .inr ⟨a,h,rfl,rfl⟩
theorem Sq:∀k,(prs k).Nodup
 | 0=>by simp [prs]
 | k+1=>by
  rw [<-Xb]
  have h:∀i,(prU k i).Nodup:=fun i=>by
   induction i with
   | zero=>rw [Kg]; exact Sq k
   | succ i ih =>
    rw [Re,List.nodup_append]
    refine ⟨ih,by simp,fun x hx y hy => ?_⟩
    obtain rfl:y=(i,k):=by simpa using hy
    intro e
    subst e
    have:=Zs.1 hx
    simp at this
  exact h k
def gq (l:List (Nat×Nat)) (q:Nat×Nat):Nat:=Nat.gcd (l.getD q.1 (0,0)).1 (l.getD q.2 (0,0)).1
def enE (l:List (Nat×Nat)) (ps:List (Nat×Nat)):List LE:=ps.zipIdx.map fun t=>(t.1,gq l t.1,t.2)
theorem Aes (l ps:List (Nat×Nat)) (q:Nat×Nat):enE l (ps++[q])=enE l ps++[(q,gq l q,ps.length)]:=by
 simp [enE,List.zipIdx_append]
theorem A4i (l ps:List (Nat×Nat)):(enE l ps).map (·.1)=ps:=by
 simp only [enE,List.map_map]
 exact List.zipIdx_map_fst 0 ps
theorem Axr (l ps:List (Nat×Nat)):(enE l ps).length=ps.length:=by simp [enE]
theorem Abv (l ps:List (Nat×Nat)):eB (enE l ps)=List.range ps.length:=by
 simp only [eB,enE,List.map_map]
 have:=List.zipIdx_map_snd 0 ps
 rw [List.range_eq_range']
 exact this
theorem B0f (l ps:List (Nat×Nat)):∀t∈enE l ps,t.2.2<ps.length:=fun t ht=>by
 have:t.2.2∈eB (enE l ps):=List.mem_map_of_mem (f:=fun t:LE=>t.2.2) ht
 rw [Abv] at this
 exact List.mem_range.1 this
theorem A7g (l ps:List (Nat×Nat)):∀t∈enE l ps,t.2.1=gq l t.1/\t.1∈ps:=fun t ht=>by
 obtain ⟨u,hu,rfl⟩:=List.mem_map.1 ht
 exact ⟨rfl,(List.mem_zipIdx' hu).2 ▸ List.getElem_mem _⟩
def calm (l:List (Nat×Nat)) (t:LE):Bool:=decide (((((l.getD t.1.1 (0,0)).2:Nat):Int)-(((l.getD t.1.2 (0,0)).2:Nat):Int)).tmod (t.2.1:Int)=0)
def clE (l:List (Nat×Nat)):List LE:=(enE l (prs l.length)).filter fun t => !calm l t
def Ei (l:List (Nat×Nat)):AV:=.slice (some 2) (l.map edA) false
def Gb (l:List (Nat×Nat)):AV:=.ptr [Ei l,.fmap (eK (clE l)) (eV (clE l))] 0
structure PinsOk (l:List (Nat×Nat)):Prop where
 len:l.length<=5
 per:∀p∈l,1<=p.1/\p.1<=1000/\p.2<=1000
def B5g (l:List (Nat×Nat)) (h:Bd) (v:AV) (h':Bd):Prop:=∀n,Bj h' (n+4) v = .ret (Gb l)
set_option maxHeartbeats 2000000 in
theorem Adr (l:List (Nat×Nat)) (hl:PinsOk l):∀m,1001<=m->∀(h:Bd) (V:AV×Bd->Prop),(∀v h',B5g l h v h'->V (v,h'))->
  G (Bf T m) h.length (Fin c129.results V) c129.body [] ⟨[Ei l],h++List.replicate c129.ntmps .none⟩:=by
 intro m hm h0 V hV
 obtain ⟨m,rfl⟩:∃m',m=m'+1:=⟨m-1,by omega⟩
 have hnew:=Fd h0 93 93
 have hnew14:=Fd h0 93 14
 have hl5:=hl.len
 have hp:=hl.per
 generalize hB:h0.length=B at *
 have hn5:=Fd h0 93 5
 rw [hB] at hn5
 simp (disch:=first | assumption | omega) only [c129,go_sem,↓reduceIte,Bu,hnew,hnew14,hB,next_none,Ei]
 have m14:¬(B+14=B+93):=by omega
 have n14:¬(B+93=B+14):=by omega
 refine Bz (fun M st=>∃k:Nat,M=l.length-k/\k<=l.length/\At st.env [(3,.optr (B+14) 0 0),(19,.slice (some 2) (l.map edA) false),(20,.int .i64 l.length),(21,.int .i64 k)]/\
   Bc st.heap (B+93) = .map 0 (prs k).length (eK (enE l (prs k))) (eV (enE l (prs k))) (eB (enE l (prs k)))/\Bc st.heap (B+14) = .cells 0 [.slice (some 2) (l.map edA) false,.omap (B+93) 0]/\st.heap.length=B+94) l.length (by omega)
  ⟨0,by omega,by omega,by simp only [go_sem,↓reduceIte],by simp only [go_sem,↓reduceIte,n14]; rfl,by simp only [go_sem,↓reduceIte],by simp only [Be,List.length_append,List.length_replicate,hB]; omega⟩ ?_
 rintro M e h hM ⟨k,rfl,hk,hE,gM,gB,hlen⟩ P hP
 simp only [Bp,Bw] at hE gM gB hlen
 obtain ⟨f3,f19,f20,f21,-⟩:=hE
 by_cases hlt:k<l.length
 ·have hget:(l.map edA)[k]? = some (edA l[k]):=by rw [List.getElem?_map,List.getElem?_eq_getElem hlt]; rfl
  have hpk:=hp _ (List.getElem_mem hlt)
  have hgD:l.getD k (0,0)=l[k]:=by rw [List.getD_eq_getElem?_getD,List.getElem?_eq_getElem hlt]; rfl
  generalize hqd:l[k]=q at *
  obtain ⟨pk,ok⟩:=q
  simp only at hpk
  have hsplice:∀cs:List AV,cs.length=2->Dp cs 0 [AV.int .i64 (pk:Int),AV.int .i64 (ok:Int)]=[AV.int .i64 (pk:Int),AV.int .i64 (ok:Int)]:=fun cs hcs=>Nu _ _ hcs
  simp only [edA] at hget
  simp (disch:=first | assumption | omega) only [go_sem,↓reduceIte,Bu,f3,f19,f20,f21,hlt,hget,gB]
  refine ⟨⟨by omega,by omega⟩,?_⟩
  have htkl:((l.map edA).take k).length=k:=by rw [List.length_take,List.length_map]; omega
  simp only [Int.toNat_natCast,htkl]
  refine Bz (fun M st=>∃(i v5:Nat),M=k-i/\i<=k/\At st.env [(3,.optr (B+14) 0 0),(4,.int .i64 k),(5,.optr (B+5) v5 0),(19,.slice (some 2) (l.map edA) false),(20,.int .i64 l.length),(21,.int .i64 k),(32,.slice (some 2) ((l.map edA).take k) (false&&k==l.length)),(33,.int .i64 k),(34,.int .i64 i)]/\
    Bc st.heap (B+93) = .map 0 (prU k i).length (eK (enE l (prU k i))) (eV (enE l (prU k i))) (eB (enE l (prU k i)))/\Bc st.heap (B+14) = .cells 0 [.slice (some 2) (l.map edA) false,.omap (B+93) 0]/\Bc st.heap (B+5) = .cells v5 [.int .i64 pk,.int .i64 ok]/\st.heap.length=B+94) k (by omega)
   ⟨0,(Bc h (B+5)).next,by omega,by omega,by simp only [go_sem,↓reduceIte,f3,f19,f20,f21],by
    have n1:¬(B+5=B+93):=by omega
    have n2:¬(B+93=B+5):=by omega
    simp only [go_sem,↓reduceIte,n1,n2,Kg,gM],by
    have n1:¬(B+5=B+14):=by omega
    have n2:¬(B+14=B+5):=by omega
    simp only [go_sem,↓reduceIte,n1,n2,gB],by simp only [go_sem,↓reduceIte],by simp only [Be,hlen]; omega⟩ ?_
  rintro M e2 h2 hM2 ⟨i,v5,rfl,hi,hE2,gM2,gB2,g5,hlen2⟩ P2 hP2
  simp only [Bp,Bw] at hE2 gM2 gB2 g5 hlen2
  obtain ⟨f3,f4,f5,f19,f20,f21,f32,f33,f34,-⟩:=hE2
  by_cases hik:i<k
  ·have hget2:((l.map edA).take k)[i]? = some (edA (l[i]'(by omega))):=by
    rw [List.getElem?_take,if_pos hik,List.getElem?_map,List.getElem?_eq_getElem (by omega)]; rfl
   have hpi:=hp _ (List.getElem_mem (show i<l.length by omega))
   have hgDi:l.getD i (0,0)=l[i]'(by omega):=by rw [List.getD_eq_getElem?_getD,List.getElem?_eq_getElem (by omega)]; rfl
   generalize hqi:l[i]'(by omega)=q at *
   obtain ⟨pi,oi⟩:=q
   simp only at hpi
   simp only [edA] at hget2
   have hq:gq l (i,k)=Nat.gcd pi pk:=by simp only [gq]; rw [hgDi,hgD]
   have hnot:(i,k)∉(enE l (prU k i)).map (·.1):=by
    rw [A4i]
    intro hm
    have:=Zs.1 hm
    simp at this
   have hfk:=Kj (i,k) (enE l (prU k i)) 0 hnot
   have hpush:=Aes l (prU k i) (i,k)
   rw [<-Re,hq] at hpush
   have hlenS:(prU k (i+1)).length=(prU k i).length+1:=by rw [Re]; simp
   have hko:Er (some 2) (.agg [.int .i64 (i:Int),.int .i64 (k:Int)])=true:=rfl
   simp only [edA] at hfk
   have hk1:eK (enE l (prU k i))++[AV.agg [.int .i64 (i:Int),.int .i64 (k:Int)]]=eK (enE l (prU k (i+1))):=by rw [hpush]; simp [eK,edA]
   have hv1:eV (enE l (prU k i))++[AV.int .i64 ((Nat.gcd pi pk:Nat):Int)]=eV (enE l (prU k (i+1))):=by rw [hpush]; simp [eV]
   have hb1:eB (enE l (prU k i))++[(prU k i).length]=eB (enE l (prU k (i+1))):=by rw [hpush]; simp [eB]
   have n7:¬(B+7=B+93):=by omega
   have m7:¬(B+93=B+7):=by omega
   have n7b:¬(B+7=B+14):=by omega
   have m7b:¬(B+14=B+7):=by omega
   have n7c:¬(B+7=B+5):=by omega
   have m7c:¬(B+5=B+7):=by omega
   have n5:¬(B+93=B+5):=by omega
   have n5b:¬(B+93=B+14):=by omega
   have hgc:Nat.gcd pi pk<=pi:=Nat.gcd_le_left _ (by omega)
   have cs:∀{base:Nat} {Q:EX×St->Prop} {d:Option Nat} {L:List IOper} {ks:List Kont} {e:Env} {h:Bd},GP (Bf T (m+1)) base Q d L ks e (Bf T (m+1) false (.fn 130) [.int .i64 (pi:Int),.int .i64 (pk:Int)] h)=GO (Bf T (m+1)) base Q L ks ⟨Bk e d (.int .i64 (Nat.gcd pi pk:Nat)),h⟩:=
    Es (Rr 1000 pi pk (by omega) (by omega) (by omega)) (by omega) (by repeat (first | exact By _ | refine Di _ _ _ _ ?_ | refine Fb _ _ _ ?_)) rfl
   simp (disch:=first | assumption | omega) only [go_sem,↓reduceIte,Bu,f3,f4,f5,f19,f20,f21,f32,f33,f34,hik,hget2,gB2,g5,cs,n7,m7,n7b,m7b,n7c,m7c,muA,gM2,hfk,hko]
   rw [hk1,hv1,hb1]
   exact hP2 (k-(i+1)) _ (by omega) ⟨i+1,v5,rfl,by omega,by simp only [go_sem,↓reduceIte,f3,f4,f5,f19,f20,f21,f32,f33],by simp only [go_sem,↓reduceIte,hlenS],by simp only [go_sem,↓reduceIte,n7b,m7b,n5b,n14,m14,gB2],by
    have n5c:¬(B+5=B+93):=by omega
    simp only [go_sem,↓reduceIte,n7c,m7c,n5,n5c,g5],by simp only [Be,hlen2]; omega⟩
  ·obtain rfl:i=k:=by omega
   simp (disch:=first | assumption | omega) only [go_sem,↓reduceIte,Bu,f3,f4,f5,f19,f20,f21,f32,f33,f34,hik]
   rw [Xb] at gM2
   exact hP (l.length-(i+1)) _ (by omega) ⟨i+1,rfl,by omega,by simp only [go_sem,↓reduceIte,f3,f19,f20],gM2,gB2,hlen2⟩
 ·obtain rfl:k=l.length:=by omega
  have gN:Bc h (B+94) = .none:=Em _ _ (by omega)
  obtain ⟨E,hEd⟩:∃E,E=enE l (prs l.length):=⟨_,rfl⟩
  obtain ⟨c,hc⟩:∃c,c=(prs l.length).length:=⟨_,rfl⟩
  have hbcE:∀t∈E,t.2.2<c:=by rw [hEd,hc]; exact B0f l _
  have hbnE:(eB E).Nodup:=by rw [hEd,Abv]; exact List.nodup_range
  have hndE:(E.map (·.1)).Nodup:=by rw [hEd,A4i]; exact Sq _
  have hvlE:∀t∈E,t.2.1=gq l t.1/\t.1.1<t.1.2/\t.1.2<l.length:=fun t ht=>by
   rw [hEd] at ht
   obtain ⟨h1,h2⟩:=A7g l _ t ht
   exact ⟨h1,Vq.1 h2⟩
  have hcl:clE l=E.filter fun t => !calm l t:=by rw [clE,hEd]
  rw [<-hEd,<-hc] at gM
  have hEl:E.length<=10:=by
   rw [hEd,Axr]
   have:∀k,k<6->(prs k).length<=10:=by decide
   exact this _ (by omega)
  have hrg:rgA h (.omap (B+93) 0) = .ret (.iter (B+94) 0,setH h (B+94) (.iter 0 (B+93) 0 c [] c)):=by
   simp only [rgA,gM,hlen,gN,next_none,if_true]
  simp (disch:=first | assumption | omega) only [go_sem,↓reduceIte,Bu,f3,f19,f20,f21,hlt,gB,hrg]
  have n94a:¬(B+94=B+93):=by omega
  have n94b:¬(B+94=B+14):=by omega
  refine Bz (fun M st=>∃seen:List Nat,M=(E.filter fun t => !seen.contains t.2.2).length/\At st.env [(3,.optr (B+14) 0 0),(57,.iter (B+94) 0)]/\
    Bc st.heap (B+93) = .map 0 c (eK (E.filter (Fe (calm l) seen))) (eV (E.filter (Fe (calm l) seen))) (eB (E.filter (Fe (calm l) seen)))/\Bc st.heap (B+14) = .cells 0 [.slice (some 2) (l.map edA) false,.omap (B+93) 0]/\Bc st.heap (B+94) = .iter 0 (B+93) 0 c seen c/\st.heap.length=B+95) E.length
   (by omega)
   ⟨[],by rw [List.filter_eq_self.2 (by simp)],by simp only [go_sem,↓reduceIte,f3],by rw [Ba _ _ _ _ (by omega),A0k]; exact gM,by rw [Ba _ _ _ _ (by omega)]; exact gB,getH_setH_self _ _ _,by rw [Be]; omega⟩ ?_
  rintro M e2 h2 hM2 ⟨seen,rfl,hE2,gM2,gB2,gI,hl9⟩ P2 hP2
  simp only [Bp,Bw] at hE2 gM2 gB2 gI hl9
  obtain ⟨f3,f57,-⟩:=hE2
  have hbc:∀t∈E.filter (Fe (calm l) seen),t.2.2<c:=fun t ht=>hbcE t ((List.mem_filter.1 ht).1)
  simp (disch:=first | assumption | omega) only [go_sem,↓reduceIte,Bu,f57]
  refine Jg gI gM2 hbc (fun hall => ?_) (fun t ht hnt => ?_)
  ·rw [A0z _ hall,<-hcl] at gM2
   simp (disch:=first | assumption | omega) only [go_sem,↓reduceIte,Bu,f3]
   refine hV _ _ fun n => ?_
   refine Fh gB2 ?_
   have hmp:∀(f:AV->Res AV) (xs:List AV),(∀x∈xs,f x = .ret x)->mapR f xs = .ret xs:=fun f xs hx=>by
    induction xs with
    | nil=>rfl
    | cons a r ih =>
     simp only [mapR,hx a (by simp),Res.bind,ih fun x h=>hx x (by simp [h])]
   have hag:∀(n:Nat) (q:Nat×Nat),Bj h2 (n+2) (edA q) = .ret (edA q):=fun n q=>(by repeat (first | exact Dc _ _ | exact Bl _ _ _ _ | exact Do _ _ _ | exact Dm _ _ _ _ _ | exact Dr _ _ _ _ | exact Et _ _ | refine Bv ?_ ?_ | refine En ?_ | refine Eh ?_ ?_ | refine Fc ?_ ?_ ?_))
   have hom:Bj h2 (n+3) (.omap (B+93) 0) = .ret (.fmap (eK (clE l)) (eV (clE l))):=
    Ri gM2 (hmp _ _ fun x hx=>by
     obtain ⟨t,_,rfl⟩:=List.mem_map.1 hx
     exact hag n _) (hmp _ _ fun x hx=>by
     obtain ⟨t,_,rfl⟩:=List.mem_map.1 hx
     exact Bl _ _ _ _)
   have hsl:Bj h2 (n+3) (.slice (some 2) (l.map edA) false) = .ret (Ei l):=(by repeat (first | exact Dc _ _ | exact Bl _ _ _ _ | exact Do _ _ _ | exact Dm _ _ _ _ _ | exact Dr _ _ _ _ | exact Et _ _ | refine Bv ?_ ?_ | refine En ?_ | refine Eh ?_ ?_ | refine Fc ?_ ?_ ?_))
   simp only [mapR,hsl,hom,Res.bind]
  ·have htE:t∈E:=(List.mem_filter.1 ht).1
   obtain ⟨v1,v2,v3⟩:=hvlE t htE
   have hbn2:(eB (E.filter (Fe (calm l) seen))).Nodup:=List.Nodup.sublist (List.Sublist.map _ List.filter_sublist) hbnE
   have hen:enA (setH h2 (B+94) (.iter 0 (B+93) 0 c (seen++[t.2.2]) c)) (.iter (B+94) 0) = .ret (.tuple [edA t.1,.int .i64 (t.2.1:Nat)]):=
    Xr (mk:=B+93) (mv:=0) (since:=c) (getH_setH_self _ _ _) (by rw [Ba _ _ _ _ (by omega)]; exact gM2) hbn2 ht
   have hml:(E.filter fun u => !(seen++[t.2.2]).contains u.2.2).length<(E.filter fun u => !seen.contains u.2.2).length:=by
    refine Hf _ _ (fun u hu => ?_) t ?_ ?_ E htE
    ·simp at hu ⊢
     exact hu.1
    ·simpa using hnt
    ·simp
   obtain ⟨A,B',hsp⟩:=List.append_of_mem ht
   have hA:t.1∉A.map (·.1):=by
    have hnd:((E.filter (Fe (calm l) seen)).map (·.1)).Nodup:=List.Nodup.sublist (List.Sublist.map _ List.filter_sublist) hndE
    rw [hsp,List.map_append,List.map_cons,List.nodup_append] at hnd
    exact fun hm=>hnd.2.2 _ hm _ List.mem_cons_self rfl
   have hfk:=Ie t.1 t B' rfl A 0 hA
   rw [<-hsp,Nat.zero_add] at hfk
   have hko:=Ig t.1
   have x1:=Wx A B' t
   have x2:=Wm A B' t
   have x3:=Xd A B' t
   rw [<-hsp] at x1 x2 x3
   have hga:(l.map edA)[t.1.1]? = some (edA (l.getD t.1.1 (0,0))):=by
    rw [List.getElem?_map,List.getD_eq_getElem?_getD,List.getElem?_eq_getElem (by omega)]; rfl
   have hgb:(l.map edA)[t.1.2]? = some (edA (l.getD t.1.2 (0,0))):=by
    rw [List.getElem?_map,List.getD_eq_getElem?_getD,List.getElem?_eq_getElem (by omega)]; rfl
   have hpa:=hp _ (List.getElem_mem (show t.1.1<l.length by omega))
   have hpb:=hp _ (List.getElem_mem (show t.1.2<l.length by omega))
   have ea:l.getD t.1.1 (0,0)=l[t.1.1]'(by omega):=by rw [List.getD_eq_getElem?_getD,List.getElem?_eq_getElem (by omega)]; rfl
   have eb:l.getD t.1.2 (0,0)=l[t.1.2]'v3:=by rw [List.getD_eq_getElem?_getD,List.getElem?_eq_getElem v3]; rfl
   have hn0:1<=t.2.1:=by
    rw [v1,gq,ea]
    exact Nat.gcd_pos_of_pos_left _ (by omega)
   have hdv:calm l t=decide (((((l.getD t.1.1 (0,0)).2:Nat):Int)-(((l.getD t.1.2 (0,0)).2:Nat):Int)).tmod (t.2.1:Int)=0):=rfl
   rw [<-ea] at hpa
   rw [<-eb] at hpb
   obtain ⟨⟨ta,tb⟩,tn,tbn⟩:=t
   simp only at hga hgb hpa hpb hn0 hdv v2 v3 hfk hko hen hnt hml ea eb
   generalize l.getD ta (0,0)=qa at *
   generalize l.getD tb (0,0)=qb at *
   obtain ⟨pa,oa⟩:=qa
   obtain ⟨pb,ob⟩:=qb
   simp only [edA] at hga hgb hfk hko hen hpa hpb hdv
   have hta:ta<l.length:=by omega
   have n8a:¬(B+8=B+93):=by omega
   have n8b:¬(B+8=B+14):=by omega
   have n8c:¬(B+8=B+94):=by omega
   have m8a:¬(B+93=B+8):=by omega
   have m8b:¬(B+14=B+8):=by omega
   have m8c:¬(B+94=B+8):=by omega
   have m94a:¬(B+93=B+94):=by omega
   have m94b:¬(B+14=B+94):=by omega
   have hr1:((oa:Int)-(ob:Int)).tmod (tn:Int)=((oa:Int)-(ob:Int)).tmod (tn:Int):=rfl
   by_cases hlp:((oa:Int)-(ob:Int)).tmod (tn:Int)=0
   ·have hcm:calm l ((ta,tb),tn,tbn)=true:=by rw [hdv]; simpa using hlp
    have hgone:=Yd (calm l) hbnE hsp hcm
    have e00:((0:Int)==0)=true:=rfl
    simp (disch:=first | assumption | omega) only [go_sem,↓reduceIte,Bu,f3,f57,hen,edA,gB2,hga,hgb,hta,v3,Ui,hlp,e00,n8a,n8b,n8c,m8a,m8b,m8c,n94a,n94b,m94a,m94b,dlA,gM2,hfk,hko,x1,x2,x3]
    exact hP2 _ _ hml ⟨seen++[tbn],rfl,by simp only [go_sem,↓reduceIte,f3,f57],by simp only [go_sem,↓reduceIte,hgone],by simp only [go_sem,↓reduceIte,n8a,n8b,n8c,m8a,m8b,m8c,n94a,n94b,m94a,m94b,m14,n14,gB2],by simp only [go_sem,↓reduceIte,n8a,n8b,n8c,m8a,m8b,m8c,n94a,n94b,m94a,m94b],by simp only [Be,hl9]; omega⟩
   ·have hcm:calm l ((ta,tb),tn,tbn)=false:=by rw [hdv]; simpa using hlp
    have hkp:=A3a (calm l) (E:=E) (seen:=seen) (b:=tbn) fun u hu he=>by
     obtain rfl:=Yr hbnE hu htE he
     exact hcm
    have e00:(((oa:Int)-(ob:Int)).tmod (tn:Int)==0)=false:=by simpa using hlp
    simp (disch:=first | assumption | omega) only [go_sem,↓reduceIte,Bu,f3,f57,hen,edA,gB2,hga,hgb,hta,v3,Ui,e00,Bool.false_eq_true,n8a,n8b,n8c,m8a,m8b,m8c,n94a,n94b,m94a,m94b]
    exact hP2 _ _ hml ⟨seen++[tbn],rfl,by simp only [go_sem,↓reduceIte,f3,f57],by simp only [go_sem,↓reduceIte,hkp,gM2,n8a,n8b,n8c,m8a,m8b,m8c,n94a,n94b,m94a,m94b],by simp only [go_sem,↓reduceIte,n8a,n8b,n8c,m8a,m8b,m8c,n94a,n94b,m94a,m94b,m14,n14,gB2],by simp only [go_sem,↓reduceIte,n8a,n8b,n8c,m8a,m8b,m8c,n94a,n94b,m94a,m94b],by simp only [Be,hl9]; omega⟩
end Go.Ev.YtgehhippjhealaaGreatC
