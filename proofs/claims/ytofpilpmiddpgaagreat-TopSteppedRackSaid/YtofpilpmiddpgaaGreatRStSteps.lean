/- The code of functions that are walked, compiled for the evaluator, as text. Circles of a list that leads each place to one: plain lists, no program. What is done several times; exchanges that put circles right; how often until all is as before. What small functions of layer 6 answer: within, the checks of joints, the program's and the reference's. Steps of neighbours put a list in its order; each takes away one wrong pair. The bench of valid joints, handed over; flutes; the first of several; neighbours exchanged. What the reference's check of joints answers, and what it means. Steps of layer 6. No condition but those that stand in each. -/
import Derived.Test.YtofpilpmiddpgaaGreatRTopW
import Derived.Test.YtofpilpmiddpgaaGreatREvComp
import Derived.Test.YtofpilpmiddpgaaGreatRTopShd
import Derived.Test.YtofpilpmiddpgaaGreatRTopKnx
set_option linter.unusedSimpArgs false
set_option linter.unusedVariables false
set_option maxRecDepth 100000
namespace Go.Ev.YtofpilpmiddpgaaGreatC
open Go.Proofs
def c5:IFunc:=⟨5,[.tmp 2],sO [dO 2 (.mv (cI 0))] (sO [mV 3 0,dO 4 (.callF false 19 [tM 3,cI 0]),mV 2 4] .ret)⟩
theorem k5:(Bp Tryz.prog byr).fns 5=some c5:=by kernel_rfl
theorem t5:T.fns 5=some c5:=Bt k5 (by decide) (by decide)
def c19:IFunc:=⟨64,[.tmp 4],sO [dO 4 (.mv (cI 0))] (.seq (sO [mV 8 0,lN 9 8,bC 10 .lss 9 1,mV 11 10,gV 12 0 11 false,gO 13 (.len (tM 12)) 11 false,gO 14 (.bin .gtr (tM 13) (cI 10)) 11 false,dO 15 (.pick (tM 11) (cB true) (tM 14))] (.cond (tM 15) (sO [dO 4 (.mv (cI 6))] .ret) .skip)) (.seq (sO [dO 5 (.mv (cI 0))] (.block 0 (.loop (.seq (sO [mV 16 5,mV 17 0,lN 18 17,bB 19 .lss 16 18] (.cond (tM 19) .skip (.exit 0))) (.seq (.block 1 (sO [mV 22 0,mV 23 5,iA 24 22 23,lD 25 24,mV 26 1,bB 27 .lss 25 26,mV 28 27,gV 29 0 28 false,gV 30 5 28 false,gO 31 (.indexAddr 1 (tM 29) (tM 30)) 28 false,gO 32 (.load none (tM 31)) 28 false,gV 33 0 28 false,gO 34 (.len (tM 33)) 28 false,gO 35 (.bin .geq (tM 32) (tM 34)) 28 false,dO 36 (.pick (tM 28) (cB true) (tM 35))] (.cond (tM 36) (sO [dO 4 (.mv (cI 3))] .ret) .skip))) (.ops [mV 20 5,bC 21 .add 20 1,mV 5 21])))))) (.seq (sO [dO 6 (.mv (cI 0))] (.block 2 (.loop (.seq (sO [mV 37 6,mV 38 0,lN 39 38,bB 40 .lss 37 39] (.cond (tM 40) .skip (.exit 2))) (.seq (.block 3 (sO [dO 7 (.mv (cI 0))] (.block 4 (.loop (.seq (sO [mV 43 7,mV 44 6,bB 45 .lss 43 44] (.cond (tM 45) .skip (.exit 4))) (.seq (.block 5 (sO [mV 48 0,mV 49 7,iA 50 48 49,lD 51 50,mV 52 0,mV 53 6,iA 54 52 53,lD 55 54,bB 56 .eql 51 55,mV 57 56,gV 58 0 57 true,gV 59 6 57 true,gO 60 (.indexAddr 1 (tM 58) (tM 59)) 57 true,gO 61 (.load none (tM 60)) 57 true,gO 62 (.bin .geq (tM 61) (cI 0)) 57 true,dO 63 (.pick (tM 57) (tM 62) (cB false))] (.cond (tM 63) (sO [dO 4 (.mv (cI 11))] .ret) .skip))) (.ops [mV 46 7,bC 47 .add 46 1,mV 7 47]))))))) (.ops [mV 41 6,bC 42 .add 41 1,mV 6 42])))))) (sO [dO 4 (.mv (cI 0))] .ret))))⟩
theorem k19:(Bp Tryz.prog byr).fns 19=some c19:=by kernel_rfl
theorem t19:T.fns 19=some c19:=Bt k19 (by decide) (by decide)
def c17:IFunc:=⟨6,[.tmp 2],sO [dO 2 (.mv (.const (.slice none [] true)))] (sO [dO 3 (.buildSlice none [] []),mV 4 0,dO 5 (.append none 8 (tM 3) (tM 4)),mV 2 5] .ret)⟩
theorem k17:(Bp Tryz.prog byr).fns 17=some c17:=by kernel_rfl
theorem t17:T.fns 17=some c17:=Bt k17 (by decide) (by decide)
def c55:IFunc:=⟨5,[.tmp 2],sO [dO 2 (.mv (cI 0))] (sO [mV 3 0,dO 4 (.callF false 100 [tM 3,cI 0]),mV 2 4] .ret)⟩
theorem k55:(Bp Tryz.prog byr).fns 55=some c55:=by kernel_rfl
theorem t55:T.fns 55=some c55:=Bt k55 (by decide) (by decide)
def c100:IFunc:=⟨38,[.tmp 4],sO [dO 4 (.mv (cI 0))] (.seq (.block 0 (sO [mV 8 0,lN 9 8,dO 10 (.buildSlice none [.int .i64 0] [(0,(1,tM 9))]),dO 11 (.callF false 145 [cI 1,cI 10,tM 10]),dO 12 (.un .not (tM 11)),mV 7 12] (.cond (tM 7) (sO [dO 4 (.mv (cI 6))] .ret) (sO [mV 14 1,mV 15 0,lN 16 15,bC 17 .sub 16 1,mV 18 0,dO 19 (.callF false 145 [tM 14,tM 17,tM 18]),dO 20 (.un .not (tM 19)),mV 13 20] (.cond (tM 13) (sO [dO 4 (.mv (cI 3))] .ret) .skip))))) (.seq (sO [mV 21 0,lN 22 21,dO 23 (.mv (cI 0))] (.block 1 (.loop (sO [bB 24 .lss 23 22] (.seq (.cond (tM 24) .skip (.exit 1)) (.seq (.block 2 (sO [mV 25 23,iA 26 21 23,lD 27 26,mV 5 25,mV 6 27] (sO [mV 28 6,bC 29 .geq 28 0,mV 30 29,gV 31 0 30 true,gV 32 5 30 true,gO 33 (.slice none (tM 31) none (some (tM 32)) none) 30 true,gV 34 6 30 true,gO 35 (.callF false 87 [tM 33,tM 34]) 30 true,dO 36 (.pick (tM 30) (tM 35) (cB false))] (.cond (tM 36) (sO [dO 4 (.mv (cI 11))] .ret) .skip)))) (.ops [bC 37 .add 23 1,mV 23 37]))))))) (sO [dO 4 (.mv (cI 0))] .ret)))⟩
theorem k100:(Bp Tryz.prog byr).fns 100=some c100:=by kernel_rfl
theorem t100:T.fns 100=some c100:=Bt k100 (by decide) (by decide)
def c145:IFunc:=⟨11,[.tmp 6],sO [dO 3 (.box (tM 0)),dO 4 (.box (tM 1)),dO 6 (.mv (cB false))] (sO [mV 7 2,dO 8 (.mkFunc 195 [] [tM 3,tM 4]),dO 9 (.callF false 101 [tM 7,tM 8]),dO 10 (.un .not (tM 9)),mV 6 10] .ret)⟩
theorem k145:(Bp Tryz.prog byr).fns 145=some c145:=by kernel_rfl
theorem t145:T.fns 145=some c145:=Bt k145 (by decide) (by decide)
def c195:IFunc:=⟨13,[.tmp 4],sO [dO 4 (.mv (cB false))] (sO [mV 5 0,lD 6 1,bB 7 .lss 5 6,mV 8 7,gV 9 0 8 false,gO 10 (.load none (tM 2)) 8 false,gO 11 (.bin .gtr (tM 9) (tM 10)) 8 false,dO 12 (.pick (tM 8) (cB true) (tM 11)),mV 4 12] .ret)⟩
theorem k195:(Bp Tryz.prog byr).fns 195=some c195:=by kernel_rfl
theorem t195:T.fns 195=some c195:=Bt k195 (by decide) (by decide)
def c22:IFunc:=⟨12,[.tmp 2,.tmp 3],sO [dO 2 (.mv (.const .nilptr)),dO 3 (.mv (cI 0))] (.seq (sO [mV 5 0,dO 6 (.callF false 55 [tM 5]),mV 4 6] (sO [mV 7 4,bC 8 .neq 7 0] (.cond (tM 8) (sO [mV 9 4,dO 2 (.mv (.const .nilptr)),mV 3 9] .ret) .skip))) (sO [mV 10 0,dO 11 (.callF true 56 [tM 10]),mV 2 11,dO 3 (.mv (cI 0))] .ret))⟩
theorem k22:(Bp Tryz.prog byr).fns 22=some c22:=by kernel_rfl
theorem t22:T.fns 22=some c22:=Bt k22 (by decide) (by decide)
def c56:IFunc:=⟨8,[.tmp 2],sO [dO 2 (.mv (.const .nilptr))] (sO [mV 3 0,dO 4 (.callF true 61 [tM 3]),dO 5 (.build [.slice none [] true] [(0,(1,tM 4))]),dO 6 (.build [.slice none [] true] [(0,(1,tM 5))]),dO 7 (.box (tM 6)),mV 2 7] .ret)⟩
theorem k56:(Bp Tryz.prog byr).fns 56=some c56:=by kernel_rfl
theorem t56:T.fns 56=some c56:=Bt k56 (by decide) (by decide)
def c15:IFunc:=⟨46,[.tmp 2,.tmp 3],sO [dO 2 (.mv (.const (.slice none [] true))),dO 3 (.mv (cI 0))] (sO [mV 10 0,dO 11 (.callF true 22 [tM 10]),mV 9 11,xT 12 9 0,xT 13 9 1,dO 4 (.alloc [.nilptr]),eO (.store 1 (tM 4) (tM 12)),mV 5 13] (.seq (sO [mV 14 5,bC 15 .neq 14 0] (.cond (tM 15) (sO [mV 16 5,dO 2 (.mv (.const (.slice none [] true))),mV 3 16] .ret) .skip)) (sO [dO 6 (.mv (.const (.slice none [] true)))] (.block 0 (.loop (.block 1 (sO [lD 18 4,dO 19 (.nilCheck (tM 18)),dO 20 (.fieldAddr 0 (tM 19)),dO 21 (.load (some 1) (tM 20)),dO 22 (.callF false 24 [tM 21]),dO 23 (.slice none (tM 22) (some (cI 1)) none none),dO 24 (.mkFunc 32 [] [tM 4]),dO 25 (.callF false 31 [tM 23,tM 24]),mV 17 25,xT 26 17 0,xT 27 17 1,mV 7 26,mV 8 27] (.seq (sO [mV 28 8,dO 29 (.un .not (tM 28))] (.cond (tM 29) (sO [mV 30 6,mV 2 30,dO 3 (.mv (cI 0))] .ret) .skip)) (sO [lD 31 4,mV 32 7,bC 33 .sub 32 1,mV 34 7,dO 35 (.callF true 33 [tM 31,tM 33,tM 34])] (.ops [mV 36 6,mV 37 6,lN 38 37,mV 39 6,lN 40 39,dO 41 (.slice none (tM 36) none (some (tM 38)) (some (tM 40))),mV 42 7,bC 43 .sub 42 1,dO 44 (.buildSlice none [.int .i64 0] [(0,(1,tM 43))]),dO 45 (.append none 8 (tM 41) (tM 44)),mV 6 45]))))))))))⟩
theorem k15:(Bp Tryz.prog byr).fns 15=some c15:=by kernel_rfl
theorem t15:T.fns 15=some c15:=Bt k15 (by decide) (by decide)
def c31:IFunc:=⟨21,[.tmp 4,.tmp 5],sO [dO 4 (.mv (cI 0)),dO 5 (.mv (cB false))] (.seq (sO [mV 9 0,lN 10 9,dO 11 (.mv (cI 0))] (.block 0 (.loop (sO [bB 12 .lss 11 10] (.seq (.cond (tM 12) .skip (.exit 0)) (.seq (.block 1 (sO [iA 13 9 11,lD 14 13,mV 7 14] (sO [mV 15 1,mV 16 7,dO 17 (.call false (tM 15) [tM 16])] (.cond (tM 17) (sO [mV 18 7,mV 4 18,dO 5 (.mv (cB true))] .ret) .skip)))) (.ops [bC 19 .add 11 1,mV 11 19]))))))) (sO [dO 8 (.mv (cI 0))] (sO [mV 20 8,mV 4 20,dO 5 (.mv (cB false))] .ret)))⟩
theorem k31:(Bp Tryz.prog byr).fns 31=some c31:=by kernel_rfl
theorem t31:T.fns 31=some c31:=Bt k31 (by decide) (by decide)
def c24:IFunc:=⟨20,[.tmp 2],sO [dO 1 (.box (tM 0)),dO 2 (.mv (.const (.slice none [] true)))] (sO [dO 5 (.fieldAddr 0 (tM 1)),lD 6 5,lN 7 6,dO 8 (.mkSlice none [.int .i64 0] 8 (tM 7) (tM 7)),mV 3 8] (.seq (sO [mV 9 3,lN 10 9,dO 11 (.mv (cI 0))] (.block 0 (.loop (sO [bB 12 .lss 11 10] (.seq (.cond (tM 12) .skip (.exit 0)) (.seq (.block 1 (sO [mV 13 11,mV 4 13] (.ops [mV 14 3,mV 15 4,mV 16 4,iA 17 14 15,eO (.store 1 (tM 17) (tM 16))]))) (.ops [bC 18 .add 11 1,mV 11 18]))))))) (sO [mV 19 3,mV 2 19] .ret)))⟩
theorem k24:(Bp Tryz.prog byr).fns 24=some c24:=by kernel_rfl
theorem t24:T.fns 24=some c24:=Bt k24 (by decide) (by decide)
def c32:IFunc:=⟨22,[.tmp 3],sO [dO 3 (.mv (cB false))] (sO [lD 4 1,dO 5 (.nilCheck (tM 4)),dO 6 (.fieldAddr 0 (tM 5)),dO 7 (.fieldAddr 0 (tM 6)),lD 8 7,mV 9 0,bC 10 .sub 9 1,iA 11 8 10,lD 12 11,lD 13 1,dO 14 (.nilCheck (tM 13)),dO 15 (.fieldAddr 0 (tM 14)),dO 16 (.fieldAddr 0 (tM 15)),lD 17 16,mV 18 0,iA 19 17 18,lD 20 19,bB 21 .gtr 12 20,mV 3 21] .ret)⟩
theorem k32:(Bp Tryz.prog byr).fns 32=some c32:=by kernel_rfl
theorem t32:T.fns 32=some c32:=Bt k32 (by decide) (by decide)
def c33:IFunc:=⟨36,[],.ops [mV 6 0,dO 7 (.nilCheck (tM 6)),dO 8 (.fieldAddr 0 (tM 7)),dO 9 (.fieldAddr 0 (tM 8)),lD 10 9,mV 11 1,mV 12 0,dO 13 (.nilCheck (tM 12)),dO 14 (.fieldAddr 0 (tM 13)),dO 15 (.fieldAddr 0 (tM 14)),lD 16 15,mV 17 2,mV 18 0,dO 19 (.nilCheck (tM 18)),dO 20 (.fieldAddr 0 (tM 19)),dO 21 (.fieldAddr 0 (tM 20)),lD 22 21,mV 23 2,iA 24 22 23,lD 25 24,mV 26 0,dO 27 (.nilCheck (tM 26)),dO 28 (.fieldAddr 0 (tM 27)),dO 29 (.fieldAddr 0 (tM 28)),lD 30 29,mV 31 1,iA 32 30 31,lD 33 32,iA 34 10 11,eO (.store 1 (tM 34) (tM 25)),iA 35 16 17,eO (.store 1 (tM 35) (tM 33))]⟩
theorem k33:(Bp Tryz.prog byr).fns 33=some c33:=by kernel_rfl
theorem t33:T.fns 33=some c33:=Bt k33 (by decide) (by decide)
structure PermN (p:List Nat):Prop where
 nd:p.Nodup
 lt:∀x∈p,x<p.length
def stp (p:List Nat) (i:Nat):Nat:=p.getD i 0
theorem A9t {p:List Nat} {i:Nat} (h:i<p.length):stp p i=p[i]:=by
 simp only [stp,List.getD_eq_getElem?_getD,List.getElem?_eq_getElem h,Option.getD_some]
theorem Ahk {p:List Nat}:p.Nodup↔∀{i j:Nat} (hi:i<p.length) (hj:j<p.length),p[i]=p[j]->i=j:=by
 rw [List.Nodup,List.pairwise_iff_getElem]
 constructor
 ·intro h i j hi hj he
  rcases Nat.lt_trichotomy i j with hlt | heq | hgt
  ·exact absurd he (h i j hi hj hlt)
  ·exact heq
  ·exact absurd he.symm (h j i hj hi hgt)
 ·intro h i j hi hj hij he
  have:=h hi hj he
  omega
def Apm (p:List Nat) (i:Nat):Nat->Nat->List Nat
 | 0,_=>[]
 | f+1,a=>if a=i then [] else a::Apm p i f (stp p a)
def cyc (p:List Nat) (i:Nat):List Nat:=i::Apm p i p.length (stp p i)
def per (p:List Nat) (i:Nat):Nat:=(cyc p i).length
end Go.Ev.YtofpilpmiddpgaaGreatC
namespace Go.Ev.YtofpilpmiddpgaaGreatC
open Go Go.Proofs
abbrev Dk (l:List Int):AV:=.slice none (l.map (.int .i64)) false
def nI6 (p:List Nat):List Int:=p.map fun x:Nat=>(x:Int)
attribute [local irreducible] Res.all evC Dd Dg Bo Bf Dl Bg Bi G GO GV GP GC R
theorem Adc {k f:Nat} {first cap:List AV} {p:Int->Bool} (xs:List Int) (hl:xs.length<=1000) (hc:∀x∈xs,Con T k f (first++[.int .i64 x]++cap) (.bool (p x))) (hz:∀h x,fz h (first++[.int .i64 x]++cap) = .ret (first++[.int .i64 x]++cap)) :
  Con T (k+1) 146 [Dk xs,.clo f first cap] (.int .i64 (Hk p xs 0)):=by
 refine Bs t146 fun n hn V hV => ?_
 simp (disch:=omega) only [c146,go_sem,↓reduceIte]
 refine Da (fun M s=>∃k:Nat,M=xs.length-k/\k<=xs.length/\At s.env [(0,Dk xs),(1,.clo f first cap),(7,.int .i64 xs.length),(8,.int .i64 k)]/\Hk p xs 0=Hk p (xs.drop k) k) xs.length (by omega) ⟨0,by simp,by omega,by simp [go_sem,↓reduceIte],rfl⟩ ?_
 rintro M e h hM ⟨k,rfl,hk,hE,hA⟩ P hP
 simp only [Br,Bw] at hE
 obtain ⟨h0,h1,h7,h8,-⟩:=hE
 by_cases hlt:k<xs.length
 ·obtain ⟨y,hy⟩:=Fu hlt
  rw [Gc hy,Hk] at hA
  simp (disch:=omega) only [go_sem,↓reduceIte,h0,h1,h7,h8,hlt,hy]
  refine Dq (hc y (List.mem_of_getElem? hy)) hn (hz _ _) (Gs _ _) ?_
  by_cases hp:p y=true
  ·simp (disch:=omega) only [go_sem,↓reduceIte,h0,h1,h7,h8,hp]
   exact hV _ _ (by rw [Bm,hA,if_pos hp])
  ·simp (disch:=omega) only [go_sem,↓reduceIte,h0,h1,h7,h8,hp]
   exact hP (xs.length-(k+1)) _ (by omega) ⟨k+1,rfl,by omega,by simp only [go_sem,↓reduceIte,h0,h1,h7],by rw [hA,if_neg hp]; rfl⟩
 ·simp (disch:=omega) only [go_sem,↓reduceIte,h0,h1,h7,h8,hlt]
  exact hV _ _ (by rw [Bm,hA,List.drop_eq_nil_of_le (by omega)]; rfl)
theorem A0z {k f:Nat} {first cap:List AV} {p:Int->Bool} (xs:List Int) (hl:xs.length<=1000) (hc:∀x∈xs,Con T k f (first++[.int .i64 x]++cap) (.bool (p x))) (hz:∀h x,fz h (first++[.int .i64 x]++cap) = .ret (first++[.int .i64 x]++cap))
  (hf:∀h,Bi h 8 (.clo f first cap) = .ret (.clo f first cap)):Con T (k+2) 101 [Dk xs,.clo f first cap] (.bool (xs.any p)):=by
 refine Bs t101 fun n hn V hV => ?_
 simp (disch:=omega) only [c101,go_sem,↓reduceIte]
 refine Dq (Adc xs hl hc hz) hn (Di _ _ _ _ (By (hf _) (Bx _))) (Gt _ _ _) ?_
 simp (disch:=omega) only [go_sem,↓reduceIte,Mw]
 exact hV _ _ (Dm _ _ _)
theorem A3r (x lo hi:Int):Con T 1 195 ([]++[.int .i64 x]++[.ptr [.int .i64 lo] 0,.ptr [.int .i64 hi] 0]) (.bool (decide (x<lo)||decide (x>hi))):=by
 refine Bs t195 fun n hn V hV => ?_
 by_cases g1:x<lo
 ·simp (disch:=omega) only [c195,go_sem,↓reduceIte,g1,List.cons_append]
  refine hV _ _ ?_
  simp [g1,Dm]
 ·simp (disch:=omega) only [c195,go_sem,↓reduceIte,g1,List.cons_append]
  refine hV _ _ ?_
  simp [g1,Dm]
def Iz (lo hi:Int) (xs:List Int):Bool:=!xs.any fun x=>decide (x<lo)||decide (x>hi)
theorem A6v (lo hi:Int) (xs:List Int) (hl:xs.length<=1000):Con T 4 145 [.int .i64 lo,.int .i64 hi,Dk xs] (.bool (Iz lo hi xs)):=by
 refine Bs t145 fun n hn V hV => ?_
 simp (disch:=omega) only [c145,go_sem,↓reduceIte]
 refine Dq (A0z (p:=fun x=>decide (x<lo)||decide (x>hi)) xs hl (fun x _=>A3r x lo hi) (fun h x => ?_) (fun h => ?_)) hn (Di _ _ _ _ (By (Gk (Df _ _) (Bv (Eu (cs:=[.int .i64 lo]) (by simp [go_sem,↓reduceIte]) (Bv (Bm _ _ _ _) (Df _ _))) (Bv (Eu (cs:=[.int .i64 hi]) (by simp [go_sem,↓reduceIte]) (Bv (Bm _ _ _ _) (Df _ _))) (Df _ _)))) (Bx _))) (Gs _ _) ?_
 ·exact Fi _ _ _ (By (Ea _ _ _ _) (By (Ea _ _ _ _) (Bx _)))
 ·exact Gk (Df _ _) (Bv (Ea _ _ _ _) (Bv (Ea _ _ _ _) (Df _ _)))
 simp (disch:=omega) only [go_sem,↓reduceIte]
 exact hV _ _ (Dm _ _ _)
section
variable {n base:Nat} {Q:EX×St->Prop} {d:Option Nat} {L:List IOper} {ks:List Kont} {e:Env} {h:Bc}
theorem Yg {lo hi:Int} {xs:List Int} {x:Bool} (hn:4<=n) (hl:xs.length<=1000) :
  GP (Bg T n) base Q d L ks e (Bg T n false (.fn 145) [.int .i64 lo,.int .i64 hi,.slice none (xs.map (.int .i64)) x] h)=GO (Bg T n) base Q L ks ⟨Bj e d (.bool (Iz lo hi xs)),h⟩:=
 Fq (A6v lo hi xs hl) hn (by repeat (first | exact Bx _ | refine Di _ _ _ _ ?_ | refine Fi _ _ _ ?_)) rfl
theorem A6x {lo hi a:Int} {x:Bool} (hn:4<=n) :
  GP (Bg T n) base Q d L ks e (Bg T n false (.fn 145) [.int .i64 lo,.int .i64 hi,.slice none [.int .i64 a] x] h)=GO (Bg T n) base Q L ks ⟨Bj e d (.bool (!(decide (a<lo)||decide (a>hi)))),h⟩:=by
 have:=Yg (base:=base) (Q:=Q) (d:=d) (L:=L) (ks:=ks) (e:=e) (h:=h) (lo:=lo) (hi:=hi) (xs:=[a]) (x:=x) hn (by simp)
 rw [show Iz lo hi [a]=(!(decide (a<lo)||decide (a>hi))) by simp [Iz]] at this
 exact this
end
theorem gdI {S:List Int} {k:Nat} (h:k<S.length):S[k]? = some (S.getD k 0):=by
 rw [List.getD_eq_getElem?_getD,List.getElem?_eq_getElem h]; rfl
theorem Dw (p:List Nat):(nI6 p).length=p.length:=by simp [nI6]
theorem Fo {p:List Nat} {i:Nat} (h:i<p.length):(nI6 p)[i]? = some ((p[i]:Nat):Int):=by
 rw [nI6,List.getElem?_map,List.getElem?_eq_getElem h]; rfl
theorem Acf {p:List Nat} (hp:PermN p):Iz 0 ((p.length:Int)-1) (nI6 p)=true:=by
 simp only [Iz,Bool.not_eq_true',List.any_eq_false,Bool.or_eq_true,decide_eq_true_eq]
 intro x hx
 obtain ⟨y,hy,rfl⟩:=List.mem_map.1 hx
 have:=hp.lt y hy
 omega
theorem Aag (p:List Nat) (hp:PermN p) (h1:1<=p.length) (h10:p.length<=10):Con T 6 100 [Dk (nI6 p),.int .i64 0] (.int .i64 0):=by
 refine Bs t100 fun n hn V hV => ?_
 have hlen:=Dw p
 have w1:(!(decide ((p.length:Int)<1)||decide ((p.length:Int)>10)))=true:=by
  rw [decide_eq_false (by omega),decide_eq_false (by omega)]; rfl
 have w2:=Acf hp
 simp (disch:=omega) only [c100,go_sem,↓reduceIte,Yg,A6x,hlen,w1,w2]
 refine Da (fun M s=>∃k:Nat,M=p.length-k/\k<=p.length/\At s.env [(0,Dk (nI6 p)),(21,Dk (nI6 p)),(22,.int .i64 p.length),(23,.int .i64 k)]) p.length (by omega) ⟨0,by omega,by omega,by simp only [go_sem,↓reduceIte]⟩ ?_
 rintro M e h hM ⟨k,rfl,hk,hE⟩ P hP
 simp only [Br,Bw] at hE
 obtain ⟨f0,f21,f22,f23,-⟩:=hE
 by_cases hlt:k<p.length
 ·have hlt':(k:Int)<(p.length:Int):=by omega
  have hg:=Fo hlt
  have hge:decide (((p[k]:Nat):Int)>=0)=true:=decide_eq_true (by omega)
  have htk:((nI6 p).map (AV.int .i64)).take k=((nI6 p).take k).map (.int .i64):=by rw [List.map_take]
  have hno:(((nI6 p).take k).any fun x=>((p[k]:Nat):Int)==x)=false:=by
   rw [List.any_eq_false]
   intro x hx he
   have he':((p[k]:Nat):Int)=x:=by simpa using he
   rw [nI6,<-List.map_take] at hx
   obtain ⟨y,hy,rfl⟩:=List.mem_map.1 hx
   obtain ⟨j,hj,hjy⟩:=List.getElem_of_mem hy
   have hjk:j<k:=by
    rw [List.length_take] at hj
    omega
   rw [List.getElem_take] at hjy
   have:=Ahk.1 hp.nd (i:=j) (j:=k) (by omega) hlt (by omega)
   omega
  have hk0:0<=(k:Int)/\(k:Int)<=(nI6 p).length:=by omega
  have hcon:Con T 2 87 [.slice none (((nI6 p).take k).map (.int .i64)) false,.int .i64 ((p[k]:Nat):Int)] (.bool false):=by
   have hc:=Rd ((nI6 p).take k) ((p[k]:Nat):Int) (by rw [List.length_take,Dw]; omega)
   rw [hno] at hc
   exact hc
  have csC:∀{base:Nat} {Q:EX×St->Prop} {d:Option Nat} {L:List IOper} {ks:List Kont} {e:Env} {h:Bc} {x:Bool},GP (Bg T n) base Q d L ks e (Bg T n false (.fn 87) [.slice none (((nI6 p).take k).map (.int .i64)) x,.int .i64 ((p[k]:Nat):Int)] h)=GO (Bg T n) base Q L ks ⟨Bj e d (.bool false),h⟩:=fun {base Q d L ks e h x} =>
   Fq hcon (show 2<=n by omega) (Di _ _ _ _ (By (Bm _ _ _ _) (Bx _))) (Gs _ _)
  simp (disch:=omega) only [go_sem,↓reduceIte,f0,f21,f22,f23,hlt',hg,hge,hk0,htk,Int.toNat_natCast,csC]
  exact hP (p.length-(k+1)) _ (by omega) ⟨k+1,rfl,by omega,by simp only [go_sem,↓reduceIte,f0,f21,f22]⟩
 ·have hlt':¬(k:Int)<(p.length:Int):=by omega
  simp (disch:=omega) only [go_sem,↓reduceIte,f22,f23,hlt']
  exact hV _ _ (Bm _ _ _ _)
theorem A6s (p:List Nat) (hp:PermN p) (h1:1<=p.length) (h10:p.length<=10):Con T 7 55 [Dk (nI6 p)] (.int .i64 0):=by
 refine Bs t55 fun n hn V hV => ?_
 simp (disch:=omega) only [c55,go_sem,↓reduceIte]
 refine Dq (Aag p hp h1 h10) hn (Di _ _ _ _ (By (Bm _ _ _ _) (Bx _))) (Gt _ _ _) ?_
 simp (disch:=omega) only [go_sem,↓reduceIte]
 exact hV _ _ (Bm _ _ _ _)
end Go.Ev.YtofpilpmiddpgaaGreatC
namespace Go.Ev.YtofpilpmiddpgaaGreatC
def Hg:List Int->Nat->Option Nat
 | a::b::r,k=>if a>b then some k else Hg (b::r) (k+1)
 | _,_=>none
def swp {α:Type}:Nat->List α->List α
 | 0,a::b::r=>b::a::r
 | k+1,a::r=>a::swp k r
 | _,l=>l
def inv:List Int->Nat
 | []=>0
 | a::r=>r.countP (fun x=>decide (a>x))+inv r
def Kq:Nat->List Int->List Nat
 | 0,_=>[]
 | f+1,l=>match Hg l 0 with
  | none=>[]
  | some k=>k::Kq f (swp k l)
theorem So:∀(l:List Int) (k j:Nat),Hg l k=some j->∃A a b B,l=A++a::b::B/\j=k+A.length/\a>b
 | [],k,j,h=>by cases h
 | [a],k,j,h=>by cases h
 | a::b::r,k,j,h=>by
  unfold Hg at h
  by_cases hab:a>b
  ·rw [if_pos hab] at h
   cases h
   exact ⟨[],a,b,r,rfl,rfl,hab⟩
  ·rw [if_neg hab] at h
   obtain ⟨A,x,y,B,h1,h2,h3⟩:=So (b::r) (k+1) j h
   exact ⟨a::A,x,y,B,by rw [h1]; rfl,by simp only [List.length_cons]; omega,h3⟩
theorem Sn:∀(l:List Int) (k:Nat),Hg l k=none->l.Pairwise (·<=·)
 | [],k,h=>List.Pairwise.nil
 | [a],k,h=>by simp
 | a::b::r,k,h=>by
  unfold Hg at h
  by_cases hab:a>b
  ·rw [if_pos hab] at h; cases h
  ·rw [if_neg hab] at h
   have ih:=Sn (b::r) (k+1) h
   refine List.pairwise_cons.2 ⟨fun x hx => ?_,ih⟩
   rcases List.mem_cons.1 hx with rfl | hx
   ·omega
   ·have:=(List.pairwise_cons.1 ih).1 x hx
    omega
theorem Afm {α:Type}:∀(A:List α) (a b:α) (B:List α),swp A.length (A++a::b::B)=A++b::a::B
 | [],a,b,B=>rfl
 | x::A,a,b,B=>by
  simp only [List.length_cons,List.cons_append,swp,Afm A a b B]
theorem Wc {α:Type}:∀(k:Nat) (l:List α),(swp k l).length=l.length
 | 0,[]=>rfl
 | 0,[_]=>rfl
 | 0,_::_::_=>rfl
 | _+1,[]=>rfl
 | k+1,a::r=>by simp only [swp,List.length_cons,Wc k r]
theorem Wd {α β:Type} (f:α->β):∀(k:Nat) (l:List α),(swp k l).map f=swp k (l.map f)
 | 0,[]=>rfl
 | 0,[_]=>rfl
 | 0,_::_::_=>rfl
 | _+1,[]=>rfl
 | k+1,a::r=>by simp only [swp,List.map_cons,Wd f k r]
theorem Qh:∀(A B:List Int),inv (A++B)=inv A+inv B+(A.map fun a=>B.countP fun x=>decide (a>x)).sum
 | [],B=>by simp [inv]
 | a::A,B=>by
  simp only [List.cons_append,inv,Qh A B,List.countP_append,List.map_cons,List.sum_cons]
  omega
theorem Alz (A:List Int) (a b:Int) (B:List Int) (h:a>b):inv (A++b::a::B)+1=inv (A++a::b::B):=by
 have hc:∀x:Int,(b::a::B).countP (fun y=>decide (x>y))=(a::b::B).countP (fun y=>decide (x>y)):=fun x =>
  (List.Perm.swap a b B).countP_eq _
 rw [Qh,Qh]
 simp only [hc,inv]
 have h1:decide (a>b)=true:=decide_eq_true h
 have h2:decide (b>a)=false:=decide_eq_false (by omega)
 simp only [List.countP_cons,h1,h2,if_true,Bool.false_eq_true,if_false]
 omega
theorem Qi {l:List Int} {k:Nat} (h:Hg l 0=some k):inv (swp k l)+1=inv l:=by
 obtain ⟨A,a,b,B,rfl,hk,hab⟩:=So l 0 k h
 rw [Nat.zero_add] at hk
 subst hk
 rw [Afm]
 exact Alz A a b B hab
theorem Zt {l:List Int} {k:Nat} (h:Hg l 0=some k):k+1<l.length:=by
 obtain ⟨A,a,b,B,rfl,hk,hab⟩:=So l 0 k h
 simp only [List.length_append,List.length_cons]
 omega
theorem Zh:∀(f:Nat) (l:List Int),inv l<=f->(Kq f l).length=inv l
 | 0,l,h=>by
  simp only [Kq,List.length_nil]
  omega
 | f+1,l,h=>by
  unfold Kq
  cases hd:Hg l 0 with
  | none =>
   have hp:=Sn l 0 hd
   have:∀m:List Int,m.Pairwise (·<=·)->inv m=0:=fun m hm=>by
    induction m with
    | nil=>rfl
    | cons a r ih =>
     rw [List.pairwise_cons] at hm
     simp only [inv,ih hm.2,Nat.add_zero]
     rw [List.countP_eq_zero]
     intro x hx
     have:=hm.1 x hx
     simp
     omega
   rw [this l hp]
   rfl
  | some k =>
   have:=Qi hd
   simp only [List.length_cons,Zh f (swp k l) (by omega)]
   exact this
def Eq (l:List Int):List Nat:=Kq (inv l) l
theorem A2j (l:List Int):(Eq l).length=inv l:=Zh _ l (Nat.le_refl _)
theorem Zj {l:List Int} (h:Hg l 0=none):Eq l=[]:=by
 unfold Eq
 cases inv l with
 | zero=>rfl
 | succ f=>unfold Kq; rw [h]
theorem Mi {l:List Int} {k:Nat} (h:Hg l 0=some k):Eq l=k::Eq (swp k l):=by
 have:=Qi h
 unfold Eq
 rw [<-this]
 have hu:∀f,Kq (f+1) l=k::Kq f (swp k l):=fun f=>by
  rw [Kq,h]
 exact hu _
theorem Adw:∀l:List Int,2*inv l<=l.length*(l.length-1)
 | []=>by simp [inv]
 | a::r=>by
  have ih:=Adw r
  have hc:=List.countP_le_length (p:=fun x=>decide (a>x)) (l:=r)
  simp only [inv,List.length_cons,Nat.add_sub_cancel]
  cases hr:r.length with
  | zero =>
   obtain rfl:r=[]:=List.length_eq_zero_iff.1 hr
   simp [inv]
  | succ m =>
   rw [hr] at ih hc
   simp only [Nat.add_sub_cancel] at ih
   have:(m+1+1)*(m+1)=(m+1)*m+2*(m+1):=by
    rw [<-Nat.mul_comm (m+1),<-Nat.mul_comm (m+1) 2,<-Nat.mul_add]
   omega
end Go.Ev.YtofpilpmiddpgaaGreatC
namespace Go.Ev.YtofpilpmiddpgaaGreatC
open Go Go.Proofs
def Aoy (p:List Nat) (h:Bc) (v:AV) (h':Bc):Prop:=
 ∃K key ver,v = .tuple [.optr K 0 0,.int .i64 0]/\Bb h' K = .cells 0 [.oslice key ver none 0 p.length none]/\Bb h' key = .cells ver ((nI6 p).map (.int .i64))/\h.length<=K/\h.length<=key/\K≠key/\K<h'.length/\key<h'.length/\(∀j,j<h.length->Bb h' j=Bb h j)/\h.length<=h'.length
theorem tCl:T.fns 61=some Ku:=Bt k61 (by decide) (by decide)
def flT (n k:Nat):List Int:=(List.range k).map (fun i:Nat=>(i:Int))++List.replicate (n-k) 0
theorem Alo {n k:Nat} (h:k<=n):(flT n k).length=n:=by simp [flT]; omega
theorem Alp {n k:Nat} (h:k<n):(flT n k).set k (k:Int)=flT n (k+1):=by
 obtain ⟨m,hm⟩:∃m,n-k=m+1:=⟨n-k-1,by omega⟩
 have hm2:n-(k+1)=m:=by omega
 rw [flT,flT,hm,hm2,List.set_append_right _ _ (by simp),List.length_map,List.length_range,Nat.sub_self,List.replicate_succ,List.set_cons_zero,List.range_succ,List.map_append,List.append_assoc]
 rfl
theorem Aln (n:Nat):flT n n=nI6 (List.range n):=by simp [flT,nI6]
theorem Agg (n:Nat):flT n 0=List.replicate n 0:=by simp [flT]
theorem A0o:∀{k:Nat} {l:List Int},k+1<l.length->(l.set k (l.getD (k+1) 0)).set (k+1) (l.getD k 0)=swp k l
 | 0,a::b::r,_=>rfl
 | 0,[_],h=>by simp at h
 | 0,[],h=>by simp at h
 | k+1,[],h=>by simp at h
 | k+1,a::r,h=>by
  have ih:=A0o (k:=k) (l:=r) (by simpa using h)
  simp only [swp,List.getD_cons_succ,List.set_cons_succ]
  rw [ih]
def dsP (now:List Int) (i:Int):Bool:=decide (now.getD (i-1).toNat 0>now.getD i.toNat 0)
theorem A1i (now:List Int):∀(m j:Nat),j+m+1=now.length->((List.range' (j+1) m).map fun i:Nat=>(i:Int)).find? (dsP now)=(Hg (now.drop j) j).map fun k:Nat=>(k:Int)+1
 | 0,j,hj=>by
  have:now.drop j=[now.getD j 0]:=by
   rw [List.drop_eq_getElem_cons (by omega),List.drop_eq_nil_of_le (by omega),List.getD_eq_getElem?_getD,List.getElem?_eq_getElem (by omega)]; rfl
  rw [this]
  rfl
 | m+1,j,hj=>by
  have ih:=A1i now m (j+1) (by omega)
  have e1:now.drop j=now.getD j 0::now.getD (j+1) 0::now.drop (j+2):=by
   rw [List.drop_eq_getElem_cons (by omega),List.drop_eq_getElem_cons (by omega),List.getD_eq_getElem?_getD,List.getElem?_eq_getElem (by omega),List.getD_eq_getElem?_getD,List.getElem?_eq_getElem (by omega)]; rfl
  have e2:now.drop (j+1)=now.getD (j+1) 0::now.drop (j+2):=by
   rw [List.drop_eq_getElem_cons (by omega),List.getD_eq_getElem?_getD,List.getElem?_eq_getElem (by omega)]; rfl
  have e3:dsP now ((j+1:Nat):Int)=decide (now.getD j 0>now.getD (j+1) 0):=by
   have:(((j+1:Nat):Int)-1).toNat=j:=by omega
   simp only [dsP,this,Int.toNat_natCast]
  rw [List.range'_succ,List.map_cons,List.find?_cons,e3,e1,Hg]
  by_cases h:now.getD j 0>now.getD (j+1) 0
  ·rw [decide_eq_true h,if_pos h]
   simp
  ·rw [decide_eq_false h,if_neg h,<-e2]
   simp only
   exact ih
theorem A7d (n:Nat):(nI6 (List.range (n+1))).drop 1=(List.range' 1 n).map fun i:Nat=>(i:Int):=by
 rw [nI6,List.range_eq_range',List.range'_succ,List.map_cons,List.drop_succ_cons,List.drop_zero]
attribute [local irreducible] Res.all evC Dd Dg Bo Bf Dl Bg Bi G GO GV GP GC R
theorem Acz {k f:Nat} {first cap:List AV} {p:Int->Bool} (xs:List Int) (hl:xs.length<=1000) (hc:∀x∈xs,Con T k f (first++[.int .i64 x]++cap) (.bool (p x))) (hz:∀h x,fz h (first++[.int .i64 x]++cap) = .ret (first++[.int .i64 x]++cap)) :
  Con T (k+1) 31 [Dk xs,.clo f first cap] (.tuple [.int .i64 ((xs.find? p).getD 0),.bool (xs.find? p).isSome]):=by
 refine Bs t31 fun n hn V hV => ?_
 simp (disch:=omega) only [c31,go_sem,↓reduceIte,List.length_map]
 refine Da (fun M s=>∃k:Nat,M=xs.length-k/\k<=xs.length/\At s.env [(1,.clo f first cap),(9,Dk xs),(10,.int .i64 xs.length),(11,.int .i64 k)]/\xs.find? p=(xs.drop k).find? p) xs.length (by omega) ⟨0,by simp,by omega,by simp only [go_sem,↓reduceIte],rfl⟩ ?_
 rintro M e h hM ⟨k,rfl,hk,hE,hA⟩ P hP
 simp only [Br,Bw] at hE
 obtain ⟨h1,h9,h10,h11,-⟩:=hE
 by_cases hlt:k<xs.length
 ·obtain ⟨y,hy⟩:=Fu hlt
  rw [Gc hy,List.find?_cons] at hA
  simp (disch:=omega) only [go_sem,↓reduceIte,h1,h9,h10,h11,hlt,hy]
  refine Dq (hc y (List.mem_of_getElem? hy)) hn (hz _ _) (Gs _ _) ?_
  by_cases hp:p y=true
  ·rw [hp] at hA
   simp (disch:=omega) only [go_sem,↓reduceIte,h1,h9,h10,h11,hp]
   exact hV _ _ (by rw [hA]; exact Ex (Bm _ _ _ _) (Dm _ _ _))
  ·have hp':p y=false:=by simpa using hp
   rw [hp'] at hA
   simp (disch:=omega) only [go_sem,↓reduceIte,h1,h9,h10,h11,hp',Bool.false_eq_true]
   exact hP (xs.length-(k+1)) _ (by omega) ⟨k+1,rfl,by omega,by simp only [go_sem,↓reduceIte,h1,h9,h10],hA⟩
 ·simp (disch:=omega) only [go_sem,↓reduceIte,h1,h9,h10,h11,hlt]
  exact hV _ _ (by rw [hA,List.drop_eq_nil_of_le (by omega)]; exact Ex (Bm _ _ _ _) (Dm _ _ _))
theorem A6n (now:List Int) (h1:1<=now.length) (h10:now.length<=1000):A3d T 1 24 [.agg [Dk now]] (Dk (nI6 (List.range now.length))):=by
 refine Ou t24 fun n hn V hV => ?_
 have hfl:(List.replicate now.length [AV.int .i64 0]).flatten=(flT now.length 0).map (.int .i64):=by
  rw [Agg,List.map_replicate]
  simp
 have asn:Dp (.int .i64 (now.length:Int))=some now.length:=Sk _ _
 have hrm:now.length*8<=1099511627776:=by omega
 simp (disch:=omega) only [c24,go_sem,↓reduceIte,hfl,asn,hrm]
 refine Da (fun M s=>∃k:Nat,M=now.length-k/\k<=now.length/\At s.env [(3,.oslice 20 0 none 0 now.length (some now.length)),(10,.int .i64 now.length),(11,.int .i64 k)]/\Bb s.heap 20 = .cells 0 ((flT now.length k).map (.int .i64))) now.length (by omega) ⟨0,by omega,by omega,by simp only [go_sem,↓reduceIte],by simp only [go_sem,↓reduceIte]⟩ ?_
 rintro M e h hM ⟨k,rfl,hk,hE,hH⟩ P hP
 simp only [Br,Bw] at hE hH
 obtain ⟨f3,f10,f11,-⟩:=hE
 have hl:=Alo hk
 by_cases hlt:k<now.length
 ·have hlt':(k:Int)<(now.length:Int):=by omega
  have hset:=Alp hlt
  have hks:k+1<=(flT now.length k).length:=by omega
  have hmap:((flT now.length k).map (AV.int .i64)).set k (.int .i64 k)=(flT now.length (k+1)).map (.int .i64):=by rw [<-hset,List.map_set]
  simp (disch:=omega) only [go_sem,↓reduceIte,f3,f10,f11,hlt',hlt,hH,hks,hmap]
  exact hP (now.length-(k+1)) _ (by omega) ⟨k+1,rfl,by omega,by simp only [go_sem,↓reduceIte,f3,f10],by simp only [go_sem,↓reduceIte]⟩
 ·obtain rfl:k=now.length:=by omega
  have hlt':¬(now.length:Int)<(now.length:Int):=by omega
  rw [Aln] at hH
  simp (disch:=omega) only [go_sem,↓reduceIte,f3,f10,f11,hlt']
  exact hV _ _ (Hq hH (by simp [nI6])) (A1n hH)
theorem Apl (now:List Int) {i:Nat} (h10:now.length<=1000) (h1:1<=i) (h2:i<now.length):Con T 1 32 ([]++[.int .i64 (i:Nat)]++[.ptr [.ptr [Dk now] 0] 0]) (.bool (dsP now (i:Nat))):=by
 refine Bs t32 fun n hn V hV => ?_
 obtain ⟨j,rfl⟩:∃j,i=j+1:=⟨i-1,by omega⟩
 have e1:((j+1:Nat):Int)-1=(j:Int):=by omega
 have e1':(j:Int)+1-1=(j:Int):=by omega
 have g1:now[j]? = some (now.getD j 0):=gdI (by omega)
 have g2:now[j+1]? = some (now.getD (j+1) 0):=gdI (by omega)
 simp (disch:=omega) only [c32,go_sem,↓reduceIte,e1,e1',g1,g2]
 refine hV _ _ ?_
 rw [Dm,dsP]
 have:(((j+1:Nat):Int)-1).toNat=j:=by omega
 rw [this,Int.toNat_natCast]
section
variable {n base:Nat} {Q:EX×St->Prop} {d:Option Nat} {L:List IOper} {ks:List Kont} {e:Env} {h:Bc}
theorem Adt {l:List Int} {ex:Bool} (h1:1<=l.length) (h10:l.length<=1000)
  (hq:∀key ver h',Bb h' key = .cells ver (l.map (.int .i64))->h.length<=key->key<h'.length->(∀j,j<h.length->Bb h' j=Bb h j)->h.length<=h'.length->GO (Bg T (n+1)) base Q L ks ⟨Bj e d (.oslice key ver none 0 l.length none),h'⟩) :
  GP (Bg T (n+1)) base Q d L ks e (Bg T (n+1) true (.fn 61) [.slice none (l.map (.int .i64)) ex] h):=by
 refine Fm ?_
 rw [Ei tCl]
 match l,h1,h10 with
 | a::r,_,h10 =>
  simp (disch:=omega) only [Ku,go_sem,↓reduceIte]
  refine A1o (m:=(a::r).length) (l2:=a::r) (kk:=h.length+8) (by simp only [List.length_append,List.length_replicate]) (Hs (h.length+8) _ .i64) (by simp only [List.length_append,List.length_replicate]; omega) (Ala _ (a::r) .i64 ex) rfl (by simp) (by simp only [List.length_nil,List.length_cons] at *; omega) fun x h' hO hk hlen _ _ => ?_
  rcases hO with ⟨hnil,_⟩ | ⟨key,ver,hkey,rfl,hH⟩
  ·simp at hnil
  rw [List.nil_append] at hH ⊢
  simp (disch:=omega) only [go_sem,↓reduceIte,Ge,mapR]
  have hlt:=Dy hH (by simp)
  refine hq key ver h' hH (by omega) hlt (fun j hj => ?_) ?_
  ·rw [hk j (by omega),Bh]
  ·simp only [List.length_append,List.length_replicate] at hlen; omega
theorem Alu {K key ver:Nat} {now:List Int} {k:Nat} (hk:k+1<now.length) (hK:Bb h K = .cells 0 [.oslice key ver none 0 now.length none]) (hkey:Bb h key = .cells ver (now.map (.int .i64)))
  (hq:GO (Bg T (n+1)) base Q L ks ⟨Bj e d (.tuple []),setH (setH (h++List.replicate 36 .none) key (.cells ver ((now.set k (now.getD (k+1) 0)).map (.int .i64)))) key (.cells ver ((swp k now).map (.int .i64)))⟩) :
  GP (Bg T (n+1)) base Q d L ks e (Bg T (n+1) true (.fn 33) [.optr K 0 0,.int .i64 (k:Nat),.int .i64 ((k:Int)+1)] h):=by
 refine Fm ?_
 rw [Ei t33]
 have hK2:Bb (h++List.replicate 36 .none) K = .cells 0 [.oslice key ver none 0 now.length none]:=by rw [Bh,hK]
 have hkey2:Bb (h++List.replicate 36 .none) key = .cells ver (now.map (.int .i64)):=by rw [Bh,hkey]
 have hne:¬(key=K):=fun he=>by
  subst he
  rw [hK] at hkey
  simp at hkey
  cases hn:now with
  | nil=>rw [hn] at hk; simp at hk
  | cons a r=>rw [hn] at hkey; simp at hkey
 have g1:now[k]? = some (now.getD k 0):=gdI (by omega)
 have g2:now[k+1]? = some (now.getD (k+1) 0):=gdI (by omega)
 have l1:k<now.length:=by omega
 have l2:k+1<=now.length:=by omega
 have l3:k+1+1<=now.length:=by omega
 have s1:(now.map (AV.int .i64)).set k (.int .i64 (now.getD (k+1) 0))=(now.set k (now.getD (k+1) 0)).map (.int .i64):=by rw [List.map_set]
 have s2:((now.set k (now.getD (k+1) 0)).map (AV.int .i64)).set (k+1) (.int .i64 (now.getD k 0))=(swp k now).map (.int .i64):=by rw [<-A0o hk]; simp only [List.map_set]
 have l4:k+1+1<=(now.set k (now.getD (k+1) 0)).length:=by rw [List.length_set]; omega
 simp (disch:=omega) only [c33,go_sem,↓reduceIte,hK2,hkey2,hne,g1,g2,l1,hk,l2,l3,l4,s1,s2,Ge,mapR]
 exact hq
end
end Go.Ev.YtofpilpmiddpgaaGreatC
namespace Go.Ev.YtofpilpmiddpgaaGreatC
open Go Go.Proofs
def Ka (l:List Int) (x:Int):Bool:=decide (x<0)||decide (x>=l.length)
def dqJ (l:List Int) (i k:Nat):Bool:=(l.getD k 0==l.getD i 0)&&decide (l.getD i 0>=0)
def Wv (l:List Int) (n:Nat):Bool:=(List.range n).any fun i=>(List.range i).any (dqJ l i)
def Kt (l:List Int):Int:=if l.length<1\/10<l.length then 6 else if l.any (Ka l) then 3 else if Wv l l.length then 11 else 0
theorem Adg (l:List Int) (i:Nat):Wv l (i+1)=(Wv l i||(List.range i).any (dqJ l i)):=by
 rw [Wv,List.range_succ,List.any_append,List.any_cons,List.any_nil,Bool.or_false]; rfl
theorem Oa (p:Nat->Bool) (k:Nat):(List.range (k+1)).any p=((List.range k).any p||p k):=by
 rw [List.range_succ,List.any_append,List.any_cons,List.any_nil,Bool.or_false]
theorem Acs {l:List Int} (h:Kt l=0):∃p,l=nI6 p/\PermN p/\1<=p.length/\p.length<=10:=by
 unfold Kt at h
 by_cases h1:l.length<1\/10<l.length
 ·rw [if_pos h1] at h; cases h
 rw [if_neg h1] at h
 by_cases h2:l.any (Ka l)=true
 ·rw [if_pos h2] at h; cases h
 rw [if_neg h2] at h
 by_cases h3:Wv l l.length=true
 ·rw [if_pos h3] at h; cases h
 have hin:∀x∈l,0<=x/\x<l.length:=fun x hx=>by
  have:Ka l x=false:=by
   cases hb:Ka l x with
   | false=>rfl
   | true=>exact absurd (List.any_eq_true.2 ⟨x,hx,hb⟩) h2
  simp only [Ka,Bool.or_eq_false_iff,decide_eq_false_iff_not] at this
  omega
 have hl:l=nI6 (l.map Int.toNat):=by
  rw [nI6,List.map_map]
  have:∀m:List Int,(∀x∈m,0<=x)->m=m.map ((fun x:Nat=>(x:Int)) ∘ Int.toNat):=fun m=>by
   induction m with
   | nil=>intro _; rfl
   | cons a r ih =>
    intro hm
    have ha:=hm a (by simp)
    rw [List.map_cons,<-ih fun x hx=>hm x (by simp [hx])]
    congr 1
    simp only [Function.comp]
    omega
  exact this l fun x hx=>(hin x hx).1
 refine ⟨l.map Int.toNat,hl,⟨?_,fun y hy => ?_⟩,by rw [List.length_map]; omega,by rw [List.length_map]; omega⟩
 ·rw [List.Nodup,List.pairwise_map,List.pairwise_iff_getElem]
  intro i j hi hj hij he
  apply h3
  have hgi:=hin _ (List.getElem_mem hi)
  have hgj:=hin _ (List.getElem_mem hj)
  have e1:l.getD i 0=l[i]:=by rw [List.getD_eq_getElem?_getD,List.getElem?_eq_getElem hi]; rfl
  have e2:l.getD j 0=l[j]:=by rw [List.getD_eq_getElem?_getD,List.getElem?_eq_getElem hj]; rfl
  refine List.any_eq_true.2 ⟨j,List.mem_range.2 hj,List.any_eq_true.2 ⟨i,List.mem_range.2 hij,?_⟩⟩
  simp only [dqJ,e1,e2,Bool.and_eq_true,beq_iff_eq,decide_eq_true_eq]
  omega
 ·obtain ⟨x,hx,rfl⟩:=List.mem_map.1 hy
  have:=hin x hx
  rw [List.length_map]
  omega
attribute [local irreducible] Res.all evC Dd Dg Bo Bf Dl Bg Bi G GO GV GP GC R
theorem Aaf (l:List Int):Con T 1 19 [Dk l,.int .i64 0] (.int .i64 (Kt l)):=by
 refine Bs t19 fun n hn V hV => ?_
 replace hV:∀c h,c=Kt l->V (.int .i64 c,h):=fun c h e=>hV _ _ (by rw [e]; exact Bm _ _ _ _)
 by_cases g1:l.length<1
 ·have d1:decide ((l.length:Int)<1)=true:=decide_eq_true (by omega)
  simp (disch:=omega) only [c19,go_sem,↓reduceIte,d1]
  exact hV _ _ (by rw [Kt,if_pos (.inl g1)])
 have d1:decide ((l.length:Int)<1)=false:=decide_eq_false (by omega)
 by_cases g2:10<l.length
 ·have d2:decide ((l.length:Int)>10)=true:=decide_eq_true (by omega)
  simp (disch:=omega) only [c19,go_sem,↓reduceIte,d1,d2]
  exact hV _ _ (by rw [Kt,if_pos (.inr g2)])
 have d2:decide ((l.length:Int)>10)=false:=decide_eq_false (by omega)
 have hch:Kt l=if l.any (Ka l) then 3 else if Wv l l.length then 11 else 0:=by rw [Kt,if_neg (by omega)]
 simp (disch:=omega) only [c19,go_sem,↓reduceIte,d1,d2]
 refine Da (fun M s=>∃k:Nat,M=l.length-k/\k<=l.length/\At s.env [(0,Dk l),(1,.int .i64 0),(5,.int .i64 k)]/\(l.take k).any (Ka l)=false) l.length (by omega) ⟨0,by omega,by omega,by simp only [go_sem,↓reduceIte],by simp⟩ ?_
 rintro M e h hM ⟨k,rfl,hk,hE,hA⟩ P hP
 simp only [Br,Bw] at hE
 obtain ⟨f0,f1,f5,-⟩:=hE
 by_cases hlt:k<l.length
 ·have hlt':(k:Int)<(l.length:Int):=by omega
  have hg:l[k]? = some l[k]:=List.getElem?_eq_getElem hlt
  have htk:(l.take (k+1)).any (Ka l)=((l.take k).any (Ka l)||Ka l l[k]):=by
   rw [List.take_add_one,hg,List.any_append]
   simp only [Option.toList_some,List.any_cons,List.any_nil,Bool.or_false]
  have hbad:Ka l l[k]=true->V (.int .i64 3,h):=fun hb=>hV _ _ (by
   rw [hch,if_pos]
   exact List.any_eq_true.2 ⟨_,List.getElem_mem hlt,hb⟩)
  by_cases x1:l[k]<0
  ·have e1:decide (l[k]<0)=true:=decide_eq_true x1
   simp (disch:=omega) only [go_sem,↓reduceIte,f0,f1,f5,hlt',hg,e1]
   exact hV _ _ (by rw [hch,if_pos]; exact List.any_eq_true.2 ⟨_,List.getElem_mem hlt,by rw [Ka,e1]; rfl⟩)
  ·have e1:decide (l[k]<0)=false:=decide_eq_false x1
   by_cases x2:l[k]>=l.length
   ·have e2:decide (l[k]>=(l.length:Int))=true:=decide_eq_true x2
    simp (disch:=omega) only [go_sem,↓reduceIte,f0,f1,f5,hlt',hg,e1,e2]
    exact hV _ _ (by rw [hch,if_pos]; exact List.any_eq_true.2 ⟨_,List.getElem_mem hlt,by rw [Ka,e1,e2]; rfl⟩)
   ·have e2:decide (l[k]>=(l.length:Int))=false:=decide_eq_false x2
    simp (disch:=omega) only [go_sem,↓reduceIte,f0,f1,f5,hlt',hg,e1,e2]
    exact hP (l.length-(k+1)) _ (by omega) ⟨k+1,rfl,by omega,by simp only [go_sem,↓reduceIte,f0,f1],by rw [htk,hA,Ka,e1,e2]; rfl⟩
 ·obtain rfl:k=l.length:=by omega
  rw [List.take_of_length_le (Nat.le_refl _)] at hA
  rw [hA] at hch
  simp only [Bool.false_eq_true,if_false] at hch
  have hlt':¬(l.length:Int)<(l.length:Int):=by omega
  simp (disch:=omega) only [go_sem,↓reduceIte,f0,f5,hlt']
  refine Da (fun M s=>∃i:Nat,M=l.length-i/\i<=l.length/\At s.env [(0,Dk l),(6,.int .i64 i)]/\Wv l i=false) l.length (by omega) ⟨0,by omega,by omega,by simp only [go_sem,↓reduceIte,f0],rfl⟩ ?_
  clear f0 f1 f5
  rintro M e h hM ⟨i,rfl,hi,hE,hD⟩ P2 hP2
  simp only [Br,Bw] at hE
  obtain ⟨f0,f6,-⟩:=hE
  by_cases hit:i<l.length
  ·have hit':(i:Int)<(l.length:Int):=by omega
   have hgi:l[i]? = some (l.getD i 0):=by rw [List.getD_eq_getElem?_getD,List.getElem?_eq_getElem hit]; rfl
   simp (disch:=omega) only [go_sem,↓reduceIte,f0,f6,hit']
   refine Da (fun M s=>∃k:Nat,M=i-k/\k<=i/\At s.env [(0,Dk l),(6,.int .i64 i),(7,.int .i64 k)]/\(List.range k).any (dqJ l i)=false) i (by omega) ⟨0,by omega,by omega,by simp only [go_sem,↓reduceIte,f0,f6],rfl⟩ ?_
   clear f0 f6
   rintro M e h hM ⟨k,rfl,hk,hE,hK⟩ P3 hP3
   simp only [Br,Bw] at hE
   obtain ⟨f0,f6,f7,-⟩:=hE
   by_cases hki:k<i
   ·have hki':(k:Int)<(i:Int):=by omega
    have hgk:l[k]? = some (l.getD k 0):=gdI (by omega)
    by_cases y1:l.getD k 0=l.getD i 0
    ·have e1:(l.getD k 0==l.getD i 0)=true:=beq_iff_eq.2 y1
     by_cases y2:l.getD i 0>=0
     ·have e2:decide (l.getD i 0>=0)=true:=decide_eq_true y2
      simp (disch:=omega) only [go_sem,↓reduceIte,f0,f6,f7,hki',hgi,hgk,e1,e2]
      exact hV _ _ (by
       rw [hch,if_pos]
       exact List.any_eq_true.2 ⟨i,List.mem_range.2 hit,List.any_eq_true.2 ⟨k,List.mem_range.2 hki,by rw [dqJ,e1,e2]; rfl⟩⟩)
     ·have e2:decide (l.getD i 0>=0)=false:=decide_eq_false y2
      simp (disch:=omega) only [go_sem,↓reduceIte,f0,f6,f7,hki',hgi,hgk,e1,e2]
      exact hP3 (i-(k+1)) _ (by omega) ⟨k+1,rfl,by omega,by simp only [go_sem,↓reduceIte,f0,f6],by rw [Oa,hK,dqJ,e1,e2]; rfl⟩
    ·have e1:(l.getD k 0==l.getD i 0)=false:=beq_eq_false_iff_ne.2 y1
     simp (disch:=omega) only [go_sem,↓reduceIte,f0,f6,f7,hki',hgi,hgk,e1]
     exact hP3 (i-(k+1)) _ (by omega) ⟨k+1,rfl,by omega,by simp only [go_sem,↓reduceIte,f0,f6],by rw [Oa,hK,dqJ,e1]; rfl⟩
   ·obtain rfl:k=i:=by omega
    have hkk:¬(k:Int)<(k:Int):=by omega
    simp (disch:=omega) only [go_sem,↓reduceIte,f6,f7,hkk]
    exact hP2 (l.length-(k+1)) _ (by omega) ⟨k+1,rfl,by omega,by simp only [go_sem,↓reduceIte,f0],by rw [Adg,hD,hK]; rfl⟩
  ·obtain rfl:i=l.length:=by omega
   have hii:¬(l.length:Int)<(l.length:Int):=by omega
   simp (disch:=omega) only [go_sem,↓reduceIte,f0,f6,hii]
   exact hV _ _ (by rw [hch,hD]; rfl)
theorem A6p (l:List Int):Con T 2 5 [Dk l] (.int .i64 (Kt l)):=by
 refine Bs t5 fun n hn V hV => ?_
 simp (disch:=omega) only [c5,go_sem,↓reduceIte]
 refine Dq (Aaf l) hn (Di _ _ _ _ (By (Bm _ _ _ _) (Bx _))) (Gt _ _ _) ?_
 simp (disch:=omega) only [go_sem,↓reduceIte]
 exact hV _ _ (Bm _ _ _ _)
end Go.Ev.YtofpilpmiddpgaaGreatC
namespace Go.Ev.YtofpilpmiddpgaaGreatC
open Go Go.Proofs
theorem A5x (l:List Int) (h:l.length<=10):inv l<=45:=by
 have h1:=Adw l
 have h2:l.length*(l.length-1)<=10*9:=Nat.mul_le_mul h (by omega)
 omega
attribute [local irreducible] Res.all evC Dd Dg Bo Bf Dl Bg Bi G GO GV GP GC R
theorem Alt (p:List Nat) (hp:PermN p) (h1:1<=p.length) (h10:p.length<=10):∀n,9<=n->∀(h:Bc) (V:AV×Bc->Prop),(∀v h',Aoy p h v h'->V (v,h'))->
  G (Bg T n) h.length (Fin c22.results V) c22.body [] ⟨[Dk (nI6 p)],h++List.replicate c22.ntmps .none⟩:=by
 intro n hn h V hV
 obtain ⟨n,rfl⟩:∃m,n=m+2:=⟨n-2,by omega⟩
 have e0:((0:Int) != 0)=false:=rfl
 have hl:=Dw p
 simp (disch:=omega) only [c22,go_sem,↓reduceIte]
 refine Dq (A6s p hp h1 h10) (show 7<=n+2 by omega) (Di _ _ _ _ (Bx _)) (Gt _ _ _) ?_
 simp (disch:=omega) only [go_sem,↓reduceIte,e0]
 refine Fm ?_
 rw [Ei t56]
 simp (disch:=omega) only [c56,go_sem,↓reduceIte]
 refine Adt (l:=nI6 p) (by omega) (by omega) fun key ver h' hH hk1 hk2 kp ln => ?_
 simp only [List.length_append,List.length_replicate] at hk1 kp ln
 have hb:∀j,h.length<=j->Bb (h++List.replicate 12 .none++List.replicate 8 .none) j = .none:=fun j hj=>by
  by_cases hlt:j<h.length+20
  ·rw [Bh]
   obtain ⟨i,rfl⟩:∃i,j=h.length+i:=⟨j-h.length,by omega⟩
   exact Fb _ _ _
  ·exact Ds _ _ (by simp; omega)
 have hK:Bb h' (h.length+12+7) = .none:=by rw [kp _ (by omega)]; exact hb _ (by omega)
 have hne:¬(h.length+12+7=key):=by omega
 simp (disch:=omega) only [go_sem,↓reduceIte,Ge,mapR,List.length_append,List.length_replicate,hK]
 rw [hl]
 refine hV _ _ ⟨h.length+19,key,ver,rfl,getH_setH_self _ _ _,?_,by omega,by omega,by omega,?_,?_,fun j hj => ?_,?_⟩
 ·rw [Ba _ _ _ _ (by omega)]; exact hH
 ·simp only [Bd]; omega
 ·simp only [Bd]; omega
 ·rw [Ba _ _ _ _ (by omega),kp j (by omega),Bh,Bh]
 ·simp only [Bd]; omega
theorem Aad (p:List Nat) (hp:PermN p) (h1:1<=p.length) (h10:p.length<=10):A3d T 12 15 [Dk (nI6 p)] (.tuple [Dk (nI6 (Eq (nI6 p))),.int .i64 0]):=by
 refine Ou t15 fun n hn V hV => ?_
 obtain ⟨n,rfl⟩:∃m,n=m+2:=⟨n-2,by omega⟩
 have e0:((0:Int) != 0)=false:=rfl
 have hl:=Dw p
 have h45:=A5x (nI6 p) (by omega)
 simp (disch:=omega) only [c15,go_sem,↓reduceIte]
 refine Ue (Lr (k:=9) t22 (Alt p hp h1 h10)) (show 10<=n+2 by omega) fun v h hv => ?_
 obtain ⟨K,key,ver,rfl,gK,gkey,b1,b2,b3,b4,b5,kp,ln⟩:=hv
 simp only [List.length_replicate] at b1 b2 kp ln
 have g4:Bb h 4 = .none:=by rw [kp 4 (by omega),Ky]
 have nK4:¬(K=4):=by omega
 have n4K:¬(4=K):=by omega
 have nk4:¬(key=4):=by omega
 have n4k:¬(4=key):=by omega
 simp (disch:=omega) only [go_sem,↓reduceIte,e0,g4]
 refine Da (fun M st=>∃(now:List Int) (x:AV) (dn:List Nat),M=inv now/\now.length=p.length/\At st.env [(4,.optr 4 0 0),(6,x)]/\Bb st.heap 4 = .cells 0 [.optr K 0 0]/\Bb st.heap K = .cells 0 [.oslice key ver none 0 p.length none]/\Bb st.heap key = .cells ver (now.map (.int .i64))/\Own 46 st.heap x .i64 (nI6 dn)/\(∀j,Do x=some j->j≠K/\j≠key)/\K<st.heap.length/\key<st.heap.length/\Eq (nI6 p)=dn++Eq now/\dn.length+inv now=inv (nI6 p)) (inv (nI6 p)) (by omega)
  ⟨nI6 p,.slice none [] true,[],rfl,hl,by simp only [go_sem,↓reduceIte],by simp only [go_sem,↓reduceIte],by simp only [go_sem,↓reduceIte,n4K]; exact gK,by simp only [go_sem,↓reduceIte,n4k]; exact gkey,Hs ..,(fun j hj=>by cases hj),by simp only [Bd]; omega,by simp only [Bd]; omega,rfl,by simp⟩ ?_
 rintro M e h2 hM ⟨now,x,dn,rfl,hnl,hE,g4,gK,gkey,hO,hKx,lK,lk,hst,hcn⟩ P hP
 simp only [Br,Bw] at hE g4 gK gkey hO lK lk
 obtain ⟨f4,f6,-⟩:=hE
 have hfz:Bi h2 8 (.agg [.oslice key ver none 0 p.length none]) = .ret (.agg [Dk now]):=Fh (Bv (Hq gkey (by omega)) (Df _ _))
 simp (disch:=omega) only [go_sem,↓reduceIte,f4,g4,gK]
 refine Mk (A6n now (by omega) (by omega)) (show 1<=n+2 by omega) (By hfz (Bx _)) ?_
 obtain ⟨m,hm⟩:∃m,now.length=m+1:=⟨now.length-1,by omega⟩
 have hdrop:((nI6 (List.range now.length)).map (AV.int .i64)).drop 1=(((List.range' 1 m).map fun i:Nat=>(i:Int))).map (.int .i64):=by
  rw [hm,<-List.map_drop,A7d]
 have h1n:(1:Int).toNat=1:=rfl
 have hrl:(0:Int)<=1/\(1:Int)<=(List.range now.length).length:=by rw [List.length_range]; omega
 have hrl2:(1:Int)<=(now.length:Int):=by omega
 have hr01:(0:Int)<=1:=by omega
 have hnl2:(nI6 (List.range now.length)).length=now.length:=by rw [Dw,List.length_range]
 simp (disch:=omega) only [go_sem,↓reduceIte,f4,hnl2,hrl2,hr01,h1n,hdrop]
 have hfd:=A1i now m 0 (by omega)
 rw [List.drop_zero,Nat.zero_add] at hfd
 refine Dq (Acz (k:=1) (f:=32) (first:=[]) (cap:=[.ptr [.ptr [Dk now] 0] 0]) (p:=dsP now) ((List.range' 1 m).map fun i:Nat=>(i:Int)) (by rw [List.length_map,List.length_range']; omega) (fun x hx => ?_) (fun hh x => ?_)) (show 2<=n+2 by omega)
  (Di _ _ _ _ (By (Gk (Df _ _) (Bv (Eu g4 (Bv (Eu gK (Bv (Hq gkey (by omega)) (Df _ _))) (Df _ _))) (Df _ _))) (Bx _))) (by exact Bool.or_true _) ?_
 ·obtain ⟨i,hi,rfl⟩:=List.mem_map.1 hx
  have:=List.mem_range'_1.1 hi
  exact Apl now (by omega) (by omega) (by omega)
 ·exact By (Bm _ _ _ _) (By (Ea _ _ _ _) (Bx _))
 rw [hfd]
 have hlA:=hO.lenA
 rw [Dw] at hlA
 cases hd:Hg now 0 with
 | none =>
  rw [Zj hd,List.append_nil] at hst
  simp (disch:=omega) only [go_sem,↓reduceIte,Option.map_none,Option.isSome_none,f6]
  refine hV _ _ ?_ (Adp (A1m hO) (Ado _ _ _ _))
  rw [hst]
  exact Ex (Oc hO) (Bm _ _ _ _)
 | some k =>
  have hk2:=Zt hd
  have hiv:=Qi hd
  rw [Mi hd] at hst
  have e1:(k:Int)+1-1=(k:Int):=by omega
  simp (disch:=omega) only [go_sem,↓reduceIte,Option.map_some,Option.isSome_some,Option.getD_some,f4,g4,e1]
  rw [<-hnl] at gK
  refine Alu (now:=now) (k:=k) hk2 gK gkey ?_
  rw [hnl] at gK
  have gK3:∀o1 o2,Bb (setH (setH (h2++List.replicate 36 .none) key o1) key o2) K = .cells 0 [.oslice key ver none 0 p.length none]:=fun o1 o2=>by
   rw [Ba _ _ _ _ (fun he=>b3 he.symm),Ba _ _ _ _ (fun he=>b3 he.symm),Bh]; exact gK
  have hO3:∀o1 o2,Own 46 (setH (setH (h2++List.replicate 36 .none) key o1) key o2) x .i64 (nI6 dn):=fun o1 o2=>hO.other fun j hj=>by
   obtain ⟨a1,a2⟩:=hKx j hj
   rw [Ba _ _ _ _ (fun he=>a2 he.symm),Ba _ _ _ _ (fun he=>a2 he.symm),Bh]
  simp (disch:=omega) only [go_sem,↓reduceIte,f6,hlA]
  rw [Xs hO (k1:=.i64) (k2:=.i64) (by simp only [go_sem,↓reduceIte,Dw]) (by simp only [go_sem,↓reduceIte,Dw])]
  simp (disch:=omega) only [go_sem,↓reduceIte,e1]
  refine Xd (l2:=[(k:Int)]) (m:=1) (by simp only [Bd,List.length_append,List.length_replicate]; omega) (hO3 _ _) (by simp only [Bd,List.length_append,List.length_replicate]; omega) rfl rfl (by omega) (by rw [Dw]; omega) fun x' h' hO' hF hL hKy => ?_
  simp only [Bd,List.length_append,List.length_replicate] at hL hF
  simp (disch:=omega) only [go_sem,↓reduceIte]
  have hinv2:dn.length+1+inv (swp k now)=inv (nI6 p):=by omega
  refine hP (inv (swp k now)) _ (by omega) ⟨swp k now,x',dn++[k],rfl,by rw [Wc]; exact hnl,by simp only [go_sem,↓reduceIte,f4],?_,?_,?_,?_,fun j hj => ?_,(show K<h'.length by omega),(show key<h'.length by omega),by rw [List.append_assoc]; exact hst,by rw [List.length_append]; exact hinv2⟩
  ·rw [hF 4 (by omega),Ba _ _ _ _ (by omega),Ba _ _ _ _ (by omega),Bh]; exact g4
  ·rw [hF K (by omega)]; exact gK3 _ _
  ·rw [hF key (by omega),getH_setH_self]
  ·have:nI6 (dn++[k])=nI6 dn++[(k:Int)]:=by simp [nI6]
   rw [this]; exact hO'
  ·rw [hKy] at hj
   have:=Option.some.inj hj
   simp only [Bd,List.length_append,List.length_replicate] at this
   omega
end Go.Ev.YtofpilpmiddpgaaGreatC
