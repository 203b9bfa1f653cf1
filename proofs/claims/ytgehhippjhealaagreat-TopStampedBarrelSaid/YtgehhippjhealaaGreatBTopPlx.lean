/- Entries of the works' calls that are proved by walks. The code of functions that are walked, compiled for the evaluator, as text. The day of Play of layer 3 at the example, reckoned by the kernel. Play of layer 3 at the example: the range over the ends of its day is walked. No condition but those that stand in each. -/
import Derived.Test.YtgehhippjhealaaGreatBTopW
import Derived.Test.YtgehhippjhealaaGreatBTopKnx
import Derived.Test.YtgehhippjhealaaGreatBEvKer3
set_option linter.unusedSimpArgs false
set_option linter.unusedVariables false
set_option maxRecDepth 100000
namespace Go.Ev.YtgehhippjhealaaGreatC
open Go Go.Proofs
def A1y:AnsY:=⟨272,[(.slice (some 2) [(.agg [(wN 3),(wN 4)]),(.agg [(wN 5),(wN 2)]),(.agg [(wN 4),(wN 6)])] false),(.agg [(wI [0,1,2] false),(wI [2,0,1] false),(wI [0,0,1] false)])],(.tuple [(.slice (some 2) [(.agg [(wN 0),(wN 6)]),(.agg [(wN 3),(wN 10)]),(.agg [(wN 8),(wN 0)])] false),(wN 0)]),false⟩
end Go.Ev.YtgehhippjhealaaGreatC
set_option linter.unusedSimpArgs false
set_option linter.unusedVariables false
set_option maxRecDepth 100000
namespace Go.Ev.YtgehhippjhealaaGreatC
open Go.Proofs
def c272:IFunc:=⟨71,[.tmp 4,.tmp 5],.seq (.ops [dO 3 (.box (tM 1)),dO 4 (.mv (.const (.slice (some 2) [] true))),dO 5 (.mv (cI 0))]) (.seq (.ops [dO 13 (.mv (tM 0)),dO 14 (.load (some 3) (tM 3)),dO 15 (.callF true 348 [tM 13,tM 14]),dO 12 (.mv (tM 15)),dO 16 (.extract (tM 12) 0),dO 17 (.extract (tM 12) 1),dO 6 (.mv (tM 16)),dO 7 (.mv (tM 17))]) (.seq (.block 0 (.seq (.ops [dO 19 (.mv (tM 7)),dO 20 (.bin .neq (tM 19) (cI 0)),dO 18 (.mv (tM 20))]) (.cond (tM 18) (.seq (.ops [dO 21 (.mv (tM 7)),dO 4 (.mv (.const (.slice (some 2) [] true))),dO 5 (.mv (tM 21))]) .ret) (.seq (.ops [dO 23 (.mv (tM 6)),dO 24 (.nilCheck (tM 23)),dO 25 (.fieldAddr 3 (tM 24)),dO 26 (.load none (tM 25)),dO 27 (.lenM (tM 26)),dO 28 (.mv (tM 0)),dO 29 (.len (tM 28)),dO 30 (.bin .mul (cI 2) (tM 29)),dO 31 (.bin .lss (tM 27) (tM 30)),dO 22 (.mv (tM 31))]) (.cond (tM 22) (.seq (.ops [dO 4 (.mv (.const (.slice (some 2) [] true))),dO 5 (.mv (cI 13))]) .ret) .skip))))) (.seq (.ops [dO 32 (.mv (tM 0)),dO 33 (.len (tM 32)),dO 34 (.mkSlice (some 2) [.int .i64 0,.int .i64 0] 16 (tM 33) (tM 33)),dO 8 (.mv (tM 34))]) (.seq (.ops [dO 35 (.mv (tM 8)),eO (.clearG (some 2) [.int .i64 0,.int .i64 0] (tM 35))]) (.seq (.seq (.ops [dO 36 (.mv (tM 6)),dO 37 (.nilCheck (tM 36)),dO 38 (.fieldAddr 3 (tM 37)),dO 39 (.load none (tM 38)),dO 40 (.range (tM 39))]) (.block 1 (.loop (.seq (.ops [dO 41 (.next (tM 40)),dO 42 (.extract (tM 41) 0)]) (.seq (.cond (tM 42) .skip (.exit 1)) (.block 2 (.seq (.ops [dO 43 (.entry (tM 40)),dO 44 (.extract (tM 43) 0),dO 45 (.extract (tM 43) 1),dO 9 (.alloc [.int .i64 0]),eO (.store 1 (tM 9) (tM 44)),dO 10 (.mv (tM 45))]) (.seq (.ops [dO 46 (.mv (tM 10)),dO 47 (.mv (tM 0)),dO 48 (.fieldAddr 0 (tM 9)),dO 49 (.load none (tM 48)),dO 50 (.callF false 345 [tM 47,tM 49]),dO 51 (.bin .sub (tM 46) (tM 50)),dO 11 (.mv (tM 51))]) (.seq (.ops [dO 52 (.fieldAddr 0 (tM 9)),dO 53 (.load none (tM 52)),dO 54 (.bin .rem (tM 53) (cI 2)),dO 55 (.bin .eql (tM 54) (cI 0))]) (.cond (tM 55) (.ops [dO 56 (.mv (tM 8)),dO 57 (.fieldAddr 0 (tM 9)),dO 58 (.load none (tM 57)),dO 59 (.bin .quo (tM 58) (cI 2)),dO 60 (.mv (tM 11)),dO 61 (.indexAddr 2 (tM 56) (tM 59)),dO 62 (.fieldAddr 0 (tM 61)),eO (.store 1 (tM 62) (tM 60))]) (.ops [dO 63 (.mv (tM 8)),dO 64 (.fieldAddr 0 (tM 9)),dO 65 (.load none (tM 64)),dO 66 (.bin .quo (tM 65) (cI 2)),dO 67 (.mv (tM 11)),dO 68 (.indexAddr 2 (tM 63) (tM 66)),dO 69 (.fieldAddr 1 (tM 68)),eO (.store 1 (tM 69) (tM 67))]))))))))))) (.seq (.ops [dO 70 (.mv (tM 8)),dO 4 (.mv (tM 70)),dO 5 (.mv (cI 0))]) .ret))))))⟩
theorem k272:(Bt Tryz.prog byr).fns 272=some c272:=by kernel_rfl
theorem t272:T.fns 272=some c272:=Bx k272 (by decide) (by decide)
end Go.Ev.YtgehhippjhealaaGreatC
set_option linter.unusedSimpArgs false
set_option linter.unusedVariables false
set_option maxRecDepth 100000
namespace Go.Ev.YtgehhippjhealaaGreatC
open Go Go.Proofs
def plJ:AV:=.slice (some 2) [.agg [.int .i64 3,.int .i64 4],.agg [.int .i64 5,.int .i64 2],.agg [.int .i64 4,.int .i64 6]] false
abbrev plI (l:List Int):AV:=.slice none (l.map (.int .i64)) false
def plO:List AV:=[plI [0,1,2],plI [2,0,1],plI [0,0,1]]
def plH:Bd:=setH (List.replicate 71 AObj.none) 3 (.cells 0 plO)
def plK:List AV:=[0,2,5,1,3,4].map fun w:Int => .agg [.int .i64 w]
def plV:List AV:=[3,8,6,10,12,12].map fun w:Int => .int .i64 w
def plC (p:AV×Bd):Bool:=
 (match p.1 with
  | .tuple [.optr 103 0 0,.int .i64 0]=>true
  | _=>false) &&
 (match Bc p.2 103 with
  | .cells 0 [_,_,_,.omap 166 0]=>true
  | _=>false) &&
 (match Bc p.2 166 with
  | .map 0 6 ks vs bs=>Hu (eqV 10) ks plK&&Hu (eqV 10) vs plV&&decide (bs=[0,1,2,3,4,5])
  | _=>false)
theorem B5v {p:AV×Bd} (h:plC p=true):p.1 = .tuple [.optr 103 0 0,.int .i64 0]:=by
 simp only [plC,Bool.and_eq_true] at h
 have h1:=h.1.1
 split at h1
 ·assumption
 ·cases h1
theorem B4f {p:AV×Bd} (h:plC p=true):∃a b c,Bc p.2 103 = .cells 0 [a,b,c,.omap 166 0]:=by
 simp only [plC,Bool.and_eq_true] at h
 have h1:=h.1.2
 split at h1
 ·next a b c hh=>exact ⟨_,_,_,hh⟩
 ·cases h1
theorem B4h {p:AV×Bd} (h:plC p=true):Bc p.2 166 = .map 0 6 plK plV [0,1,2,3,4,5]:=by
 simp only [plC,Bool.and_eq_true] at h
 have h1:=h.2
 split at h1
 ·next ks vs bs hh =>
  simp only [Bool.and_eq_true,decide_eq_true_eq] at h1
  rw [hh,Fv (Uy 10) _ _ h1.1.1,Fv (Uy 10) _ _ h1.1.2,h1.2]
 ·cases h1
theorem Awt:(Lr T [] 60 true (.fn 348) [plJ,.agg plO] plH).allB plC=true:=by kernel_rfl
end Go.Ev.YtgehhippjhealaaGreatC
set_option linter.unusedSimpArgs false
set_option linter.unusedVariables false
set_option maxRecDepth 100000
namespace Go.Ev.YtgehhippjhealaaGreatC
open Go Go.Proofs
theorem B5j:Con T 61 345 [plJ,.int .i64 0] (.int .i64 3):=Gm (Bb (k:=0) (n:=60) (l:=[]) (fun _ h=>by cases h) (by kernel_rfl))
theorem B4v:Con T 61 345 [plJ,.int .i64 1] (.int .i64 4):=Gm (Bb (k:=0) (n:=60) (l:=[]) (fun _ h=>by cases h) (by kernel_rfl))
theorem B3k:Con T 61 345 [plJ,.int .i64 2] (.int .i64 5):=Gm (Bb (k:=0) (n:=60) (l:=[]) (fun _ h=>by cases h) (by kernel_rfl))
theorem B5l:Con T 61 345 [plJ,.int .i64 3] (.int .i64 2):=Gm (Bb (k:=0) (n:=60) (l:=[]) (fun _ h=>by cases h) (by kernel_rfl))
theorem B4t:Con T 61 345 [plJ,.int .i64 4] (.int .i64 4):=Gm (Bb (k:=0) (n:=60) (l:=[]) (fun _ h=>by cases h) (by kernel_rfl))
theorem B5b:Con T 61 345 [plJ,.int .i64 5] (.int .i64 6):=Gm (Bb (k:=0) (n:=60) (l:=[]) (fun _ h=>by cases h) (by kernel_rfl))
def plZ:List (AV×AV×Nat):=[(.agg [.int .i64 0],.int .i64 3,0),(.agg [.int .i64 2],.int .i64 8,1),(.agg [.int .i64 5],.int .i64 6,2),(.agg [.int .i64 1],.int .i64 10,3),(.agg [.int .i64 3],.int .i64 12,4),(.agg [.int .i64 4],.int .i64 12,5)]
theorem A6y (b:Nat) (hb:b<6):b=0\/b=1\/b=2\/b=3\/b=4\/b=5:=by omega
theorem Avb (b:Nat) (hb:b<6):plZ.getD b default∈plZ:=by
 rcases A6y b hb with rfl | rfl | rfl | rfl | rfl | rfl <;> simp [plZ]
theorem B3o (b:Nat) (hb:b<6):(plZ.getD b default).2.2=b:=by
 rcases A6y b hb with rfl | rfl | rfl | rfl | rfl | rfl <;> rfl
theorem Agv (k v:AV) (b:Nat) (h:(k,v,b)∈plZ):plZ.find? (fun t=>t.2.2==b)=some (k,v,b):=by
 simp only [plZ,List.mem_cons,List.not_mem_nil,or_false] at h
 rcases h with h | h | h | h | h | h <;> cases h <;> rfl
theorem Azv (k v:AV) (b:Nat) (h:(k,v,b)∈plZ):b<6:=by
 simp only [plZ,List.mem_cons,List.not_mem_nil,or_false] at h
 rcases h with h | h | h | h | h | h <;> cases h <;> decide
def plW (seen:List Nat):List AV:=
 [.int .i64 0,.int .i64 (if seen.contains 3 then 6 else 0),.int .i64 (if seen.contains 1 then 3 else 0),.int .i64 (if seen.contains 4 then 10 else 0),.int .i64 (if seen.contains 5 then 8 else 0),.int .i64 0]
def Ayu (g:Option Nat) (zs:List AV) (h:Bd):AV->Res (AV×Bd)
 | .oslice k ver gx off len _ =>
  match Bc h k with
  | .cells v cs =>
   if v=ver/\gx=g/\off+len*Bg g<=cs.length/\zs.all oneB=true/\zs.length=Bg g/\0<Bg g then
    if len=0 then .ret (.undef,h)
    else .ret (.undef,setH h k (.cells v (Dp cs off (List.replicate len zs).flatten)))
   else .fail
  | _ => .fail
 | _ => .fail
theorem Aex {call:Bn} {base:Nat} {Q:EX×St->Prop} {ks:List Kont} {e:Env} {h:Bd} {l:List IOper} {d:Option Nat} (g:Option Nat) (zs:List AV) (x:IX):GO call base Q (⟨d,.clearG g zs x,none⟩::l) ks ⟨e,h⟩=GP call base Q d l ks e (Ayu g zs h (x.ev e)):=by
 rw [Dk]; rfl
attribute [local irreducible] Res.all evC Df Dh Bq Bh Dn Bf Bj G GO GV GP GC R
set_option maxRecDepth 100000
theorem Afc:Con T 70 272 [plJ,.agg plO] (.tuple [.slice (some 2) [.agg [.int .i64 0,.int .i64 6],.agg [.int .i64 3,.int .i64 10],.agg [.int .i64 8,.int .i64 0]] false,.int .i64 0]):=by
 refine Bs t272 fun n hn V hV => ?_
 have hop:(Bf T n true (.fn 348) [plJ,.agg plO] plH).all fun p=>plC p=true:=by
  have h1:=Res.allB_all _ _ Awt
  have h2:=Qn (k:=0) (l:=[]) (fun a h=>by cases h) 60 _ _ _ _ _ h1
  exact Iw T (by omega) _ _ _ _ _ h2
 have hl3:([AV.agg [.int .i64 3,.int .i64 4],.agg [.int .i64 5,.int .i64 2],.agg [.int .i64 4,.int .i64 6]]:List AV).length=3:=rfl
 have hpl:plO.length=3:=rfl
 have ht3:plO.take 3=plO:=rfl
 have hone:plO.all oneB=true:=rfl
 simp (disch:=first | assumption | omega) only [c272,go_sem,↓reduceIte,hpl,ht3,hone]
 refine Fu (Res.all_mono _ (show (Bf T n true (.fn 348) [plJ,.agg plO] (setH (List.replicate 71 AObj.none) 3 (AObj.cells 0 plO))).all _ from hop) ?_)
 rintro ⟨v,h⟩ hp
 obtain rfl:v = .tuple [.optr 103 0 0,.int .i64 0]:=B5v hp
 obtain ⟨ca,cb,cc,g103⟩:=B4f hp
 have g166:=B4h hp
 simp only at g103 g166
 clear hp hop
 refine A7u [(0,plJ),(15,.tuple [.optr 103 0 0,.int .i64 0])] (by simp only [go_sem,↓reduceIte]) fun e hE => ?_
 simp only [Bp,Bw] at hE
 obtain ⟨f0,f15,-⟩:=hE
 have hmo:Ft h (.omap 166 0)=some (plK,plV):=by simp only [Ft,g166,if_true]
 have hk6:plK.length=6:=rfl
 have hJ:lenA plJ=some 3:=rfl
 have e0:((0:Int) != 0)=false:=rfl
 have hd6:decide ((6:Int)<2*3)=false:=rfl
 have as3:Dq (.int .i64 3)=some 3:=rfl
 have l166:=Ef g166 (by simp)
 have gN:Bc h h.length = .none:=Em _ _ (Nat.le_refl _)
 have hz:(List.replicate 3 [AV.int .i64 0,.int .i64 0]).flatten=[.int .i64 0,.int .i64 0,.int .i64 0,.int .i64 0,.int .i64 0,.int .i64 0]:=rfl
 generalize hA:h.length=A at *
 have n103:¬(A=103):=by omega
 have n103':¬(103=A):=by omega
 simp (disch:=first | assumption | omega) only [go_sem,↓reduceIte,f0,f15,g103,hmo,hk6,hJ,e0,gN,hA,hz,Aex,Ayu,hd6,as3,n103,n103']
 refine Sp (c:=6) (ks:=plK) (vs:=plV) (bs:=[0,1,2,3,4,5]) (A+1) (by simp only [Be,hA]; omega) (by rw [Ba _ _ _ _ (by omega),Ba _ _ _ _ (by omega)]; exact g166) ?_
 simp (disch:=first | assumption | omega) only [go_sem,↓reduceIte]
 refine Bz (fun M st=>∃seen:List Nat,M=((List.range 6).filter fun b => !seen.contains b).length/\At st.env [(0,plJ),(8,.oslice A 0 (some 2) 0 3 (some 3)),(40,.iter (A+1) 0)]/\Bc st.heap A = .cells 0 (plW seen)/\Bc st.heap (A+1) = .iter 0 166 0 6 seen 6/\Bc st.heap 166 = .map 0 6 plK plV [0,1,2,3,4,5]) 6 (by omega)
  ⟨[],rfl,by simp only [go_sem,↓reduceIte,f0],?_,getH_setH_self _ _ _,?_⟩ ?_
 ·rw [Ba _ _ _ _ (by omega),getH_setH_self]; rfl
 ·rw [Ba _ _ _ _ (by omega),Ba _ _ _ _ (by omega),Ba _ _ _ _ (by omega)]; exact g166
 clear f0 f15
 rintro M e h2 hM ⟨seen,rfl,hE,gA,gI,gM⟩ P hP
 simp only [Bp,Bw] at hE gA gI gM
 obtain ⟨f0,f8,f40,-⟩:=hE
 simp (disch:=first | assumption | omega) only [go_sem,↓reduceIte,Bu,f40]
 refine Vo gI gM (by decide) (Nat.le_refl _) (fun hl => ?_) (fun k v b hm => ?_)
 ·have hall:∀b,b<6->seen.contains b=true:=fun b hb=>by
   cases hc:seen.contains b with
   | true=>rfl
   | false =>
    exfalso
    have hz:plK.zip (plV.zip [0,1,2,3,4,5])=plZ:=rfl
    rw [Gp,hz,List.filter_eq_nil_iff] at hl
    have:=hl (plZ.getD b default) (Avb b hb)
    rw [B3o b hb,hc] at this
    exact this rfl
  have hw:plW seen=[.int .i64 0,.int .i64 6,.int .i64 3,.int .i64 10,.int .i64 8,.int .i64 0]:=by
   simp only [plW,hall 3 (by omega),hall 1 (by omega),hall 4 (by omega),hall 5 (by omega),if_true]
  rw [hw] at gA
  simp (disch:=first | assumption | omega) only [go_sem,↓reduceIte,f8]
  refine hV _ _ (Eh ?_ (Bl _ _ _ _))
  have hmz:mapR (Bj h2 6) [.int .i64 0,.int .i64 6,.int .i64 3,.int .i64 10,.int .i64 8,.int .i64 0] = .ret [.int .i64 0,.int .i64 6,.int .i64 3,.int .i64 10,.int .i64 8,.int .i64 0]:=(by repeat (first | exact Dc _ _ | exact Bl _ _ _ _ | exact Do _ _ _ | exact Dm _ _ _ _ _ | exact Dr _ _ _ _ | exact Et _ _ | refine Bv ?_ ?_ | refine En ?_ | refine Eh ?_ ?_ | refine Fc ?_ ?_ ?_))
  rw [Bj]
  simp only [gA]
  rw [if_pos ⟨trivial,by decide⟩]
  show (mapR (Bj h2 6) [.int .i64 0,.int .i64 6,.int .i64 3,.int .i64 10,.int .i64 8,.int .i64 0]).bind _=_
  rw [hmz]
  rfl
 ·have hz:plK.zip (plV.zip [0,1,2,3,4,5])=plZ:=rfl
  rw [Gp,hz] at hm
  obtain ⟨hm1,hm2⟩:=List.mem_filter.1 hm
  have hnt:b∉seen:=by simpa using hm2
  have hen:enA (setH h2 (A+1) (.iter 0 166 0 6 (seen++[b]) 6)) (.iter (A+1) 0) = .ret (.tuple [k,v]):=by
   have gM2:Bc (setH h2 (A+1) (.iter 0 166 0 6 (seen++[b]) 6)) 166 = .map 0 6 plK plV [0,1,2,3,4,5]:=by rw [Ba _ _ _ _ (by omega)]; exact gM
   simp only [enA,getH_setH_self,gM2,List.getLast?_append,List.getLast?_singleton,Option.some_or,hz]
   rw [if_pos ⟨trivial,trivial,trivial⟩,Agv k v b hm1]
  have hb6:=Azv k v b hm1
  have hml:((List.range 6).filter fun x => !(seen++[b]).contains x).length<((List.range 6).filter fun x => !seen.contains x).length:=by
   refine Hf _ _ (fun u hu => ?_) b ?_ ?_ _ (List.mem_range.2 hb6)
   ·simp at hu ⊢
    exact hu.1
   ·simpa using hnt
   ·simp
  have hct:∀c,c≠b->(seen++[b]).contains c=seen.contains c:=fun c hc=>by simp [hc]
  have hcb:(seen++[b]).contains b=true:=by simp
  have nA1:¬(A+1=A):=by omega
  have nA2:¬(A=A+1):=by omega
  have nA3:¬(9=A):=by omega
  have nA4:¬(A=9):=by omega
  have nA5:¬(9=A+1):=by omega
  have nA6:¬(A+1=9):=by omega
  have nA7:¬(A=166):=by omega
  have nA8:¬(A+1=166):=by omega
  have nA9:¬(166=A):=by omega
  have nA0:¬(166=A+1):=by omega
  have he0:((0:Int)==0)=true:=rfl
  have he1:((1:Int)==0)=false:=rfl
  have fzm:∀(hh:Bd) (w:Int),fz hh [plJ,.int .i64 w] = .ret [plJ,.int .i64 w]:=fun hh w=>Da (Dm _ _ _ _ _) (Da (Bl _ _ _ _) (By _))
  unfold plW at gA
  simp only [plZ,List.mem_cons,List.not_mem_nil,or_false] at hm1
  rcases hm1 with hm1 | hm1 | hm1 | hm1 | hm1 | hm1
  ·cases hm1
   have hr:Ea .rem (.int .i64 0) (.int .i64 2) = .ret (.int .i64 0):=rfl
   have hq:Ea .quo (.int .i64 0) (.int .i64 2) = .ret (.int .i64 0):=rfl
   simp (disch:=first | assumption | omega) only [go_sem,↓reduceIte,Bu,f0,f8,f40,hen]
   refine Dt B5j (show 61<=n by omega) (fzm _ _) (Fx _ _ _) ?_
   simp (disch:=first | assumption | omega) only [go_sem,↓reduceIte,f0,f8,f40,hr,hq,he0,he1,nA1,nA2,nA3,nA4,nA5,nA6,nA7,nA8,nA9,nA0,gA]
   refine hP _ _ hml ⟨seen++[0],rfl,by simp only [go_sem,↓reduceIte,f0,f8,f40],?_,by simp only [go_sem,↓reduceIte,nA1,nA2,nA3,nA4,nA5,nA6],by simp only [go_sem,↓reduceIte,nA7,nA8,nA9,nA0,gM]⟩
   simp only [go_sem,↓reduceIte,nA1,nA2,nA3,nA4,nA5,nA6,plW,hct 3 (by decide),hct 1 (by decide),hct 4 (by decide),hct 5 (by decide)]
   rfl
  ·cases hm1
   have hr:Ea .rem (.int .i64 2) (.int .i64 2) = .ret (.int .i64 0):=rfl
   have hq:Ea .quo (.int .i64 2) (.int .i64 2) = .ret (.int .i64 1):=rfl
   simp (disch:=first | assumption | omega) only [go_sem,↓reduceIte,Bu,f0,f8,f40,hen]
   refine Dt B3k (show 61<=n by omega) (fzm _ _) (Fx _ _ _) ?_
   simp (disch:=first | assumption | omega) only [go_sem,↓reduceIte,f0,f8,f40,hr,hq,he0,he1,nA1,nA2,nA3,nA4,nA5,nA6,nA7,nA8,nA9,nA0,gA]
   refine hP _ _ hml ⟨seen++[1],rfl,by simp only [go_sem,↓reduceIte,f0,f8,f40],?_,by simp only [go_sem,↓reduceIte,nA1,nA2,nA3,nA4,nA5,nA6],by simp only [go_sem,↓reduceIte,nA7,nA8,nA9,nA0,gM]⟩
   simp only [go_sem,↓reduceIte,nA1,nA2,nA3,nA4,nA5,nA6,plW,hct 3 (by decide),hct 4 (by decide),hct 5 (by decide),hcb]
   rfl
  ·cases hm1
   have hr:Ea .rem (.int .i64 5) (.int .i64 2) = .ret (.int .i64 1):=rfl
   have hq:Ea .quo (.int .i64 5) (.int .i64 2) = .ret (.int .i64 2):=rfl
   simp (disch:=first | assumption | omega) only [go_sem,↓reduceIte,Bu,f0,f8,f40,hen]
   refine Dt B5b (show 61<=n by omega) (fzm _ _) (Fx _ _ _) ?_
   simp (disch:=first | assumption | omega) only [go_sem,↓reduceIte,f0,f8,f40,hr,hq,he0,he1,nA1,nA2,nA3,nA4,nA5,nA6,nA7,nA8,nA9,nA0,gA]
   refine hP _ _ hml ⟨seen++[2],rfl,by simp only [go_sem,↓reduceIte,f0,f8,f40],?_,by simp only [go_sem,↓reduceIte,nA1,nA2,nA3,nA4,nA5,nA6],by simp only [go_sem,↓reduceIte,nA7,nA8,nA9,nA0,gM]⟩
   simp only [go_sem,↓reduceIte,nA1,nA2,nA3,nA4,nA5,nA6,plW,hct 3 (by decide),hct 1 (by decide),hct 4 (by decide),hct 5 (by decide)]
   rfl
  ·cases hm1
   have hr:Ea .rem (.int .i64 1) (.int .i64 2) = .ret (.int .i64 1):=rfl
   have hq:Ea .quo (.int .i64 1) (.int .i64 2) = .ret (.int .i64 0):=rfl
   simp (disch:=first | assumption | omega) only [go_sem,↓reduceIte,Bu,f0,f8,f40,hen]
   refine Dt B4v (show 61<=n by omega) (fzm _ _) (Fx _ _ _) ?_
   simp (disch:=first | assumption | omega) only [go_sem,↓reduceIte,f0,f8,f40,hr,hq,he0,he1,nA1,nA2,nA3,nA4,nA5,nA6,nA7,nA8,nA9,nA0,gA]
   refine hP _ _ hml ⟨seen++[3],rfl,by simp only [go_sem,↓reduceIte,f0,f8,f40],?_,by simp only [go_sem,↓reduceIte,nA1,nA2,nA3,nA4,nA5,nA6],by simp only [go_sem,↓reduceIte,nA7,nA8,nA9,nA0,gM]⟩
   simp only [go_sem,↓reduceIte,nA1,nA2,nA3,nA4,nA5,nA6,plW,hct 1 (by decide),hct 4 (by decide),hct 5 (by decide),hcb]
   rfl
  ·cases hm1
   have hr:Ea .rem (.int .i64 3) (.int .i64 2) = .ret (.int .i64 1):=rfl
   have hq:Ea .quo (.int .i64 3) (.int .i64 2) = .ret (.int .i64 1):=rfl
   simp (disch:=first | assumption | omega) only [go_sem,↓reduceIte,Bu,f0,f8,f40,hen]
   refine Dt B5l (show 61<=n by omega) (fzm _ _) (Fx _ _ _) ?_
   simp (disch:=first | assumption | omega) only [go_sem,↓reduceIte,f0,f8,f40,hr,hq,he0,he1,nA1,nA2,nA3,nA4,nA5,nA6,nA7,nA8,nA9,nA0,gA]
   refine hP _ _ hml ⟨seen++[4],rfl,by simp only [go_sem,↓reduceIte,f0,f8,f40],?_,by simp only [go_sem,↓reduceIte,nA1,nA2,nA3,nA4,nA5,nA6],by simp only [go_sem,↓reduceIte,nA7,nA8,nA9,nA0,gM]⟩
   simp only [go_sem,↓reduceIte,nA1,nA2,nA3,nA4,nA5,nA6,plW,hct 3 (by decide),hct 1 (by decide),hct 5 (by decide),hcb]
   rfl
  ·cases hm1
   have hr:Ea .rem (.int .i64 4) (.int .i64 2) = .ret (.int .i64 0):=rfl
   have hq:Ea .quo (.int .i64 4) (.int .i64 2) = .ret (.int .i64 2):=rfl
   simp (disch:=first | assumption | omega) only [go_sem,↓reduceIte,Bu,f0,f8,f40,hen]
   refine Dt B4t (show 61<=n by omega) (fzm _ _) (Fx _ _ _) ?_
   simp (disch:=first | assumption | omega) only [go_sem,↓reduceIte,f0,f8,f40,hr,hq,he0,he1,nA1,nA2,nA3,nA4,nA5,nA6,nA7,nA8,nA9,nA0,gA]
   refine hP _ _ hml ⟨seen++[5],rfl,by simp only [go_sem,↓reduceIte,f0,f8,f40],?_,by simp only [go_sem,↓reduceIte,nA1,nA2,nA3,nA4,nA5,nA6],by simp only [go_sem,↓reduceIte,nA7,nA8,nA9,nA0,gM]⟩
   simp only [go_sem,↓reduceIte,nA1,nA2,nA3,nA4,nA5,nA6,plW,hct 3 (by decide),hct 1 (by decide),hct 4 (by decide),hcb]
   rfl
theorem wCz20:YOk T 2000 A1y:=by
 have h:=Ek Afc (Nat.le_refl _)
 have e:AnsY.mk 272 [plJ,.agg plO] (.tuple [.slice (some 2) [.agg [.int .i64 0,.int .i64 6],.agg [.int .i64 3,.int .i64 10],.agg [.int .i64 8,.int .i64 0]] false,.int .i64 0]) false=A1y:=by kernel_rfl
 rw [<-e]
 exact (Fi h).mono (by decide)
end Go.Ev.YtgehhippjhealaaGreatC
