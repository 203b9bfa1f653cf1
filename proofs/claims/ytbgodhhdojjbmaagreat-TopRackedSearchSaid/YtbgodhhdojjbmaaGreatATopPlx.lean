/- Entries of the works' calls that are proved by walks. The code of functions that are walked, compiled for the evaluator, as text. The day of Play of layer 3 at the example, reckoned by the kernel. Play of layer 3 at the example: the range over the ends of its day is walked. No condition but those that stand in each. -/
import Derived.Test.YtbgodhhdojjbmaaGreatATopW
import Derived.Test.YtbgodhhdojjbmaaGreatATopKnx
import Derived.Test.YtbgodhhdojjbmaaGreatAEvKer3
set_option linter.unusedSimpArgs false
set_option linter.unusedVariables false
set_option maxRecDepth 100000
namespace Go.Ev.YtbgodhhdojjbmaaGreatC
open Go Go.Proofs
def Aph:AnsY:=⟨361,[(.slice (some 2) [.agg [wN 3,wN 4],.agg [wN 5,wN 2],.agg [wN 4,wN 6]] false),(.agg [wI [0,1,2] false,wI [2,0,1] false,wI [0,0,1] false])],(.tuple [(.slice (some 2) [.agg [wN 0,wN 6],.agg [wN 3,wN 10],.agg [wN 8,wN 0]] false),wN 0]),false⟩
open Go.Proofs
def c361:IFunc:=⟨71,[.tmp 4,.tmp 5],sO [dO 3 (.box (tM 1)),dO 4 (.mv (.const (.slice (some 2) [] true))),dO 5 (.mv (cI 0))] (sO [mV 13 0,dO 14 (.load (some 3) (tM 3)),dO 15 (.callF true 441 [tM 13,tM 14]),mV 12 15,xT 16 12 0,xT 17 12 1,mV 6 16,mV 7 17] (.seq (.block 0 (sO [mV 19 7,bC 20 .neq 19 0,mV 18 20] (.cond (tM 18) (sO [mV 21 7,dO 4 (.mv (.const (.slice (some 2) [] true))),mV 5 21] .ret) (sO [mV 23 6,dO 24 (.nilCheck (tM 23)),dO 25 (.fieldAddr 3 (tM 24)),lD 26 25,dO 27 (.lenM (tM 26)),mV 28 0,lN 29 28,dO 30 (.bin .mul (cI 2) (tM 29)),bB 31 .lss 27 30,mV 22 31] (.cond (tM 22) (sO [dO 4 (.mv (.const (.slice (some 2) [] true))),dO 5 (.mv (cI 13))] .ret) .skip))))) (sO [mV 32 0,lN 33 32,dO 34 (.mkSlice (some 2) [.int .i64 0,.int .i64 0] 16 (tM 33) (tM 33)),mV 8 34] (sO [mV 35 8,eO (.clearG (some 2) [.int .i64 0,.int .i64 0] (tM 35))] (.seq (sO [mV 36 6,dO 37 (.nilCheck (tM 36)),dO 38 (.fieldAddr 3 (tM 37)),lD 39 38,dO 40 (.range (tM 39))] (.block 1 (.loop (sO [dO 41 (.next (tM 40)),xT 42 41 0] (.seq (.cond (tM 42) .skip (.exit 1)) (.block 2 (sO [dO 43 (.entry (tM 40)),xT 44 43 0,xT 45 43 1,dO 9 (.alloc [.int .i64 0]),eO (.store 1 (tM 9) (tM 44)),mV 10 45] (sO [mV 46 10,mV 47 0,dO 48 (.fieldAddr 0 (tM 9)),lD 49 48,dO 50 (.callF false 438 [tM 47,tM 49]),bB 51 .sub 46 50,mV 11 51] (sO [dO 52 (.fieldAddr 0 (tM 9)),lD 53 52,bC 54 .rem 53 2,bC 55 .eql 54 0] (.cond (tM 55) (.ops [mV 56 8,dO 57 (.fieldAddr 0 (tM 9)),lD 58 57,bC 59 .quo 58 2,mV 60 11,dO 61 (.indexAddr 2 (tM 56) (tM 59)),dO 62 (.fieldAddr 0 (tM 61)),eO (.store 1 (tM 62) (tM 60))]) (.ops [mV 63 8,dO 64 (.fieldAddr 0 (tM 9)),lD 65 64,bC 66 .quo 65 2,mV 67 11,dO 68 (.indexAddr 2 (tM 63) (tM 66)),dO 69 (.fieldAddr 1 (tM 68)),eO (.store 1 (tM 69) (tM 67))]))))))))))) (sO [mV 70 8,mV 4 70,dO 5 (.mv (cI 0))] .ret))))))⟩
theorem k361:(Bm Tryz.prog byr).fns 361=some c361:=by kernel_rfl
theorem t361:T.fns 361=some c361:=Bp k361 (by decide) (by decide)
def plJ:AV:=.slice (some 2) [.agg [.int .i64 3,.int .i64 4],.agg [.int .i64 5,.int .i64 2],.agg [.int .i64 4,.int .i64 6]] false
abbrev plI (l:List Int):AV:=.slice none (l.map (.int .i64)) false
def plO:List AV:=[plI [0,1,2],plI [2,0,1],plI [0,0,1]]
def plH:Bc:=setH (List.replicate 71 AObj.none) 3 (.cells 0 plO)
def plK:List AV:=[0,2,5,1,3,4].map fun w:Int => .agg [.int .i64 w]
def plV:List AV:=[3,8,6,10,12,12].map fun w:Int => .int .i64 w
def plC (p:AV×Bc):Bool:=
 (match p.1 with
  | .tuple [.optr 103 0 0,.int .i64 0]=>true
  | _=>false) &&
 (match Bb p.2 103 with
  | .cells 0 [_,_,_,.omap 166 0]=>true
  | _=>false) &&
 (match Bb p.2 166 with
  | .map 0 6 ks vs bs=>Hr (eqV 10) ks plK&&Hr (eqV 10) vs plV&&decide (bs=[0,1,2,3,4,5])
  | _=>false)
theorem B2q {p:AV×Bc} (h:plC p=true):p.1 = .tuple [.optr 103 0 0,.int .i64 0]:=by
 simp only [plC,Bool.and_eq_true] at h
 have h1:=h.1.1
 split at h1
 ·assumption
 ·cases h1
theorem B2r {p:AV×Bc} (h:plC p=true):∃a b c,Bb p.2 103 = .cells 0 [a,b,c,.omap 166 0]:=by
 simp only [plC,Bool.and_eq_true] at h
 have h1:=h.1.2
 split at h1
 ·next a b c hh=>exact ⟨_,_,_,hh⟩
 ·cases h1
theorem B2s {p:AV×Bc} (h:plC p=true):Bb p.2 166 = .map 0 6 plK plV [0,1,2,3,4,5]:=by
 simp only [plC,Bool.and_eq_true] at h
 have h1:=h.2
 split at h1
 ·next ks vs bs hh =>
  simp only [Bool.and_eq_true,decide_eq_true_eq] at h1
  rw [hh,Fv (Ky 10) _ _ h1.1.1,Fv (Ky 10) _ _ h1.1.2,h1.2]
 ·cases h1
theorem Auf:(Mb T [] 60 true (.fn 441) [plJ,.agg plO] plH).allB plC=true:=by kernel_rfl
end Go.Ev.YtbgodhhdojjbmaaGreatC
namespace Go.Ev.YtbgodhhdojjbmaaGreatC
open Go Go.Proofs
theorem B2u:Con T 61 438 [plJ,.int .i64 0] (.int .i64 3):=Ep (Fy (k:=0) (n:=60) (l:=[]) (fun _ h=>by cases h) (by kernel_rfl))
theorem B2v:Con T 61 438 [plJ,.int .i64 1] (.int .i64 4):=Ep (Fy (k:=0) (n:=60) (l:=[]) (fun _ h=>by cases h) (by kernel_rfl))
theorem B2w:Con T 61 438 [plJ,.int .i64 2] (.int .i64 5):=Ep (Fy (k:=0) (n:=60) (l:=[]) (fun _ h=>by cases h) (by kernel_rfl))
theorem B2x:Con T 61 438 [plJ,.int .i64 3] (.int .i64 2):=Ep (Fy (k:=0) (n:=60) (l:=[]) (fun _ h=>by cases h) (by kernel_rfl))
theorem B2y:Con T 61 438 [plJ,.int .i64 4] (.int .i64 4):=Ep (Fy (k:=0) (n:=60) (l:=[]) (fun _ h=>by cases h) (by kernel_rfl))
theorem B2z:Con T 61 438 [plJ,.int .i64 5] (.int .i64 6):=Ep (Fy (k:=0) (n:=60) (l:=[]) (fun _ h=>by cases h) (by kernel_rfl))
def plZ:List (AV×AV×Nat):=[(.agg [.int .i64 0],.int .i64 3,0),(.agg [.int .i64 2],.int .i64 8,1),(.agg [.int .i64 5],.int .i64 6,2),(.agg [.int .i64 1],.int .i64 10,3),(.agg [.int .i64 3],.int .i64 12,4),(.agg [.int .i64 4],.int .i64 12,5)]
theorem Acv (b:Nat) (hb:b<6):b=0\/b=1\/b=2\/b=3\/b=4\/b=5:=by omega
theorem Aue (b:Nat) (hb:b<6):plZ.getD b default∈plZ:=by
 rcases Acv b hb with rfl | rfl | rfl | rfl | rfl | rfl <;> simp [plZ]
theorem B2t (b:Nat) (hb:b<6):(plZ.getD b default).2.2=b:=by
 rcases Acv b hb with rfl | rfl | rfl | rfl | rfl | rfl <;> rfl
theorem Ana (k v:AV) (b:Nat) (h:(k,v,b)∈plZ):plZ.find? (fun t=>t.2.2==b)=some (k,v,b):=by
 simp only [plZ,List.mem_cons,List.not_mem_nil,or_false] at h
 rcases h with h | h | h | h | h | h <;> cases h <;> rfl
theorem Ayh (k v:AV) (b:Nat) (h:(k,v,b)∈plZ):b<6:=by
 simp only [plZ,List.mem_cons,List.not_mem_nil,or_false] at h
 rcases h with h | h | h | h | h | h <;> cases h <;> decide
def plW (seen:List Nat):List AV:=
 [.int .i64 0,.int .i64 (if seen.contains 3 then 6 else 0),.int .i64 (if seen.contains 1 then 3 else 0),.int .i64 (if seen.contains 4 then 10 else 0),.int .i64 (if seen.contains 5 then 8 else 0),.int .i64 0]
def Avv (g:Option Nat) (zs:List AV) (h:Bc):AV->Res (AV×Bc)
 | .oslice k ver gx off len _ =>
  match Bb h k with
  | .cells v cs =>
   if v=ver/\gx=g/\off+len*Be g<=cs.length/\zs.all oneB=true/\zs.length=Be g/\0<Be g then
    if len=0 then .ret (.undef,h)
    else .ret (.undef,setH h k (.cells v (Dk cs off (List.replicate len zs).flatten)))
   else .fail
  | _ => .fail
 | _ => .fail
theorem Alo {call:Bf} {base:Nat} {Q:EX×St->Prop} {ks:List Kont} {e:Env} {h:Bc} {l:List IOper} {d:Option Nat} (g:Option Nat) (zs:List AV) (x:IX):GO call base Q (⟨d,.clearG g zs x,none⟩::l) ks ⟨e,h⟩=GP call base Q d l ks e (Avv g zs h (x.ev e)):=by
 rw [Ds]; rfl
attribute [local irreducible] Res.all evC Do Dr Bv Bd Dw Bg Bj G GO GV GP GC R
theorem Akd:Con T 70 361 [plJ,.agg plO] (.tuple [.slice (some 2) [.agg [.int .i64 0,.int .i64 6],.agg [.int .i64 3,.int .i64 10],.agg [.int .i64 8,.int .i64 0]] false,.int .i64 0]):=by
 refine Dd t361 fun n hn V hV => ?_
 have hop:(Bg T n true (.fn 441) [plJ,.agg plO] plH).all fun p=>plC p=true:=by
  have h1:=Res.allB_all _ _ Auf
  have h2:=Ns (k:=0) (l:=[]) (fun a h=>by cases h) 60 _ _ _ _ _ h1
  exact Hn T (by omega) _ _ _ _ _ h2
 have hl3:([AV.agg [.int .i64 3,.int .i64 4],.agg [.int .i64 5,.int .i64 2],.agg [.int .i64 4,.int .i64 6]]:List AV).length=3:=rfl
 have hpl:plO.length=3:=rfl
 have ht3:plO.take 3=plO:=rfl
 have hone:plO.all oneB=true:=rfl
 simp (disch:=first | assumption | omega) only [c361,go_sem,↓reduceIte,hpl,ht3,hone]
 refine Gi (Res.all_mono _ (show (Bg T n true (.fn 441) [plJ,.agg plO] (setH (List.replicate 71 AObj.none) 3 (AObj.cells 0 plO))).all _ from hop) ?_)
 rintro ⟨v,h⟩ hp
 obtain rfl:v = .tuple [.optr 103 0 0,.int .i64 0]:=B2q hp
 obtain ⟨ca,cb,cc,g103⟩:=B2r hp
 have g166:=B2s hp
 simp only at g103 g166
 clear hp hop
 refine A2j [(0,plJ),(15,.tuple [.optr 103 0 0,.int .i64 0])] (by simp only [go_sem,↓reduceIte]) fun e hE => ?_
 simp only [Bz,Dc] at hE
 obtain ⟨f0,f15,-⟩:=hE
 have hmo:Gb h (.omap 166 0)=some (plK,plV):=by simp only [Gb,g166,if_true]
 have hk6:plK.length=6:=rfl
 have hJ:lenA plJ=some 3:=rfl
 have e0:((0:Int) != 0)=false:=rfl
 have hd6:decide ((6:Int)<2*3)=false:=rfl
 have as3:Df (.int .i64 3)=some 3:=rfl
 have l166:=Fm g166 (by simp)
 have gN:Bb h h.length = .none:=Eh _ _ (Nat.le_refl _)
 have hz:(List.replicate 3 [AV.int .i64 0,.int .i64 0]).flatten=[.int .i64 0,.int .i64 0,.int .i64 0,.int .i64 0,.int .i64 0,.int .i64 0]:=rfl
 generalize hA:h.length=A at *
 have n103:¬(A=103):=by omega
 have n103':¬(103=A):=by omega
 simp (disch:=first | assumption | omega) only [go_sem,↓reduceIte,f0,f15,g103,hmo,hk6,hJ,e0,gN,hA,hz,Alo,Avv,hd6,as3,n103,n103']
 refine Wl (c:=6) (ks:=plK) (vs:=plV) (bs:=[0,1,2,3,4,5]) (A+1) (by simp only [Bh,hA]; omega) (by rw [Ba _ _ _ _ (by omega),Ba _ _ _ _ (by omega)]; exact g166) ?_
 simp (disch:=first | assumption | omega) only [go_sem,↓reduceIte]
 refine Dm (fun M st=>∃seen:List Nat,M=((List.range 6).filter fun b => !seen.contains b).length/\At st.env [(0,plJ),(8,.oslice A 0 (some 2) 0 3 (some 3)),(40,.iter (A+1) 0)]/\Bb st.heap A = .cells 0 (plW seen)/\Bb st.heap (A+1) = .iter 0 166 0 6 seen 6/\Bb st.heap 166 = .map 0 6 plK plV [0,1,2,3,4,5]) 6 (by omega)
  ⟨[],rfl,by simp only [go_sem,↓reduceIte,f0],?_,getH_setH_self _ _ _,?_⟩ ?_
 ·rw [Ba _ _ _ _ (by omega),getH_setH_self]; rfl
 ·rw [Ba _ _ _ _ (by omega),Ba _ _ _ _ (by omega),Ba _ _ _ _ (by omega)]; exact g166
 clear f0 f15
 rintro M e h2 hM ⟨seen,rfl,hE,gA,gI,gM⟩ P hP
 simp only [Bz,Dc] at hE gA gI gM
 obtain ⟨f0,f8,f40,-⟩:=hE
 simp (disch:=first | assumption | omega) only [go_sem,↓reduceIte,Bw,f40]
 refine Xw gI gM (by decide) (Nat.le_refl _) (fun hl => ?_) (fun k v b hm => ?_)
 ·have hall:∀b,b<6->seen.contains b=true:=fun b hb=>by
   cases hc:seen.contains b with
   | true=>rfl
   | false =>
    exfalso
    have hz:plK.zip (plV.zip [0,1,2,3,4,5])=plZ:=rfl
    rw [Hh,hz,List.filter_eq_nil_iff] at hl
    have:=hl (plZ.getD b default) (Aue b hb)
    rw [B2t b hb,hc] at this
    exact this rfl
  have hw:plW seen=[.int .i64 0,.int .i64 6,.int .i64 3,.int .i64 10,.int .i64 8,.int .i64 0]:=by
   simp only [plW,hall 3 (by omega),hall 1 (by omega),hall 4 (by omega),hall 5 (by omega),if_true]
  rw [hw] at gA
  simp (disch:=first | assumption | omega) only [go_sem,↓reduceIte,f8]
  refine hV _ _ (Ey ?_ (Bq _ _ _ _))
  have hmz:mapR (Bj h2 6) [.int .i64 0,.int .i64 6,.int .i64 3,.int .i64 10,.int .i64 8,.int .i64 0] = .ret [.int .i64 0,.int .i64 6,.int .i64 3,.int .i64 10,.int .i64 8,.int .i64 0]:=(by repeat (first | exact Dp _ _ | exact Bq _ _ _ _ | exact Ea _ _ _ | exact Dv _ _ _ _ _ | exact Eq _ _ _ _ | exact Ex _ _ | refine Db ?_ ?_ | refine Eo ?_ | refine Ey ?_ ?_ | refine Fg ?_ ?_ ?_))
  rw [Bj]
  simp only [gA]
  rw [if_pos ⟨trivial,by decide⟩]
  show (mapR (Bj h2 6) [.int .i64 0,.int .i64 6,.int .i64 3,.int .i64 10,.int .i64 8,.int .i64 0]).bind _=_
  rw [hmz]
  rfl
 ·have hz:plK.zip (plV.zip [0,1,2,3,4,5])=plZ:=rfl
  rw [Hh,hz] at hm
  obtain ⟨hm1,hm2⟩:=List.mem_filter.1 hm
  have hnt:b∉seen:=by simpa using hm2
  have hen:enA (setH h2 (A+1) (.iter 0 166 0 6 (seen++[b]) 6)) (.iter (A+1) 0) = .ret (.tuple [k,v]):=by
   have gM2:Bb (setH h2 (A+1) (.iter 0 166 0 6 (seen++[b]) 6)) 166 = .map 0 6 plK plV [0,1,2,3,4,5]:=by rw [Ba _ _ _ _ (by omega)]; exact gM
   simp only [enA,getH_setH_self,gM2,List.getLast?_append,List.getLast?_singleton,Option.some_or,hz]
   rw [if_pos ⟨trivial,trivial,trivial⟩,Ana k v b hm1]
  have hb6:=Ayh k v b hm1
  have hml:((List.range 6).filter fun x => !(seen++[b]).contains x).length<((List.range 6).filter fun x => !seen.contains x).length:=by
   refine Gn _ _ (fun u hu => ?_) b ?_ ?_ _ (List.mem_range.2 hb6)
   ·simp at hu ⊢
    exact hu.1
   ·simpa using hnt
   ·simp
  have hct:∀c,c≠b->(seen++[b]).contains c=seen.contains c:=fun c hc=>by simp [hc]
  have hcb:(seen++[b]).contains b=true:=by simp
  have nA1:¬(A+1=A):=by omega
  have nA2:¬(A=A+1):=by omega
  have nA3:¬(9=A):=by omega
  have nA4:¬(A=9):=by omega
  have nA5:¬(9=A+1):=by omega
  have nA6:¬(A+1=9):=by omega
  have nA7:¬(A=166):=by omega
  have nA8:¬(A+1=166):=by omega
  have nA9:¬(166=A):=by omega
  have nA0:¬(166=A+1):=by omega
  have he0:((0:Int)==0)=true:=rfl
  have he1:((1:Int)==0)=false:=rfl
  have fzm:∀(hh:Bc) (w:Int),fz hh [plJ,.int .i64 w] = .ret [plJ,.int .i64 w]:=fun hh w=>Dj (Dv _ _ _ _ _) (Dj (Bq _ _ _ _) (Dt _))
  unfold plW at gA
  simp only [plZ,List.mem_cons,List.not_mem_nil,or_false] at hm1
  rcases hm1 with hm1 | hm1 | hm1 | hm1 | hm1 | hm1
  ·cases hm1
   have hr:Ef .rem (.int .i64 0) (.int .i64 2) = .ret (.int .i64 0):=rfl
   have hq:Ef .quo (.int .i64 0) (.int .i64 2) = .ret (.int .i64 0):=rfl
   simp (disch:=first | assumption | omega) only [go_sem,↓reduceIte,Bw,f0,f8,f40,hen]
   refine Ee B2u (show 61<=n by omega) (fzm _ _) (Gt _ _ _) ?_
   simp (disch:=first | assumption | omega) only [go_sem,↓reduceIte,f0,f8,f40,hr,hq,he0,he1,nA1,nA2,nA3,nA4,nA5,nA6,nA7,nA8,nA9,nA0,gA]
   refine hP _ _ hml ⟨seen++[0],rfl,by simp only [go_sem,↓reduceIte,f0,f8,f40],?_,by simp only [go_sem,↓reduceIte,nA1,nA2,nA3,nA4,nA5,nA6],by simp only [go_sem,↓reduceIte,nA7,nA8,nA9,nA0,gM]⟩
   simp only [go_sem,↓reduceIte,nA1,nA2,nA3,nA4,nA5,nA6,plW,hct 3 (by decide),hct 1 (by decide),hct 4 (by decide),hct 5 (by decide)]
   rfl
  ·cases hm1
   have hr:Ef .rem (.int .i64 2) (.int .i64 2) = .ret (.int .i64 0):=rfl
   have hq:Ef .quo (.int .i64 2) (.int .i64 2) = .ret (.int .i64 1):=rfl
   simp (disch:=first | assumption | omega) only [go_sem,↓reduceIte,Bw,f0,f8,f40,hen]
   refine Ee B2w (show 61<=n by omega) (fzm _ _) (Gt _ _ _) ?_
   simp (disch:=first | assumption | omega) only [go_sem,↓reduceIte,f0,f8,f40,hr,hq,he0,he1,nA1,nA2,nA3,nA4,nA5,nA6,nA7,nA8,nA9,nA0,gA]
   refine hP _ _ hml ⟨seen++[1],rfl,by simp only [go_sem,↓reduceIte,f0,f8,f40],?_,by simp only [go_sem,↓reduceIte,nA1,nA2,nA3,nA4,nA5,nA6],by simp only [go_sem,↓reduceIte,nA7,nA8,nA9,nA0,gM]⟩
   simp only [go_sem,↓reduceIte,nA1,nA2,nA3,nA4,nA5,nA6,plW,hct 3 (by decide),hct 4 (by decide),hct 5 (by decide),hcb]
   rfl
  ·cases hm1
   have hr:Ef .rem (.int .i64 5) (.int .i64 2) = .ret (.int .i64 1):=rfl
   have hq:Ef .quo (.int .i64 5) (.int .i64 2) = .ret (.int .i64 2):=rfl
   simp (disch:=first | assumption | omega) only [go_sem,↓reduceIte,Bw,f0,f8,f40,hen]
   refine Ee B2z (show 61<=n by omega) (fzm _ _) (Gt _ _ _) ?_
   simp (disch:=first | assumption | omega) only [go_sem,↓reduceIte,f0,f8,f40,hr,hq,he0,he1,nA1,nA2,nA3,nA4,nA5,nA6,nA7,nA8,nA9,nA0,gA]
   refine hP _ _ hml ⟨seen++[2],rfl,by simp only [go_sem,↓reduceIte,f0,f8,f40],?_,by simp only [go_sem,↓reduceIte,nA1,nA2,nA3,nA4,nA5,nA6],by simp only [go_sem,↓reduceIte,nA7,nA8,nA9,nA0,gM]⟩
   simp only [go_sem,↓reduceIte,nA1,nA2,nA3,nA4,nA5,nA6,plW,hct 3 (by decide),hct 1 (by decide),hct 4 (by decide),hct 5 (by decide)]
   rfl
  ·cases hm1
   have hr:Ef .rem (.int .i64 1) (.int .i64 2) = .ret (.int .i64 1):=rfl
   have hq:Ef .quo (.int .i64 1) (.int .i64 2) = .ret (.int .i64 0):=rfl
   simp (disch:=first | assumption | omega) only [go_sem,↓reduceIte,Bw,f0,f8,f40,hen]
   refine Ee B2v (show 61<=n by omega) (fzm _ _) (Gt _ _ _) ?_
   simp (disch:=first | assumption | omega) only [go_sem,↓reduceIte,f0,f8,f40,hr,hq,he0,he1,nA1,nA2,nA3,nA4,nA5,nA6,nA7,nA8,nA9,nA0,gA]
   refine hP _ _ hml ⟨seen++[3],rfl,by simp only [go_sem,↓reduceIte,f0,f8,f40],?_,by simp only [go_sem,↓reduceIte,nA1,nA2,nA3,nA4,nA5,nA6],by simp only [go_sem,↓reduceIte,nA7,nA8,nA9,nA0,gM]⟩
   simp only [go_sem,↓reduceIte,nA1,nA2,nA3,nA4,nA5,nA6,plW,hct 1 (by decide),hct 4 (by decide),hct 5 (by decide),hcb]
   rfl
  ·cases hm1
   have hr:Ef .rem (.int .i64 3) (.int .i64 2) = .ret (.int .i64 1):=rfl
   have hq:Ef .quo (.int .i64 3) (.int .i64 2) = .ret (.int .i64 1):=rfl
   simp (disch:=first | assumption | omega) only [go_sem,↓reduceIte,Bw,f0,f8,f40,hen]
   refine Ee B2x (show 61<=n by omega) (fzm _ _) (Gt _ _ _) ?_
   simp (disch:=first | assumption | omega) only [go_sem,↓reduceIte,f0,f8,f40,hr,hq,he0,he1,nA1,nA2,nA3,nA4,nA5,nA6,nA7,nA8,nA9,nA0,gA]
   refine hP _ _ hml ⟨seen++[4],rfl,by simp only [go_sem,↓reduceIte,f0,f8,f40],?_,by simp only [go_sem,↓reduceIte,nA1,nA2,nA3,nA4,nA5,nA6],by simp only [go_sem,↓reduceIte,nA7,nA8,nA9,nA0,gM]⟩
   simp only [go_sem,↓reduceIte,nA1,nA2,nA3,nA4,nA5,nA6,plW,hct 3 (by decide),hct 1 (by decide),hct 5 (by decide),hcb]
   rfl
  ·cases hm1
   have hr:Ef .rem (.int .i64 4) (.int .i64 2) = .ret (.int .i64 0):=rfl
   have hq:Ef .quo (.int .i64 4) (.int .i64 2) = .ret (.int .i64 2):=rfl
   simp (disch:=first | assumption | omega) only [go_sem,↓reduceIte,Bw,f0,f8,f40,hen]
   refine Ee B2y (show 61<=n by omega) (fzm _ _) (Gt _ _ _) ?_
   simp (disch:=first | assumption | omega) only [go_sem,↓reduceIte,f0,f8,f40,hr,hq,he0,he1,nA1,nA2,nA3,nA4,nA5,nA6,nA7,nA8,nA9,nA0,gA]
   refine hP _ _ hml ⟨seen++[5],rfl,by simp only [go_sem,↓reduceIte,f0,f8,f40],?_,by simp only [go_sem,↓reduceIte,nA1,nA2,nA3,nA4,nA5,nA6],by simp only [go_sem,↓reduceIte,nA7,nA8,nA9,nA0,gM]⟩
   simp only [go_sem,↓reduceIte,nA1,nA2,nA3,nA4,nA5,nA6,plW,hct 3 (by decide),hct 1 (by decide),hct 4 (by decide),hcb]
   rfl
theorem Api:YOk T 2000 Aph:=by
 have h:=Dz Akd (Nat.le_refl _)
 have e:AnsY.mk 361 [plJ,.agg plO] (.tuple [.slice (some 2) [.agg [.int .i64 0,.int .i64 6],.agg [.int .i64 3,.int .i64 10],.agg [.int .i64 8,.int .i64 0]] false,.int .i64 0]) false=Aph:=by kernel_rfl
 rw [<-e]
 exact (Es h).mono (by decide)
end Go.Ev.YtbgodhhdojjbmaaGreatC
