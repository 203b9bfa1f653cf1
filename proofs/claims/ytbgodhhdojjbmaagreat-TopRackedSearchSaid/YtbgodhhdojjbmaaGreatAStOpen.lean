/- The code of functions that are walked, compiled for the evaluator, as text. Circles of a list that leads each place to one: plain lists, no program. What is done several times; exchanges that put circles right; how often until all is as before. What small functions of layer 6 answer: within, the checks of joints, the program's and the reference's. Steps of neighbours put a list in its order; each takes away one wrong pair. The bench of valid joints, handed over; flutes; the first of several; neighbours exchanged. No condition but those that stand in each. -/
import Derived.Test.YtbgodhhdojjbmaaGreatATopW
import Derived.Test.YtbgodhhdojjbmaaGreatAEvComp
import Derived.Test.YtbgodhhdojjbmaaGreatATopShd
import Derived.Test.YtbgodhhdojjbmaaGreatATopKnx
set_option linter.unusedSimpArgs false
set_option linter.unusedVariables false
set_option maxRecDepth 100000
namespace Go.Ev.YtbgodhhdojjbmaaGreatC
open Go.Proofs
def stp (p:List Nat) (i:Nat):Nat:=p.getD i 0
def Awc (p:List Nat) (i:Nat):Nat->Nat->List Nat
 | 0,_=>[]
 | f+1,a=>if a=i then [] else a::Awc p i f (stp p a)
def cyc (p:List Nat) (i:Nat):List Nat:=i::Awc p i p.length (stp p i)
def per (p:List Nat) (i:Nat):Nat:=(cyc p i).length
end Go.Ev.YtbgodhhdojjbmaaGreatC
namespace Go.Ev.YtbgodhhdojjbmaaGreatC
open Go Go.Proofs
abbrev Ff (l:List Int):AV:=.slice none (l.map (.int .i64)) false
attribute [local irreducible] Res.all evC Do Dr Bv Bd Dw Bg Bj G GO GV GP GC R
end Go.Ev.YtbgodhhdojjbmaaGreatC
namespace Go.Ev.YtbgodhhdojjbmaaGreatC
def inv:List Int->Nat
 | []=>0
 | a::r=>r.countP (fun x=>decide (a>x))+inv r
end Go.Ev.YtbgodhhdojjbmaaGreatC
namespace Go.Ev.YtbgodhhdojjbmaaGreatC
open Go Go.Proofs
theorem tCl:T.fns 92=some Jg:=Bp k92 (by decide) (by decide)
attribute [local irreducible] Res.all evC Do Dr Bv Bd Dw Bg Bj G GO GV GP GC R
section
variable {n base:Nat} {Q:EX×St->Prop} {d:Option Nat} {L:List IOper} {ks:List Kont} {e:Env} {h:Bc}
theorem Aht {l:List Int} {ex:Bool} (h1:1<=l.length) (h10:l.length<=1000)
  (hq:∀key ver h',Bb h' key = .cells ver (l.map (.int .i64))->h.length<=key->key<h'.length->(∀j,j<h.length->Bb h' j=Bb h j)->h.length<=h'.length->GO (Bg T (n+1)) base Q L ks ⟨Bk e d (.oslice key ver none 0 l.length none),h'⟩) :
  GP (Bg T (n+1)) base Q d L ks e (Bg T (n+1) true (.fn 92) [.slice none (l.map (.int .i64)) ex] h):=by
 refine Gi ?_
 rw [Ew tCl]
 match l,h1,h10 with
 | a::r,_,h10 =>
  simp (disch:=omega) only [Jg,go_sem,↓reduceIte]
  refine Wk (m:=(a::r).length) (l2:=a::r) (kk:=h.length+8) (by simp only [List.length_append,List.length_replicate]) (Il (h.length+8) _ .i64) (by simp only [List.length_append,List.length_replicate]; omega) (Aqv _ (a::r) .i64 ex) rfl (by simp) (by simp only [List.length_nil,List.length_cons] at *; omega) fun x h' hO hk hlen _ _ => ?_
  rcases hO with ⟨hnil,_⟩ | ⟨key,ver,hkey,rfl,hH⟩
  ·simp at hnil
  rw [List.nil_append] at hH ⊢
  simp (disch:=omega) only [go_sem,↓reduceIte,Gf,mapR]
  have hlt:=Fm hH (by simp)
  refine hq key ver h' hH (by omega) hlt (fun j hj => ?_) ?_
  ·rw [hk j (by omega),Bi]
  ·simp only [List.length_append,List.length_replicate] at hlen; omega
end
end Go.Ev.YtbgodhhdojjbmaaGreatC
