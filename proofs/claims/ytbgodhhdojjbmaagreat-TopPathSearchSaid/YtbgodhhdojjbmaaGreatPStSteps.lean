/- The code of functions that are walked, compiled for the evaluator, as text. Circles of a list that leads each place to one: plain lists, no program. What is done several times; exchanges that put circles right; how often until all is as before. What small functions of layer 6 answer: within, the checks of joints, the program's and the reference's. Steps of neighbours put a list in its order; each takes away one wrong pair. The bench of valid joints, handed over; flutes; the first of several; neighbours exchanged. A part of the proof. Steps of layer 6. No condition but those that stand in each. -/
import Derived.Test.YtbgodhhdojjbmaaGreatPTopW
import Derived.Test.YtbgodhhdojjbmaaGreatPEvComp
import Derived.Test.YtbgodhhdojjbmaaGreatPTopShd
import Derived.Test.YtbgodhhdojjbmaaGreatPTopKnx
set_option linter.unusedSimpArgs false
set_option linter.unusedVariables false
set_option maxRecDepth 100000
namespace Go.Ev.YtbgodhhdojjbmaaGreatC
open Go.Proofs
def stp (p:List Nat) (i:Nat):Nat:=p.getD i 0
def Ato (p:List Nat) (i:Nat):Nat->Nat->List Nat
 | 0,_=>[]
 | f+1,a=>if a=i then [] else a::Ato p i f (stp p a)
def cyc (p:List Nat) (i:Nat):List Nat:=i::Ato p i p.length (stp p i)
def per (p:List Nat) (i:Nat):Nat:=(cyc p i).length
end Go.Ev.YtbgodhhdojjbmaaGreatC
namespace Go.Ev.YtbgodhhdojjbmaaGreatC
open Go Go.Proofs
abbrev Fx (l:List Int):AV:=.slice none (l.map (.int .i64)) false
def nI6 (p:List Nat):List Int:=p.map fun x:Nat=>(x:Int)
attribute [local irreducible] Res.all evC Dg Di Bq Bg Do Bf Bj G GO GV GP GC R
theorem Eo (p:List Nat):(nI6 p).length=p.length:=by simp [nI6]
theorem Xx {p:List Nat} {i:Nat} (h:i<p.length):(nI6 p)[i]? = some ((p[i]:Nat):Int):=by
 rw [nI6,List.getElem?_map,List.getElem?_eq_getElem h]; rfl
end Go.Ev.YtbgodhhdojjbmaaGreatC
namespace Go.Ev.YtbgodhhdojjbmaaGreatC
def inv:List Int->Nat
 | []=>0
 | a::r=>r.countP (fun x=>decide (a>x))+inv r
end Go.Ev.YtbgodhhdojjbmaaGreatC
namespace Go.Ev.YtbgodhhdojjbmaaGreatC
open Go Go.Proofs
attribute [local irreducible] Res.all evC Dg Di Bq Bg Do Bf Bj G GO GV GP GC R
end Go.Ev.YtbgodhhdojjbmaaGreatC
