/- A struct of numbers, as a law is handed it, opened. No condition but those that stand in each. -/
import Derived.Test.YtbgodhhdojjbmaaGreatPEvFrame
set_option linter.unusedSimpArgs false
set_option linter.unusedVariables false
namespace Go.Ev
open Go Go.ChangeShapes Go.WideShapes
theorem A9w {P:Program} {H:Type} {enc:TypeId×Value->H} {w:World} {base:Nat} {sp:Nat->Bool} {held:Bool} {t:TypeId} {r:Reach} {b0:Nat} {v:Value} {d:DataW H} {ps:List MemPlace} {A:Type} (cells:A->List (IntKind×Int)) (Good:A->Prop) {fs:Array Field} (ht:P.underlying t=some (.struct fs))
  (hel:∀fuel cs x,DataW.trod enc P w base sp held fuel t cs=some x->∃a,cs=(cells a).map (fun p => .int p.1 p.2)/\Good a)
  (hval:Value.okWide P w r b0 t v) (h:DataW.Trod enc P w base sp held t v d ps) :
  ∃a:A,FR (fun b=>w.heap[b]?) (.agg (ivs (cells a))) v/\Good a:=by
 obtain ⟨cs,rfl,_⟩:=okWide_struct ht hval
 obtain ⟨fuel,h⟩:=h
 obtain ⟨a,h1,h2⟩:=hel fuel _ _ h
 refine ⟨a,?_,h2⟩
 have h3:cs.toList=(cells a).map (fun p => .int p.1 p.2):=h1
 have hsz:cs.size=(cells a).length:=by rw [<-Array.length_toList,h3,List.length_map]
 refine .agg (by simp [ivs,hsz]) fun i c v hc hv => ?_
 have hv':cs.toList[i]? = some v:=by simpa using hv
 rw [h3,List.getElem?_map] at hv'
 simp only [ivs,List.getElem?_map] at hc
 cases hp:(cells a)[i]? with
 | none=>rw [hp] at hc; cases hc
 | some p =>
  rw [hp] at hc hv'
  simp only [Option.map_some,Option.some.injEq] at hc hv'
  subst hc
  subst hv'
  exact .int
end Go.Ev
