/- A function that sorts numbers in place: from the kit's contract of it to the evaluator's word; and the rule for a call of it. No condition but those that stand in each. -/
import Derived.Test.YtbgodhhdojjbmaaGreatAEvKer3
import Derived.Sort.Grow
set_option linter.unusedSimpArgs false
set_option linter.unusedVariables false
namespace Go.Ev
open Go
theorem Wn (a:Int):∀l:List Int,(Sh a l).Perm (a::l)
 | [] => .refl _
 | b::r=>by
  unfold Sh
  split
  ·exact .refl _
  ·exact ((Wn a r).cons b).trans (.swap a b r)
theorem Lc:∀l:List Int,(Fa l).Perm l
 | [] => .refl _
 | a::r=>(Wn a (Fa r)).trans ((Lc r).cons a)
theorem Yo (a:Int):∀l:List Int,l.Pairwise (·<=·)->(Sh a l).Pairwise (·<=·)
 | [],_=>by simp [Sh]
 | b::r,h=>by
  unfold Sh
  rw [List.pairwise_cons] at h
  split
  ·next hab =>
   rw [List.pairwise_cons,List.pairwise_cons]
   refine ⟨fun x hx => ?_,h⟩
   rcases List.mem_cons.1 hx with rfl | hx
   ·exact hab
   ·exact Int.le_trans hab (h.1 x hx)
  ·next hab =>
   rw [List.pairwise_cons]
   refine ⟨fun x hx => ?_,Yo a r h.2⟩
   rcases List.mem_cons.1 ((Wn a r).mem_iff.1 hx) with rfl | hx
   ·omega
   ·exact h.1 x hx
theorem Ld:∀l:List Int,(Fa l).Pairwise (·<=·)
 | [] => .nil
 | a::r=>Yo a _ (Ld r)
theorem Yr:∀{l m:List Int},l.Pairwise (·<=·)->m.Pairwise (·<=·)->l.Perm m->l=m
 | [],m,_,_,h=>by rw [List.nil_perm.1 h]
 | a::l,m,hl,hm,h=>by
  cases m with
  | nil=>exact (List.cons_ne_nil _ _ (List.perm_nil.1 h)).elim
  | cons b m =>
   rw [List.pairwise_cons] at hl hm
   have hab:a=b:=by
    have h1:a∈b::m:=h.mem_iff.1 List.mem_cons_self
    have h2:b∈a::l:=h.mem_iff.2 List.mem_cons_self
    rcases List.mem_cons.1 h1 with e | h1
    ·exact e
    ·rcases List.mem_cons.1 h2 with e | h2
     ·exact e.symm
     ·have:=hl.1 b h2; have:=hm.1 a h1; omega
   subst hab
   rw [Yr hl.2 hm.2 ((List.perm_cons a).1 h)]
theorem Aao (l:List Int):l.mergeSort (fun x y=>decide (x<=y))=Fa l:=by
 refine Yr ?_ (Ld l) ((List.mergeSort_perm l _).trans (Lc l).symm)
 have:=List.pairwise_mergeSort (le:=fun x y:Int=>decide (x<=y)) (fun a b c h1 h2=>by simp at *; omega) (fun a b=>by simp; omega) l
 exact this.imp fun h=>by simpa using h
theorem A4y {P : Program} {f : FuncId} (hfn : ∃ fn, P.funcs[f]? = some fn ∧ (fn.name == "runtime.NumGoroutine") = false ∧ fn.body.isNone = false)
  (hc:∀(blk off cap:Nat) (zs:List Int) (w:World),Go.Sort.Holds (Value.int .i64) w blk off zs.toArray->blk<w.heap.size->zs.length<4611686018427387904->
   Calls P f #[.slice (some ⟨blk,off,none⟩) zs.length cap] w fun e w'=>e = .returned (.tuple #[])/\∃n os,w'=Go.Sort.grow (Go.Sort.putRow (Value.int .i64) (Go.Sort.ahead w n) blk off (zs.mergeSort fun x y=>decide (x<=y)).toArray) os):SortOk P f where
 fn:=hfn
 calls:=fun blk off cap zs w c t hb hz hlen=>by
  have hlt:blk<w.heap.size:=(Array.getElem?_eq_some_iff.1 hb).1
  refine (hc blk off cap zs w (fun j hj => ?_) hlt hlen).mono ?_
  ·have hj':j<zs.length:=by simpa using hj
   have e1:zs.toArray[j]! = zs[j]:=by rw [getElem!_pos zs.toArray j hj]; simp
   have:=hz j zs[j] (List.getElem?_eq_getElem hj')
   rw [e1]
   constructor
   ·simp [World.cell?,hb,this]
   ·simp [World.frozen?,hb]
  ·rintro en w' ⟨rfl,n,os,rfl⟩
   rw [Aao]
   have hl:=Ob zs
   have hget:∀b,b<w.heap.size->(Go.Sort.grow (Go.Sort.putRow (Value.int .i64) (Go.Sort.ahead w n) blk off (Fa zs).toArray) os).heap[b]? = if blk=b then (w.heap[b]?).map (Go.Sort.onCells (Go.Sort.putCells (Value.int .i64) off (Fa zs).toArray)) else w.heap[b]?:=fun b hb'=>by
    simp only [Go.Sort.grow,Go.Sort.putRow,Go.Sort.mapBlock,Go.Sort.ahead]
    rw [Array.getElem?_append_left (by simpa using hb'),Array.getElem?_modify]
   refine ⟨rfl,⟨rfl,rfl,rfl⟩,by simp [Go.Sort.grow,Go.Sort.putRow,Go.Sort.mapBlock,Go.Sort.ahead],fun b hb' hne => ?_,Go.Sort.putCells (Value.int .i64) off (Fa zs).toArray c,?_,by simp [Go.Sort.putCells],fun j z hj => ?_,fun i hi => ?_⟩
   ·rw [hget b hb',if_neg (fun h=>hne h.symm)]
   ·rw [hget blk hlt,if_pos rfl,hb]; rfl
   ·have hj':j<(Fa zs).length:=(List.getElem?_eq_some_iff.1 hj).1
    have hcj:off+j<c.size:=by
     have hjz:j<zs.length:=by omega
     exact (Array.getElem?_eq_some_iff.1 (hz j _ (List.getElem?_eq_getElem hjz))).1
    simp only [Go.Sort.putCells,Array.getElem?_mapIdx,Array.getElem?_eq_getElem hcj,Option.map_some,List.size_toArray]
    rw [if_pos (by omega),show off+j-off=j by omega,getElem!_pos _ j (by simpa using hj')]
    have:=(List.getElem?_eq_some_iff.1 hj).2
    simp [this]
   ·simp only [Go.Sort.putCells,Array.getElem?_mapIdx,List.size_toArray]
    rw [hl]
    cases c[i]? with
    | none=>rfl
    | some x=>rw [Option.map_some,if_neg (by omega)]
end Go.Ev
