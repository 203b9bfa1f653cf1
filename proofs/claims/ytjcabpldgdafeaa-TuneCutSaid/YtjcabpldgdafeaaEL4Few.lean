/- How far notes are from each other, and whether plays close a book: the reference's. Whether plays close a book, and how many heights prove: the reference's. How many plays close a book, and how many heights prove: the reference's. The least number of plays, by matching: notes to which too many slurs lead with those from which too many do; it is the least that close a book. The least number of plays, the reference's. No condition but those that stand in each. -/
import Derived.Test.YtjcabpldgdafeaaEL4Agc
set_option linter.unusedSimpArgs false
set_option linter.unusedVariables false
namespace Go.Ev.YtjcabpldgdafeaaC
open Go Go.Proofs Go.Ev
attribute [local irreducible] Res.all evC evLoop evOps evOper evOp evFn evCall freeze G GO GV GP GC R
set_option maxRecDepth 100000
def z0 : Nat → Int := fun _ => 0
structure FarT (N : Nat) (h : Heap) (F : Nat → Nat → Int) : Prop where
 tab : getH h 93 = .cells 0 ((List.range N).map fun a => .oslice (94 + a) 0 none 0 N (some N))
 row : ∀ a, a < N → getH h (94 + a) = .cells 0 (rwI N (F a))
theorem FarT.low {N : Nat} {h h' : Heap} {F : Nat → Nat → Int} (ht : FarT N h F) (hf : ∀ j, 93 ≤ j → getH h' j = getH h j) : FarT N h' F :=
 ⟨by rw [hf 93 (by omega), ht.tab], fun a ha => by rw [hf _ (by omega), ht.row a ha]⟩
theorem FarT.upd {N : Nat} {h : Heap} {F : Nat → Nat → Int} (ht : FarT N h F) (i : Nat) (f : Nat → Int) : FarT N (setH h (94 + i) (.cells 0 (rwI N f))) fun a => if a = i then f else F a :=
 ⟨by rw [getH_setH_ne _ _ _ _ (by omega), ht.tab], fun a ha => by
  by_cases h : a = i
  ·subst h; rw [getH_setH_self, if_pos rfl]
  ·rw [getH_setH_ne _ _ _ _ (by omega), ht.row a ha, if_neg h]⟩
theorem FarT.congr {N : Nat} {h : Heap} {F G : Nat → Nat → Int} (ht : FarT N h F) (hg : ∀ a, a < N → F a = G a) : FarT N h G :=
 ⟨ht.tab, fun a ha => by rw [ht.row a ha, hg a ha]⟩
end Go.Ev.YtjcabpldgdafeaaC
set_option linter.unusedSimpArgs false
set_option linter.unusedVariables false
namespace Go.Ev.YtjcabpldgdafeaaC
open Go Go.Proofs Go.Ev
attribute [local irreducible] Res.all evC evLoop evOps evOper evOp evFn evCall freeze G GO GV GP GC R
set_option maxRecDepth 100000
end Go.Ev.YtjcabpldgdafeaaC
set_option linter.unusedSimpArgs false
set_option linter.unusedVariables false
namespace Go.Ev.YtjcabpldgdafeaaC
open Go Go.Proofs Go.Ev
attribute [local irreducible] Res.all evC evLoop evOps evOper evOp evFn evCall freeze G GO GV GP GC R
set_option maxRecDepth 100000
end Go.Ev.YtjcabpldgdafeaaC
set_option linter.unusedSimpArgs false
set_option linter.unusedVariables false
namespace Go.Ev.YtjcabpldgdafeaaC
open Go Go.Ev
def bt (S i : Nat) : Nat := S / 2 ^ i % 2
def sBt (S : Nat) (g : Nat → Int) : Nat → Int
 | 0 => 0
 | i + 1 => sBt S g i + (bt S i : Int) * g i
def pcN (S : Nat) : Nat → Nat
 | 0 => 0
 | i + 1 => pcN S i + bt S i
structure Good (es : List Ed) (fr to : Nat → Nat) (mm S : Nat) (v : Int) : Prop where
 lo : ∀ h : Nat → Int, (∀ e ∈ es, h e.2 ≤ h e.1 + 1) → (∀ x, 0 ≤ h x ∧ h x ≤ 90) → sBt S (fun i => h (to i)) mm - sumF (fun j => h (fr j)) (pcN S mm) ≤ v
 hi : ∀ P : Nat → Int, (∀ i, 0 ≤ P i) → (∀ x, sP es P x es.length = sumF (fun j => dl (fr j) x) (pcN S mm) - sBt S (fun i => dl (to i) x) mm) → v ≤ sumP P es.length
 bx : 0 ≤ v ∧ v ≤ 10000
end Go.Ev.YtjcabpldgdafeaaC
set_option linter.unusedSimpArgs false
set_option linter.unusedVariables false
namespace Go.Ev.YtjcabpldgdafeaaC
open Go Go.Proofs Go.Ev
attribute [local irreducible] Res.all evC evLoop evOps evOper evOp evFn evCall freeze G GO GV GP GC R
set_option maxRecDepth 100000
theorem Own.rd {lo : Nat} {h : Heap} {v : AV} {k : IntKind} {l : List Int} (ho : Own lo h v k l) {j : Nat} {y : Int} (hy : l[j]? = some y) : ∃ a, ixA 1 v j = .ret a ∧ ldA none h a = .ret (.int k y) := by
 have hj := (List.getElem?_eq_some_iff.1 hy).1
 rcases ho with ⟨rfl, _⟩ | ⟨key, ver, _, rfl, hH⟩
 ·simp at hj
 ·refine ⟨.optr key ver j, by simp [ixA, gsize, hj], ?_⟩
  have : (l.map (AV.int k))[j]? = some (.int k y) := by rw [List.getElem?_map, hy]; rfl
  simp [ldA, hH, Go.Ev.rd, this, Res.ofOpt]
theorem nI4_app (l k : List Nat) : nI4 (l ++ k) = nI4 l ++ nI4 k := by simp [nI4]
end Go.Ev.YtjcabpldgdafeaaC
