/- Books as the laws are handed them, opened. No condition but those that stand in each. -/
import Derived.Test.YtjcabpldgdafeaaEEvOpen
import Derived.Test.YtjcabpldgdafeaaEL4Code
import Derived.Test.YtjcabpldgdafeaaRows
import Derived.WalkKit
import Derived.OpenShut
set_option linter.unusedSimpArgs false
set_option linter.unusedVariables false
namespace Go.Ev.YtjcabpldgdafeaaC
open Go Go.Proofs Go.ChangeShapes Go.WideShapes Go.ChangeAt Go.RowKit
structure Bk where
 notes : Int
 slurs : List (Int × Int)
def pC (p : Int × Int) : List (IntKind × Int) := [(.i64, p.1), (.i64, p.2)]
def pA (p : Int × Int) : AV := .agg [.int .i64 p.1, .int .i64 p.2]
abbrev prs (l : List (Int × Int)) : AV := .slice (some 2) (l.map pA) false
abbrev bkA (b : Bk) : AV := .agg [.int .i64 b.notes, prs b.slurs]
abbrev ints (l : List Int) : AV := .slice none (l.map (.int .i64)) false
def PWf (p : Int × Int) : Prop := (Lit.int .i64 p.1).wf = true ∧ (Lit.int .i64 p.2).wf = true
def BkWf (b : Bk) : Prop := (Lit.int .i64 b.notes).wf = true ∧ (∀ p ∈ b.slurs, PWf p) ∧ b.slurs.length ≤ maxLen
set_option maxRecDepth 100000 in
theorem open_pair {H : Type} {enc : TypeId × Value → H} {w : World} {base : Nat} {sp : Nat → Bool} {held : Bool} {fuel : Nat} {cs : List Value} {x : DataW H × List MemPlace}
  (h : DataW.trod enc Try.prog w base sp held fuel 49 cs = some x) : ∃ a : Int × Int, cs = (pC a).map (fun p => .int p.1 p.2) ∧ (pC a).length = gsize (some 2) ∧ PWf a := by
 have c49 : Try.prog.cellsOf 49 = 2 := by kernel_rfl
 have c3 : Try.prog.cellsOf 3 = 1 := by kernel_rfl
 obtain ⟨xs, m, _, _, hl, hx, hf⟩ := DataW.trod_array Try.underlying49 h
 rw [c49] at hl
 match cs, hl with
 | [u, v], _ =>
  have f0 := hf 0 (by decide)
  have f1 := hf 1 (by decide)
  rw [List.getElem?_eq_getElem (by omega), c3] at f0 f1
  simp only [Nat.zero_mul, Nat.one_mul, List.drop, List.take] at f0 f1
  obtain ⟨a, e1, _, w1⟩ := DataW.trod_int Try.underlying3 f0
  obtain ⟨b, e2, _, w2⟩ := DataW.trod_int Try.underlying3 f1
  simp only [List.cons.injEq, and_true] at e1 e2
  subst e1 e2
  exact ⟨(a, b), rfl, rfl, w1, w2⟩
theorem open_rowsS {P : Program} {H : Type} {enc : TypeId × Value → H} {w : World} {base : Nat} {sp : Nat → Bool} {held : Bool} {t e : TypeId} (g : Option Nat) {a1 : Option Addr} {l1 c1 : Nat} {d : DataW H} {ps : List MemPlace} {A : Type} (cells : A → List (IntKind × Int)) (Good : A → Prop) (ht : P.underlying t = some (.slice e)) (hc : P.cellsOf e = gsize g) (hg : 0 < gsize g)
  (hel : ∀ fuel cs x, DataW.trod enc P w base sp held fuel e cs = some x → ∃ a, cs = (cells a).map (fun p => .int p.1 p.2) ∧ (cells a).length = gsize g ∧ Good a)
  (h : DataW.Trod enc P w base sp held t (.slice a1 l1 c1) d ps) :
  ∃ l : List A, FR (fun b => w.heap[b]?) (.slice g (l.map fun a => rowAV g (cells a)) false) (.slice a1 l1 c1) ∧ (∀ a ∈ l, Good a) ∧ l.length ≤ maxLen := by
 obtain ⟨fuel, h⟩ := h
 rcases DataW.trod_slice ht h with ⟨h0, _⟩ | ⟨a, len, cap, elems, rest, n, _, hcs, _, hb, hlc, hm, hlen, hrow, _, _⟩
 ·simp [Value.cells] at h0
  obtain ⟨rfl, rfl, rfl⟩ := h0
  exact ⟨[], .empty (by simp), by simp, by simp⟩
 ·simp [Value.cells] at hcs
  obtain ⟨rfl, rfl, rfl⟩ := hcs
  obtain ⟨l, hl, hq⟩ := exists_list (Q := fun i a' => (∀ r p, (cells a')[r]? = some p → w.cell? (a.add (i * gsize g + r)) = some (.int p.1 p.2)) ∧ (cells a').length = gsize g ∧ Good a') l1 fun i hi => by
   have h1 := hrow i hi
   rw [List.getElem?_eq_getElem (by omega), hc, Option.bind_eq_some_iff] at h1
   obtain ⟨cs', h2, h3⟩ := h1
   obtain ⟨a', rfl, h5, h6⟩ := hel _ _ _ h3
   refine ⟨a', fun r p hp => ?_, h5, h6⟩
   obtain ⟨_, h7, h8⟩ := World.cells?_some h2
   have hr : r < gsize g := by rw [← h5]; exact (List.getElem?_eq_some_iff.1 hp).1
   have := h8 r hr
   rw [List.getElem?_map, hp, Option.map_some] at this
   rw [← this]
   congr 1
   simp only [Addr.add]
   (repeat' split) <;> first | omega | simp_all [Nat.add_assoc]
  have hmem : ∀ b ∈ l, (cells b).length = gsize g ∧ Good b := fun b hb => by
   obtain ⟨i, hi⟩ := List.getElem?_of_mem hb
   exact (hq i b hi).2
  refine ⟨l, ?_, fun b hb => (hmem b hb).2, by omega⟩
  have hall := rows_at cells (m := gsize g) (w := w) (a := a) l 0 (fun b hb => (hmem b hb).1) (fun i b hib r p hp => by simpa using (hq i b hib).1 r p hp)
  by_cases h0 : l = []
  ·subst h0
   obtain rfl : l1 = 0 := by simpa using hl.symm
   exact .empty (by simp)
  ·have hflat := flat_rows cells g l fun b hb => (hmem b hb).1
   have hne : ∃ c, (l.flatMap fun b => ivs (cells b))[0]? = some c := by
    cases l with
    | nil => exact (h0 rfl).elim
    | cons b l =>
     rw [List.flatMap_cons, List.getElem?_append_left (by simp [ivs, (hmem b List.mem_cons_self).1, hg])]
     exact ⟨_, List.getElem?_eq_getElem (by simp [ivs, (hmem b List.mem_cons_self).1, hg])⟩
   obtain ⟨c, hc0⟩ := hne
   obtain ⟨k0, n0, _, hcell⟩ := hall 0 c hc0
   obtain ⟨cs, tt, fz, hheap, hspot, _⟩ := cell_heap hcell
   have hall' : ∀ (j : Nat) (c : AV), (l.flatMap fun b => ivs (cells b))[j]? = some c → ∃ k n, c = .int k n ∧ cs[a.off + j]? = some (.int k n) := fun j c hj => by
    obtain ⟨k, n, e1, e2⟩ := hall j c hj
    obtain ⟨cs', tt', fz', f1, f2, f3⟩ := cell_heap e2
    rw [ChangeShapes.block_add] at f1
    rw [ChangeShapes.block_add] at hheap
    rw [hheap] at f1
    cases f1
    refine ⟨k, n, e1, ?_⟩
    rw [← f3]
    congr 1
    simp only [Addr.add]
    split <;> simp_all
   rw [ChangeShapes.block_add] at hheap
   have ha : a = ⟨a.block, a.off, none⟩ := by
    have : (a.add (0 * gsize g + 0)) = a := by simp [Addr.add]
    rw [this] at hspot
    cases a
    simp_all
   rw [ha, ← hl]
   have hlen' : l.length = (l.map fun a => rowAV g (cells a)).length := by simp
   rw [hlen']
   refine .slice (f := fun i => (cs[a.off + i]?).getD .nilFunc) hheap (by simp) (by rw [← hlen']; omega) ?_ ?_ ?_ ?_
   ·intro x hx
    obtain ⟨b, hb, rfl⟩ := List.mem_map.1 hx
    have := (hmem b hb).1
    cases g with
    | none =>
     simp only [rowAV, fits]
     match hcc : cells b, this with
     | [p], _ => rfl
    | some n => simp [rowAV, fits, ivs, this, gsize]
   ·intro i c hi
    rw [hflat] at hi
    obtain ⟨k, n, rfl, h2⟩ := hall' i c hi
    rw [h2]; rfl
   ·intro i c hi
    rw [hflat] at hi
    obtain ⟨k, n, rfl, h2⟩ := hall' i c hi
    simp only [h2, Option.getD_some]
    rfl
   ·intro i c hi
    rw [hflat] at hi
    obtain ⟨k, n, rfl, h2⟩ := hall' i c hi
    simp only [h2, Option.getD_some]
    exact .int
set_option maxRecDepth 100000 in
theorem open_book {H : Type} {enc : TypeId × Value → H} {w : World} {base : Nat} {sp : Nat → Bool} {held : Bool} {r : Reach} {b0 : Nat} {v : Value} {d : DataW H} {ps : List MemPlace}
  (hval : Value.okWide Try.prog w r b0 24 v) (h : DataW.Trod enc Try.prog w base sp held 24 v d ps) : ∃ b : Bk, FR (fun b => w.heap[b]?) (bkA b) v ∧ BkWf b := by
 have c24 : Try.prog.cellsOf 24 = 2 := by kernel_rfl
 have c22 : Try.prog.cellsOf 22 = 1 := by kernel_rfl
 have c49 : Try.prog.cellsOf 49 = 2 := by kernel_rfl
 have c3 : Try.prog.cellsOf 3 = 1 := by kernel_rfl
 obtain ⟨cs, rfl, hsz⟩ := okWide_struct Try.underlying24 hval
 obtain ⟨fuel, h⟩ := h
 obtain ⟨xs, n, _, _, hl, hx, hf⟩ := DataW.trod_struct Try.underlying24 h
 have f0 := hf 0 _ rfl
 have f1 := hf 1 _ rfl
 replace hx : xs.length = 2 := hx
 rw [List.getElem?_eq_getElem (by omega)] at f0 f1
 rw [c24] at hl
 match hcl : cs.toList, hl with
 | [u, v], _ =>
  have hcl' : (Value.agg cs).cells.toList = [u, v] := hcl
  rw [hcl'] at f0 f1
  replace f0 : DataW.trod enc Try.prog w base sp held n 3 (List.take (Try.prog.cellsOf 3) (List.drop 0 [u, v])) = _ := f0
  replace f1 : DataW.trod enc Try.prog w base sp held n 22 (List.take (Try.prog.cellsOf 22) (List.drop 1 [u, v])) = _ := f1
  rw [c3] at f0
  rw [c22] at f1
  simp only [List.drop, List.take] at f0 f1
  obtain ⟨N, e1, _, w1⟩ := DataW.trod_int Try.underlying3 f0
  simp only [List.cons.injEq, and_true] at e1
  subst e1
  obtain ⟨a1, l1, c1, rfl⟩ : ∃ a l c, v = .slice a l c := by
   rcases DataW.trod_slice Try.underlying22 f1 with ⟨h0, _⟩ | ⟨a, len, cap, _, _, _, _, hcs, _⟩
   ·exact ⟨_, _, _, by simpa using h0⟩
   ·exact ⟨_, _, _, by simpa using hcs⟩
  obtain ⟨l, hl1, hl2, hl3⟩ := open_rowsS (some 2) pC PWf Try.underlying22 c49 (by simp [gsize]) (fun fuel cs x hx => open_pair hx) ⟨n, f1⟩
  refine ⟨⟨N, l⟩, ?_, w1, hl2, hl3⟩
  refine .agg (by rw [← Array.length_toList, hcl]; rfl) fun i c x hc hx => ?_
  have hx' : cs.toList[i]? = some x := by simpa using hx
  rw [hcl] at hx'
  match i, hc, hx' with
  | 0, hc, hx' => cases hc; cases hx'; exact .int
  | 1, hc, hx' => cases hc; cases hx'; exact hl1
  | i + 2, hc, _ => simp at hc
end Go.Ev.YtjcabpldgdafeaaC
