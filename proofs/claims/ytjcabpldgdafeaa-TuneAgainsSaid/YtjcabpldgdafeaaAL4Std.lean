/- The stand of a book: as it is built, and what its notes' surplus is. No condition but those that stand in each. -/
import Derived.Test.YtjcabpldgdafeaaAL4Books
import Derived.Test.YtjcabpldgdafeaaAL4M9
import Derived.Test.YtjcabpldgdafeaaAEvSort
set_option linter.unusedSimpArgs false
set_option linter.unusedVariables false
namespace Go.Ev.YtjcabpldgdafeaaC
open Go Go.Proofs Go.Ev
attribute [local irreducible] Res.all evC evLoop evOps evOper evOp evFn evCall freeze G GO GV GP GC R
set_option maxRecDepth 100000
def sur (es : List Ed) (x : Nat) : Int := (od es x : Nat) - (idg es x : Nat)
def sr8 (s : Nat → Int) : List AV := (List.range 8).map fun v => .int .i64 (s v)
def stC (N : Int) (sv : AV) (s : Nat → Int) (p : AV) : List AV := .int .i64 N :: sv :: (sr8 s ++ [p])
theorem sr8_len (s : Nat → Int) : (sr8 s).length = 8 := by simp [sr8]
theorem sr8_get (s : Nat → Int) {v : Nat} (h : v < 8) : (sr8 s)[v]? = some (.int .i64 (s v)) := range_get 8 v _ h
theorem stC_len (N : Int) (sv : AV) (s : Nat → Int) (p : AV) : (stC N sv s p).length = 11 := by simp [stC, sr8_len]
theorem stC_0 (N : Int) (sv : AV) (s : Nat → Int) (p : AV) : (stC N sv s p)[0]? = some (.int .i64 N) := rfl
theorem stC_1 (N : Int) (sv : AV) (s : Nat → Int) (p : AV) : (stC N sv s p)[1]? = some sv := rfl
theorem stC_arr (N : Int) (sv : AV) (s : Nat → Int) (p : AV) : ((stC N sv s p).drop 2).take 8 = sr8 s := by
 unfold stC
 simp only [List.drop_succ_cons, List.drop_zero]
 rw [List.take_append_of_le_length (by rw [sr8_len]; exact Nat.le_refl _), List.take_of_length_le (by rw [sr8_len]; exact Nat.le_refl _)]
theorem stC_get (N : Int) (sv : AV) (s : Nat → Int) (p : AV) {v : Nat} (h : v < 8) : (stC N sv s p)[2 + v]? = some (.int .i64 (s v)) := by
 unfold stC
 rw [show 2 + v = v + 1 + 1 by omega, List.getElem?_cons_succ, List.getElem?_cons_succ, List.getElem?_append_left (by rw [sr8_len]; exact h), sr8_get s h]
theorem stC_rd (N : Int) (sv : AV) (s : Nat → Int) (p : AV) {v : Nat} (h : v < 8) : rd none (stC N sv s p) (2 + v) = .ret (.int .i64 (s v)) := by
 simp only [rd, stC_get N sv s p h]; rfl
theorem stC_set (N : Int) (sv : AV) (s : Nat → Int) (p : AV) {v : Nat} (h : v < 8) (a : Int) : (stC N sv s p).set (2 + v) (.int .i64 a) = stC N sv (fun y => if y = v then a else s y) p := by
 unfold stC
 rw [show 2 + v = v + 1 + 1 by omega, List.set_cons_succ, List.set_cons_succ, List.set_append_left _ _ (by rw [sr8_len]; exact h)]
 congr 3
 unfold sr8
 rw [set_range]
 apply List.map_congr_left
 intro b _
 show _ = AV.int .i64 (if b = v then a else s b)
 split <;> rfl
theorem frz_sr8 (h : Heap) (n : Nat) (s : Nat → Int) (p p' : AV) (hp : freeze h (n + 1) p = .ret p') : mapR (freeze h (n + 1)) (sr8 s ++ [p]) = .ret (sr8 s ++ [p']) := by
 unfold sr8
 generalize List.range 8 = l
 induction l with
 | nil => exact mz_cons hp (mz_nil _ _)
 | cons a r ih => exact mz_cons (frz_int _ _ _ _) ih
theorem frz_stC {h : Heap} {n : Nat} {N : Int} {sv sv' : AV} (s : Nat → Int) {p p' : AV} (hs : freeze h (n + 1) sv = .ret sv') (hp : freeze h (n + 1) p = .ret p') : mapR (freeze h (n + 1)) (stC N sv s p) = .ret (stC N sv' s p') :=
 mz_cons (frz_int _ _ _ _) (mz_cons hs (frz_sr8 _ _ _ _ _ hp))
def edCs (es : List Ed) : List AV := es.flatMap fun q => [.int .i64 q.1, .int .i64 q.2]
theorem edCs_len (es : List Ed) : (edCs es).length = es.length * 2 := by
 induction es with
 | nil => rfl
 | cons q r ih => simp only [edCs, List.flatMap_cons, List.length_append, List.length_cons, List.length_nil] at ih ⊢; omega
theorem edCs_get {es : List Ed} {i : Nat} (h : i < es.length) : (edCs es)[i * 2]? = some (.int .i64 es[i].1) ∧ (edCs es)[i * 2 + 1]? = some (.int .i64 es[i].2) := by
 induction es generalizing i with
 | nil => simp at h
 | cons q r ih =>
  cases i with
  | zero => simp [edCs]
  | succ i =>
   have := ih (i := i) (by simpa using h)
   have e1 : (i + 1) * 2 = i * 2 + 1 + 1 := by omega
   simp only [edCs, List.flatMap_cons, List.cons_append, List.nil_append, e1, List.getElem?_cons_succ, List.getElem_cons_succ] at this ⊢
   exact this
def SlP (h : Heap) (sv : AV) (es : List Ed) : Prop := (∃ x, sv = .slice (some 2) (es.map edA) x) ∨ ∃ key ver c, sv = .oslice key ver (some 2) 0 es.length c ∧ getH h key = .cells ver (edCs es)
theorem SlP.rd {h : Heap} {sv : AV} {es : List Ed} (hs : SlP h sv es) {i : Nat} (hi : i < es.length) : ∃ a, ixA 2 sv i = .ret a ∧ ldA (some 2) h a = .ret (edA es[i]) := by
 rcases hs with ⟨x, rfl⟩ | ⟨key, ver, c, rfl, hH⟩
 ·have : (es.map edA)[i]? = some (edA es[i]) := by rw [List.getElem?_map, List.getElem?_eq_getElem hi]; rfl
  exact ⟨.ptr (edA es[i]).cells 0, by simp only [ixA_slice, gsize, if_true, this], rfl⟩
 ·obtain ⟨g1, g2⟩ := edCs_get hi
  refine ⟨.optr key ver (0 + i * 2), by simp only [ixA_oslice, gsize, hi, and_self, if_true], ?_⟩
  have hl := edCs_len es
  simp only [ldA_optr, hH, if_true, Go.Ev.rd, Nat.zero_add, gsize]
  have : ((edCs es).drop (i * 2)).take 2 = [.int .i64 es[i].1, .int .i64 es[i].2] := by
   apply List.ext_getElem?
   intro j
   rw [List.getElem?_take]
   by_cases hj : j < 2
   ·rw [if_pos hj, List.getElem?_drop]
    have : j = 0 ∨ j = 1 := by omega
    rcases this with rfl | rfl
    ·simpa using g1
    ·simpa using g2
   ·rw [if_neg hj, List.getElem?_eq_none (by simp; omega)]
  rw [this]
  rw [if_pos (by omega)]
  rfl
theorem SlP.other {h h' : Heap} {sv : AV} {es : List Ed} (hs : SlP h sv es) (hf : ∀ j, keyOf sv = some j → getH h' j = getH h j) : SlP h' sv es := by
 rcases hs with h1 | ⟨key, ver, c, rfl, hH⟩
 ·exact .inl h1
 ·exact .inr ⟨key, ver, c, rfl, by rw [hf key rfl, hH]⟩
theorem SlP.len {h : Heap} {sv : AV} {es : List Ed} (hs : SlP h sv es) : lenA sv = some es.length := by
 rcases hs with ⟨x, rfl⟩ | ⟨key, ver, c, rfl, hH⟩
 ·simp [lenA]
 ·rfl
theorem SlP.one {h : Heap} {sv : AV} {es : List Ed} (hs : SlP h sv es) : oneB sv = true := by
 rcases hs with ⟨x, rfl⟩ | ⟨key, ver, c, rfl, hH⟩ <;> rfl
theorem SlP.cells {h : Heap} {sv : AV} {es : List Ed} (hs : SlP h sv es) : sv.cells = [sv] := by
 rcases hs with ⟨x, rfl⟩ | ⟨key, ver, c, rfl, hH⟩ <;> rfl
theorem sur_take {es : List Ed} {i : Nat} (hi : i < es.length) (y : Nat) : sur (es.take (i + 1)) y = sur (es.take i) y + (if y = es[i].1 then 1 else 0) - (if y = es[i].2 then 1 else 0) := by
 have h1 : od (es.take (i + 1)) y = od (es.take i) y + if es[i].1 = y then 1 else 0 := by
  simp only [od, List.take_succ_eq_append_getElem hi, List.countP_append, List.countP_singleton, beq_iff_eq]
 have h2 : idg (es.take (i + 1)) y = idg (es.take i) y + if es[i].2 = y then 1 else 0 := by
  simp only [idg, List.take_succ_eq_append_getElem hi, List.countP_append, List.countP_singleton, beq_iff_eq]
 unfold sur
 rw [h1, h2]
 have e1 : (y = es[i].1) = (es[i].1 = y) := propext ⟨Eq.symm, Eq.symm⟩
 have e2 : (y = es[i].2) = (es[i].2 = y) := propext ⟨Eq.symm, Eq.symm⟩
 simp only [e1, e2]
 split <;> split <;> omega
theorem sur_box (es : List Ed) (y : Nat) : -(es.length : Int) ≤ sur es y ∧ sur es y ≤ es.length := by
 have h1 : od es y ≤ es.length := List.countP_le_length
 have h2 : idg es y ≤ es.length := List.countP_le_length
 unfold sur; omega
theorem getH_new (h : Heap) (n k : Nat) : getH (h ++ List.replicate n .none) (h.length + k) = .none := by
 rw [getH_append_none]
 exact getH_ge _ _ (by omega)
def zer (m : Nat) : List AV := List.replicate m (.int .i64 0)
def PNew (N : Int) (sv : AV) (es : List Ed) (h : Heap) (v : AV) (h' : Heap) : Prop :=
 v = .optr (h.length + 12) 0 0 ∧ getH h' (h.length + 12) = .cells 0 (stC N sv (sur es) (.oslice (h.length + 51) 0 none 0 es.length (some es.length))) ∧ getH h' (h.length + 51) = .cells 0 (zer es.length) ∧ (∀ j, j < h.length → getH h' j = getH h j) ∧ h'.length = h.length + 52
set_option maxHeartbeats 1000000 in
theorem raw_new (N : Int) (es : List Ed) (hl : es.length ≤ 20) (hn : ∀ q ∈ es, q.1 < 8 ∧ q.2 < 8) (sv : AV) (h0 : Heap) (hs : SlP h0 sv es) (hk : ∀ j, keyOf sv = some j → j < h0.length) (n : Nat) (hn1 : 1 ≤ n) {V : AV × Heap → Prop} (hV : ∀ v h', PNew N sv es h0 v h' → V (v, h')) :
  (evCall T n true (.fn 64) [.agg [.int .i64 N, sv]] h0).all V := by
 obtain ⟨n, rfl⟩ : ∃ n', n = n' + 1 := ⟨n - 1, by omega⟩
 rw [raw_enter t64]
 have hn1 := getH_new h0 51 1
 have hn12 := getH_new h0 51 12
 have hn51 := getH_new h0 51 51
 have hroom : room es.length 8 = true := room_ok (by omega)
 have hspl : ∀ p : AV, splice [AV.int IntKind.i64 N, sv, AV.int IntKind.i64 0, AV.int IntKind.i64 0, AV.int IntKind.i64 0, AV.int IntKind.i64 0, AV.int IntKind.i64 0, AV.int IntKind.i64 0, AV.int IntKind.i64 0, AV.int IntKind.i64 0, p] 2 (List.replicate 8 (AV.int IntKind.i64 0)) = stC N sv (fun _ => 0) p := fun _ => rfl
 have hflat : (List.replicate es.length [AV.int IntKind.i64 0]).flatten = zer es.length := by unfold zer; simp
 have hm1 : ∀ n, n ≤ n := fun n => Nat.le_refl n
 simp (disch := first | assumption | omega) only [c64, go_sem, ↓reduceIte, hn1, hn12, hn51, next_none, hs.len, hs.one, hs.cells, hroom, slAll, gsize, clA, hspl, hflat, stC_1, stC_len]
 have hlh : (h0 ++ List.replicate 51 AObj.none).length = h0.length + 51 := by simp
 refine m_loop (fun M st => ∃ i : Nat, M = es.length - i ∧ i ≤ es.length ∧ At st.env [(3, .optr (h0.length + 12) 0 0), (21, sv), (22, .int .i64 es.length), (23, .int .i64 i)] ∧
   getH st.heap (h0.length + 12) = .cells 0 (stC N sv (sur (es.take i)) (.oslice (h0.length + 51) 0 none 0 es.length (some es.length))) ∧ getH st.heap (h0.length + 51) = .cells 0 (zer es.length) ∧ (∀ j, j < h0.length → getH st.heap j = getH h0 j) ∧ st.heap.length = h0.length + 52) es.length (by omega)
  ⟨0, by omega, by omega, by simp only [go_sem, ↓reduceIte], ?_, ?_, fun j hj => ?_, by simp only [length_setH, hlh]; omega⟩ ?_
 ·simp only [go_sem, ↓reduceIte]; rfl
 ·rw [getH_setH_ne _ _ _ _ (by omega), getH_setH_ne _ _ _ _ (by omega), getH_setH_self]
 ·rw [getH_setH_ne _ _ _ _ (by omega), getH_setH_ne _ _ _ _ (by omega), getH_setH_ne _ _ _ _ (by omega), getH_setH_ne _ _ _ _ (by omega), getH_append_none]
 rintro M e h hM ⟨i, rfl, hi, hE, g12, g51, hF, hhl⟩ P hP
 simp only [At_cons, At_nil] at hE g12 g51 hF hhl
 obtain ⟨f3, f21, f22, f23, -⟩ := hE
 by_cases hlt : i < es.length
 ·have hq := hn _ (List.getElem_mem hlt)
  obtain ⟨a, ha1, ha2⟩ := (hs.other (h' := h) fun j hj => hF j (hk j hj)).rd hlt
  have hst := sur_take hlt
  have hb := sur_box (es.take i)
  have htl : (es.take i).length ≤ 20 := by rw [List.length_take]; omega
  generalize hqd : es[i] = q at *
  obtain ⟨qa, qb⟩ := q
  simp only at hq hst
  obtain ⟨hq1, hq2⟩ := hq
  have n5 : ¬ (h0.length + 5 = h0.length + 12) := by omega
  have hba := hb qa
  have hbb := hb qb
  simp only [edA] at ha2
  simp (disch := first | assumption | omega) only [go_sem, ↓reduceIte, f3, f21, f22, f23, hlt, ha1, ha2, g12, n5, hq1, hq2, stC_len, stC_get, stC_set, stC_rd]
  refine ⟨by omega, by omega, ?_⟩
  refine hP (es.length - (i + 1)) _ (by omega) ⟨i + 1, rfl, by omega, by simp only [go_sem, ↓reduceIte, f3, f21, f22], ?_, ?_, fun j hj => ?_, by simp only [length_setH]; omega⟩
  ·rw [getH_setH_self]
   congr 2
   funext y
   rw [hst]
   by_cases h1 : y = qb
   ·subst h1
    simp only [if_true]
    by_cases h2 : y = qa
    ·subst h2
     simp only [if_true]
    ·simp only [if_neg h2]; omega
   ·rw [if_neg h1, if_neg h1]
    split
    ·next h2 => subst h2; omega
    ·omega
  ·rw [getH_setH_ne _ _ _ _ (by omega), getH_setH_ne _ _ _ _ (by omega), getH_setH_ne _ _ _ _ (by omega), getH_setH_ne _ _ _ _ (by omega)]; exact g51
  ·rw [getH_setH_ne _ _ _ _ (by omega), getH_setH_ne _ _ _ _ (by omega), getH_setH_ne _ _ _ _ (by omega), getH_setH_ne _ _ _ _ (by omega)]; exact hF j hj
 ·obtain rfl : i = es.length := by omega
  rw [List.take_length] at g12
  simp (disch := first | assumption | omega) only [go_sem, ↓reduceIte, f3, f21, f22, f23, hlt]
  exact hV _ _ ⟨rfl, g12, g51, hF, hhl⟩
end Go.Ev.YtjcabpldgdafeaaC
namespace Go.Ev.YtjcabpldgdafeaaC
open Go Go.Proofs Go.Ev
attribute [local irreducible] Res.all evC evLoop evOps evOper evOp evFn evCall freeze G GO GV GP GC R
set_option maxRecDepth 100000
abbrev eds (es : List Ed) : AV := .slice (some 2) (es.map edA) false
abbrev stA (N : Int) (es : List Ed) (s : Nat → Int) (p : AV) : AV := .ptr (stC N (eds es) s p) 0
theorem frz_stA (h : Heap) (n : Nat) (N : Int) (es : List Ed) (s : Nat → Int) (p : AV) : freeze h (n + 1) (stA N es s p) = .ret (stA N es s p) := frz_ptr _ _ _ _
theorem ed_get {es : List Ed} {i : Nat} (h : i < es.length) : (es.map edA)[i]? = some (edA es[i]) := by rw [List.getElem?_map, List.getElem?_eq_getElem h]; rfl
theorem allB_take {es : List Ed} {p : Ed → Bool} {i : Nat} (h : i < es.length) : (es.take (i + 1)).all p = ((es.take i).all p && p es[i]) := by
 rw [List.take_succ_eq_append_getElem h, List.all_append]; simp
end Go.Ev.YtjcabpldgdafeaaC
namespace Go.Ev.YtjcabpldgdafeaaC
open Go Go.Proofs Go.Ev
attribute [local irreducible] Res.all evC evLoop evOps evOper evOp evFn evCall freeze G GO GV GP GC R
set_option maxRecDepth 100000
theorem Own.low {lo lo' : Nat} {h : Heap} {v : AV} {k : IntKind} {l : List Int} (hx : Own lo h v k l) (hl : lo' ≤ lo) : Own lo' h v k l := by
 rcases hx with h1 | ⟨key, ver, h1, h2, h3⟩
 ·exact .inl h1
 ·exact .inr ⟨key, ver, by omega, h2, h3⟩
def inPt (es : List Ed) (a x : Nat) : Prop := ∀ p : Nat → Bool, (∀ e ∈ es, p e.1 = p e.2) → p a = true → p x = true
open Classical in
noncomputable def ptL (es : List Ed) (a : Nat) : List Nat := (List.range 8).filter fun x => decide (inPt es a x)
theorem mem_ptL {es : List Ed} {a x : Nat} : x ∈ ptL es a ↔ x < 8 ∧ inPt es a x := by simp [ptL]
theorem nI4_len (l : List Nat) : (nI4 l).length = l.length := by simp [nI4]
structure InPt (es : List Ed) (a : Nat) (l : List Nat) : Prop where
 nd : l.Nodup
 lt : ∀ x ∈ l, x < 8
 sub : ∀ x ∈ l, inPt es a x
 mem : a ∈ l
theorem InPt.len {es : List Ed} {a : Nat} {l : List Nat} (h : InPt es a l) : l.length ≤ 8 := by
 have := List.Nodup.length_le_of_subset (l₂ := List.range 8) h.nd fun x hx => List.mem_range.2 (h.lt x hx)
 simpa using this
theorem InPt.push {es : List Ed} {a : Nat} {l : List Nat} (h : InPt es a l) {x : Nat} (h1 : x < 8) (h2 : inPt es a x) (h3 : x ∉ l) : InPt es a (l ++ [x]) where
 nd := by
  rw [List.nodup_append]
  refine ⟨h.nd, by simp, fun y hy z hz e => ?_⟩
  obtain rfl : z = x := by simpa using hz
  exact h3 (e ▸ hy)
 lt := fun y hy => by
  rcases List.mem_append.1 hy with hy | hy
  ·exact h.lt y hy
  ·obtain rfl : y = x := by simpa using hy
   exact h1
 sub := fun y hy => by
  rcases List.mem_append.1 hy with hy | hy
  ·exact h.sub y hy
  ·obtain rfl : y = x := by simpa using hy
   exact h2
 mem := List.mem_append_left _ h.mem
theorem InPt.done {es : List Ed} {a : Nat} {l : List Nat} (h : InPt es a l) (hc : ∀ e ∈ es, (e.1 ∈ l ↔ e.2 ∈ l)) (x : Nat) : x ∈ l ↔ x ∈ ptL es a := by
 rw [mem_ptL]
 refine ⟨fun hx => ⟨h.lt x hx, h.sub x hx⟩, fun ⟨_, hx⟩ => ?_⟩
 have := hx (fun y => decide (y ∈ l)) (fun e he => by
  rw [Bool.eq_iff_iff]; simpa using hc e he) (by simpa using h.mem)
 simpa using this
end Go.Ev.YtjcabpldgdafeaaC
namespace Go.Ev.YtjcabpldgdafeaaC
open Go Go.Proofs Go.Ev
attribute [local irreducible] Res.all evC evLoop evOps evOper evOp evFn evCall freeze G GO GV GP GC R
set_option maxRecDepth 100000
def eI (q : Ed) : Int × Int := ((q.1 : Int), (q.2 : Int))
theorem map_eI (es : List Ed) : (es.map eI).map pA = es.map edA := by rw [List.map_map]; rfl
def upU (s : Nat → Int) : Nat → Int
 | 0 => 0
 | v + 1 => upU s v + if 0 < s v then s v else 0
def atU (s : Nat → Int) : Nat → Nat
 | 0 => 0
 | v + 1 => if 0 < s v then v else atU s v
theorem upU_box {s : Nat → Int} (hs : ∀ x, -20 ≤ s x ∧ s x ≤ 20) : ∀ v, 0 ≤ upU s v ∧ upU s v ≤ 20 * v
 | 0 => by simp [upU]
 | v + 1 => by
  have := upU_box hs v
  have := hs v
  simp only [upU]
  split <;> omega
theorem sur_20 {es : List Ed} (hl : es.length ≤ 20) (x : Nat) : -20 ≤ sur es x ∧ sur es x ≤ 20 := by
 have := sur_box es x; omega
end Go.Ev.YtjcabpldgdafeaaC
namespace Go.Ev.YtjcabpldgdafeaaC
open Go Go.Proofs Go.Ev
attribute [local irreducible] Res.all evC evLoop evOps evOper evOp evFn evCall freeze G GO GV GP GC R
set_option maxRecDepth 100000
def bkN (N : Nat) (es : List Ed) : Bk := ⟨N, es.map eI⟩
structure OkB (N : Nat) (es : List Ed) : Prop where
 n1 : 1 ≤ N
 n8 : N ≤ 8
 ne : es ≠ []
 le : es.length ≤ 14
 lt : ∀ q ∈ es, q.1 < N ∧ q.2 < N
theorem OkB.lt8 {N : Nat} {es : List Ed} (h : OkB N es) : ∀ q ∈ es, q.1 < 8 ∧ q.2 < 8 := fun q hq => by
 have := h.lt q hq; have := h.n8; omega
theorem OkB.le20 {N : Nat} {es : List Ed} (h : OkB N es) : es.length ≤ 20 := by have := h.le; omega
theorem chk_ok {b : Bk} (h : chkB b = 0) : ∃ N es, b = bkN N es ∧ OkB N es := by
 obtain ⟨N, l⟩ := b
 unfold chkB at h
 split at h
 ·omega
 ·next g =>
  simp only at g h
  split at h
  ·omega
  ·next g2 =>
   obtain ⟨N, rfl⟩ : ∃ n : Nat, N = (n : Int) := ⟨N.toNat, by omega⟩
   have hall : ∀ q ∈ l, (0 ≤ q.1 ∧ q.1 < N) ∧ (0 ≤ q.2 ∧ q.2 < N) := fun q hq => by
    have : strayB N q = false := by
     cases hs : strayB N q with
     | false => rfl
     | true => exact absurd (List.any_eq_true.2 ⟨q, hq, hs⟩) g2
    simpa [strayB, noteB] using this
   refine ⟨N, l.map fun q => (q.1.toNat, q.2.toNat), ?_, by omega, by omega, fun h0 => ?_, by simp; omega, fun q hq => ?_⟩
   ·unfold bkN
    congr 1
    rw [List.map_map]
    conv => lhs; rw [← List.map_id l]
    apply List.map_congr_left
    intro q hq
    have := hall q hq
    simp only [Function.comp, eI, id]
    ext
    ·simp only; omega
    ·simp only; omega
   ·have := congrArg List.length h0
    simp at this
    subst this
    simp at g
   ·obtain ⟨q', hq', rfl⟩ := List.mem_map.1 hq
    have := hall q' hq'
    simp only; omega
theorem ok_chk {N : Nat} {es : List Ed} (h : OkB N es) : chkB (bkN N es) = 0 := by
 obtain ⟨h1, h2, h3, h4, h5⟩ := h
 have : 0 < es.length := List.length_pos_iff.2 h3
 unfold chkB bkN
 rw [if_neg (by simp only [List.length_map]; omega), if_neg]
 intro ha
 obtain ⟨q, hq, hs⟩ := List.any_eq_true.1 ha
 obtain ⟨e, he, rfl⟩ := List.mem_map.1 hq
 have := h5 e he
 simp [strayB, noteB, eI] at hs
 omega
theorem bkN_A (N : Nat) (es : List Ed) : bkA (bkN N es) = .agg [.int .i64 N, eds es] := by simp only [bkN, bkA, prs, map_eI]
abbrev zS (es : List Ed) : AV := ints (List.replicate es.length 0)
theorem zer_map (m : Nat) : zer m = (List.replicate m (0 : Int)).map (.int .i64) := by simp [zer]
abbrev stN (N : Nat) (es : List Ed) : AV := stA N es (sur es) (zS es)
theorem frz_new {N : Nat} {es : List Ed} {h h' : Heap} {v : AV} {n : Nat} (hp : PNew N (eds es) es h v h') : freeze h' (n + 3) v = .ret (stN N es) := by
 obtain ⟨rfl, h1, h2, -, -⟩ := hp
 rw [zer_map] at h2
 exact frz_optr h1 (frz_stC _ (frz_slice _ _ _ _ _) (frz_own h2 (by simp)))
theorem con_open_no (b : Bk) (hl : b.slurs.length ≤ 20) (hc : chkB b ≠ 0) : Con T 10 57 [bkA b] (.tuple [.nilptr, .int .i64 (chkB b)]) := by
 refine con_intro t57 fun n hn V hV => ?_
 have b0 : (chkB b != 0) = true := by simpa using hc
 simp (disch := first | assumption | omega) only [c57, go_sem, ↓reduceIte, cs_CheckBook, b0]
 exact hV _ _ (frz_two (frz_nilptr _ _) (frz_int _ _ _ _))
theorem con_open (N : Nat) (es : List Ed) (hk : OkB N es) : Con T 10 57 [bkA (bkN N es)] (.tuple [stN N es, .int .i64 0]) := by
 refine con_intro t57 fun n hn V hV => ?_
 have hl20 : (bkN N es).slurs.length ≤ 20 := by have := hk.le; simp [bkN]; omega
 have hck := ok_chk hk
 have b0 : ((0 : Int) != 0) = false := rfl
 simp (disch := first | assumption | omega) only [c57, go_sem, ↓reduceIte, cs_CheckBook, hck, b0, Bool.false_eq_true]
 have hA := bkN_A N es
 simp only [bkA] at hA
 refine gp_of ?_
 rw [hA]
 refine raw_new N es (by have := hk.le; omega) hk.lt8 (eds es) _ (.inl ⟨_, rfl⟩) (fun j hj => by simp [keyOf] at hj) n (by omega) fun v h' hp => ?_
 simp (disch := first | assumption | omega) only [go_sem, ↓reduceIte]
 exact hV _ _ (frz_two (frz_new hp) (frz_int _ _ _ _))
section
variable {n base : Nat} {Q : EX × St → Prop} {d : Option Nat} {L : List IOper} {ks : List Kont} {e : Env} {h : Heap}
theorem cs_open_no {b : Bk} {x : Bool} (hn : 10 ≤ n) (hl : b.slurs.length ≤ 20) (hc : chkB b ≠ 0) : GP (evCall T n) base Q d L ks e (evCall T n false (.fn 57) [.agg [.int .i64 b.notes, .slice (some 2) (b.slurs.map pA) x]] h) = GO (evCall T n) base Q L ks ⟨setDst e d (.tuple [.nilptr, .int .i64 (chkB b)]), h⟩ :=
 gp_eq (con_open_no b hl hc) hn (fz_cons (frz_agg (mz_cons (frz_int _ _ _ _) (mz_cons (frz_slice _ _ _ _ _) (mz_nil _ _)))) (fz_nil _)) rfl
theorem cs_open {N : Nat} {es : List Ed} {x : Bool} (hn : 10 ≤ n) (hk : OkB N es) : GP (evCall T n) base Q d L ks e (evCall T n false (.fn 57) [.agg [.int .i64 N, .slice (some 2) (es.map edA) x]] h) = GO (evCall T n) base Q L ks ⟨setDst e d (.tuple [stN N es, .int .i64 0]), h⟩ := by
 have := con_open N es hk
 rw [bkN_A] at this
 exact gp_eq this hn (fz_cons (frz_agg (mz_cons (frz_int _ _ _ _) (mz_cons (frz_slice _ _ _ _ _) (mz_nil _ _)))) (fz_nil _)) rfl
end
end Go.Ev.YtjcabpldgdafeaaC
