/- The stand of a book: as it is built, and what its notes' surplus is. No condition but those that stand in each. -/
import Derived.Test.YtjcabpldgdafeaaEL4Books
import Derived.Test.YtjcabpldgdafeaaEL4M9
import Derived.Test.YtjcabpldgdafeaaEEvSort
set_option linter.unusedSimpArgs false
set_option linter.unusedVariables false
namespace Go.Ev.YtjcabpldgdafeaaC
open Go Go.Proofs Go.Ev
attribute [local irreducible] Res.all evC evLoop evOps evOper evOp evFn evCall freeze G GO GV GP GC R
set_option maxRecDepth 100000
def sur (es : List Ed) (x : Nat) : Int := (od es x : Nat) - (idg es x : Nat)
def sr8 (s : Nat → Int) : List AV := (List.range 8).map fun v => .int .i64 (s v)
def stC (N : Int) (sv : AV) (s : Nat → Int) (p : AV) : List AV := .int .i64 N :: sv :: (sr8 s ++ [p])
theorem sr8_len (s : Nat → Int) : (sr8 s).length = 8 := by simp [sr8]
theorem sr8_get (s : Nat → Int) {v : Nat} (h : v < 8) : (sr8 s)[v]? = some (.int .i64 (s v)) := range_get 8 v _ h
theorem stC_len (N : Int) (sv : AV) (s : Nat → Int) (p : AV) : (stC N sv s p).length = 11 := by simp [stC, sr8_len]
theorem stC_0 (N : Int) (sv : AV) (s : Nat → Int) (p : AV) : (stC N sv s p)[0]? = some (.int .i64 N) := rfl
theorem stC_1 (N : Int) (sv : AV) (s : Nat → Int) (p : AV) : (stC N sv s p)[1]? = some sv := rfl
theorem stC_arr (N : Int) (sv : AV) (s : Nat → Int) (p : AV) : ((stC N sv s p).drop 2).take 8 = sr8 s := by
 unfold stC
 simp only [List.drop_succ_cons, List.drop_zero]
 rw [List.take_append_of_le_length (by rw [sr8_len]; exact Nat.le_refl _), List.take_of_length_le (by rw [sr8_len]; exact Nat.le_refl _)]
theorem stC_get (N : Int) (sv : AV) (s : Nat → Int) (p : AV) {v : Nat} (h : v < 8) : (stC N sv s p)[2 + v]? = some (.int .i64 (s v)) := by
 unfold stC
 rw [show 2 + v = v + 1 + 1 by omega, List.getElem?_cons_succ, List.getElem?_cons_succ, List.getElem?_append_left (by rw [sr8_len]; exact h), sr8_get s h]
theorem stC_rd (N : Int) (sv : AV) (s : Nat → Int) (p : AV) {v : Nat} (h : v < 8) : rd none (stC N sv s p) (2 + v) = .ret (.int .i64 (s v)) := by
 simp only [rd, stC_get N sv s p h]; rfl
theorem stC_set (N : Int) (sv : AV) (s : Nat → Int) (p : AV) {v : Nat} (h : v < 8) (a : Int) : (stC N sv s p).set (2 + v) (.int .i64 a) = stC N sv (fun y => if y = v then a else s y) p := by
 unfold stC
 rw [show 2 + v = v + 1 + 1 by omega, List.set_cons_succ, List.set_cons_succ, List.set_append_left _ _ (by rw [sr8_len]; exact h)]
 congr 3
 unfold sr8
 rw [set_range]
 apply List.map_congr_left
 intro b _
 show _ = AV.int .i64 (if b = v then a else s b)
 split <;> rfl
theorem frz_sr8 (h : Heap) (n : Nat) (s : Nat → Int) (p p' : AV) (hp : freeze h (n + 1) p = .ret p') : mapR (freeze h (n + 1)) (sr8 s ++ [p]) = .ret (sr8 s ++ [p']) := by
 unfold sr8
 generalize List.range 8 = l
 induction l with
 | nil => exact mz_cons hp (mz_nil _ _)
 | cons a r ih => exact mz_cons (frz_int _ _ _ _) ih
theorem frz_stC {h : Heap} {n : Nat} {N : Int} {sv sv' : AV} (s : Nat → Int) {p p' : AV} (hs : freeze h (n + 1) sv = .ret sv') (hp : freeze h (n + 1) p = .ret p') : mapR (freeze h (n + 1)) (stC N sv s p) = .ret (stC N sv' s p') :=
 mz_cons (frz_int _ _ _ _) (mz_cons hs (frz_sr8 _ _ _ _ _ hp))
def edCs (es : List Ed) : List AV := es.flatMap fun q => [.int .i64 q.1, .int .i64 q.2]
theorem edCs_len (es : List Ed) : (edCs es).length = es.length * 2 := by
 induction es with
 | nil => rfl
 | cons q r ih => simp only [edCs, List.flatMap_cons, List.length_append, List.length_cons, List.length_nil] at ih ⊢; omega
theorem edCs_get {es : List Ed} {i : Nat} (h : i < es.length) : (edCs es)[i * 2]? = some (.int .i64 es[i].1) ∧ (edCs es)[i * 2 + 1]? = some (.int .i64 es[i].2) := by
 induction es generalizing i with
 | nil => simp at h
 | cons q r ih =>
  cases i with
  | zero => simp [edCs]
  | succ i =>
   have := ih (i := i) (by simpa using h)
   have e1 : (i + 1) * 2 = i * 2 + 1 + 1 := by omega
   simp only [edCs, List.flatMap_cons, List.cons_append, List.nil_append, e1, List.getElem?_cons_succ, List.getElem_cons_succ] at this ⊢
   exact this
def SlP (h : Heap) (sv : AV) (es : List Ed) : Prop := (∃ x, sv = .slice (some 2) (es.map edA) x) ∨ ∃ key ver c, sv = .oslice key ver (some 2) 0 es.length c ∧ getH h key = .cells ver (edCs es)
theorem SlP.rd {h : Heap} {sv : AV} {es : List Ed} (hs : SlP h sv es) {i : Nat} (hi : i < es.length) : ∃ a, ixA 2 sv i = .ret a ∧ ldA (some 2) h a = .ret (edA es[i]) := by
 rcases hs with ⟨x, rfl⟩ | ⟨key, ver, c, rfl, hH⟩
 ·have : (es.map edA)[i]? = some (edA es[i]) := by rw [List.getElem?_map, List.getElem?_eq_getElem hi]; rfl
  exact ⟨.ptr (edA es[i]).cells 0, by simp only [ixA_slice, gsize, if_true, this], rfl⟩
 ·obtain ⟨g1, g2⟩ := edCs_get hi
  refine ⟨.optr key ver (0 + i * 2), by simp only [ixA_oslice, gsize, hi, and_self, if_true], ?_⟩
  have hl := edCs_len es
  simp only [ldA_optr, hH, if_true, Go.Ev.rd, Nat.zero_add, gsize]
  have : ((edCs es).drop (i * 2)).take 2 = [.int .i64 es[i].1, .int .i64 es[i].2] := by
   apply List.ext_getElem?
   intro j
   rw [List.getElem?_take]
   by_cases hj : j < 2
   ·rw [if_pos hj, List.getElem?_drop]
    have : j = 0 ∨ j = 1 := by omega
    rcases this with rfl | rfl
    ·simpa using g1
    ·simpa using g2
   ·rw [if_neg hj, List.getElem?_eq_none (by simp; omega)]
  rw [this]
  rw [if_pos (by omega)]
  rfl
theorem SlP.other {h h' : Heap} {sv : AV} {es : List Ed} (hs : SlP h sv es) (hf : ∀ j, keyOf sv = some j → getH h' j = getH h j) : SlP h' sv es := by
 rcases hs with h1 | ⟨key, ver, c, rfl, hH⟩
 ·exact .inl h1
 ·exact .inr ⟨key, ver, c, rfl, by rw [hf key rfl, hH]⟩
theorem SlP.len {h : Heap} {sv : AV} {es : List Ed} (hs : SlP h sv es) : lenA sv = some es.length := by
 rcases hs with ⟨x, rfl⟩ | ⟨key, ver, c, rfl, hH⟩
 ·simp [lenA]
 ·rfl
theorem SlP.one {h : Heap} {sv : AV} {es : List Ed} (hs : SlP h sv es) : oneB sv = true := by
 rcases hs with ⟨x, rfl⟩ | ⟨key, ver, c, rfl, hH⟩ <;> rfl
theorem SlP.cells {h : Heap} {sv : AV} {es : List Ed} (hs : SlP h sv es) : sv.cells = [sv] := by
 rcases hs with ⟨x, rfl⟩ | ⟨key, ver, c, rfl, hH⟩ <;> rfl
theorem sur_take {es : List Ed} {i : Nat} (hi : i < es.length) (y : Nat) : sur (es.take (i + 1)) y = sur (es.take i) y + (if y = es[i].1 then 1 else 0) - (if y = es[i].2 then 1 else 0) := by
 have h1 : od (es.take (i + 1)) y = od (es.take i) y + if es[i].1 = y then 1 else 0 := by
  simp only [od, List.take_succ_eq_append_getElem hi, List.countP_append, List.countP_singleton, beq_iff_eq]
 have h2 : idg (es.take (i + 1)) y = idg (es.take i) y + if es[i].2 = y then 1 else 0 := by
  simp only [idg, List.take_succ_eq_append_getElem hi, List.countP_append, List.countP_singleton, beq_iff_eq]
 unfold sur
 rw [h1, h2]
 have e1 : (y = es[i].1) = (es[i].1 = y) := propext ⟨Eq.symm, Eq.symm⟩
 have e2 : (y = es[i].2) = (es[i].2 = y) := propext ⟨Eq.symm, Eq.symm⟩
 simp only [e1, e2]
 split <;> split <;> omega
theorem sur_box (es : List Ed) (y : Nat) : -(es.length : Int) ≤ sur es y ∧ sur es y ≤ es.length := by
 have h1 : od es y ≤ es.length := List.countP_le_length
 have h2 : idg es y ≤ es.length := List.countP_le_length
 unfold sur; omega
theorem getH_new (h : Heap) (n k : Nat) : getH (h ++ List.replicate n .none) (h.length + k) = .none := by
 rw [getH_append_none]
 exact getH_ge _ _ (by omega)
def zer (m : Nat) : List AV := List.replicate m (.int .i64 0)
def PNew (N : Int) (sv : AV) (es : List Ed) (h : Heap) (v : AV) (h' : Heap) : Prop :=
 v = .optr (h.length + 12) 0 0 ∧ getH h' (h.length + 12) = .cells 0 (stC N sv (sur es) (.oslice (h.length + 51) 0 none 0 es.length (some es.length))) ∧ getH h' (h.length + 51) = .cells 0 (zer es.length) ∧ (∀ j, j < h.length → getH h' j = getH h j) ∧ h'.length = h.length + 52
set_option maxHeartbeats 1000000 in
theorem raw_new (N : Int) (es : List Ed) (hl : es.length ≤ 20) (hn : ∀ q ∈ es, q.1 < 8 ∧ q.2 < 8) (sv : AV) (h0 : Heap) (hs : SlP h0 sv es) (hk : ∀ j, keyOf sv = some j → j < h0.length) (n : Nat) (hn1 : 1 ≤ n) {V : AV × Heap → Prop} (hV : ∀ v h', PNew N sv es h0 v h' → V (v, h')) :
  (evCall T n true (.fn 64) [.agg [.int .i64 N, sv]] h0).all V := by
 obtain ⟨n, rfl⟩ : ∃ n', n = n' + 1 := ⟨n - 1, by omega⟩
 rw [raw_enter t64]
 have hn1 := getH_new h0 51 1
 have hn12 := getH_new h0 51 12
 have hn51 := getH_new h0 51 51
 have hroom : room es.length 8 = true := room_ok (by omega)
 have hspl : ∀ p : AV, splice [AV.int IntKind.i64 N, sv, AV.int IntKind.i64 0, AV.int IntKind.i64 0, AV.int IntKind.i64 0, AV.int IntKind.i64 0, AV.int IntKind.i64 0, AV.int IntKind.i64 0, AV.int IntKind.i64 0, AV.int IntKind.i64 0, p] 2 (List.replicate 8 (AV.int IntKind.i64 0)) = stC N sv (fun _ => 0) p := fun _ => rfl
 have hflat : (List.replicate es.length [AV.int IntKind.i64 0]).flatten = zer es.length := by unfold zer; simp
 have hm1 : ∀ n, n ≤ n := fun n => Nat.le_refl n
 simp (disch := first | assumption | omega) only [c64, go_sem, ↓reduceIte, hn1, hn12, hn51, next_none, hs.len, hs.one, hs.cells, hroom, slAll, gsize, clA, hspl, hflat, stC_1, stC_len]
 have hlh : (h0 ++ List.replicate 51 AObj.none).length = h0.length + 51 := by simp
 refine m_loop (fun M st => ∃ i : Nat, M = es.length - i ∧ i ≤ es.length ∧ At st.env [(3, .optr (h0.length + 12) 0 0), (21, sv), (22, .int .i64 es.length), (23, .int .i64 i)] ∧
   getH st.heap (h0.length + 12) = .cells 0 (stC N sv (sur (es.take i)) (.oslice (h0.length + 51) 0 none 0 es.length (some es.length))) ∧ getH st.heap (h0.length + 51) = .cells 0 (zer es.length) ∧ (∀ j, j < h0.length → getH st.heap j = getH h0 j) ∧ st.heap.length = h0.length + 52) es.length (by omega)
  ⟨0, by omega, by omega, by simp only [go_sem, ↓reduceIte], ?_, ?_, fun j hj => ?_, by simp only [length_setH, hlh]; omega⟩ ?_
 ·simp only [go_sem, ↓reduceIte]; rfl
 ·rw [getH_setH_ne _ _ _ _ (by omega), getH_setH_ne _ _ _ _ (by omega), getH_setH_self]
 ·rw [getH_setH_ne _ _ _ _ (by omega), getH_setH_ne _ _ _ _ (by omega), getH_setH_ne _ _ _ _ (by omega), getH_setH_ne _ _ _ _ (by omega), getH_append_none]
 rintro M e h hM ⟨i, rfl, hi, hE, g12, g51, hF, hhl⟩ P hP
 simp only [At_cons, At_nil] at hE g12 g51 hF hhl
 obtain ⟨f3, f21, f22, f23, -⟩ := hE
 by_cases hlt : i < es.length
 ·have hq := hn _ (List.getElem_mem hlt)
  obtain ⟨a, ha1, ha2⟩ := (hs.other (h' := h) fun j hj => hF j (hk j hj)).rd hlt
  have hst := sur_take hlt
  have hb := sur_box (es.take i)
  have htl : (es.take i).length ≤ 20 := by rw [List.length_take]; omega
  generalize hqd : es[i] = q at *
  obtain ⟨qa, qb⟩ := q
  simp only at hq hst
  obtain ⟨hq1, hq2⟩ := hq
  have n5 : ¬ (h0.length + 5 = h0.length + 12) := by omega
  have hba := hb qa
  have hbb := hb qb
  simp only [edA] at ha2
  simp (disch := first | assumption | omega) only [go_sem, ↓reduceIte, f3, f21, f22, f23, hlt, ha1, ha2, g12, n5, hq1, hq2, stC_len, stC_get, stC_set, stC_rd]
  refine ⟨by omega, by omega, ?_⟩
  refine hP (es.length - (i + 1)) _ (by omega) ⟨i + 1, rfl, by omega, by simp only [go_sem, ↓reduceIte, f3, f21, f22], ?_, ?_, fun j hj => ?_, by simp only [length_setH]; omega⟩
  ·rw [getH_setH_self]
   congr 2
   funext y
   rw [hst]
   by_cases h1 : y = qb
   ·subst h1
    simp only [if_true]
    by_cases h2 : y = qa
    ·subst h2
     simp only [if_true]
    ·simp only [if_neg h2]; omega
   ·rw [if_neg h1, if_neg h1]
    split
    ·next h2 => subst h2; omega
    ·omega
  ·rw [getH_setH_ne _ _ _ _ (by omega), getH_setH_ne _ _ _ _ (by omega), getH_setH_ne _ _ _ _ (by omega), getH_setH_ne _ _ _ _ (by omega)]; exact g51
  ·rw [getH_setH_ne _ _ _ _ (by omega), getH_setH_ne _ _ _ _ (by omega), getH_setH_ne _ _ _ _ (by omega), getH_setH_ne _ _ _ _ (by omega)]; exact hF j hj
 ·obtain rfl : i = es.length := by omega
  rw [List.take_length] at g12
  simp (disch := first | assumption | omega) only [go_sem, ↓reduceIte, f3, f21, f22, f23, hlt]
  exact hV _ _ ⟨rfl, g12, g51, hF, hhl⟩
end Go.Ev.YtjcabpldgdafeaaC
namespace Go.Ev.YtjcabpldgdafeaaC
open Go Go.Proofs Go.Ev
attribute [local irreducible] Res.all evC evLoop evOps evOper evOp evFn evCall freeze G GO GV GP GC R
set_option maxRecDepth 100000
abbrev eds (es : List Ed) : AV := .slice (some 2) (es.map edA) false
abbrev stA (N : Int) (es : List Ed) (s : Nat → Int) (p : AV) : AV := .ptr (stC N (eds es) s p) 0
theorem frz_stA (h : Heap) (n : Nat) (N : Int) (es : List Ed) (s : Nat → Int) (p : AV) : freeze h (n + 1) (stA N es s p) = .ret (stA N es s p) := frz_ptr _ _ _ _
theorem ed_get {es : List Ed} {i : Nat} (h : i < es.length) : (es.map edA)[i]? = some (edA es[i]) := by rw [List.getElem?_map, List.getElem?_eq_getElem h]; rfl
def hasE (l : List Int) (x : Nat) : Bool := l.contains (x : Int)
def apB (es : List Ed) (l : List Int) : Bool := es.all (fun e => hasE l e.1 == hasE l e.2) && (decide (1 ≤ es.countP fun e => hasE l e.1) && decide ((es.countP fun e => hasE l e.1) + 1 ≤ es.length))
theorem allB_take {es : List Ed} {p : Ed → Bool} {i : Nat} (h : i < es.length) : (es.take (i + 1)).all p = ((es.take i).all p && p es[i]) := by
 rw [List.take_succ_eq_append_getElem h, List.all_append]; simp
set_option maxHeartbeats 1000000 in
theorem con_apart (N : Int) (es : List Ed) (s : Nat → Int) (p : AV) (l : List Int) (hl : es.length ≤ 20) (hll : l.length ≤ 1000) : Con T 6 68 [stA N es s p, ints l] (.bool (apB es l)) := by
 refine con_intro t68 fun n hn V hV => ?_
 simp (disch := first | assumption | omega) only [c68, stA, go_sem, ↓reduceIte, stC_1]
 refine m_loop (fun M st => ∃ i : Nat, M = es.length - i ∧ i ≤ es.length ∧ At st.env [(0, stA N es s p), (1, ints l), (5, .int .i64 ((es.take i).countP fun e => hasE l e.1 : Nat)), (13, eds es), (14, .int .i64 es.length), (15, .int .i64 i)] ∧ (es.take i).all (fun e => hasE l e.1 == hasE l e.2) = true) es.length (by omega)
  ⟨0, by omega, by omega, by simp only [go_sem, ↓reduceIte, stA, List.length_map]; rfl, rfl⟩ ?_
 rintro M e h hM ⟨i, rfl, hi, hE, hA⟩ P hP
 simp only [At_cons, At_nil] at hE hA
 obtain ⟨f0, f1, f5, f13, f14, f15, -⟩ := hE
 by_cases hlt : i < es.length
 ·have hg := ed_get hlt
  have hat := allB_take (p := fun e => hasE l e.1 == hasE l e.2) hlt
  have hct : ((es.take (i + 1)).countP fun e => hasE l e.1) = ((es.take i).countP fun e => hasE l e.1) + if hasE l es[i].1 then 1 else 0 := by
   rw [List.take_succ_eq_append_getElem hlt, List.countP_append, List.countP_singleton]
  have hcl : ((es.take i).countP fun e => hasE l e.1) ≤ 20 := Nat.le_trans List.countP_le_length (by rw [List.length_take]; omega)
  rw [hA, Bool.true_and] at hat
  generalize hqd : es[i] = q at *
  obtain ⟨qa, qb⟩ := q
  simp only [edA] at hg
  by_cases heq : hasE l qa = hasE l qb
  ·have hb : (hasE l qa == hasE l qb) = true := by simpa using heq
   have hb1 : l.contains (qa : Int) = hasE l qa := rfl
   have hb2 : l.contains (qb : Int) = hasE l qb := rfl
   cases hq : hasE l qa with
   | true =>
    have hq2 := heq ▸ hq
    rw [hq] at hct
    simp (disch := first | assumption | omega) only [go_sem, ↓reduceIte, f0, f1, f5, f13, f14, f15, hlt, hg, cs_has, hb1, hb2, hq, hq2, Bool.false_eq_true]
    exact hP (es.length - (i + 1)) _ (by omega) ⟨i + 1, rfl, by omega, by simp only [go_sem, ↓reduceIte, f0, f1, f13, f14, hct, if_true, Int.natCast_add, Int.natCast_one], by rw [hat]; simp [hq, hq2]⟩
   | false =>
    have hq2 := heq ▸ hq
    rw [hq] at hct
    simp (disch := first | assumption | omega) only [go_sem, ↓reduceIte, f0, f1, f5, f13, f14, f15, hlt, hg, cs_has, hb1, hb2, hq, hq2, Bool.false_eq_true]
    exact hP (es.length - (i + 1)) _ (by omega) ⟨i + 1, rfl, by omega, by simp only [go_sem, ↓reduceIte, f0, f1, f5, f13, f14, hct, Bool.false_eq_true, Nat.add_zero], by rw [hat]; simp [hq, hq2]⟩
  ·have hb1 : l.contains (qa : Int) = hasE l qa := rfl
   have hb2 : l.contains (qb : Int) = hasE l qb := rfl
   have hap : apB es l = false := by
    unfold apB
    have : es.all (fun e => hasE l e.1 == hasE l e.2) = false := by
     rw [List.all_eq_false]
     exact ⟨es[i], List.getElem_mem hlt, by rw [hqd]; simpa using heq⟩
    rw [this, Bool.false_and]
   rw [hap] at hV
   cases hq : hasE l qa with
   | true =>
    have hq2 : hasE l qb = false := by
     cases h : hasE l qb with
     | true => exact absurd (hq.trans h.symm) heq
     | false => rfl
    simp (disch := first | assumption | omega) only [go_sem, ↓reduceIte, f0, f1, f5, f13, f14, f15, hlt, hg, cs_has, hb1, hb2, hq, hq2, Bool.false_eq_true]
    exact hV _ _ (frz_bool _ _ _)
   | false =>
    have hq2 : hasE l qb = true := by
     cases h : hasE l qb with
     | false => exact absurd (hq.trans h.symm) heq
     | true => rfl
    simp (disch := first | assumption | omega) only [go_sem, ↓reduceIte, f0, f1, f5, f13, f14, f15, hlt, hg, cs_has, hb1, hb2, hq, hq2, Bool.false_eq_true]
    exact hV _ _ (frz_bool _ _ _)
 ·obtain rfl : i = es.length := by omega
  simp (disch := first | assumption | omega) only [go_sem, ↓reduceIte, f0, f1, f5, f13, f14, f15, hlt, stA, stC_1, List.length_map, cs_within1]
  refine hV _ _ ?_
  rw [frz_bool, apB]
  rw [List.take_length] at hA ⊢
  rw [hA, Bool.true_and]
  generalize es.countP (fun e => hasE l e.1) = k
  congr 2
  rw [Bool.eq_iff_iff]
  simp
  omega
section
variable {n base : Nat} {Q : EX × St → Prop} {d : Option Nat} {L : List IOper} {ks : List Kont} {e : Env} {h : Heap}
theorem cs_apart {N : Int} {es : List Ed} {s : Nat → Int} {p : AV} {l : List Int} {x : Bool} (hn : 6 ≤ n) (hl : es.length ≤ 20) (hll : l.length ≤ 1000) : GP (evCall T n) base Q d L ks e (evCall T n false (.fn 68) [stA N es s p, .slice none (l.map (.int .i64)) x] h) = GO (evCall T n) base Q L ks ⟨setDst e d (.bool (apB es l)), h⟩ :=
 gp_eq (con_apart N es s p l hl hll) hn (fz_cons (frz_stA _ _ _ _ _ _) (fz_slice _ _ _ _ (fz_nil _))) (or_pb _ _)
end
end Go.Ev.YtjcabpldgdafeaaC
namespace Go.Ev.YtjcabpldgdafeaaC
open Go Go.Proofs Go.Ev
attribute [local irreducible] Res.all evC evLoop evOps evOper evOp evFn evCall freeze G GO GV GP GC R
set_option maxRecDepth 100000
theorem frz_OwnC {lo : Nat} {h : Heap} {v x : AV} {k : IntKind} {l : List Int} {n : Nat} (hx : Own lo h x k l) (hv : v = x ∨ v = capped x) : freeze h (n + 2) v = .ret (.slice none (l.map (.int k)) false) := by
 rcases hv with rfl | rfl
 ·exact frz_Own hx
 ·rcases hx with ⟨rfl, rfl⟩ | ⟨key, ver, _, rfl, hH⟩
  ·exact frz_Own (lo := 0) (own_nil ..)
  ·exact frz_own hH rfl
theorem Own.low {lo lo' : Nat} {h : Heap} {v : AV} {k : IntKind} {l : List Int} (hx : Own lo h v k l) (hl : lo' ≤ lo) : Own lo' h v k l := by
 rcases hx with h1 | ⟨key, ver, h1, h2, h3⟩
 ·exact .inl h1
 ·exact .inr ⟨key, ver, by omega, h2, h3⟩
theorem gp_sortC {T : Cfg} {f n : Nat} {base : Nat} {Q : EX × St → Prop} {d : Option Nat} {L : List IOper} {ks : List Kont} {e : Env} {h : Heap} {lo : Nat} {v x : AV} {l : List Int} (hf : T.fns f = some sortFn) (hx : Own lo h x .i64 l) (hv : v = x ∨ v = capped x) (hl : 0 < l.length) (hl2 : l.length < 1099511627776)
  (H : ∀ h', Own lo h' x .i64 (isort l) → GO (evCall T (n + 1)) base Q L ks ⟨setDst e d (.tuple []), h'⟩) :
  GP (evCall T (n + 1)) base Q d L ks e (evCall T (n + 1) true (.fn f) [v] h) := by
 rcases hx with ⟨rfl, rfl⟩ | ⟨key, ver, hk, rfl, hH⟩
 ·simp at hl
 ·obtain ⟨cap, rfl⟩ : ∃ cap, v = .oslice key ver none 0 l.length cap := by
   rcases hv with rfl | rfl
   ·exact ⟨_, rfl⟩
   ·exact ⟨_, rfl⟩
  have hlen : (isort l).length = l.length := length_isort l
  have e0 : evCall T (n + 1) true (.fn f) [.oslice key ver none 0 l.length cap] h = .ret (.tuple [], setH (h ++ [.none]) key (.cells ver ((isort l).map (.int .i64)))) := by
   have e1 : getH (h ++ [AObj.none]) key = .cells ver (l.map (.int .i64)) := by rw [getH_pad]; exact hH
   have e2 : ((l.map (AV.int .i64)).drop 0).take l.length = l.map (.int .i64) := by rw [List.drop_zero, List.take_of_length_le (by simp)]
   have e3 : ∀ l : List Int, intsOf (l.map (.int .i64)) = some l := fun l => by
    induction l with
    | nil => rfl
    | cons a r ih => simp [intsOf, ih]
   have e4 : ∀ (xs : List AV) (ys : List AV), ys.length = xs.length → splice xs 0 ys = ys := fun xs ys hy => by
    apply List.ext_getElem?
    intro i
    rw [getElem?_splice]
    split
    ·rfl
    ·next h => rw [List.getElem?_eq_none (by omega), List.getElem?_eq_none (by omega)]
   simp only [evCall, hf, if_true, reduceIte, evFn, sortFn, evC, List.replicate, evSort, e1]
   rw [if_pos ⟨trivial, by simp, hl, hl2⟩, e2, e3]
   simp only [Res.bind, mapR, pack]
   rw [e4 _ _ (by simp [hlen])]
  rw [e0, gp_ret]
  exact H _ (.inr ⟨key, ver, hk, by rw [hlen], getH_setH_self _ _ _⟩)
theorem gp_appendC {call : Caller} {base : Nat} {Q : EX × St → Prop} {d : Option Nat} {L : List IOper} {ks : List Kont} {e : Env} {h : Heap} {lo b m kk : Nat} {v x y : AV} {k : IntKind} {l l2 : List Int} (hv : v = x ∨ v = capped x) (hkk : kk = h.length) (hx : Own lo h x k l) (hlo : lo ≤ h.length) (hy : cellsOfSlice h y = some (none, m, l2.map (.int k))) (hm : m = l2.length) (hm0 : 0 < m) (hr : (l.length + m) * b ≤ 1099511627776)
  (H : ∀ x' h', Own lo h' x' k (l ++ l2) → (∀ j, j < lo → getH h' j = getH h j) → h.length ≤ h'.length → (∀ j, j < h.length → keyOf x ≠ some j → getH h' j = getH h j) → (∀ j, keyOf x' = some j → keyOf x = some j ∨ j = h.length) → GO call base Q L ks ⟨setDst e d x', h'⟩) :
  GP call base Q d L ks e (evAppend kk none b v y h) := by
 rcases hv with rfl | rfl
 ·exact gp_append hkk hx hlo hy hm hm0 hr H
 ·exact gp_append_capped hkk hx hlo hy hm hm0 hr fun x' h' h1 h2 h3 h4 => H x' h' h1 (fun j hj => h2 j (by omega)) h3 (fun j hj _ => h2 j hj) (fun j hj => .inr (by rw [h4] at hj; exact (Option.some.inj hj).symm))
def inPt (es : List Ed) (a x : Nat) : Prop := ∀ p : Nat → Bool, (∀ e ∈ es, p e.1 = p e.2) → p a = true → p x = true
open Classical in
noncomputable def ptL (es : List Ed) (a : Nat) : List Nat := (List.range 8).filter fun x => decide (inPt es a x)
theorem mem_ptL {es : List Ed} {a x : Nat} : x ∈ ptL es a ↔ x < 8 ∧ inPt es a x := by simp [ptL]
theorem inPt_self (es : List Ed) (a : Nat) : inPt es a a := fun _ _ h => h
theorem inPt_fwd {es : List Ed} {a : Nat} {e : Ed} (he : e ∈ es) : inPt es a e.1 ↔ inPt es a e.2 := ⟨fun h p hp hx => by rw [← hp e he]; exact h p hp hx, fun h p hp hx => by rw [hp e he]; exact h p hp hx⟩
theorem nI4_inj {l : List Nat} (h : l.Nodup) : (nI4 l).Nodup := by
 induction l with
 | nil => exact List.nodup_nil
 | cons a r ih =>
  rw [List.nodup_cons] at h
  simp only [nI4, List.map_cons, List.nodup_cons]
  refine ⟨fun hm => ?_, ih h.2⟩
  obtain ⟨b, hb, e⟩ := List.mem_map.1 hm
  have : b = a := by omega
  exact h.1 (this ▸ hb)
theorem mem_nI4 {l : List Nat} {x : Nat} : (x : Int) ∈ nI4 l ↔ x ∈ l := by
 simp only [nI4, List.mem_map]
 constructor
 ·rintro ⟨b, hb, e⟩
  have : b = x := by omega
  exact this ▸ hb
 ·exact fun h => ⟨x, h, rfl⟩
theorem nI4_len (l : List Nat) : (nI4 l).length = l.length := by simp [nI4]
theorem sorted_eq : ∀ {l k : List Int}, l.Pairwise (· ≤ ·) → k.Pairwise (· ≤ ·) → l.Perm k → l = k
 | [], k, _, _, h => (List.nil_perm.1 h).symm
 | a :: l, [], _, _, h => absurd h.length_eq (by simp)
 | a :: l, b :: k, h1, h2, h => by
  rw [List.pairwise_cons] at h1 h2
  have hab : a = b := by
   have ha : a ∈ b :: k := h.mem_iff.1 List.mem_cons_self
   have hb : b ∈ a :: l := h.mem_iff.2 List.mem_cons_self
   rcases List.mem_cons.1 ha with h3 | h3
   ·exact h3
   ·rcases List.mem_cons.1 hb with h4 | h4
    ·exact h4.symm
    ·have := h1.1 b h4; have := h2.1 a h3; omega
  subst hab
  rw [sorted_eq h1.2 h2.2 (List.Perm.cons_inv h)]
theorem isort_ptL {es : List Ed} {a : Nat} {l : List Nat} (hn : l.Nodup) (hm : ∀ x, x ∈ l ↔ x ∈ ptL es a) : isort (nI4 l) = nI4 (ptL es a) := by
 have hp : (ptL es a).Nodup := List.Nodup.sublist List.filter_sublist List.nodup_range
 refine sorted_eq (isort_sorted _) ?_ ((isort_perm _).trans (List.Perm.map _ ((List.perm_ext_iff_of_nodup hn hp).2 hm)))
 unfold nI4 ptL
 rw [List.pairwise_map]
 refine List.Pairwise.sublist List.filter_sublist (List.Pairwise.imp (R := (· < ·)) (fun h => by omega) List.pairwise_lt_range)
structure InPt (es : List Ed) (a : Nat) (l : List Nat) : Prop where
 nd : l.Nodup
 lt : ∀ x ∈ l, x < 8
 sub : ∀ x ∈ l, inPt es a x
 mem : a ∈ l
theorem InPt.len {es : List Ed} {a : Nat} {l : List Nat} (h : InPt es a l) : l.length ≤ 8 := by
 have := List.Nodup.length_le_of_subset (l₂ := List.range 8) h.nd fun x hx => List.mem_range.2 (h.lt x hx)
 simpa using this
theorem InPt.push {es : List Ed} {a : Nat} {l : List Nat} (h : InPt es a l) {x : Nat} (h1 : x < 8) (h2 : inPt es a x) (h3 : x ∉ l) : InPt es a (l ++ [x]) where
 nd := by
  rw [List.nodup_append]
  refine ⟨h.nd, by simp, fun y hy z hz e => ?_⟩
  obtain rfl : z = x := by simpa using hz
  exact h3 (e ▸ hy)
 lt := fun y hy => by
  rcases List.mem_append.1 hy with hy | hy
  ·exact h.lt y hy
  ·obtain rfl : y = x := by simpa using hy
   exact h1
 sub := fun y hy => by
  rcases List.mem_append.1 hy with hy | hy
  ·exact h.sub y hy
  ·obtain rfl : y = x := by simpa using hy
   exact h2
 mem := List.mem_append_left _ h.mem
theorem InPt.done {es : List Ed} {a : Nat} {l : List Nat} (h : InPt es a l) (hc : ∀ e ∈ es, (e.1 ∈ l ↔ e.2 ∈ l)) (x : Nat) : x ∈ l ↔ x ∈ ptL es a := by
 rw [mem_ptL]
 refine ⟨fun hx => ⟨h.lt x hx, h.sub x hx⟩, fun ⟨_, hx⟩ => ?_⟩
 have := hx (fun y => decide (y ∈ l)) (fun e he => by
  rw [Bool.eq_iff_iff]; simpa using hc e he) (by simpa using h.mem)
 simpa using this
set_option maxHeartbeats 2000000 in
theorem part_walk (N : Int) (es : List Ed) (s : Nat → Int) (p : AV) (a : Nat) (hl : es.length ≤ 20) (hn : ∀ q ∈ es, q.1 < 8 ∧ q.2 < 8) (ha : a < 8) (n : Nat) (hn5 : 5 ≤ n) (h0 : Heap) {V : AV × Heap → Prop} (hV : ∀ v x h', Own (h0.length + 69) h' x .i64 (nI4 (ptL es a)) → (v = x ∨ v = capped x) → V (v, h')) :
  G (evCall T n) h0.length (Fin c66.results V) c66.body [] ⟨[stA N es s p, .int .i64 a], h0 ++ List.replicate 69 .none⟩ := by
 have hb69 : getH (h0 ++ List.replicate 69 AObj.none) (h0.length + 69) = .none := by rw [getH_append_none]; exact getH_ge _ _ (by omega)
 simp (disch := first | assumption | omega) only [c66, go_sem, ↓reduceIte, hb69]
 refine m_loop (fun M st => ∃ (i : Nat) (l : List Nat) (v x : AV), M = (8 - l.length) * 100 + (es.length - i) ∧ i ≤ es.length ∧ At st.env [(0, stA N es s p), (5, v), (6, .int .i64 i)] ∧ Own (h0.length + 69) st.heap x .i64 (nI4 l) ∧ (v = x ∨ v = capped x) ∧ h0.length + 69 ≤ st.heap.length ∧ InPt es a l ∧ ∀ (j : Nat) (hj : j < es.length), j < i → (es[j].1 ∈ l ↔ es[j].2 ∈ l)) (7 * 100 + es.length) (by omega)
  ⟨0, [a], .oslice (h0.length + 69) 0 none 0 1 (some 1), .oslice (h0.length + 69) 0 none 0 1 none, by simp, by omega, by simp only [go_sem, ↓reduceIte], .inr ⟨h0.length + 69, 0, by omega, rfl, by simp only [go_sem, ↓reduceIte]; rfl⟩, .inr rfl, by simp only [length_setH, List.length_replicate]; omega, ⟨by simp, by simpa using ha, by simpa using inPt_self es a, by simp⟩, fun j _ h => by omega⟩ ?_
 rintro M e h hM ⟨i, l, v, x, rfl, hi, hE, hO, hvx, hh69, hI, hcl⟩ P hP
 simp only [At_cons, At_nil] at hE hO hh69
 obtain ⟨f0, f5, f6, -⟩ := hE
 have hl8 := hI.len
 have hnl : (nI4 l).length ≤ 1000 := by rw [nI4_len]; omega
 by_cases hlt : i < es.length
 ·have hg := ed_get hlt
  have hq := hn _ (List.getElem_mem hlt)
  have hin := inPt_fwd (a := a) (List.getElem_mem hlt)
  have hcl' : ∀ (h0 : es[i].1 ∈ l ↔ es[i].2 ∈ l) (j : Nat) (hj : j < es.length), j < i + 1 → (es[j].1 ∈ l ↔ es[j].2 ∈ l) := fun h0 j hj hji => by
   by_cases hji2 : j < i
   ·exact hcl j hj hji2
   ·obtain rfl : j = i := by omega
    exact h0
  generalize hqd : es[i] = q at *
  obtain ⟨qa, qb⟩ := q
  simp only at hq hin hcl'
  simp only [edA] at hg
  obtain ⟨hq1, hq2⟩ := hq
  simp (disch := first | assumption | omega) only [go_sem, ↓reduceIte, f0, f5, f6, stA, stC_1, hlt, List.length_map]
  refine m_loop (fun M st => ∃ k : Nat, M = 2 - k ∧ k ≤ 2 ∧ At st.env [(0, stA N es s p), (5, v), (6, .int .i64 i), (20, .int .i64 k)] ∧ st.heap = h ∧ (1 ≤ k → qa ∈ l → qb ∈ l) ∧ (2 ≤ k → qb ∈ l → qa ∈ l)) 2 (by omega)
   ⟨0, by omega, by omega, by simp only [go_sem, ↓reduceIte, f0, f5, f6, stA], rfl, fun h => by omega, fun h => by omega⟩ ?_
  rintro M e2 h2 hM2 ⟨k, rfl, hk, hE2, rfl, hk1, hk2⟩ P2 hP2
  simp only [At_cons, At_nil] at hE2 hO hh69
  obtain ⟨f0, f5, f6, f20, -⟩ := hE2
  by_cases hlt2 : k < 2
  ·have hd2 : decide ((k : Int) < 2) = true := by simp; omega
   obtain ⟨u, hu⟩ : ∃ u, u = if k = 0 then qa else qb := ⟨_, rfl⟩
   obtain ⟨w, hw⟩ : ∃ w, w = if k = 0 then qb else qa := ⟨_, rfl⟩
   have hn1k : asNat (.int .i64 (1 - (k : Int))) = some (1 - k) := by
    rw [show (1 : Int) - (k : Int) = ((1 - k : Nat) : Int) by omega]; exact asNat_nat _ _
   have h1k : 1 - k < 2 := by omega
   have hug : [AV.int IntKind.i64 (qa : Int), AV.int IntKind.i64 (qb : Int)][k]? = some (.int .i64 (u : Nat)) := by
    have : k = 0 ∨ k = 1 := by omega
    rcases this with rfl | rfl <;> simp [hu]
   have hwg : [AV.int IntKind.i64 (qa : Int), AV.int IntKind.i64 (qb : Int)][1 - k]? = some (.int .i64 (w : Nat)) := by
    have : k = 0 ∨ k = 1 := by omega
    rcases this with rfl | rfl <;> simp [hw]
   have hw8 : w < 8 := by rw [hw]; split <;> assumption
   have huw : inPt es a u → inPt es a w := by rw [hu, hw]; split; exact hin.1; exact hin.2
   have hfz : ∀ h : Heap, Own (h0.length + 69) h x .i64 (nI4 l) → ∀ y : Int, fz h [v, .int .i64 y] = .ret [ints (nI4 l), .int .i64 y] := fun h ho y => fz_cons (frz_OwnC ho hvx) (fz_int _ _ _ (fz_nil _))
   simp (disch := first | assumption | omega) only [go_sem, ↓reduceIte, f0, f5, f6, f20, stA, stC_1, hlt, hlt2, hd2, hg, hug, ixAA_ptr]
   refine gp_con (con_has (nI4 l) u hnl) (by omega) (hfz _ hO _) (or_pb _ _) ?_
   by_cases hul : u ∈ l
   ·have hc1 : (nI4 l).contains (u : Int) = true := by simpa using mem_nI4.2 hul
    simp (disch := first | assumption | omega) only [go_sem, ↓reduceIte, f0, f5, f6, f20, stA, stC_1, hlt, hlt2, hd2, hg, hug, hwg, hn1k, h1k, hc1, ixAA_ptr]
    refine gp_con (con_has (nI4 l) w hnl) (by omega) (hfz _ hO _) (or_pb _ _) ?_
    by_cases hwl : w ∈ l
    ·have hc2 : (nI4 l).contains (w : Int) = true := by simpa using mem_nI4.2 hwl
     simp (disch := first | assumption | omega) only [go_sem, ↓reduceIte, f0, f5, f6, f20, hc2, Bool.not_true, Bool.false_eq_true]
     refine hP2 (2 - (k + 1)) _ (by omega) ⟨k + 1, rfl, by omega, by simp only [go_sem, ↓reduceIte, f0, f5, f6], rfl, fun h1 h2 => ?_, fun h1 h2 => ?_⟩
     ·by_cases hk0 : k = 0
      ·rw [hw, if_pos hk0] at hwl; exact hwl
      ·exact hk1 (by omega) h2
     ·have : k = 1 := by omega
      rw [hw, if_neg (by omega)] at hwl; exact hwl
    ·have hc2 : (nI4 l).contains (w : Int) = false := by simpa using fun hm => hwl (mem_nI4.1 hm)
     have hnH : getH h2 h2.length = .none := getH_ge _ _ (Nat.le_refl _)
     simp (disch := first | assumption | omega) only [go_sem, ↓reduceIte, f0, f5, f6, f20, hc2, Bool.not_false, stA, stC_1, hlt, hg, hwg, hn1k, h1k, ixAA_ptr, hnH, next_none]
     have hO2 : ∀ c : AObj, Own (h0.length + 69) (setH h2 h2.length c) x .i64 (nI4 l) := fun c => hO.other fun j hj => getH_setH_ne _ _ _ _ (fun h => by
      rcases hO with ⟨_, rfl⟩ | ⟨key, ver, hk, rfl, hH⟩
      ·simp [keyOf] at hj
      ·have := getH_lt hH (by simp)
       simp [keyOf] at hj
       omega)
     refine gp_appendC (l2 := [(w : Int)]) (m := 1) hvx (by rw [length_setH]) (hO2 _) (by rw [length_setH]; omega) (by simp only [cellsOfSlice, getH_setH_self]; rfl) rfl (by omega) (by rw [nI4_len]; omega) fun x' h' hO' hF hL hF2 hF3 => ?_
     rw [length_setH] at hL
     simp (disch := first | assumption | omega) only [go_sem, ↓reduceIte, f0, f5, f6]
     refine hP ((8 - (l ++ [w]).length) * 100 + (es.length - 0)) _ ?_ ⟨0, l ++ [w], x', x', rfl, by omega, by simp only [go_sem, ↓reduceIte, f0]; rfl, by simpa [nI4] using hO', .inl rfl, by simp only; omega, hI.push hw8 (huw (hI.sub u hul)) hwl, fun j _ h => by omega⟩
     have := (hI.push hw8 (huw (hI.sub u hul)) hwl).len
     rw [List.length_append, List.length_singleton] at this ⊢
     omega
   ·have hc1 : (nI4 l).contains (u : Int) = false := by simpa using fun hm => hul (mem_nI4.1 hm)
    simp (disch := first | assumption | omega) only [go_sem, ↓reduceIte, f0, f5, f6, f20, hc1, Bool.false_eq_true]
    refine hP2 (2 - (k + 1)) _ (by omega) ⟨k + 1, rfl, by omega, by simp only [go_sem, ↓reduceIte, f0, f5, f6], rfl, fun h1 h2 => ?_, fun h1 h2 => ?_⟩
    ·by_cases hk0 : k = 0
     ·rw [hu, if_pos hk0] at hul; exact absurd h2 hul
     ·exact hk1 (by omega) h2
    ·have : k = 1 := by omega
     rw [hu, if_neg (by omega)] at hul; exact absurd h2 hul
  ·obtain rfl : k = 2 := by omega
   have hd2 : decide ((2 : Int) < 2) = false := by decide
   simp (disch := first | assumption | omega) only [go_sem, ↓reduceIte, f0, f5, f6, f20, hd2, Bool.false_eq_true]
   exact hP ((8 - l.length) * 100 + (es.length - (i + 1))) _ (by omega) ⟨i + 1, l, v, x, rfl, by omega, by simp only [go_sem, ↓reduceIte, f0, f5], hO, hvx, hh69, hI, hcl' ⟨hk1 (by omega), hk2 (by omega)⟩⟩
 ·obtain rfl : i = es.length := by omega
  have hm := hI.done fun e he => by
   obtain ⟨j, hj, rfl⟩ := List.mem_iff_getElem.1 he
   exact hcl j hj hj
  simp (disch := first | assumption | omega) only [go_sem, ↓reduceIte, f0, f5, f6, stA, stC_1, hlt, List.length_map]
  obtain ⟨n, rfl⟩ : ∃ n', n = n' + 1 := ⟨n - 1, by omega⟩
  have hpos : 0 < l.length := List.length_pos_of_mem hI.mem
  refine gp_sortC t88 hO hvx (by rw [nI4_len]; omega) (by omega) fun h2 hz => ?_
  simp (disch := first | assumption | omega) only [go_sem, ↓reduceIte, f5]
  rw [isort_ptL hI.nd hm] at hz
  exact hV _ _ _ hz hvx
theorem con_part (N : Int) (es : List Ed) (s : Nat → Int) (p : AV) (a : Nat) (hl : es.length ≤ 20) (hn : ∀ q ∈ es, q.1 < 8 ∧ q.2 < 8) (ha : a < 8) : Con T 6 66 [stA N es s p, .int .i64 a] (ints (nI4 (ptL es a))) :=
 con_intro t66 fun n hn5 V hV => part_walk N es s p a hl hn ha n hn5 [] fun v x h' ho hv => hV v h' (frz_OwnC ho hv)
theorem cs_part {n base : Nat} {Q : EX × St → Prop} {d : Option Nat} {L : List IOper} {ks : List Kont} {e : Env} {h : Heap} {N : Int} {es : List Ed} {s : Nat → Int} {p : AV} {a : Nat} (hn : 6 ≤ n) (hl : es.length ≤ 20) (hn8 : ∀ q ∈ es, q.1 < 8 ∧ q.2 < 8) (ha : a < 8) : GP (evCall T n) base Q d L ks e (evCall T n false (.fn 66) [stA N es s p, .int .i64 a] h) = GO (evCall T n) base Q L ks ⟨setDst e d (ints (nI4 (ptL es a))), h⟩ :=
 gp_eq (con_part N es s p a hl hn8 ha) hn (fz_cons (frz_stA _ _ _ _ _ _) (fz_int _ _ _ (fz_nil _))) rfl
end Go.Ev.YtjcabpldgdafeaaC
namespace Go.Ev.YtjcabpldgdafeaaC
open Go Go.Proofs Go.Ev
attribute [local irreducible] Res.all evC evLoop evOps evOper evOp evFn evCall freeze G GO GV GP GC R
set_option maxRecDepth 100000
def eI (q : Ed) : Int × Int := ((q.1 : Int), (q.2 : Int))
theorem map_eI (es : List Ed) : (es.map eI).map pA = es.map edA := by rw [List.map_map]; rfl
def upU (s : Nat → Int) : Nat → Int
 | 0 => 0
 | v + 1 => upU s v + if 0 < s v then s v else 0
def atU (s : Nat → Int) : Nat → Nat
 | 0 => 0
 | v + 1 => if 0 < s v then v else atU s v
theorem upU_box {s : Nat → Int} (hs : ∀ x, -20 ≤ s x ∧ s x ≤ 20) : ∀ v, 0 ≤ upU s v ∧ upU s v ≤ 20 * v
 | 0 => by simp [upU]
 | v + 1 => by
  have := upU_box hs v
  have := hs v
  simp only [upU]
  split <;> omega
noncomputable def strL (N : Nat) (es : List Ed) : List Nat :=
 if apB es (nI4 (ptL es (rootE es))) = true then []
 else if upU (sur es) 8 = 0 then (List.range N).filter fun v => es.any fun q => decide (q.1 = v)
 else if upU (sur es) 8 = 1 then [atU (sur es) 8]
 else []
theorem con_from (n : Nat) (x : Int × Int) : Con T 1 81 ([] ++ [pA x] ++ [.ptr [.int .i64 n] 0]) (.bool (x.1 == (n : Int))) := by
 refine con_intro t81 fun m hm V hV => ?_
 simp (disch := first | assumption | omega) only [c81, go_sem, ↓reduceIte, pA, List.cons_append, List.nil_append]
 exact hV _ _ (frz_bool _ _ _)
theorem sur_20 {es : List Ed} (hl : es.length ≤ 20) (x : Nat) : -20 ≤ sur es x ∧ sur es x ≤ 20 := by
 have := sur_box es x; omega
theorem fresh_Own {lo : Nat} {h : Heap} {v : AV} {k : IntKind} {l : List Int} {n : Nat} (ho : Own lo h v k l) : freshB h (n + 2) v = true := by
 rcases ho with ⟨_, rfl⟩ | ⟨key, ver, _, rfl, hH⟩
 ·exact fresh_nil _ _ _ _
 ·exact fresh_own hH
set_option maxHeartbeats 2000000 in
theorem conF_starts (N : Nat) (es : List Ed) (p : AV) (h0 : es ≠ []) (hN : N ≤ 8) (hl : es.length ≤ 20) (hn : ∀ q ∈ es, q.1 < 8 ∧ q.2 < 8) : ConF T 7 58 [stA N es (sur es) p] (ints (nI4 (strL N es))) := by
 refine conF_intro t58 fun n hn6 V hV => ?_
 have hs := sur_20 hl
 have hpos : 0 < es.length := List.length_pos_iff.2 h0
 have hg := ed_get hpos
 have hroot : es[0].1 = rootE es := by cases es with | nil => exact absurd rfl h0 | cons q r => rfl
 have hr8 : rootE es < 8 := by rw [← hroot]; exact (hn _ (List.getElem_mem hpos)).1
 have hpl : (nI4 (ptL es (rootE es))).length ≤ 1000 := by
  have : (ptL es (rootE es)).length ≤ (List.range 8).length := List.length_filter_le _ _
  rw [nI4_len]; simp at this; omega
 generalize hqd : es[0] = q at *
 obtain ⟨qa, qb⟩ := q
 simp only at hroot
 simp only [edA] at hg
 rw [hroot] at hg
 have hap : ∀ b, apB es (nI4 (ptL es (rootE es))) = b → (apB es (nI4 (ptL es (rootE es)))) = b := fun _ h => h
 by_cases ha : apB es (nI4 (ptL es (rootE es))) = true
 ·simp (disch := first | assumption | omega) only [c58, go_sem, ↓reduceIte, stA, stC_1, hg]
  simp (disch := first | assumption | omega) only [go_sem, ↓reduceIte, cs_part, cs_apart, ha]
  refine hV _ _ ?_ (fresh_nil _ _ _ _)
  rw [strL, if_pos ha]
  exact frz_slice _ _ _ _ _
 ·have ha' : apB es (nI4 (ptL es (rootE es))) = false := by simpa using ha
  have hst : strL N es = if upU (sur es) 8 = 0 then (List.range N).filter (fun v => es.any fun q => decide (q.1 = v)) else if upU (sur es) 8 = 1 then [atU (sur es) 8] else [] := by rw [strL, if_neg ha]
  simp (disch := first | assumption | omega) only [c58, go_sem, ↓reduceIte, stA, stC_1, hg, cs_part, cs_apart, ha', Bool.false_eq_true, stC_len, stC_arr]
  refine m_loop (fun M st => ∃ v : Nat, M = 8 - v ∧ v ≤ 8 ∧ At st.env [(0, stA N es (sur es) p), (3, .int .i64 (upU (sur es) v)), (4, .int .i64 (atU (sur es) v)), (24, .agg (sr8 (sur es))), (25, .int .i64 v)] ∧ 71 ≤ st.heap.length) 8 (by omega)
   ⟨0, by omega, by omega, by simp only [go_sem, ↓reduceIte]; simp only [upU, atU]; simp, by simp only [length_setH, List.length_replicate]; omega⟩ ?_
  rintro M e h hM ⟨v, rfl, hv, hE, hh⟩ P hP
  simp only [At_cons, At_nil] at hE hh
  obtain ⟨f0, f3, f4, f24, f25, -⟩ := hE
  by_cases hlt : v < 8
  ·have hd : decide ((v : Int) < 8) = true := by simp; omega
   have hgv := sr8_get (sur es) hlt
   have hbv := hs v
   have hub := upU_box hs v
   by_cases hp : 0 < sur es v
   ·have hdp : decide (sur es v > 0) = true := by simpa using hp
    simp (disch := first | assumption | omega) only [go_sem, ↓reduceIte, f0, f3, f4, f24, f25, hlt, hd, hgv, hdp]
    exact hP (8 - (v + 1)) _ (by omega) ⟨v + 1, rfl, by omega, by simp only [go_sem, ↓reduceIte, f0, f24, upU, atU, if_pos hp], hh⟩
   ·have hdp : decide (sur es v > 0) = false := by simpa using hp
    simp (disch := first | assumption | omega) only [go_sem, ↓reduceIte, f0, f3, f4, f24, f25, hlt, hd, hgv, hdp, Bool.false_eq_true]
    exact hP (8 - (v + 1)) _ (by omega) ⟨v + 1, rfl, by omega, by simp only [go_sem, ↓reduceIte, f0, f3, f4, f24, upU, atU, if_neg hp, Int.add_zero], hh⟩
  ·obtain rfl : v = 8 := by omega
   have hd : decide ((8 : Int) < 8) = false := by decide
   by_cases hu0 : upU (sur es) 8 = 0
   ·have hb0 : (upU (sur es) 8 == 0) = true := by simpa using hu0
    rw [hu0] at f3
    rw [if_pos hu0] at hst
    have hb0 : ((0 : Int) == 0) = true := rfl
    simp (disch := first | assumption | omega) only [go_sem, ↓reduceIte, f0, f3, f4, f24, f25, hd, hb0, Bool.false_eq_true, stA, stC_0]
    obtain ⟨fr, hfr⟩ : ∃ fr : Nat → Bool, fr = fun v => es.any fun q => decide (q.1 = v) := ⟨_, rfl⟩
    rw [← hfr] at hst
    refine m_loop (fun M st => ∃ (v : Nat) (x : AV), M = N - v ∧ v ≤ N ∧ At st.env [(0, stA N es (sur es) p), (7, x), (43, .int .i64 N), (44, .int .i64 v)] ∧ Own 71 st.heap x .i64 (nI4 ((List.range v).filter fr)) ∧ 71 ≤ st.heap.length) N (by omega)
     ⟨0, .slice none [] true, by omega, by omega, by simp only [go_sem, ↓reduceIte, f0], own_nil .., hh⟩ ?_
    rintro M e2 h2 hM2 ⟨v, x, rfl, hv2, hE2, hO, hh2⟩ P2 hP2
    simp only [At_cons, At_nil] at hE2 hO hh2
    obtain ⟨f0, f7, f43, f44, -⟩ := hE2
    by_cases hlt2 : v < N
    ·have hvN : (v : Int) < (N : Int) := by omega
     have hO2 : ∀ c c' : AObj, Own 71 (setH (setH h2 8 c) 8 c') x .i64 (nI4 ((List.range v).filter fr)) := fun c c' => (hO.setH (by omega)).setH (by omega)
     have hfl : ((List.range v).filter fr).length ≤ 8 := by
      have := List.length_filter_le fr (List.range v)
      simp at this; omega
     have hrs : (List.range (v + 1)).filter fr = (List.range v).filter fr ++ if fr v = true then [v] else [] := by
      rw [List.range_succ, List.filter_append]
      congr 1
      by_cases hf : fr v = true
      ·rw [if_pos hf, List.filter_cons, if_pos hf]; rfl
      ·rw [if_neg hf, List.filter_cons, if_neg hf]; rfl
     have hcc := con_conP (k := 1) (f := 81) (first := []) (cap := [.ptr [.int .i64 v] 0]) (p := fun x : Int × Int => (x.1 == (v : Int))) (es.map eI) (by simp; omega) (fun x _ => con_from v x) (fun h x => fz_cons (frz_pA _ _ _) (fz_cons (frz_ptr _ _ _ _) (fz_nil _))) (fun h => frz_clo (mz_nil _ _) (mz_cons (frz_ptr _ _ _ _) (mz_nil _ _)))
     have hany : (es.map eI).any (fun x : Int × Int => (x.1 == (v : Int))) = fr v := by
      rw [List.any_map, hfr]
      congr 1
      funext q
      rw [Bool.eq_iff_iff]
      simp only [Function.comp, eI, beq_iff_eq, decide_eq_true_eq]
      omega
     unfold prs at hcc
     rw [map_eI, hany] at hcc
     have hlA := hO.lenA
     rw [nI4_len] at hlA
     simp (disch := first | assumption | omega) only [go_sem, ↓reduceIte, f0, f7, f43, f44, hlt2, stA, stC_1]
     refine gp_con hcc (by omega) (fz_slice _ _ _ _ (fz_cons (frz_clo (mz_nil _ _) (mz_cons (frz_optr (cs := [.int .i64 v]) (by simp only [go_sem, ↓reduceIte]) (mz_cons (frz_int _ _ _ _) (mz_nil _ _))) (mz_nil _ _))) (fz_nil _))) (or_pb _ _) ?_
     by_cases hf : fr v = true
     ·rw [if_pos hf] at hrs
      simp (disch := first | assumption | omega) only [go_sem, ↓reduceIte, f0, f7, f43, f44, hlt2, hf, hlA]
      rw [slA_full hO (k1 := .i64) (k2 := .i64) (by simp only [go_sem, ↓reduceIte, nI4_len]) (by simp only [go_sem, ↓reduceIte, nI4_len])]
      simp (disch := first | assumption | omega) only [go_sem, ↓reduceIte, f0, f7, f43, f44]
      refine gp_append_capped (l2 := [(v : Int)]) (m := 1) (by simp only [length_setH]; omega) (hO2 _ _) (by simp only [length_setH]; omega) rfl rfl (by omega) (by rw [nI4_len]; omega) fun x' h' hO' hF hL hK => ?_
      simp only [length_setH] at hL
      simp (disch := first | assumption | omega) only [go_sem, ↓reduceIte, f0, f7, f43, f44]
      exact hP2 (N - (v + 1)) _ (by omega) ⟨v + 1, x', rfl, by omega, by simp only [go_sem, ↓reduceIte, f0, f43], by rw [hrs]; simpa [nI4] using hO', by show 71 ≤ h'.length; omega⟩
     ·have hf' : fr v = false := by simpa using hf
      rw [if_neg hf, List.append_nil] at hrs
      simp (disch := first | assumption | omega) only [go_sem, ↓reduceIte, f0, f7, f43, f44, hlt2, hf', Bool.false_eq_true]
      exact hP2 (N - (v + 1)) _ (by omega) ⟨v + 1, x, rfl, by omega, by simp only [go_sem, ↓reduceIte, f0, f7, f43], by rw [hrs]; exact hO2 _ _, by simp only [length_setH]; omega⟩
    ·obtain rfl : v = N := by omega
     simp (disch := first | assumption | omega) only [go_sem, ↓reduceIte, f0, f7, f43, f44, hlt2]
     refine hV _ _ ?_ (fresh_Own hO)
     rw [frz_Own hO, hst]
   ·have hb0 : (upU (sur es) 8 == 0) = false := by simpa using hu0
    rw [if_neg hu0] at hst
    by_cases hu1 : upU (sur es) 8 = 1
    ·have hb1 : (upU (sur es) 8 == 1) = true := by simpa using hu1
     rw [if_pos hu1] at hst
     simp (disch := first | assumption | omega) only [go_sem, ↓reduceIte, f0, f3, f4, f24, f25, hd, hb0, hb1, Bool.false_eq_true]
     refine gp_append1 (lo := 0) (b := 8) rfl (own_nil ..) (by omega) (by simp) fun x' h' hO' hF hL' _ _ => ?_
     simp (disch := first | assumption | omega) only [go_sem, ↓reduceIte]
     refine hV _ _ ?_ (fresh_Own hO')
     rw [frz_Own hO', hst]; rfl
    ·have hb1 : (upU (sur es) 8 == 1) = false := by simpa using hu1
     rw [if_neg hu1] at hst
     simp (disch := first | assumption | omega) only [go_sem, ↓reduceIte, f0, f3, f4, f24, f25, hd, hb0, hb1, Bool.false_eq_true]
     refine hV _ _ ?_ (fresh_nil _ _ _ _)
     rw [hst]
     exact frz_slice _ _ _ _ _
theorem con_starts (N : Nat) (es : List Ed) (p : AV) (h0 : es ≠ []) (hN : N ≤ 8) (hl : es.length ≤ 20) (hn : ∀ q ∈ es, q.1 < 8 ∧ q.2 < 8) : Con T 7 58 [stA N es (sur es) p] (ints (nI4 (strL N es))) := (conF_starts N es p h0 hN hl hn).con
theorem cs_starts {n base : Nat} {Q : EX × St → Prop} {d : Option Nat} {L : List IOper} {ks : List Kont} {e : Env} {h : Heap} {N : Nat} {es : List Ed} {p : AV} (hn : 7 ≤ n) (h0 : es ≠ []) (hN : N ≤ 8) (hl : es.length ≤ 20) (hn8 : ∀ q ∈ es, q.1 < 8 ∧ q.2 < 8) : GP (evCall T n) base Q d L ks e (evCall T n false (.fn 58) [stA N es (sur es) p] h) = GO (evCall T n) base Q L ks ⟨setDst e d (ints (nI4 (strL N es))), h⟩ :=
 gp_eq (con_starts N es p h0 hN hl hn8) hn (fz_cons (frz_stA _ _ _ _ _ _) (fz_nil _)) rfl
end Go.Ev.YtjcabpldgdafeaaC
namespace Go.Ev.YtjcabpldgdafeaaC
open Go Go.Proofs Go.Ev
attribute [local irreducible] Res.all evC evLoop evOps evOper evOp evFn evCall freeze G GO GV GP GC R
set_option maxRecDepth 100000
def bkN (N : Nat) (es : List Ed) : Bk := ⟨N, es.map eI⟩
structure OkB (N : Nat) (es : List Ed) : Prop where
 n1 : 1 ≤ N
 n8 : N ≤ 8
 ne : es ≠ []
 le : es.length ≤ 14
 lt : ∀ q ∈ es, q.1 < N ∧ q.2 < N
theorem OkB.lt8 {N : Nat} {es : List Ed} (h : OkB N es) : ∀ q ∈ es, q.1 < 8 ∧ q.2 < 8 := fun q hq => by
 have := h.lt q hq; have := h.n8; omega
theorem OkB.le20 {N : Nat} {es : List Ed} (h : OkB N es) : es.length ≤ 20 := by have := h.le; omega
theorem chk_ok {b : Bk} (h : chkB b = 0) : ∃ N es, b = bkN N es ∧ OkB N es := by
 obtain ⟨N, l⟩ := b
 unfold chkB at h
 split at h
 ·omega
 ·next g =>
  simp only at g h
  split at h
  ·omega
  ·next g2 =>
   obtain ⟨N, rfl⟩ : ∃ n : Nat, N = (n : Int) := ⟨N.toNat, by omega⟩
   have hall : ∀ q ∈ l, (0 ≤ q.1 ∧ q.1 < N) ∧ (0 ≤ q.2 ∧ q.2 < N) := fun q hq => by
    have : strayB N q = false := by
     cases hs : strayB N q with
     | false => rfl
     | true => exact absurd (List.any_eq_true.2 ⟨q, hq, hs⟩) g2
    simpa [strayB, noteB] using this
   refine ⟨N, l.map fun q => (q.1.toNat, q.2.toNat), ?_, by omega, by omega, fun h0 => ?_, by simp; omega, fun q hq => ?_⟩
   ·unfold bkN
    congr 1
    rw [List.map_map]
    conv => lhs; rw [← List.map_id l]
    apply List.map_congr_left
    intro q hq
    have := hall q hq
    simp only [Function.comp, eI, id]
    ext
    ·simp only; omega
    ·simp only; omega
   ·have := congrArg List.length h0
    simp at this
    subst this
    simp at g
   ·obtain ⟨q', hq', rfl⟩ := List.mem_map.1 hq
    have := hall q' hq'
    simp only; omega
theorem ok_chk {N : Nat} {es : List Ed} (h : OkB N es) : chkB (bkN N es) = 0 := by
 obtain ⟨h1, h2, h3, h4, h5⟩ := h
 have : 0 < es.length := List.length_pos_iff.2 h3
 unfold chkB bkN
 rw [if_neg (by simp only [List.length_map]; omega), if_neg]
 intro ha
 obtain ⟨q, hq, hs⟩ := List.any_eq_true.1 ha
 obtain ⟨e, he, rfl⟩ := List.mem_map.1 hq
 have := h5 e he
 simp [strayB, noteB, eI] at hs
 omega
theorem bkN_A (N : Nat) (es : List Ed) : bkA (bkN N es) = .agg [.int .i64 N, eds es] := by simp only [bkN, bkA, prs, map_eI]
abbrev zS (es : List Ed) : AV := ints (List.replicate es.length 0)
theorem zer_map (m : Nat) : zer m = (List.replicate m (0 : Int)).map (.int .i64) := by simp [zer]
abbrev stN (N : Nat) (es : List Ed) : AV := stA N es (sur es) (zS es)
theorem frz_new {N : Nat} {es : List Ed} {h h' : Heap} {v : AV} {n : Nat} (hp : PNew N (eds es) es h v h') : freeze h' (n + 3) v = .ret (stN N es) := by
 obtain ⟨rfl, h1, h2, -, -⟩ := hp
 rw [zer_map] at h2
 exact frz_optr h1 (frz_stC _ (frz_slice _ _ _ _ _) (frz_own h2 (by simp)))
theorem con_open (N : Nat) (es : List Ed) (hk : OkB N es) : Con T 10 57 [bkA (bkN N es)] (.tuple [stN N es, .int .i64 0]) := by
 refine con_intro t57 fun n hn V hV => ?_
 have hl20 : (bkN N es).slurs.length ≤ 20 := by have := hk.le; simp [bkN]; omega
 have hck := ok_chk hk
 have b0 : ((0 : Int) != 0) = false := rfl
 simp (disch := first | assumption | omega) only [c57, go_sem, ↓reduceIte, cs_CheckBook, hck, b0, Bool.false_eq_true]
 have hA := bkN_A N es
 simp only [bkA] at hA
 refine gp_of ?_
 rw [hA]
 refine raw_new N es (by have := hk.le; omega) hk.lt8 (eds es) _ (.inl ⟨_, rfl⟩) (fun j hj => by simp [keyOf] at hj) n (by omega) fun v h' hp => ?_
 simp (disch := first | assumption | omega) only [go_sem, ↓reduceIte]
 exact hV _ _ (frz_two (frz_new hp) (frz_int _ _ _ _))
section
variable {n base : Nat} {Q : EX × St → Prop} {d : Option Nat} {L : List IOper} {ks : List Kont} {e : Env} {h : Heap}
theorem cs_open {N : Nat} {es : List Ed} {x : Bool} (hn : 10 ≤ n) (hk : OkB N es) : GP (evCall T n) base Q d L ks e (evCall T n false (.fn 57) [.agg [.int .i64 N, .slice (some 2) (es.map edA) x]] h) = GO (evCall T n) base Q L ks ⟨setDst e d (.tuple [stN N es, .int .i64 0]), h⟩ := by
 have := con_open N es hk
 rw [bkN_A] at this
 exact gp_eq this hn (fz_cons (frz_agg (mz_cons (frz_int _ _ _ _) (mz_cons (frz_slice _ _ _ _ _) (mz_nil _ _)))) (fz_nil _)) rfl
end
end Go.Ev.YtjcabpldgdafeaaC
