/- How far notes are from each other, and whether plays close a book: the reference's. Whether plays close a book, and how many heights prove: the reference's. How many plays close a book, and how many heights prove: the reference's. The least number of plays, by matching: notes to which too many slurs lead with those from which too many do; it is the least that close a book. The least number of plays, the reference's. No condition but those that stand in each. -/
import Derived.Test.YtjcabpldgdafeaaDL4Agc
set_option linter.unusedSimpArgs false
set_option linter.unusedVariables false
namespace Go.Ev.YtjcabpldgdafeaaC
open Go Go.Proofs Go.Ev
attribute [local irreducible] Res.all evC evLoop evOps evOper evOp evFn evCall freeze G GO GV GP GC R
set_option maxRecDepth 100000
def r1F (d : Nat → Int) (e : Ed) : Nat → Int := fun y => if y = e.2 then (if d e.1 + 1 < d e.2 then d e.1 + 1 else d e.2) else d y
def p1F (es : List Ed) (d : Nat → Int) : Nat → Nat → Int
 | 0 => d
 | k + 1 => r1F (p1F es d k) (gE es k)
def i1F (es : List Ed) (d : Nat → Int) : Nat → Nat → Int
 | 0 => d
 | n + 1 => p1F es (i1F es d n) es.length
def z0 : Nat → Int := fun _ => 0
theorem p1F_pss (es : List Ed) (X : Dst) : ∀ k, (pss (arcs es z0 k) X).d = p1F es X.d k
 | 0 => rfl
 | k + 1 => by
  rw [pss_step, if_neg (show ¬ 0 < z0 k from Int.lt_irrefl 0), p1F, ← p1F_pss es X k]
  unfold rlx r1F
  simp only
  split
  ·next h =>
   funext y
   simp only
  ·next h =>
   funext y
   by_cases hy : y = (gE es k).2
   ·rw [if_pos hy, hy]
   ·rw [if_neg hy]
theorem i1F_itr (es : List Ed) (d : Nat → Int) : ∀ n, (itr (arcs es z0 es.length) ⟨d, fun _ => 0⟩ n).d = i1F es d n
 | 0 => rfl
 | n + 1 => by rw [itr_succ, p1F_pss, i1F_itr es d n]; rfl
def d99 (a v : Nat) : Int := if v = a then 0 else 99
def frF (N : Nat) (es : List Ed) (a : Nat) : Nat → Int := i1F es (d99 a) N
theorem r1F_box {d : Nat → Int} (h : ∀ v, 0 ≤ d v ∧ d v ≤ 99) (e : Ed) (v : Nat) : 0 ≤ r1F d e v ∧ r1F d e v ≤ 99 := by
 have h1 := h e.1; have h2 := h e.2; have h3 := h v
 unfold r1F
 split
 ·split <;> omega
 ·exact h3
theorem p1F_box {es : List Ed} {d : Nat → Int} (h : ∀ v, 0 ≤ d v ∧ d v ≤ 99) : ∀ k v, 0 ≤ p1F es d k v ∧ p1F es d k v ≤ 99
 | 0, v => h v
 | k + 1, v => r1F_box (p1F_box h k) _ v
theorem i1F_box {es : List Ed} {d : Nat → Int} (h : ∀ v, 0 ≤ d v ∧ d v ≤ 99) : ∀ n v, 0 ≤ i1F es d n v ∧ i1F es d n v ≤ 99
 | 0, v => h v
 | n + 1, v => p1F_box (i1F_box h n) _ v
theorem d99_box (a v : Nat) : 0 ≤ d99 a v ∧ d99 a v ≤ 99 := by unfold d99; split <;> omega
structure FarT (N : Nat) (h : Heap) (F : Nat → Nat → Int) : Prop where
 tab : getH h 93 = .cells 0 ((List.range N).map fun a => .oslice (94 + a) 0 none 0 N (some N))
 row : ∀ a, a < N → getH h (94 + a) = .cells 0 (rwI N (F a))
theorem FarT.low {N : Nat} {h h' : Heap} {F : Nat → Nat → Int} (ht : FarT N h F) (hf : ∀ j, 93 ≤ j → getH h' j = getH h j) : FarT N h' F :=
 ⟨by rw [hf 93 (by omega), ht.tab], fun a ha => by rw [hf _ (by omega), ht.row a ha]⟩
theorem FarT.upd {N : Nat} {h : Heap} {F : Nat → Nat → Int} (ht : FarT N h F) (i : Nat) (f : Nat → Int) : FarT N (setH h (94 + i) (.cells 0 (rwI N f))) fun a => if a = i then f else F a :=
 ⟨by rw [getH_setH_ne _ _ _ _ (by omega), ht.tab], fun a ha => by
  by_cases h : a = i
  ·subst h; rw [getH_setH_self, if_pos rfl]
  ·rw [getH_setH_ne _ _ _ _ (by omega), ht.row a ha, if_neg h]⟩
theorem FarT.congr {N : Nat} {h : Heap} {F G : Nat → Nat → Int} (ht : FarT N h F) (hg : ∀ a, a < N → F a = G a) : FarT N h G :=
 ⟨ht.tab, fun a ha => by rw [ht.row a ha, hg a ha]⟩
def farA (N : Nat) (es : List Ed) : AV := .slice none ((List.range N).map fun a => ints (srN N (frF N es a))) false
theorem frz_far {N n : Nat} {es : List Ed} {h : Heap} (ht : FarT N h (frF N es)) : freeze h (n + 3) (.oslice 93 0 none 0 N (some N)) = .ret (farA N es) := by
 have e : (((List.range N).map fun a => AV.oslice (94 + a) 0 none 0 N (some N)).drop 0).take (N * gsize none) = (List.range N).map fun a => AV.oslice (94 + a) 0 none 0 N (some N) := by rw [List.drop_zero, List.take_of_length_le (by simp [gsize])]
 rw [freeze]
 simp only [ht.tab]
 rw [if_pos ⟨trivial, by simp [gsize]⟩, e, frz_rows (fun a => 94 + a) (frF N es) (List.range N) fun s hs => ht.row s (List.mem_range.1 hs)]
 rfl
theorem range_at {N i : Nat} (h : i < N) : (List.range N)[i]? = some i := List.getElem?_range h
set_option maxHeartbeats 4000000 in
theorem con_Far (N : Nat) (es : List Ed) (hk : OkB N es) : Con T 1 77 [bkA (bkN N es)] (farA N es) := by
 refine con_intro t77 fun n hn V hV => ?_
 have h1 := hk.n1
 have h8 := hk.n8
 have hle := hk.le
 have hroomT : room N 24 = true := room_ok (by omega)
 have hroom : room N 8 = true := room_ok (by omega)
 have hm1 : (N ≤ N) = True := eq_true (Nat.le_refl N)
 have hflatT : (List.replicate N [AV.slice none [] true]).flatten = (List.range N).map fun a => if a < 0 then AV.oslice (94 + a) 0 none 0 N (some N) else .slice none [] true := by
  rw [flat_rep]; rfl
 have hflat : (List.replicate N [AV.int IntKind.i64 0]).flatten = rwI N (fun y => if y < 0 then 99 else 0) := by unfold rwI srN; rw [List.map_map, flat_rep]; rfl
 have hrl : ∀ f : Nat → Int, (rwI N f).length = N := fun f => rwI_len N f
 rw [bkN_A]
 simp (disch := first | assumption | omega) only [c77, go_sem, ↓reduceIte, hroomT, hm1, hflatT]
 refine m_loop (fun M st => ∃ i : Nat, M = N - i ∧ i ≤ N ∧ At st.env [(1, .optr 1 0 0), (3, .oslice 93 0 none 0 N (some N)), (4, .int .i64 i)] ∧ getH st.heap 1 = .cells 0 [.int .i64 N, eds es] ∧
   getH st.heap 93 = .cells 0 ((List.range N).map fun a => if a < i then .oslice (94 + a) 0 none 0 N (some N) else .slice none [] true) ∧ (∀ a, a < i → getH st.heap (94 + a) = .cells 0 (rwI N (d99 a))) ∧ st.heap.length = 94 + i) N (by omega)
  ⟨0, by omega, by omega, by simp only [go_sem, ↓reduceIte], by simp only [go_sem, ↓reduceIte], by simp only [go_sem, ↓reduceIte], fun a h => by omega, rfl⟩ ?_
 rintro M e h hM ⟨i, rfl, hi, hE, g1, gT, gR, hl⟩ P hP
 simp only [At_cons, At_nil] at hE g1 gT gR hl
 obtain ⟨f1, f3, f4, -⟩ := hE
 by_cases hlt : i < N
 ·have hnn : getH h (94 + i) = .none := getH_ge _ _ (by omega)
  have hi1 : i + 1 ≤ N := hlt
  have hri := range_at hlt
  have n1 : (1 = 94 + i) = False := eq_false (by omega)
  have n1' : (94 + i = 1) = False := eq_false (by omega)
  have n93 : (93 = 94 + i) = False := eq_false (by omega)
  have n93' : (94 + i = 93) = False := eq_false (by omega)
  have hset : ((List.range N).map fun a => if a < i then AV.oslice (94 + a) 0 none 0 N (some N) else .slice none [] true).set i (.oslice (94 + i) 0 none 0 N (some N)) = (List.range N).map fun a => if a < i + 1 then AV.oslice (94 + a) 0 none 0 N (some N) else .slice none [] true := by
   rw [set_range]
   apply List.map_congr_left
   intro b _
   by_cases hb : b = i
   ·subst hb; rw [if_pos rfl, if_pos (Nat.lt_succ_self b)]
   ·rw [if_neg hb]
    by_cases h3 : b < i
    ·rw [if_pos h3, if_pos (by omega)]
    ·rw [if_neg h3, if_neg (by omega)]
  simp (disch := first | assumption | omega) only [go_sem, ↓reduceIte, f1, f3, f4, hlt, g1, gT, hroom, hm1, hl, hnn, hflat, hi1, hset, n1, n1', n93, n93', List.length_range]
  have n94 : ∀ a, a < i → ¬ (93 = 94 + a) := fun a _ => by omega
  refine m_loop (fun M st => ∃ k : Nat, M = N - k ∧ k ≤ N ∧ At st.env [(1, .optr 1 0 0), (3, .oslice 93 0 none 0 N (some N)), (4, .int .i64 i), (5, .int .i64 k)] ∧ getH st.heap 1 = .cells 0 [.int .i64 N, eds es] ∧
    getH st.heap 93 = .cells 0 ((List.range N).map fun a => if a < i + 1 then .oslice (94 + a) 0 none 0 N (some N) else .slice none [] true) ∧ (∀ a, a < i → getH st.heap (94 + a) = .cells 0 (rwI N (d99 a))) ∧ getH st.heap (94 + i) = .cells 0 (rwI N fun y => if y < k then 99 else 0) ∧ st.heap.length = 94 + i + 1) N (by omega)
   ⟨0, by omega, by omega, by simp only [go_sem, ↓reduceIte, f1, f3, f4], by simp only [go_sem, ↓reduceIte, g1, n1'], by simp only [go_sem, ↓reduceIte], fun a ha => by
    rw [getH_setH_ne _ _ _ _ (by omega), getH_setH_ne _ _ _ _ (by omega)]; exact gR a ha, by simp only [go_sem, ↓reduceIte, n93], by simp only [length_setH, hl]; omega⟩ ?_
  clear g1 gT gR hl f1 f3 f4
  rintro M e2 h2 hM2 ⟨k, rfl, hk', hE, g1, gT, gR, gk, hl⟩ P2 hP2
  simp only [At_cons, At_nil] at hE g1 gT gR gk hl
  obtain ⟨f1, f3, f4, f5, -⟩ := hE
  by_cases hlt2 : k < N
  ·have hk1 : k + 1 ≤ N := hlt2
   have hltt : (if i < i + 1 then AV.oslice (94 + i) 0 none 0 N (some N) else AV.slice none [] true) = .oslice (94 + i) 0 none 0 N (some N) := if_pos (Nat.lt_succ_self i)
   simp (disch := first | assumption | omega) only [go_sem, ↓reduceIte, f1, f3, f4, f5, g1, gT, gk, hlt, hlt2, hk1, hri, hltt, hrl, srN_set]
   refine hP2 (N - (k + 1)) _ (by omega) ⟨k + 1, rfl, by omega, by simp only [go_sem, ↓reduceIte, f1, f3, f4], by simp only [go_sem, ↓reduceIte, g1, n1'], by simp only [go_sem, ↓reduceIte, gT, n93'], fun a ha => by
    rw [getH_setH_ne _ _ _ _ (by omega)]; exact gR a ha, ?_, by simp only [length_setH, hl]; omega⟩
   simp only [go_sem, ↓reduceIte]
   congr 2
   congr 1
   funext y
   by_cases hy : y = k
   ·subst hy; rw [if_pos rfl, if_pos (Nat.lt_succ_self y)]
   ·rw [if_neg hy]
    by_cases h3 : y < k
    ·rw [if_pos h3, if_pos (by omega)]
    ·rw [if_neg h3, if_neg (by omega)]
  ·obtain rfl : N = k := by omega
   have hltt : (if i < i + 1 then AV.oslice (94 + i) 0 none 0 N (some N) else AV.slice none [] true) = .oslice (94 + i) 0 none 0 N (some N) := if_pos (Nat.lt_succ_self i)
   simp (disch := first | assumption | omega) only [go_sem, ↓reduceIte, f1, f3, f4, f5, g1, gT, gk, hlt, hlt2, hi1, hri, hltt, hrl, srN_set]
   refine hP (N - (i + 1)) _ (by omega) ⟨i + 1, rfl, by omega, by simp only [go_sem, ↓reduceIte, f1, f3], by simp only [go_sem, ↓reduceIte, g1, n1'], by simp only [go_sem, ↓reduceIte, gT, n93'], fun a ha => ?_, by simp only [length_setH, hl]; omega⟩
   by_cases hai : a = i
   ·subst hai
    simp only [go_sem, ↓reduceIte]
    unfold rwI srN
    rw [List.map_map, List.map_map]
    congr 1
    apply List.map_congr_left
    intro y hy
    have hyN := List.mem_range.1 hy
    simp only [Function.comp, d99]
    by_cases h3 : y = a
    ·rw [if_pos h3, if_pos h3]
    ·rw [if_neg h3, if_neg h3, if_pos hyN]
   ·simp only
    rw [getH_setH_ne _ _ _ _ (by omega)]; exact gR a (by omega)
 ·obtain rfl : N = i := by omega
  have gT' : getH h 93 = .cells 0 ((List.range N).map fun a => .oslice (94 + a) 0 none 0 N (some N)) := by
   rw [gT]
   congr 1
   apply List.map_congr_left
   intro a ha
   rw [if_pos (List.mem_range.1 ha)]
  have hT0 : FarT N h fun a => i1F es (d99 a) 0 := ⟨gT', fun a ha => gR a ha⟩
  simp (disch := first | assumption | omega) only [go_sem, ↓reduceIte, f1, f3, f4, hlt, g1]
  clear gT gR hl gT' hP
  refine m_loop (fun M st => ∃ r : Nat, M = N - r ∧ r ≤ N ∧ At st.env [(1, .optr 1 0 0), (3, .oslice 93 0 none 0 N (some N)), (6, .int .i64 r)] ∧ getH st.heap 1 = .cells 0 [.int .i64 N, eds es] ∧ FarT N st.heap fun a => i1F es (d99 a) r) N (by omega)
   ⟨0, by omega, by omega, by simp only [go_sem, ↓reduceIte, f1, f3], g1, hT0⟩ ?_
  clear hT0 g1 f1 f3 f4
  rintro M e h hM ⟨r, rfl, hr, hE, g1, hT⟩ P hP
  simp only [At_cons, At_nil] at hE g1 hT
  obtain ⟨f1, f3, f6, -⟩ := hE
  by_cases hlt : r < N
  ·simp (disch := first | assumption | omega) only [go_sem, ↓reduceIte, f1, f3, f6, hlt, g1]
   refine m_loop (fun M st => ∃ i : Nat, M = N - i ∧ i ≤ N ∧ At st.env [(1, .optr 1 0 0), (3, .oslice 93 0 none 0 N (some N)), (6, .int .i64 r), (7, .int .i64 i)] ∧ getH st.heap 1 = .cells 0 [.int .i64 N, eds es] ∧ FarT N st.heap fun a => if a < i then i1F es (d99 a) (r + 1) else i1F es (d99 a) r) N (by omega)
    ⟨0, by omega, by omega, by simp only [go_sem, ↓reduceIte, f1, f3, f6], g1, hT.congr fun a _ => (if_neg (Nat.not_lt_zero a)).symm⟩ ?_
   clear hT g1 f1 f3 f6
   rintro M e2 h2 hM2 ⟨i, rfl, hi, hE, g1, hT⟩ P2 hP2
   simp only [At_cons, At_nil] at hE g1 hT
   obtain ⟨f1, f3, f6, f7, -⟩ := hE
   by_cases hlt2 : i < N
   ·simp (disch := first | assumption | omega) only [go_sem, ↓reduceIte, f1, f3, f6, f7, hlt2, g1]
    refine m_loop (fun M st => ∃ k : Nat, M = es.length - k ∧ k ≤ es.length ∧ At st.env [(1, .optr 1 0 0), (3, .oslice 93 0 none 0 N (some N)), (6, .int .i64 r), (7, .int .i64 i), (8, .int .i64 k)] ∧ getH st.heap 1 = .cells 0 [.int .i64 N, eds es] ∧
      FarT N st.heap fun a => if a = i then p1F es (i1F es (d99 a) r) k else if a < i then i1F es (d99 a) (r + 1) else i1F es (d99 a) r) es.length (by omega)
     ⟨0, by omega, by omega, by simp only [go_sem, ↓reduceIte, f1, f3, f6, f7], g1, hT.congr fun a _ => by
      by_cases h3 : a = i
      ·rw [if_pos h3, if_neg (by omega)]; rfl
      ·rw [if_neg h3]⟩ ?_
    clear hT g1 f1 f3 f6 f7
    rintro M e3 h3 hM3 ⟨k, rfl, hk', hE, g1, hT⟩ P3 hP3
    simp only [At_cons, At_nil] at hE g1 hT
    obtain ⟨f1, f3, f6, f7, f8, -⟩ := hE
    by_cases hlt3 : k < es.length
    ·have hq := hk.lt _ (List.getElem_mem hlt3)
     have hg := ed_get hlt3
     have hge := gE_get hlt3
     have hri := range_at hlt2
     have hps : p1F es (i1F es (d99 i) r) (k + 1) = r1F (p1F es (i1F es (d99 i) r) k) (gE es k) := rfl
     have gT := hT.tab
     have gr := hT.row i hlt2
     rw [if_pos rfl] at gr
     have hbx := p1F_box (es := es) (i1F_box (es := es) (d99_box i) r) k
     rw [hge] at hps
     generalize hqd : es[k] = q at *
     obtain ⟨qa, qb⟩ := q
     simp only at hq
     simp only [edA] at hg
     obtain ⟨hq1, hq2⟩ := hq
     have hq2' : qb + 1 ≤ N := hq2
     have n9 : (9 = 94 + i) = False := eq_false (by omega)
     generalize hX : p1F es (i1F es (d99 i) r) k = X at *
     have hba := hbx qa
     have hbb := hbx qb
     simp (disch := first | assumption | omega) only [go_sem, ↓reduceIte, f1, f3, f6, f7, f8, hlt2, hlt3, g1, gT, gr, hg, hri, hq1, hq2, hq2', hrl, srN_get, srN_set, ixAA_optr, n9]
     refine hP3 (es.length - (k + 1)) _ (by omega) ⟨k + 1, rfl, by omega, by simp only [go_sem, ↓reduceIte, f1, f3, f6, f7], ?_, ?_⟩
     ·simp only
      rw [getH_setH_ne _ _ _ _ (by omega), getH_setH_ne _ _ _ _ (by omega), getH_setH_ne _ _ _ _ (by omega)]; exact g1
     ·refine (((hT.low (h' := setH (setH h3 9 _) 9 _) fun j hj => by rw [getH_setH_ne _ _ _ _ (by omega), getH_setH_ne _ _ _ _ (by omega)]).upd i _).congr fun a _ => ?_)
      by_cases h4 : a = i
      ·subst h4
       rw [if_pos rfl, if_pos rfl, hps]
       rfl
      ·rw [if_neg h4, if_neg h4, if_neg h4]
    ·obtain rfl : k = es.length := by omega
     simp (disch := first | assumption | omega) only [go_sem, ↓reduceIte, f1, f3, f6, f7, f8, hlt3, g1]
     refine hP2 (N - (i + 1)) _ (by omega) ⟨i + 1, rfl, by omega, by simp only [go_sem, ↓reduceIte, f1, f3, f6], g1, hT.congr fun a _ => ?_⟩
     by_cases h4 : a = i
     ·subst h4
      rw [if_pos rfl, if_pos (Nat.lt_succ_self a)]; rfl
     ·rw [if_neg h4]
      by_cases h5 : a < i
      ·rw [if_pos h5, if_pos (by omega)]
      ·rw [if_neg h5, if_neg (by omega)]
   ·obtain rfl : N = i := by omega
    simp (disch := first | assumption | omega) only [go_sem, ↓reduceIte, f1, f3, f6, f7, hlt2, g1]
    exact hP (N - (r + 1)) _ (by omega) ⟨r + 1, rfl, by omega, by simp only [go_sem, ↓reduceIte, f1, f3], g1, hT.congr fun a ha => if_pos ha⟩
  ·obtain rfl : N = r := by omega
   simp (disch := first | assumption | omega) only [go_sem, ↓reduceIte, f1, f3, f6, hlt, g1]
   exact hV _ _ (frz_far hT)
end Go.Ev.YtjcabpldgdafeaaC
set_option linter.unusedSimpArgs false
set_option linter.unusedVariables false
namespace Go.Ev.YtjcabpldgdafeaaC
open Go Go.Proofs Go.Ev
attribute [local irreducible] Res.all evC evLoop evOps evOper evOp evFn evCall freeze G GO GV GP GC R
set_option maxRecDepth 100000
theorem fr_fix {N : Nat} {es : List Ed} (hn1 : 1 ≤ N) (hn : ∀ q ∈ es, q.1 < N ∧ q.2 < N) (a : Nat) : BInv (arcs es z0 es.length) (d99 a) (itr (arcs es z0 es.length) ⟨d99 a, fun _ => 0⟩ N) ∧ Fix (arcs es z0 es.length) (frF N es a) ∧ (itr (arcs es z0 es.length) ⟨d99 a, fun _ => 0⟩ N).d = frF N es a := by
 obtain ⟨h1, h2⟩ := bf_fix (N := N) (n := N) (d0 := d99 a) (h := fun _ => 0) (m := 0) (arcs_ids es z0 es.length) (pot_arcs.2 fun i _ => ⟨by simp, fun h => absurd h (Int.lt_irrefl 0)⟩) (fun b hb => (arcs_lt hn hb).1) (fun b hb => (arcs_lt hn hb).2) (fun v => by have := d99_box a v; omega) (by omega)
 have e := i1F_itr es (d99 a) N
 rw [e] at h2
 exact ⟨h1, h2, e⟩
theorem fr_step {N : Nat} {es : List Ed} (hn1 : 1 ≤ N) (hn : ∀ q ∈ es, q.1 < N ∧ q.2 < N) (a : Nat) {e : Ed} (he : e ∈ es) : frF N es a e.2 ≤ frF N es a e.1 + 1 := by
 obtain ⟨i, hi, rfl⟩ := gE_of he
 exact (fr_fix hn1 hn a).2.1 ⟨_, _, 1, (i : Int) + 1⟩ (mem_arcs.2 ⟨i, hi, .inl rfl⟩)
theorem fr_box (N : Nat) (es : List Ed) (a v : Nat) : 0 ≤ frF N es a v ∧ frF N es a v ≤ 99 := i1F_box (d99_box a) N v
theorem fr_self {N : Nat} {es : List Ed} (hn1 : 1 ≤ N) (hn : ∀ q ∈ es, q.1 < N ∧ q.2 < N) (a : Nat) : frF N es a a = 0 := by
 obtain ⟨h1, _, h3⟩ := fr_fix hn1 hn a
 have := h1.le0 a
 rw [h3] at this
 have h4 := fr_box N es a a
 unfold d99 at this
 rw [if_pos rfl] at this
 omega
theorem arcs0_cost {es : List Ed} {k : Nat} {a : Arc} (ha : a ∈ arcs es z0 k) : a.c = 1 := by
 obtain ⟨i, _, rfl | ⟨h, _⟩⟩ := mem_arcs.1 ha
 ·rfl
 ·exact absurd h (Int.lt_irrefl 0)
theorem fr_near {N : Nat} {es : List Ed} (hn1 : 1 ≤ N) (hn8 : N ≤ 8) (hn : ∀ q ∈ es, q.1 < N ∧ q.2 < N) (a : Nat) {v : Nat} (hv : v < N) (h : frF N es a v < 99) : frF N es a v ≤ 7 ∧ Rch es a v := by
 obtain ⟨h1, h2, h3⟩ := fr_fix hn1 hn a
 obtain ⟨l, hl⟩ := h1.chn v
 have hids := arcs_ids es z0 es.length
 have g1 := chn_len hids (fun b hb => (arcs_lt hn hb).1) hv hl
 rw [← h3] at h2
 have g2 := chn_up h2 (fun b hb => (arcs_cost hb).2) hl
 have g3 := h1.root _ (chn_root hl)
 have key : ∀ {v : Nat} {l : List Arc}, Chn (arcs es z0 es.length) (itr (arcs es z0 es.length) ⟨d99 a, fun _ => 0⟩ N).b v l → (itr (arcs es z0 es.length) ⟨d99 a, fun _ => 0⟩ N).d (rootOf v l) ≤ (itr (arcs es z0 es.length) ⟨d99 a, fun _ => 0⟩ N).d v ∧ Rch es (rootOf v l) v := by
  intro v l hc
  induction hc with
  | nil h0 => exact ⟨Int.le_refl _, fun p _ h => h⟩
  | @cons b l b1 b2 b3 ih =>
   have t := par_tight hids h1 h2 b1 b2
   rw [arcs0_cost b1] at t
   refine ⟨by simp only [rootOf]; omega, fun p hp hr => ?_⟩
   have := ih.2 p hp hr
   obtain ⟨i, hi, rfl | ⟨h, _⟩⟩ := mem_arcs.1 b1
   ·exact hp _ (gE_mem hi) this
   ·exact absurd h (Int.lt_irrefl 0)
 obtain ⟨k1, k2⟩ := key hl
 rw [h3] at g2 g3 k1
 unfold d99 at g3
 by_cases hr : rootOf v l = a
 ·rw [if_pos hr] at g3
  rw [hr] at k2
  exact ⟨by omega, k2⟩
 ·rw [if_neg hr] at g3; omega
theorem fr_rch {N : Nat} {es : List Ed} (hn1 : 1 ≤ N) (hn8 : N ≤ 8) (hn : ∀ q ∈ es, q.1 < N ∧ q.2 < N) (a : Nat) {v : Nat} (hv : v < N) : frF N es a v < 99 ↔ Rch es a v := by
 refine ⟨fun h => (fr_near hn1 hn8 hn a hv h).2, fun h => ?_⟩
 have := h (fun x => decide (frF N es a x < 99)) (fun e he hx => by
  simp only [decide_eq_true_eq] at hx ⊢
  have g1 := (fr_near hn1 hn8 hn a (hn e he).1 hx).1
  have g2 := fr_step hn1 hn a he
  omega) (by rw [fr_self hn1 hn a]; rfl)
 simpa using this
def c3B (N : Nat) (es : List Ed) (e f : Ed) : Bool := decide (frF N es e.1 f.1 < 99) && (decide (frF N es e.1 f.2 < 99) && decide (frF N es e.2 f.1 < 99))
theorem c3_clo {N : Nat} {es : List Ed} (hk : OkB N es) : (es.all fun e => es.all fun f => c3B N es e f) = cloB es := by
 rw [Bool.eq_iff_iff, cloB_iff]
 simp only [List.all_eq_true, c3B, Bool.and_eq_true, decide_eq_true_eq]
 have hr := fun a {v} (hv : v < N) => fr_rch hk.n1 hk.n8 hk.lt a hv
 constructor
 ·intro h e he f hf
  obtain ⟨h1, h2, h3⟩ := h e he f hf
  have a1 := (hr _ (hk.lt f hf).1).1 h1
  have a2 := (hr _ (hk.lt f hf).2).1 h2
  have a3 := (hr _ (hk.lt f hf).1).1 h3
  exact ⟨a1, a2, a3, fun p hp hx => hp f hf (a3 p hp hx)⟩
 ·intro h e he f hf
  obtain ⟨h1, h2, h3, _⟩ := h e he f hf
  exact ⟨(hr _ (hk.lt f hf).1).2 h1, (hr _ (hk.lt f hf).2).2 h2, (hr _ (hk.lt f hf).1).2 h3⟩
theorem cs_Far {n base : Nat} {Q : EX × St → Prop} {d : Option Nat} {L : List IOper} {ks : List Kont} {e : Env} {h : Heap} {N : Nat} {es : List Ed} {x : Bool} (hn : 1 ≤ n) (hk : OkB N es) : GP (evCall T n) base Q d L ks e (evCall T n false (.fn 77) [.agg [.int .i64 N, .slice (some 2) (es.map edA) x]] h) = GO (evCall T n) base Q L ks ⟨setDst e d (farA N es), h⟩ := by
 have := con_Far N es hk
 rw [bkN_A] at this
 exact gp_eq this hn (fz_cons (frz_agg (mz_cons (frz_int _ _ _ _) (mz_cons (frz_slice _ _ _ _ _) (mz_nil _ _)))) (fz_nil _)) rfl
set_option maxHeartbeats 4000000 in
theorem con_refCloses {N : Nat} {es : List Ed} (hk : OkB N es) : Con T 2 72 [bkA (bkN N es)] (.bool (cloB es)) := by
 refine con_intro t72 fun n hn V hV => ?_
 have hle := hk.le
 rw [← c3_clo hk] at hV
 have hVf : ∀ (i k : Nat) (hi : i < es.length) (hk : k < es.length), c3B N es es[i] es[k] = false → ∀ h, V (.bool false, h) := fun i k hi hk hc h => hV _ _ (by
  have : (es.all fun e => es.all fun f => c3B N es e f) = false := by
   rw [List.all_eq_false]
   refine ⟨es[i], List.getElem_mem hi, ?_⟩
   rw [Bool.not_eq_true, List.all_eq_false]
   exact ⟨es[k], List.getElem_mem hk, by rw [hc]; decide⟩
  rw [this]; exact frz_bool _ _ _)
 have hrow : ∀ a, a < N → ((List.range N).map fun a => ints (srN N (frF N es a)))[a]? = some (ints (srN N (frF N es a))) := fun a ha => range_get N a _ ha
 rw [bkN_A]
 simp (disch := first | assumption | omega) only [c72, go_sem, ↓reduceIte, cs_Far, farA]
 obtain ⟨RW, hRW⟩ : ∃ RW, RW = (List.range N).map fun a => ints (srN N (frF N es a)) := ⟨_, rfl⟩
 rw [← hRW] at hrow ⊢
 refine m_loop (fun M st => ∃ i : Nat, M = es.length - i ∧ i ≤ es.length ∧ At st.env [(1, .optr 1 0 0), (3, .slice none RW false), (4, .int .i64 i)] ∧ getH st.heap 1 = .cells 0 [.int .i64 N, eds es] ∧ (es.take i).all (fun e => es.all fun f => c3B N es e f) = true) es.length (by omega)
  ⟨0, by omega, by omega, by simp only [go_sem, ↓reduceIte], by simp only [go_sem, ↓reduceIte], rfl⟩ ?_
 rintro M e h hM ⟨i, rfl, hi, hE, g1, hA⟩ P hP
 simp only [At_cons, At_nil] at hE g1
 obtain ⟨f1, f3, f4, -⟩ := hE
 by_cases hlt : i < es.length
 ·have hg := ed_get hlt
  have hat := allB_take (p := fun e => es.all fun f => c3B N es e f) hlt
  have hq := hk.lt _ (List.getElem_mem hlt)
  have hVi := fun k hk => hVf i k hlt hk
  rw [hA, Bool.true_and] at hat
  generalize hqd : es[i] = q at *
  obtain ⟨qa, qb⟩ := q
  simp only at hq
  simp only [edA] at hg
  obtain ⟨hq1, hq2⟩ := hq
  simp (disch := first | assumption | omega) only [go_sem, ↓reduceIte, f1, f3, f4, hlt, g1]
  refine m_loop (fun M st => ∃ k : Nat, M = es.length - k ∧ k ≤ es.length ∧ At st.env [(1, .optr 1 0 0), (3, .slice none RW false), (4, .int .i64 i), (5, .int .i64 k)] ∧ getH st.heap 1 = .cells 0 [.int .i64 N, eds es] ∧ (es.take k).all (fun f => c3B N es (qa, qb) f) = true) es.length (by omega)
   ⟨0, by omega, by omega, by simp only [go_sem, ↓reduceIte, f1, f3, f4], g1, rfl⟩ ?_
  rintro M e2 h2 hM2 ⟨k, rfl, hkk, hE, g1, hA2⟩ P2 hP2
  simp only [At_cons, At_nil] at hE g1
  obtain ⟨f1, f3, f4, f5, -⟩ := hE
  by_cases hlt2 : k < es.length
  ·have hg2 := ed_get hlt2
   have hat2 := allB_take (p := fun f => c3B N es (qa, qb) f) hlt2
   have hr := hk.lt _ (List.getElem_mem hlt2)
   have hVk := hVi k hlt2
   rw [hA2, Bool.true_and] at hat2
   generalize hrd : es[k] = r at *
   obtain ⟨ra, rb⟩ := r
   simp only at hr
   simp only [edA] at hg2
   obtain ⟨hr1, hr2⟩ := hr
   have w1 := hrow qa hq1
   have w2 := hrow qb hq2
   have v1 := srN_get (frF N es qa) hr1
   have v2 := srN_get (frF N es qa) hr2
   have v3 := srN_get (frF N es qb) hr1
   have good : ∀ e' h', At e' [(1, .optr 1 0 0), (3, .slice none RW false), (4, .int .i64 i), (5, .int .i64 ((k : Int) + 1))] → getH h' 1 = .cells 0 [.int .i64 N, eds es] → c3B N es (qa, qb) (ra, rb) = true → P2 ⟨e', h'⟩ := fun e' h' hE' g hc =>
    hP2 (es.length - (k + 1)) _ (by omega) ⟨k + 1, rfl, by omega, by rw [show ((k + 1 : Nat) : Int) = (k : Int) + 1 by omega]; exact hE', g, by rw [hat2, hc]⟩
   by_cases b1 : frF N es qa ra < 99
   ·have e1 : decide (frF N es qa ra ≥ 99) = false := by rw [decide_eq_false_iff_not]; omega
    by_cases b2 : frF N es qa rb < 99
    ·have e2' : decide (frF N es qa rb ≥ 99) = false := by rw [decide_eq_false_iff_not]; omega
     by_cases b3 : frF N es qb ra < 99
     ·have e3 : decide (frF N es qb ra ≥ 99) = false := by rw [decide_eq_false_iff_not]; omega
      simp (config := { maxSteps := 3000000 }) (disch := first | assumption | omega) only [go_sem, ↓reduceIte, f1, f3, f4, f5, hlt, hlt2, g1, hg, hg2, ixAA_ptr, w1, w2, v1, v2, v3, e1, e2', e3]
      exact good _ _ (by simp only [go_sem, ↓reduceIte, f1, f3, f4]) g1 (by simp [c3B, b1, b2, b3])
     ·have e3 : decide (frF N es qb ra ≥ 99) = true := by rw [decide_eq_true_eq]; omega
      simp (config := { maxSteps := 3000000 }) (disch := first | assumption | omega) only [go_sem, ↓reduceIte, f1, f3, f4, f5, hlt, hlt2, g1, hg, hg2, ixAA_ptr, w1, w2, v1, v2, v3, e1, e2', e3]
      exact hVk (by simp [c3B, b3]) _
    ·have e2' : decide (frF N es qa rb ≥ 99) = true := by rw [decide_eq_true_eq]; omega
     simp (config := { maxSteps := 3000000 }) (disch := first | assumption | omega) only [go_sem, ↓reduceIte, f1, f3, f4, f5, hlt, hlt2, g1, hg, hg2, ixAA_ptr, w1, w2, v1, v2, v3, e1, e2']
     exact hVk (by simp [c3B, b2]) _
   ·have e1 : decide (frF N es qa ra ≥ 99) = true := by rw [decide_eq_true_eq]; omega
    simp (config := { maxSteps := 3000000 }) (disch := first | assumption | omega) only [go_sem, ↓reduceIte, f1, f3, f4, f5, hlt, hlt2, g1, hg, hg2, ixAA_ptr, w1, w2, v1, v2, v3, e1]
    exact hVk (by simp [c3B, b1]) _
  ·obtain rfl : k = es.length := by omega
   rw [List.take_length] at hA2
   simp (disch := first | assumption | omega) only [go_sem, ↓reduceIte, f1, f3, f4, f5, hlt2, g1]
   exact hP (es.length - (i + 1)) _ (by omega) ⟨i + 1, rfl, by omega, by simp only [go_sem, ↓reduceIte, f1, f3], g1, by rw [hat]; exact hA2⟩
 ·obtain rfl : i = es.length := by omega
  rw [List.take_length] at hA
  simp (disch := first | assumption | omega) only [go_sem, ↓reduceIte, f1, f3, f4, hlt, g1]
  refine hV _ _ ?_
  rw [hA]
  exact frz_bool _ _ _
section
variable {n base : Nat} {Q : EX × St → Prop} {d : Option Nat} {L : List IOper} {ks : List Kont} {e : Env} {h : Heap}
theorem cs_refCloses {N : Nat} {es : List Ed} {x : Bool} (hn : 2 ≤ n) (hk : OkB N es) : GP (evCall T n) base Q d L ks e (evCall T n false (.fn 72) [.agg [.int .i64 N, .slice (some 2) (es.map edA) x]] h) = GO (evCall T n) base Q L ks ⟨setDst e d (.bool (cloB es)), h⟩ := by
 have := con_refCloses hk
 rw [bkN_A] at this
 exact gp_eq this hn (fz_cons (frz_agg (mz_cons (frz_int _ _ _ _) (mz_cons (frz_slice _ _ _ _ _) (mz_nil _ _)))) (fz_nil _)) (or_pb _ _)
end
end Go.Ev.YtjcabpldgdafeaaC
set_option linter.unusedSimpArgs false
set_option linter.unusedVariables false
namespace Go.Ev.YtjcabpldgdafeaaC
open Go Go.Proofs Go.Ev
attribute [local irreducible] Res.all evC evLoop evOps evOper evOp evFn evCall freeze G GO GV GP GC R
set_option maxRecDepth 100000
set_option maxHeartbeats 1000000 in
theorem raw_Surplus {N : Nat} {es : List Ed} (hk : OkB N es) {h0 : Heap} (n : Nat) (hn : 1 ≤ n) {V : AV × Heap → Prop}
  (hV : ∀ h', getH h' (h0.length + 38) = .cells 0 (rwI N (sur es)) → (∀ j, j < h0.length → getH h' j = getH h0 j) → V (.oslice (h0.length + 38) 0 none 0 N (some N), h')) :
  (evCall T n true (.fn 69) [.agg [.int .i64 N, eds es]] h0).all V := by
 obtain ⟨n, rfl⟩ : ∃ n', n = n' + 1 := ⟨n - 1, by omega⟩
 rw [raw_enter t69]
 have h8 := hk.n8
 have hl20 := hk.le20
 have hroom : room N 8 = true := room_ok (by omega)
 have hm1 : (N ≤ N) = True := eq_true (Nat.le_refl N)
 have hflat : (List.replicate N [AV.int IntKind.i64 0]).flatten = rwI N (fun _ => 0) := by unfold rwI srN; rw [List.map_map, flat_rep]; rfl
 have hll : ∀ o : AObj, (setH (h0 ++ List.replicate 38 AObj.none) (h0.length + 1) o).length = h0.length + 38 := fun o => by rw [length_setH, List.length_append, List.length_replicate]; omega
 have hn38 : ∀ o : AObj, getH (setH (h0 ++ List.replicate 38 AObj.none) (h0.length + 1) o) (h0.length + 38) = .none := fun o => getH_ge _ _ (by rw [hll]; exact Nat.le_refl _)
 have hn1 : getH (h0 ++ List.replicate 38 AObj.none) (h0.length + 1) = .none := by rw [getH_append_none]; exact getH_ge _ _ (by omega)
 simp (disch := first | assumption | omega) only [c69, go_sem, ↓reduceIte, hroom, hm1, hflat, hll, hn38, hn1]
 refine m_loop (fun M st => ∃ i : Nat, M = es.length - i ∧ i ≤ es.length ∧ At st.env [(1, .optr (h0.length + 1) 0 0), (3, .oslice (h0.length + 38) 0 none 0 N (some N)), (4, .int .i64 i)] ∧
   getH st.heap (h0.length + 1) = .cells 0 [.int .i64 N, eds es] ∧ getH st.heap (h0.length + 38) = .cells 0 (rwI N (sur (es.take i))) ∧ ∀ j, j < h0.length → getH st.heap j = getH h0 j) es.length (by omega)
  ⟨0, by omega, by omega, by simp only [go_sem, ↓reduceIte], by simp only [go_sem, ↓reduceIte], by simp only [go_sem, ↓reduceIte]; rfl, fun j hj => by
   rw [getH_setH_ne _ _ _ _ (by omega), getH_setH_ne _ _ _ _ (by omega), getH_append_none]⟩ ?_
 rintro M e h hM ⟨i, rfl, hi, hE, g1, g38, hF⟩ P hP
 simp only [At_cons, At_nil] at hE g1 g38 hF
 obtain ⟨f1, f3, f4, -⟩ := hE
 by_cases hlt : i < es.length
 ·have hq := hk.lt _ (List.getElem_mem hlt)
  have hg := ed_get hlt
  have hst := sur_take hlt
  have hb := sur_box (es.take i)
  have htl : (es.take i).length ≤ 20 := by rw [List.length_take]; omega
  generalize hqd : es[i] = q at *
  obtain ⟨qa, qb⟩ := q
  simp only at hq hst
  simp only [edA] at hg
  obtain ⟨hq1, hq2⟩ := hq
  have hba := hb qa
  have hbb := hb qb
  have hsl : ∀ s : Nat → Int, ((srN N s).map (AV.int .i64)).length = N := fun s => by simp [srN]
  have hq1' : qa + 1 ≤ N := hq1
  have hq2' : qb + 1 ≤ N := hq2
  have hval : -21 ≤ (if qb = qa then sur (es.take i) qa + 1 else sur (es.take i) qb) - 1 ∧ (if qb = qa then sur (es.take i) qa + 1 else sur (es.take i) qb) - 1 ≤ 21 := by split <;> omega
  simp (disch := first | assumption | omega) only [go_sem, ↓reduceIte, f1, f3, f4, hlt, hg, g1, g38, hq1, hq2, hq1', hq2', hsl, srN_get, srN_set, List.length_map]
  refine hP (es.length - (i + 1)) _ (by omega) ⟨i + 1, rfl, by omega, by simp only [go_sem, ↓reduceIte, f1, f3], ?_, ?_, fun j hj => by
   simp only
   rw [getH_setH_ne _ _ _ _ (by omega), getH_setH_ne _ _ _ _ (by omega)]; exact hF j hj⟩
  ·simp only [go_sem, ↓reduceIte, g1]
  ·rw [getH_setH_self]
   congr 3
   funext y
   rw [hst]
   by_cases h1 : y = qb
   ·subst h1
    simp only [if_true]
    by_cases h2 : y = qa
    ·subst h2
     simp only [if_true]
    ·simp only [if_neg h2]; omega
   ·rw [if_neg h1, if_neg h1]
    split
    ·next h2 => subst h2; omega
    ·omega
 ·obtain rfl : i = es.length := by omega
  rw [List.take_length] at g38
  simp (disch := first | assumption | omega) only [go_sem, ↓reduceIte, f1, f3, f4, hlt, g1, List.length_map]
  exact hV _ g38 hF
theorem within_not {lo hi : Int} {l : List Int} {x : Int} (hx : x ∈ l) (h : x < lo ∨ hi < x) : withinB lo hi l = false := by
 simp only [withinB, Bool.not_eq_false', List.any_eq_true, Bool.or_eq_true, decide_eq_true_eq]
 exact ⟨x, hx, h⟩
theorem within_all {lo hi : Int} {l : List Int} (h : ∀ x ∈ l, lo ≤ x ∧ x ≤ hi) : withinB lo hi l = true := by
 simp only [withinB, Bool.not_eq_true', List.any_eq_false, Bool.or_eq_true, decide_eq_true_eq, not_or]
 intro x hx
 have := h x hx
 omega
theorem sumP_succ (P : Nat → Int) (k : Nat) : sumP P (k + 1) = sumP P k + P k := rfl
set_option maxHeartbeats 4000000 in
theorem con_refAgain {N : Nat} {es : List Ed} (hk : OkB N es) (l : List Int) (hl : l.length ≤ 1000) : Con T 3 34 [bkA (bkN N es), ints l] (twoA (ckG N es l)) := by
 refine con_intro t34 fun n hn V hV => ?_
 have b0 : ((0 : Int) != 0) = false := rfl
 have hle := hk.le
 have hn8 := hk.n8
 rw [bkN_A]
 by_cases hlen : l.length = es.length
 ·have d1 : ((l.length : Int) != (es.length : Int)) = false := by simp [hlen]
  simp (disch := first | assumption | omega) only [c34, go_sem, ↓reduceIte, cs_refOk, b0, d1]
  refine m_loop (fun M st => ∃ i : Nat, M = l.length - i ∧ i ≤ l.length ∧ At st.env [(1, ints l), (2, .optr 2 0 0), (6, .int .i64 (sumP (plF l) i)), (7, .int .i64 i)] ∧ getH st.heap 2 = .cells 0 [.int .i64 N, eds es] ∧ ∀ j y, j < i → l[j]? = some y → 0 ≤ y ∧ y ≤ 60) l.length (by omega)
   ⟨0, by omega, by omega, by simp only [go_sem, ↓reduceIte]; rfl, by simp only [go_sem, ↓reduceIte], fun j y h => by omega⟩ ?_
  rintro M e h hM ⟨i, rfl, hi, hE, g2, hA⟩ P hP
  simp only [At_cons, At_nil] at hE g2
  obtain ⟨f1, f2, f6, f7, -⟩ := hE
  have hsb : ∀ k : Nat, k ≤ i → 0 ≤ sumP (plF l) k ∧ sumP (plF l) k ≤ 60 * (k : Int) := fun k => by
   induction k with
   | zero => intro _; simp [sumP]
   | succ k ih =>
    intro hki
    obtain ⟨y, hy⟩ := get_ex (show k < l.length by omega)
    have h1 := hA k y (by omega) hy
    have h2 := ih (by omega)
    rw [sumP_succ, plF_get hy]; omega
  have hsbi := hsb i (Nat.le_refl i)
  by_cases hlt : i < l.length
  ·obtain ⟨y, hy⟩ := get_ex hlt
   have hpy := plF_get hy
   have hbad : y < 0 ∨ 60 < y → ckG N es l = (0, 3) := fun h => by rw [ckG, if_neg (by omega), if_pos (within_not (List.mem_of_getElem? hy) h)]
   by_cases c1 : y < 0
   ·have e1 : decide (y < 0) = true := by simpa using c1
    rw [hbad (.inl c1)] at hV
    simp (disch := first | assumption | omega) only [go_sem, ↓reduceIte, f1, f2, f6, f7, hlt, hy, e1]
    exact hV _ _ (frz_two (frz_int _ _ _ _) (frz_int _ _ _ _))
   ·have e1 : decide (y < 0) = false := by simpa using c1
    by_cases c2 : y > 60
    ·have e2 : decide (y > 60) = true := by simpa using c2
     rw [hbad (.inr c2)] at hV
     simp (disch := first | assumption | omega) only [go_sem, ↓reduceIte, f1, f2, f6, f7, hlt, hy, e1, e2]
     exact hV _ _ (frz_two (frz_int _ _ _ _) (frz_int _ _ _ _))
    ·have e2 : decide (y > 60) = false := by simpa using c2
     simp (disch := first | assumption | omega) only [go_sem, ↓reduceIte, f1, f2, f6, f7, hlt, hy, e1, e2]
     exact hP (l.length - (i + 1)) _ (by omega) ⟨i + 1, rfl, by omega, by simp only [go_sem, ↓reduceIte, f1, f2, sumP_succ, hpy], g2, fun j z hj hz => by
      by_cases hji : j = i
      ·subst hji
       rw [hy] at hz
       cases hz
       omega
      ·exact hA j z (by omega) hz⟩
  ·obtain rfl : i = l.length := by omega
   have hw : withinB 0 60 l = true := within_all fun x hx => by
    obtain ⟨j, hj, rfl⟩ := List.getElem_of_mem hx
    exact hA j _ hj (List.getElem?_eq_getElem hj)
   have hbx := plF_box (by omega) hw
   have hub : ∀ i j, 0 ≤ uptF l i j ∧ uptF l i j ≤ 60 := fun i j => by have := hbx j; unfold uptF; split <;> omega
   have hck : ckG N es l = if (zB (sF es (plF l)) && cloB es) = true then (sumP (plF l) es.length, 0) else (0, 19) := by
    rw [ckG, if_neg (by omega), if_neg (by rw [hw]; decide)]
   rw [hck] at hV
   clear hP hA hsb
   simp (disch := first | assumption | omega) only [go_sem, ↓reduceIte, f1, f2, f6, f7, hlt, g2]
   refine gp_of (raw_Surplus hk n (by omega) fun h3 g3 hF => ?_)
   obtain ⟨K, hK⟩ : ∃ K, K = h.length + 38 := ⟨_, rfl⟩
   have h2lt := getH_lt g2 (by simp)
   have g2' : getH h3 2 = .cells 0 [.int .i64 N, eds es] := by rw [hF 2 h2lt]; exact g2
   rw [← hK] at g3 ⊢
   have k2 : ¬ K = 2 := by omega
   clear hF g2
   simp (disch := first | assumption | omega) only [go_sem, ↓reduceIte, f1, f2, f6, f7]
   refine m_loop (fun M st => ∃ i : Nat, M = l.length - i ∧ i ≤ l.length ∧ At st.env [(1, ints l), (2, .optr 2 0 0), (6, .int .i64 (sumP (plF l) l.length)), (8, .oslice K 0 none 0 N (some N)), (9, .int .i64 i)] ∧ getH st.heap 2 = .cells 0 [.int .i64 N, eds es] ∧ getH st.heap K = .cells 0 (rwI N (sF es (uptF l i)))) l.length (by omega)
    ⟨0, by omega, by omega, by simp only [go_sem, ↓reduceIte, f1, f2, f6], g2', by
     have : uptF l 0 = fun _ => 0 := funext fun j => if_neg (Nat.not_lt_zero j)
     rw [this, sF_zero]; exact g3⟩ ?_
   clear g2' g3 f1 f2 f6 f7 hi
   rintro M e4 h4 hM4 ⟨i, rfl, hi, hE, g2, gK⟩ P hP
   simp only [At_cons, At_nil] at hE g2 gK
   obtain ⟨f1, f2, f6, f8, f9, -⟩ := hE
   have hrl : ∀ f : Nat → Int, (rwI N f).length = N := fun f => rwI_len N f
   by_cases hlt : i < l.length
   ·obtain ⟨y, hy⟩ := get_ex hlt
    have hyb := within_mem hw (List.mem_of_getElem? hy)
    have hpy := plF_get hy
    have hie : i < es.length := by omega
    have hq := hk.lt _ (List.getElem_mem hie)
    have hg := ed_get hie
    have hge := gE_get hie
    have hup : ∀ j, uptF l (i + 1) j = uptF l i j + if j = i then y else 0 := fun j => by
     unfold uptF
     by_cases hj : j = i
     ·subst hj; rw [if_pos (Nat.lt_succ_self j), if_neg (Nat.lt_irrefl j), if_pos rfl, hpy]; omega
     ·rw [if_neg hj]
      by_cases h3 : j < i
      ·rw [if_pos h3, if_pos (by omega)]; omega
      ·rw [if_neg h3, if_neg (by omega)]; omega
    have hsu := fun x => sF_up hie hup x
    rw [hge] at hsu
    generalize hqd : es[i] = q at *
    obtain ⟨qa, qb⟩ := q
    simp only at hq hsu
    simp only [edA] at hg
    obtain ⟨hq1, hq2⟩ := hq
    have hq1' : qa + 1 ≤ N := hq1
    have hq2' : qb + 1 ≤ N := hq2
    have hbb : ∀ x, -2000 ≤ sF es (uptF l i) x ∧ sF es (uptF l i) x ≤ 2000 := fun x => by
     have h1 := sP_box (es := es) (hub i) x es.length
     have h2 := sur_20 hk.le20 x
     rw [sF]; omega
    have hsa := hbb qa
    have hsbb := hbb qb
    have hval : -3000 ≤ (if qb = qa then sF es (uptF l i) qa + y else sF es (uptF l i) qb) - y ∧ (if qb = qa then sF es (uptF l i) qa + y else sF es (uptF l i) qb) - y ≤ 3000 := by split <;> omega
    simp (disch := first | assumption | omega) only [go_sem, ↓reduceIte, f1, f2, f6, f8, f9, hlt, hy, g2, gK, k2, hie, hg, hq1, hq2, hq1', hq2', hrl, srN_get, srN_set, ixAA_ptr]
    refine hP (l.length - (i + 1)) _ (by omega) ⟨i + 1, rfl, by omega, by simp only [go_sem, ↓reduceIte, f1, f2, f6, f8], by simp only [go_sem, ↓reduceIte, k2, g2], ?_⟩
    rw [getH_setH_self]
    congr 2
    congr 1
    funext z
    rw [hsu]
    by_cases ya : z = qa
    ·subst ya
     rw [dl_self]
     by_cases yb : z = qb
     ·subst yb
      rw [dl_self]
      simp only [if_true, Int.sub_self, Int.mul_zero]; omega
     ·rw [dl_ne (Ne.symm yb), if_neg yb, if_pos rfl, Int.sub_zero, Int.mul_one]
    ·rw [dl_ne (Ne.symm ya)]
     by_cases yb : z = qb
     ·subst yb
      rw [dl_self, if_pos rfl, if_neg ya, show y * (0 - 1) = -y by omega]; omega
     ·rw [dl_ne (Ne.symm yb), if_neg yb, if_neg ya, Int.sub_self, Int.mul_zero, Int.add_zero]
   ·obtain rfl : i = l.length := by omega
    have hKe : rwI N (sF es (uptF l l.length)) = rwI N (sF es (plF l)) := by rw [hlen, uptF_all]
    rw [hKe] at gK
    clear hP
    simp (disch := first | assumption | omega) only [go_sem, ↓reduceIte, f1, f2, f6, f8, f9, hlt]
    refine m_loop (fun M st => ∃ i : Nat, M = N - i ∧ i ≤ N ∧ At st.env [(2, .optr 2 0 0), (6, .int .i64 (sumP (plF l) l.length)), (8, .oslice K 0 none 0 N (some N)), (10, .int .i64 i)] ∧ getH st.heap 2 = .cells 0 [.int .i64 N, eds es] ∧ getH st.heap K = .cells 0 (rwI N (sF es (plF l))) ∧ ∀ x, x < i → sF es (plF l) x = 0) N (by omega)
     ⟨0, by omega, by omega, by simp only [go_sem, ↓reduceIte, f2, f6, f8], g2, gK, fun x h => by omega⟩ ?_
    clear g2 gK f1 f2 f6 f8 f9
    rintro M e5 h5 hM5 ⟨i, rfl, hi5, hE, g2, gK, hA⟩ P hP
    simp only [At_cons, At_nil] at hE g2 gK
    obtain ⟨f2, f6, f8, f10, -⟩ := hE
    by_cases hlt5 : i < N
    ·by_cases hz : sF es (plF l) i = 0
     ·have dz : (sF es (plF l) i != 0) = false := by rw [hz]; rfl
      simp (disch := first | assumption | omega) only [go_sem, ↓reduceIte, f2, f6, f8, f10, g2, gK, hlt5, srN_get, dz]
      exact hP (N - (i + 1)) _ (by omega) ⟨i + 1, rfl, by omega, by simp only [go_sem, ↓reduceIte, f2, f6, f8], g2, gK, fun x hx => by
       by_cases hxi : x = i
       ·rw [hxi]; exact hz
       ·exact hA x (by omega)⟩
     ·have dz : (sF es (plF l) i != 0) = true := by rw [bne_iff_ne]; exact hz
      have hzB : zB (sF es (plF l)) = false := by
       rw [zB, List.all_eq_false]
       exact ⟨i, List.mem_range.2 (by omega), by simpa using hz⟩
      rw [hzB, Bool.false_and, if_neg (by decide)] at hV
      simp (disch := first | assumption | omega) only [go_sem, ↓reduceIte, f2, f6, f8, f10, g2, gK, hlt5, srN_get, dz]
      exact hV _ _ (frz_two (frz_int _ _ _ _) (frz_int _ _ _ _))
    ·obtain rfl : N = i := by omega
     have hzB : zB (sF es (plF l)) = true := by
      rw [zB, List.all_eq_true]
      intro x _
      rw [decide_eq_true_eq]
      by_cases hx : x < N
      ·exact hA x hx
      ·exact sF_big hk.lt _ (by omega)
     rw [hzB, Bool.true_and] at hV
     simp (disch := first | assumption | omega) only [go_sem, ↓reduceIte, f2, f6, f8, f10, g2, gK, hlt5, cs_refCloses]
     cases hcl : cloB es with
     | true =>
      rw [hcl, if_pos rfl] at hV
      simp (disch := first | assumption | omega) only [go_sem, ↓reduceIte, f6]
      rw [hlen]
      exact hV _ _ (frz_two (frz_int _ _ _ _) (frz_int _ _ _ _))
     | false =>
      rw [hcl, if_neg (by decide)] at hV
      simp (disch := first | assumption | omega) only [go_sem, ↓reduceIte, f6]
      exact hV _ _ (frz_two (frz_int _ _ _ _) (frz_int _ _ _ _))
 ·have d1 : ((l.length : Int) != (es.length : Int)) = true := by rw [bne_iff_ne]; omega
  rw [show ckG N es l = (0, 15) by rw [ckG, if_pos hlen]] at hV
  simp (disch := first | assumption | omega) only [c34, go_sem, ↓reduceIte, cs_refOk, b0, d1]
  exact hV _ _ (frz_two (frz_int _ _ _ _) (frz_int _ _ _ _))
end Go.Ev.YtjcabpldgdafeaaC
set_option linter.unusedSimpArgs false
set_option linter.unusedVariables false
namespace Go.Ev.YtjcabpldgdafeaaC
open Go Go.Ev
def bt (S i : Nat) : Nat := S / 2 ^ i % 2
def sBt (S : Nat) (g : Nat → Int) : Nat → Int
 | 0 => 0
 | i + 1 => sBt S g i + (bt S i : Int) * g i
def pcN (S : Nat) : Nat → Nat
 | 0 => 0
 | i + 1 => pcN S i + bt S i
structure Good (es : List Ed) (fr to : Nat → Nat) (mm S : Nat) (v : Int) : Prop where
 lo : ∀ h : Nat → Int, (∀ e ∈ es, h e.2 ≤ h e.1 + 1) → (∀ x, 0 ≤ h x ∧ h x ≤ 90) → sBt S (fun i => h (to i)) mm - sumF (fun j => h (fr j)) (pcN S mm) ≤ v
 hi : ∀ P : Nat → Int, (∀ i, 0 ≤ P i) → (∀ x, sP es P x es.length = sumF (fun j => dl (fr j) x) (pcN S mm) - sBt S (fun i => dl (to i) x) mm) → v ≤ sumP P es.length
 bx : 0 ≤ v ∧ v ≤ 10000
end Go.Ev.YtjcabpldgdafeaaC
set_option linter.unusedSimpArgs false
set_option linter.unusedVariables false
namespace Go.Ev.YtjcabpldgdafeaaC
open Go Go.Proofs Go.Ev
attribute [local irreducible] Res.all evC evLoop evOps evOper evOp evFn evCall freeze G GO GV GP GC R
set_option maxRecDepth 100000
theorem Own.rd {lo : Nat} {h : Heap} {v : AV} {k : IntKind} {l : List Int} (ho : Own lo h v k l) {j : Nat} {y : Int} (hy : l[j]? = some y) : ∃ a, ixA 1 v j = .ret a ∧ ldA none h a = .ret (.int k y) := by
 have hj := (List.getElem?_eq_some_iff.1 hy).1
 rcases ho with ⟨rfl, _⟩ | ⟨key, ver, _, rfl, hH⟩
 ·simp at hj
 ·refine ⟨.optr key ver j, by simp [ixA, gsize, hj], ?_⟩
  have : (l.map (AV.int k))[j]? = some (.int k y) := by rw [List.getElem?_map, hy]; rfl
  simp [ldA, hH, Go.Ev.rd, this, Res.ofOpt]
end Go.Ev.YtjcabpldgdafeaaC
