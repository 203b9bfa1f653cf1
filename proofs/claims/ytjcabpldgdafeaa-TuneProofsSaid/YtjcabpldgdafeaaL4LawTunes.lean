/- The law TuneTunes answers true; whether books are too great for a law, and whether lists are equal. No condition. -/
import Derived.Test.YtjcabpldgdafeaaL4Fn4
import Derived.Test.YtjcabpldgdafeaaL4Tune
import Derived.Test.YtjcabpldgdafeaaL4Works
set_option linter.unusedSimpArgs false
set_option linter.unusedVariables false
namespace Go.Ev.YtjcabpldgdafeaaC
open Go Go.Proofs

attribute [local irreducible] Res.all evC evLoop evOps evOper evOp evFn evCall freeze G GO GV GP GC R
set_option maxRecDepth 100000

theorem con_Ints (a b : List Int) (hl : a.length ≤ 1000) (hl2 : b.length ≤ 1000) : Con T 1 28 [ints a, ints b] (.bool (decide (a = b))) := by
  refine con_intro t28 fun n hn V hV => ?_
  by_cases hab : a.length = b.length
  · have d0 : ((a.length : Int) != (b.length : Int)) = false := by simp; omega
    simp (disch := first | assumption | omega) only [c28, go_sem, ↓reduceIte, List.length_map, d0, Bool.false_eq_true]
    refine m_loop (fun M st => ∃ i : Nat, M = a.length - i ∧ i ≤ a.length ∧ At st.env [(0, ints a), (1, ints b), (5, .int .i64 i)] ∧ a.take i = b.take i) a.length (by omega)
      ⟨0, by omega, by omega, by simp only [go_sem, ↓reduceIte], rfl⟩ ?_
    rintro M e h hM ⟨i, rfl, hi, hE, hA⟩ P hP
    simp only [At_cons, At_nil] at hE
    obtain ⟨f0, f1, f5, -⟩ := hE
    by_cases hlt : i < a.length
    · have hlt2 : i < b.length := by omega
      obtain ⟨y, hy⟩ := get_ex hlt
      obtain ⟨z, hz⟩ := get_ex hlt2
      by_cases hyz : y = z
      · have dn : (y != z) = false := by simpa using hyz
        simp (disch := first | assumption | omega) only [go_sem, ↓reduceIte, f0, f1, f5, hlt, hy, hz, dn, List.length_map, Bool.false_eq_true]
        refine hP (a.length - (i + 1)) _ (by omega) ⟨i + 1, rfl, by omega, by simp only [go_sem, ↓reduceIte, f0, f1], ?_⟩
        rw [List.take_succ_eq_append_getElem hlt, List.take_succ_eq_append_getElem hlt2, hA, (List.getElem?_eq_some_iff.1 hy).2, (List.getElem?_eq_some_iff.1 hz).2, hyz]
      · have dn : (y != z) = true := by simpa using hyz
        simp (disch := first | assumption | omega) only [go_sem, ↓reduceIte, f0, f1, f5, hlt, hy, hz, dn, List.length_map]
        refine hV _ _ ?_
        have : decide (a = b) = false := by
          simp only [decide_eq_false_iff_not]
          intro e
          rw [e] at hy
          exact hyz (Option.some.inj (hy.symm.trans hz))
        rw [frz_bool, this]
    · simp (disch := first | assumption | omega) only [go_sem, ↓reduceIte, f0, f1, f5, hlt, List.length_map]
      refine hV _ _ ?_
      rw [List.take_of_length_le (by omega), List.take_of_length_le (by omega)] at hA
      rw [frz_bool, hA]; simp
  · have d0 : ((a.length : Int) != (b.length : Int)) = true := by simp; omega
    simp (disch := first | assumption | omega) only [c28, go_sem, ↓reduceIte, List.length_map, d0]
    refine hV _ _ ?_
    have : decide (a = b) = false := by
      simp only [decide_eq_false_iff_not]
      exact fun e => hab (by rw [e])
    rw [frz_bool, this]
def wideB (b : Bk) : Bool := decide (20 < b.slurs.length) || (decide (11 < b.slurs.length) && decide (chkB b = 0))
theorem con_wide (b : Bk) : Con T 3 21 [bkA b] (.bool (wideB b)) := by
  refine con_intro t21 fun n hn V hV => ?_
  by_cases h1 : 20 < b.slurs.length
  · have d1 : decide (20 < b.slurs.length) = true := by simpa using h1
    simp (disch := first | assumption | omega) only [c21, go_sem, ↓reduceIte, cs_great, d1]
    exact hV _ _ (by rw [frz_bool, wideB, d1, Bool.true_or])
  · have d1 : decide (20 < b.slurs.length) = false := by simpa using h1
    have hl : b.slurs.length ≤ 20 := by omega
    by_cases h2 : 11 < b.slurs.length
    · have d2 : decide ((b.slurs.length : Int) > 11) = true := by simp; omega
      have d2' : decide (11 < b.slurs.length) = true := by simpa using h2
      simp (disch := first | assumption | omega) only [c21, go_sem, ↓reduceIte, cs_great, d1, d2, cs_refCheck, List.length_map, Bool.false_eq_true]
      refine hV _ _ ?_
      rw [frz_bool, wideB, d1, d2', Bool.false_or, Bool.true_and]
      rfl
    · have d2 : decide ((b.slurs.length : Int) > 11) = false := by simp; omega
      have d2' : decide (11 < b.slurs.length) = false := by simpa using h2
      simp (disch := first | assumption | omega) only [c21, go_sem, ↓reduceIte, cs_great, d1, d2, List.length_map, Bool.false_eq_true]
      exact hV _ _ (by rw [frz_bool, wideB, d1, d2', Bool.false_or, Bool.false_and])
def fineB (b : Bk) : Bool := !wideB b && decide (chkB b = 0)
theorem con_fine (b : Bk) : Con T 4 41 [bkA b] (.bool (fineB b)) := by
  refine con_intro t41 fun n hn V hV => ?_
  simp (disch := first | assumption | omega) only [c41, go_sem, ↓reduceIte]
  refine gp_con (con_wide b) (by omega) (fz_bkA _ _ (fz_nil _)) (or_pb _ _) ?_
  by_cases h : wideB b = true
  · simp (disch := first | assumption | omega) only [go_sem, ↓reduceIte, h, Bool.not_true, Bool.false_eq_true]
    exact hV _ _ (by rw [frz_bool, fineB, h]; rfl)
  · have h' : wideB b = false := by simpa using h
    have hl : b.slurs.length ≤ 20 := by
      simp only [wideB, Bool.or_eq_false_iff, decide_eq_false_iff_not] at h'
      omega
    simp (disch := first | assumption | omega) only [go_sem, ↓reduceIte, h', Bool.not_false, cs_refCheck]
    exact hV _ _ (by rw [frz_bool, fineB, h']; rfl)
section
variable {n base : Nat} {Q : EX × St → Prop} {d : Option Nat} {L : List IOper} {ks : List Kont} {e : Env} {h : Heap}
theorem cs_Ints {a b : List Int} {x y : Bool} (hn : 1 ≤ n) (hl : a.length ≤ 1000) (hl2 : b.length ≤ 1000) : GP (evCall T n) base Q d L ks e (evCall T n false (.fn 28) [.slice none (a.map (.int .i64)) x, .slice none (b.map (.int .i64)) y] h) = GO (evCall T n) base Q L ks ⟨setDst e d (.bool (decide (a = b))), h⟩ :=
  gp_eq (con_Ints a b hl hl2) hn (by repeat (first | exact fz_nil _ | refine fz_slice _ _ _ _ ?_ | refine fz_int _ _ _ ?_)) (or_pb _ _)
theorem cs_wide {b : Bk} {x : Bool} (hn : 3 ≤ n) : GP (evCall T n) base Q d L ks e (evCall T n false (.fn 21) [.agg [.int .i64 b.notes, .slice (some 2) (b.slurs.map pA) x]] h) = GO (evCall T n) base Q L ks ⟨setDst e d (.bool (wideB b)), h⟩ :=
  gp_eq (con_wide b) hn (fz_cons (frz_agg (mz_cons (frz_int _ _ _ _) (mz_cons (frz_slice _ _ _ _ _) (mz_nil _ _)))) (fz_nil _)) (or_pb _ _)
theorem cs_fine {b : Bk} {x : Bool} (hn : 4 ≤ n) : GP (evCall T n) base Q d L ks e (evCall T n false (.fn 41) [.agg [.int .i64 b.notes, .slice (some 2) (b.slurs.map pA) x]] h) = GO (evCall T n) base Q L ks ⟨setDst e d (.bool (fineB b)), h⟩ :=
  gp_eq (con_fine b) hn (fz_cons (frz_agg (mz_cons (frz_int _ _ _ _) (mz_cons (frz_slice _ _ _ _ _) (mz_nil _ _)))) (fz_nil _)) (or_pb _ _)
/-- books as the laws hand them on -/
theorem gp_bk {k f : Nat} {b : Bk} {r : AV} {x : Bool} (hc : Con T k f [bkA b] r) (hk : k ≤ n) : GP (evCall T n) base Q d L ks e (evCall T n false (.fn f) [.agg [.int .i64 b.notes, .slice (some 2) (b.slurs.map pA) x]] h) = GO (evCall T n) base Q L ks ⟨setDst e d r, h⟩ :=
  gp_eq hc hk (fz_cons (frz_agg (mz_cons (frz_int _ _ _ _) (mz_cons (frz_slice _ _ _ _ _) (mz_nil _ _)))) (fz_nil _)) rfl
theorem gp_bkI {k f : Nat} {b : Bk} {r : AV} {x y : Bool} {l : List Int} (hc : Con T k f [bkA b, ints l] r) (hk : k ≤ n) : GP (evCall T n) base Q d L ks e (evCall T n false (.fn f) [.agg [.int .i64 b.notes, .slice (some 2) (b.slurs.map pA) x], .slice none (l.map (.int .i64)) y] h) = GO (evCall T n) base Q L ks ⟨setDst e d r, h⟩ :=
  gp_eq hc hk (fz_cons (frz_agg (mz_cons (frz_int _ _ _ _) (mz_cons (frz_slice _ _ _ _ _) (mz_nil _ _)))) (fz_slice _ _ _ _ (fz_nil _))) rfl
end
theorem tuA_some (o : Option (List Nat)) : ∃ (l : List Int) (c : Int), tuA o = .tuple [ints l, .int .i64 c] ∧ (o = none → l = []) ∧ ∀ k, o = some k → l = nI4 k := by
  cases o with
  | none => exact ⟨[], 19, rfl, (fun _ => rfl), (fun k h => by cases h)⟩
  | some k => exact ⟨nI4 k, 0, rfl, (fun h => by cases h), (fun k' h => by cases h; rfl)⟩
theorem frT_len (N : Nat) (es : List Ed) : ∀ (k : Nat) (a : Int) (out : List Nat), (frT N es k a out).length = out.length + k
  | 0, _, _ => rfl
  | k + 1, a, out => by
    show (frT N es k _ (out ++ [_])).length = _
    rw [frT_len N es k, List.length_append, List.length_singleton]; omega
theorem tu_len {N : Nat} {es : List Ed} (hk : OkB N es) : ∀ l, tuR es es.length 0 (-1) [] = some l → l.length = es.length := fun l h => by
  by_cases hs : strL N es = []
  · rw [tu_none hk hs] at h; cases h
  · rw [tu_some hk hs] at h
    cases h
    rw [frT_len]; simp

theorem tuneTunes_at (n40 : Nat) (hn : n40 = 20000) (b : Bk) (hw : BkWf b) : (evFn (evCall T n40) c4 [bkA b] []).all fun p => p.1 = .bool true := by
  rw [m_fn]
  have h20 : 20 ≤ n40 := by omega
  have h3 : 3 ≤ n40 := by omega
  have h1 : 1 ≤ n40 := by omega
  by_cases hwd : wideB b = true
  · simp (disch := first | assumption | omega) only [c4, go_sem, ↓reduceIte, cs_wide, hwd, cs_Works hn]
  · have hwd' : wideB b = false := by simpa using hwd
    have hl : b.slurs.length ≤ 20 := by
      have := hwd'
      simp only [wideB, Bool.or_eq_false_iff, decide_eq_false_iff_not] at this
      omega
    by_cases hc : chkB b = 0
    · have h11 : b.slurs.length ≤ 11 := by
        have := hwd'
        simp only [wideB, Bool.or_eq_false_iff, Bool.and_eq_false_iff, decide_eq_false_iff_not] at this
        omega
      obtain ⟨N, es, rfl, hk⟩ := chk_ok hc
      have h11' : es.length ≤ 11 := by simpa [bkN] using h11
      obtain ⟨l, c, e1, e2, e3⟩ := tuA_some (tuR es es.length 0 (-1) [])
      have hll : l.length ≤ 1000 := by
        cases ho : tuR es es.length 0 (-1) [] with
        | none => rw [e2 ho]; simp
        | some k => rw [e3 k ho, nI4_len, tu_len hk k ho]; omega
      have k1 := con_Tune N es hk
      have k2 := con_refFirst N es hk h11'
      have k3 := con_Starts N es hk
      have k4 := con_refStarts N es hk h11'
      have k5 := con_Count N es hk
      have k6 := con_refCount N es hk h11'
      rw [e1] at k1 k2
      have hsl : (nI4 (strL N es)).length ≤ 1000 := by
        rw [nI4_len]
        have := List.Nodup.length_le_of_subset (l₂ := List.range 8) (strL_nodup N es) fun x hx => List.mem_range.2 (strL_lt hk.lt8 hk.n8 hx)
        simp at this; omega
      have dt : decide True = true := rfl
      simp (disch := first | assumption | omega) only [c4, go_sem, ↓reduceIte, cs_wide, hwd', gp_bk k1 h20, gp_bk k2 h3, gp_bk k3 h20, gp_bk k4 h3, gp_bk k5 h20, gp_bk k6 h3, cs_Ints, dt, beq_self_eq_true, cs_Works hn, Bool.false_eq_true]
    · have k1 := con_Tune_no b hl hc
      have k2 := con_refFirst_no b hl hc
      have k3 := con_Starts_no b hl hc
      have k4 := con_refStarts_no b hl hc
      have k5 := con_Count_no b hl hc
      have k6 := con_refCount_no b hl hc
      have dt : decide True = true := rfl
      have nl : ([] : List Int).length ≤ 1000 := by simp
      simp (disch := first | assumption | omega) only [c4, go_sem, ↓reduceIte, cs_wide, hwd', gp_bk k1 h20, gp_bk k2 h3, gp_bk k3 h20, gp_bk k4 h3, gp_bk k5 h20, gp_bk k6 h3, cs_Ints, dt, nl, beq_self_eq_true, cs_Works hn, Bool.false_eq_true]

def tuneTunes_n : Nat := 20000
theorem tuneTunes_ev (b : Bk) (hw : BkWf b) : (evFn (evCall T tuneTunes_n) c4 [bkA b] []).all fun p => p.1 = .bool true := tuneTunes_at _ rfl b hw
end Go.Ev.YtjcabpldgdafeaaC
