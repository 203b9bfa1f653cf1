/- Whether notes prove that there is no tune, the program's and the reference's. No condition but those that stand in each. -/
import Derived.Test.YtjcabpldgdafeaaAL4Std
set_option linter.unusedSimpArgs false
set_option linter.unusedVariables false
namespace Go.Ev.YtjcabpldgdafeaaC
open Go Go.Proofs Go.Ev
attribute [local irreducible] Res.all evC evLoop evOps evOper evOp evFn evCall freeze G GO GV GP GC R
set_option maxRecDepth 100000
section
variable {n base : Nat} {Q : EX × St → Prop} {d : Option Nat} {L : List IOper} {ks : List Kont} {e : Env} {h : Heap}
theorem cs_refOk {N : Nat} {es : List Ed} {x : Bool} (hn : 2 ≤ n) (hk : OkB N es) : GP (evCall T n) base Q d L ks e (evCall T n false (.fn 20) [.agg [.int .i64 N, .slice (some 2) (es.map edA) x]] h) = GO (evCall T n) base Q L ks ⟨setDst e d (.int .i64 0), h⟩ := by
 have := con_refCheck (bkN N es) (by have := hk.le; simp [bkN]; omega)
 rw [bkN_A, ok_chk hk] at this
 exact gp_eq this hn (fz_cons (frz_agg (mz_cons (frz_int _ _ _ _) (mz_cons (frz_slice _ _ _ _ _) (mz_nil _ _)))) (fz_nil _)) (or_pi _ _ _)
end
def srN (N : Nat) (s : Nat → Int) : List Int := (List.range N).map s
theorem srN_len (N : Nat) (s : Nat → Int) : (srN N s).length = N := by simp [srN]
theorem srN_get {N : Nat} (s : Nat → Int) {v : Nat} (h : v < N) : ((srN N s).map (AV.int .i64))[v]? = some (.int .i64 (s v)) := by
 unfold srN
 rw [List.map_map]
 exact range_get N v _ h
theorem srN_set {N : Nat} (s : Nat → Int) {v : Nat} (h : v < N) (a : Int) : ((srN N s).map (AV.int .i64)).set v (.int .i64 a) = (srN N fun y => if y = v then a else s y).map (AV.int .i64) := by
 unfold srN
 rw [List.map_map, List.map_map, set_range]
 apply List.map_congr_left
 intro b _
 simp only [Function.comp]
 split <;> rfl
set_option maxHeartbeats 1000000 in
theorem con_Surplus (N : Nat) (es : List Ed) (hk : OkB N es) : Con T 1 69 [bkA (bkN N es)] (ints (srN N (sur es))) := by
 refine con_intro t69 fun n hn V hV => ?_
 have h8 := hk.n8
 have hl20 := hk.le20
 have hroom : room N 8 = true := room_ok (by omega)
 have hm1 : (N ≤ N) = True := eq_true (Nat.le_refl N)
 have hflat : (List.replicate N [AV.int IntKind.i64 0]).flatten = (srN N fun _ => 0).map (AV.int .i64) := by unfold srN; rw [List.map_map, flat_rep]; rfl
 rw [bkN_A]
 simp (disch := first | assumption | omega) only [c69, go_sem, ↓reduceIte, hroom, hm1, hflat]
 refine m_loop (fun M st => ∃ i : Nat, M = es.length - i ∧ i ≤ es.length ∧ At st.env [(1, .optr 1 0 0), (3, .oslice 38 0 none 0 N (some N)), (4, .int .i64 i)] ∧
   getH st.heap 1 = .cells 0 [.int .i64 N, eds es] ∧ getH st.heap 38 = .cells 0 ((srN N (sur (es.take i))).map (AV.int .i64))) es.length (by omega)
  ⟨0, by omega, by omega, by simp only [go_sem, ↓reduceIte], by simp only [go_sem, ↓reduceIte], by simp only [go_sem, ↓reduceIte]; rfl⟩ ?_
 rintro M e h hM ⟨i, rfl, hi, hE, g1, g38⟩ P hP
 simp only [At_cons, At_nil] at hE g1 g38
 obtain ⟨f1, f3, f4, -⟩ := hE
 by_cases hlt : i < es.length
 ·have hq := hk.lt _ (List.getElem_mem hlt)
  have hg := ed_get hlt
  have hst := sur_take hlt
  have hb := sur_box (es.take i)
  have htl : (es.take i).length ≤ 20 := by rw [List.length_take]; omega
  generalize hqd : es[i] = q at *
  obtain ⟨qa, qb⟩ := q
  simp only at hq hst
  simp only [edA] at hg
  obtain ⟨hq1, hq2⟩ := hq
  have hba := hb qa
  have hbb := hb qb
  have hsl : ∀ s : Nat → Int, ((srN N s).map (AV.int .i64)).length = N := fun s => by simp [srN]
  have hq1' : qa + 1 ≤ N := hq1
  have hq2' : qb + 1 ≤ N := hq2
  have hval : -21 ≤ (if qb = qa then sur (es.take i) qa + 1 else sur (es.take i) qb) - 1 ∧ (if qb = qa then sur (es.take i) qa + 1 else sur (es.take i) qb) - 1 ≤ 21 := by split <;> omega
  simp (disch := first | assumption | omega) only [go_sem, ↓reduceIte, f1, f3, f4, hlt, hg, g1, g38, hq1, hq2, hq1', hq2', hsl, srN_get, srN_set, List.length_map]
  refine hP (es.length - (i + 1)) _ (by omega) ⟨i + 1, rfl, by omega, by simp only [go_sem, ↓reduceIte, f1, f3], ?_, ?_⟩
  ·simp only [go_sem, ↓reduceIte, g1]
  ·rw [getH_setH_self]
   congr 3
   funext y
   rw [hst]
   by_cases h1 : y = qb
   ·subst h1
    simp only [if_true]
    by_cases h2 : y = qa
    ·subst h2
     simp only [if_true]
    ·simp only [if_neg h2]; omega
   ·rw [if_neg h1, if_neg h1]
    split
    ·next h2 => subst h2; omega
    ·omega
 ·obtain rfl : i = es.length := by omega
  rw [List.take_length] at g38
  simp (disch := first | assumption | omega) only [go_sem, ↓reduceIte, f1, f3, f4, hlt, g1, List.length_map]
  exact hV _ _ (frz_own g38 (by rw [srN_len]))
theorem cs_Surplus {n base : Nat} {Q : EX × St → Prop} {d : Option Nat} {L : List IOper} {ks : List Kont} {e : Env} {h : Heap} {N : Nat} {es : List Ed} {x : Bool} (hn : 1 ≤ n) (hk : OkB N es) : GP (evCall T n) base Q d L ks e (evCall T n false (.fn 69) [.agg [.int .i64 N, .slice (some 2) (es.map edA) x]] h) = GO (evCall T n) base Q L ks ⟨setDst e d (ints (srN N (sur es))), h⟩ := by
 have := con_Surplus N es hk
 rw [bkN_A] at this
 exact gp_eq this hn (fz_cons (frz_agg (mz_cons (frz_int _ _ _ _) (mz_cons (frz_slice _ _ _ _ _) (mz_nil _ _)))) (fz_nil _)) rfl
end Go.Ev.YtjcabpldgdafeaaC
namespace Go.Ev.YtjcabpldgdafeaaC
open Go Go.Proofs Go.Ev
attribute [local irreducible] Res.all evC evLoop evOps evOper evOp evFn evCall freeze G GO GV GP GC R
set_option maxRecDepth 100000
end Go.Ev.YtjcabpldgdafeaaC
