/- Whether notes prove that there is no tune, the program's and the reference's. No condition but those that stand in each. -/
import Derived.Test.YtjcabpldgdafeaaCL4Std
set_option linter.unusedSimpArgs false
set_option linter.unusedVariables false
namespace Go.Ev.YtjcabpldgdafeaaC
open Go Go.Proofs Go.Ev
attribute [local irreducible] Res.all evC evLoop evOps evOper evOp evFn evCall freeze G GO GV GP GC R
set_option maxRecDepth 100000
def risF (below : Int) : Int → List Int → Bool
 | _, [] => true
 | next, n :: r => (decide (next ≤ n) && decide (n < below)) && risF below (n + 1) r
def ckPN (N : Nat) (es : List Ed) (kind : Int) (l : List Int) : Int :=
 if kind ≠ 1 ∧ kind ≠ 2 then 2
 else if risF N 0 l = false then 3
 else if kind = 1 then (if ovB (sur es) l = true then 0 else 14)
 else if apB es l = true then 0 else 14
theorem ris_in {N : Int} : ∀ {l : List Int} {next : Int}, 0 ≤ next → risF N next l = true → ∀ x ∈ l, 0 ≤ x ∧ x < N
 | [], _, _, _, _, h => by cases h
 | n :: r, next, h0, h, x, hx => by
  simp only [risF, Bool.and_eq_true, decide_eq_true_eq] at h
  rcases List.mem_cons.1 hx with rfl | hx
  ·omega
  ·exact ris_in (by omega) h.2 x hx
theorem con_Has (l : List Int) (x : Int) (hl : l.length ≤ 1000) : Con T 1 43 [ints l, .int .i64 x] (.bool (l.contains x)) := by
 refine con_intro t43 fun n hn V hV => ?_
 simp (disch := first | assumption | omega) only [c43, go_sem, ↓reduceIte]
 refine m_loop (fun M s => ∃ k : Nat, M = l.length - k ∧ k ≤ l.length ∧ At s.env [(0, ints l), (1, .int .i64 x), (5, .int .i64 k)] ∧ l.contains x = (l.drop k).contains x) l.length (by omega) ⟨0, by simp, by omega, by simp only [go_sem, ↓reduceIte], rfl⟩ ?_
 rintro M e h hM ⟨k, rfl, hk, hE, hA⟩ P hP
 simp only [At_cons, At_nil] at hE
 obtain ⟨h0, h1, h5, -⟩ := hE
 by_cases hlt : k < l.length
 ·obtain ⟨y, hy⟩ := get_ex hlt
  rw [drop_cons hy, List.contains_cons] at hA
  by_cases hxy : y = x
  ·subst hxy
   simp (disch := first | assumption | omega) only [go_sem, ↓reduceIte, h0, h1, h5, hlt, hy, beq_self_eq_true, List.length_map]
   exact hV _ _ (by rw [frz_bool, hA]; simp)
  ·have hb : (y == x) = false := by simpa using hxy
   simp (disch := first | assumption | omega) only [go_sem, ↓reduceIte, h0, h1, h5, hlt, hy, hb, List.length_map, Bool.false_eq_true]
   exact hP (l.length - (k + 1)) _ (by omega) ⟨k + 1, rfl, by omega, by simp only [go_sem, ↓reduceIte, h0, h1], by
    have : (x == y) = false := by simpa using fun h => hxy h.symm
    rw [hA, this, Bool.false_or]⟩
 ·simp (disch := first | assumption | omega) only [go_sem, ↓reduceIte, h0, h1, h5, hlt, List.length_map]
  exact hV _ _ (by rw [frz_bool, hA, List.drop_eq_nil_of_le (by omega)]; rfl)
section
variable {n base : Nat} {Q : EX × St → Prop} {d : Option Nat} {L : List IOper} {ks : List Kont} {e : Env} {h : Heap}
theorem cs_Has {l : List Int} {x : Bool} {y : Int} (hn : 1 ≤ n) (hl : l.length ≤ 1000) : GP (evCall T n) base Q d L ks e (evCall T n false (.fn 43) [.slice none (l.map (.int .i64)) x, .int .i64 y] h) = GO (evCall T n) base Q L ks ⟨setDst e d (.bool (l.contains y)), h⟩ :=
 gp_eq (con_Has l y hl) hn (by repeat (first | exact fz_nil _ | refine fz_slice _ _ _ _ ?_ | refine fz_int _ _ _ ?_)) rfl
theorem cs_refOk {N : Nat} {es : List Ed} {x : Bool} (hn : 2 ≤ n) (hk : OkB N es) : GP (evCall T n) base Q d L ks e (evCall T n false (.fn 20) [.agg [.int .i64 N, .slice (some 2) (es.map edA) x]] h) = GO (evCall T n) base Q L ks ⟨setDst e d (.int .i64 0), h⟩ := by
 have := con_refCheck (bkN N es) (by have := hk.le; simp [bkN]; omega)
 rw [bkN_A, ok_chk hk] at this
 exact gp_eq this hn (fz_cons (frz_agg (mz_cons (frz_int _ _ _ _) (mz_cons (frz_slice _ _ _ _ _) (mz_nil _ _)))) (fz_nil _)) (or_pi _ _ _)
theorem cs_noteOk {N : Nat} {es : List Ed} {x : Bool} {y : Int} (hn : 1 ≤ n) : GP (evCall T n) base Q d L ks e (evCall T n false (.fn 56) [.agg [.int .i64 N, .slice (some 2) (es.map edA) x], .int .i64 y] h) = GO (evCall T n) base Q L ks ⟨setDst e d (.bool (noteB N y)), h⟩ := by
 have := con_isNote (bkN N es) y
 rw [bkN_A] at this
 exact gp_eq this hn (fz_cons (frz_agg (mz_cons (frz_int _ _ _ _) (mz_cons (frz_slice _ _ _ _ _) (mz_nil _ _)))) (fz_int _ _ _ (fz_nil _))) (or_pb _ _)
end
def srN (N : Nat) (s : Nat → Int) : List Int := (List.range N).map s
theorem srN_len (N : Nat) (s : Nat → Int) : (srN N s).length = N := by simp [srN]
theorem srN_get {N : Nat} (s : Nat → Int) {v : Nat} (h : v < N) : ((srN N s).map (AV.int .i64))[v]? = some (.int .i64 (s v)) := by
 unfold srN
 rw [List.map_map]
 exact range_get N v _ h
theorem srN_set {N : Nat} (s : Nat → Int) {v : Nat} (h : v < N) (a : Int) : ((srN N s).map (AV.int .i64)).set v (.int .i64 a) = (srN N fun y => if y = v then a else s y).map (AV.int .i64) := by
 unfold srN
 rw [List.map_map, List.map_map, set_range]
 apply List.map_congr_left
 intro b _
 simp only [Function.comp]
 split <;> rfl
set_option maxHeartbeats 1000000 in
theorem con_Surplus (N : Nat) (es : List Ed) (hk : OkB N es) : Con T 1 69 [bkA (bkN N es)] (ints (srN N (sur es))) := by
 refine con_intro t69 fun n hn V hV => ?_
 have h8 := hk.n8
 have hl20 := hk.le20
 have hroom : room N 8 = true := room_ok (by omega)
 have hm1 : (N ≤ N) = True := eq_true (Nat.le_refl N)
 have hflat : (List.replicate N [AV.int IntKind.i64 0]).flatten = (srN N fun _ => 0).map (AV.int .i64) := by unfold srN; rw [List.map_map, flat_rep]; rfl
 rw [bkN_A]
 simp (disch := first | assumption | omega) only [c69, go_sem, ↓reduceIte, hroom, hm1, hflat]
 refine m_loop (fun M st => ∃ i : Nat, M = es.length - i ∧ i ≤ es.length ∧ At st.env [(1, .optr 1 0 0), (3, .oslice 38 0 none 0 N (some N)), (4, .int .i64 i)] ∧
   getH st.heap 1 = .cells 0 [.int .i64 N, eds es] ∧ getH st.heap 38 = .cells 0 ((srN N (sur (es.take i))).map (AV.int .i64))) es.length (by omega)
  ⟨0, by omega, by omega, by simp only [go_sem, ↓reduceIte], by simp only [go_sem, ↓reduceIte], by simp only [go_sem, ↓reduceIte]; rfl⟩ ?_
 rintro M e h hM ⟨i, rfl, hi, hE, g1, g38⟩ P hP
 simp only [At_cons, At_nil] at hE g1 g38
 obtain ⟨f1, f3, f4, -⟩ := hE
 by_cases hlt : i < es.length
 ·have hq := hk.lt _ (List.getElem_mem hlt)
  have hg := ed_get hlt
  have hst := sur_take hlt
  have hb := sur_box (es.take i)
  have htl : (es.take i).length ≤ 20 := by rw [List.length_take]; omega
  generalize hqd : es[i] = q at *
  obtain ⟨qa, qb⟩ := q
  simp only at hq hst
  simp only [edA] at hg
  obtain ⟨hq1, hq2⟩ := hq
  have hba := hb qa
  have hbb := hb qb
  have hsl : ∀ s : Nat → Int, ((srN N s).map (AV.int .i64)).length = N := fun s => by simp [srN]
  have hq1' : qa + 1 ≤ N := hq1
  have hq2' : qb + 1 ≤ N := hq2
  have hval : -21 ≤ (if qb = qa then sur (es.take i) qa + 1 else sur (es.take i) qb) - 1 ∧ (if qb = qa then sur (es.take i) qa + 1 else sur (es.take i) qb) - 1 ≤ 21 := by split <;> omega
  simp (disch := first | assumption | omega) only [go_sem, ↓reduceIte, f1, f3, f4, hlt, hg, g1, g38, hq1, hq2, hq1', hq2', hsl, srN_get, srN_set, List.length_map]
  refine hP (es.length - (i + 1)) _ (by omega) ⟨i + 1, rfl, by omega, by simp only [go_sem, ↓reduceIte, f1, f3], ?_, ?_⟩
  ·simp only [go_sem, ↓reduceIte, g1]
  ·rw [getH_setH_self]
   congr 3
   funext y
   rw [hst]
   by_cases h1 : y = qb
   ·subst h1
    simp only [if_true]
    by_cases h2 : y = qa
    ·subst h2
     simp only [if_true]
    ·simp only [if_neg h2]; omega
   ·rw [if_neg h1, if_neg h1]
    split
    ·next h2 => subst h2; omega
    ·omega
 ·obtain rfl : i = es.length := by omega
  rw [List.take_length] at g38
  simp (disch := first | assumption | omega) only [go_sem, ↓reduceIte, f1, f3, f4, hlt, g1, List.length_map]
  exact hV _ _ (frz_own g38 (by rw [srN_len]))
theorem cs_Surplus {n base : Nat} {Q : EX × St → Prop} {d : Option Nat} {L : List IOper} {ks : List Kont} {e : Env} {h : Heap} {N : Nat} {es : List Ed} {x : Bool} (hn : 1 ≤ n) (hk : OkB N es) : GP (evCall T n) base Q d L ks e (evCall T n false (.fn 69) [.agg [.int .i64 N, .slice (some 2) (es.map edA) x]] h) = GO (evCall T n) base Q L ks ⟨setDst e d (ints (srN N (sur es))), h⟩ := by
 have := con_Surplus N es hk
 rw [bkN_A] at this
 exact gp_eq this hn (fz_cons (frz_agg (mz_cons (frz_int _ _ _ _) (mz_cons (frz_slice _ _ _ _ _) (mz_nil _ _)))) (fz_nil _)) rfl
end Go.Ev.YtjcabpldgdafeaaC
namespace Go.Ev.YtjcabpldgdafeaaC
open Go Go.Proofs Go.Ev
attribute [local irreducible] Res.all evC evLoop evOps evOper evOp evFn evCall freeze G GO GV GP GC R
set_option maxRecDepth 100000
theorem sumI_take {f : Int → Int} {l : List Int} {i : Nat} {y : Int} (hy : l[i]? = some y) : sumI f (l.take (i + 1)) = sumI f (l.take i) + f y := by
 have hi := (List.getElem?_eq_some_iff.1 hy).1
 rw [List.take_succ_eq_append_getElem hi, (List.getElem?_eq_some_iff.1 hy).2, sumI_app]; simp [sumI]
theorem all_take {p : Int → Bool} {l : List Int} {i : Nat} {y : Int} (hy : l[i]? = some y) : (l.take (i + 1)).all p = ((l.take i).all p && p y) := by
 have hi := (List.getElem?_eq_some_iff.1 hy).1
 rw [List.take_succ_eq_append_getElem hi, (List.getElem?_eq_some_iff.1 hy).2, List.all_append]; simp
set_option maxHeartbeats 2000000 in
theorem con_refProof1 (N : Nat) (es : List Ed) (l : List Int) (hk : OkB N es) (hl : l.length ≤ 1000) : Con T 3 32 [bkA (bkN N es), .int .i64 1, ints l] (.int .i64 (ckPN N es 1 l)) := by
 refine con_intro t32 fun n hn V hV => ?_
 have b0 : ((0 : Int) != 0) = false := rfl
 have d1 : ((1 : Int) != 1) = false := rfl
 have d3 : ((1 : Int) == 1) = true := rfl
 have h1 := hk.n1
 have h8 := hk.n8
 have hl20 := hk.le20
 have hs := sur_20 hl20
 have g1 : ¬ ((1 : Int) ≠ 1 ∧ (1 : Int) ≠ 2) := by omega
 rw [bkN_A]
 simp (disch := first | assumption | omega) only [c32, go_sem, ↓reduceIte, cs_refOk, b0, d1, d3, Bool.false_eq_true]
 refine m_loop (fun M st => ∃ (i : Nat) (nx : Int), M = l.length - i ∧ i ≤ l.length ∧ At st.env [(1, .int .i64 1), (2, ints l), (3, .optr 3 0 0), (7, .int .i64 i)] ∧ getH st.heap 3 = .cells 0 [.int .i64 N, eds es] ∧ 0 ≤ nx ∧ (i = 0 → nx = 0) ∧ (∀ z, 0 < i → l[i - 1]? = some z → nx = z + 1) ∧ risF N 0 l = risF N nx (l.drop i)) l.length (by omega)
  ⟨0, 0, by omega, by omega, by simp only [go_sem, ↓reduceIte], by simp only [go_sem, ↓reduceIte], by omega, fun _ => rfl, fun z h => by omega, rfl⟩ ?_
 rintro M e h hM ⟨i, nx, rfl, hi, hE, hH, hnx0, hnxa, hnxb, hA⟩ P hP
 simp only [At_cons, At_nil] at hE hH
 obtain ⟨f1, f2, f3, f7, -⟩ := hE
 by_cases hlt : i < l.length
 ·obtain ⟨y, hy⟩ := get_ex hlt
  rw [drop_cons hy, risF] at hA
  have bad : (decide (nx ≤ y) && decide (y < (N : Int))) = false → ∀ h, V (.int .i64 3, h) := fun hb h => hV _ _ (by
   rw [hb, Bool.false_and] at hA
   rw [frz_int, ckPN, if_neg g1, if_pos hA])
  by_cases hny : noteB N y = true
  ·have hy0 : 0 ≤ y ∧ y < N := by simpa [noteB] using hny
   by_cases hi0 : i = 0
   ·have dd : decide ((i : Int) > 0) = false := by simp; omega
    have hnx := hnxa hi0
    have hr : (decide (nx ≤ y) && decide (y < (N : Int))) = true := by simp; omega
    rw [hr, Bool.true_and] at hA
    simp (disch := first | assumption | omega) only [go_sem, ↓reduceIte, f1, f2, f3, f7, hH, hlt, hy, cs_noteOk, hny, dd, List.length_map, Bool.not_true, Bool.false_eq_true]
    exact hP (l.length - (i + 1)) _ (by omega) ⟨i + 1, y + 1, rfl, by omega, by simp only [go_sem, ↓reduceIte, f1, f2, f3], hH, by omega, fun h => by omega, fun z _ hz => by
     rw [show i + 1 - 1 = i from rfl] at hz
     have : some y = some z := hy.symm.trans hz
     cases this; rfl, hA⟩
   ·obtain ⟨z, hz⟩ := get_ex (show i - 1 < l.length by omega)
    have hnx := hnxb z (by omega) hz
    have dd : decide ((i : Int) > 0) = true := by simp; omega
    have hni : asNat (.int .i64 ((i : Int) - 1)) = some (i - 1) := by
     rw [show (i : Int) - 1 = ((i - 1 : Nat) : Int) by omega]
     exact asNat_nat _ _
    by_cases hyz : y ≤ z
    ·have d4 : decide (y ≤ z) = true := by simpa using hyz
     simp (disch := first | assumption | omega) only [go_sem, ↓reduceIte, f1, f2, f3, f7, hH, hlt, hy, hni, hz, cs_noteOk, hny, dd, d4, List.length_map, Bool.not_true, Bool.false_eq_true]
     exact bad (by simp; omega) _
    ·have d4 : decide (y ≤ z) = false := by simpa using hyz
     have hr : (decide (nx ≤ y) && decide (y < (N : Int))) = true := by simp; omega
     rw [hr, Bool.true_and] at hA
     simp (disch := first | assumption | omega) only [go_sem, ↓reduceIte, f1, f2, f3, f7, hH, hlt, hy, hni, hz, cs_noteOk, hny, dd, d4, List.length_map, Bool.not_true, Bool.false_eq_true]
     exact hP (l.length - (i + 1)) _ (by omega) ⟨i + 1, y + 1, rfl, by omega, by simp only [go_sem, ↓reduceIte, f1, f2, f3], hH, by omega, fun h => by omega, fun z _ hz => by
      rw [show i + 1 - 1 = i from rfl] at hz
      have : some y = some z := hy.symm.trans hz
      cases this; rfl, hA⟩
  ·have hny' : noteB N y = false := by simpa using hny
   simp (disch := first | assumption | omega) only [go_sem, ↓reduceIte, f1, f2, f3, f7, hH, hlt, hy, cs_noteOk, hny', List.length_map, Bool.not_false, Bool.false_eq_true]
   refine bad ?_ _
   cases hc : (decide (nx ≤ y) && decide (y < (N : Int))) with
   | false => rfl
   | true =>
    simp only [Bool.and_eq_true, decide_eq_true_eq] at hc
    have : noteB N y = true := by simp [noteB]; omega
    exact absurd this hny
 ·have g2 : risF N 0 l = true := by rw [hA, List.drop_eq_nil_of_le (by omega)]; rfl
  have g2' : ¬ risF N 0 l = false := by rw [g2]; decide
  have hin := ris_in (by omega) g2
  simp (disch := first | assumption | omega) only [go_sem, ↓reduceIte, f1, f2, f3, f7, hH, hlt, d3, cs_Surplus, List.length_map]
  clear hP hA f7 hlt hM
  have hck : ckPN N es 1 l = if ovB (sur es) l = true then 0 else 14 := by rw [ckPN, if_neg g1, if_neg g2', if_pos rfl]
  rw [hck] at hV
  refine m_loop (fun M st => ∃ i : Nat, M = l.length - i ∧ i ≤ l.length ∧ At st.env [(2, ints l), (8, ints (srN N (sur es))), (9, .int .i64 (sumI (fun n => sur es n.toNat) (l.take i))), (10, .int .i64 i)] ∧ (l.take i).all (fun n => decide (0 < sur es n.toNat)) = true) l.length (by omega)
   ⟨0, by omega, by omega, by simp only [go_sem, ↓reduceIte, f2]; rfl, rfl⟩ ?_
  rintro M e h hM ⟨i, rfl, hi, hE, hA⟩ P hP
  simp only [At_cons, At_nil] at hE hA
  obtain ⟨f2, f8, f9, f10, -⟩ := hE
  by_cases hlt : i < l.length
  ·obtain ⟨y, hy⟩ := get_ex hlt
   obtain ⟨y0, yN⟩ := hin y (List.mem_of_getElem? hy)
   have hny : asNat (.int .i64 y) = some y.toNat := by simp [asNat, y0]
   have hyN : y.toNat < N := by omega
   have hbx := sumI_box (B := 20) (f := fun n => sur es n.toNat) (fun x => hs _) (l.take i)
   have htl : (l.take i).length ≤ 1000 := by rw [List.length_take]; omega
   have hsy := hs y.toNat
   have hst := sumI_take (f := fun n => sur es n.toNat) hy
   have hat := all_take (p := fun n => decide (0 < sur es n.toNat)) hy
   rw [hA, Bool.true_and] at hat
   have hlow : -20000 ≤ sumI (fun n => sur es n.toNat) (l.take i) ∧ sumI (fun n => sur es n.toNat) (l.take i) ≤ 20000 := by
    have : (l.take i).length * 20 ≤ 20000 := by omega
    omega
   by_cases hp : sur es y.toNat < 1
   ·have hb : decide (sur es y.toNat < 1) = true := by simpa using hp
    simp (disch := first | assumption | omega) only [go_sem, ↓reduceIte, f2, f8, f9, f10, hlt, hy, hny, hyN, srN_get, hb, List.length_map]
    refine hV _ _ ?_
    have : l.all (fun n => decide (0 < sur es n.toNat)) = false := by
     rw [List.all_eq_false]
     exact ⟨y, List.mem_of_getElem? hy, by simp; omega⟩
    rw [frz_int, ovB, this, Bool.false_and, if_neg (by decide)]
   ·have hb : decide (sur es y.toNat < 1) = false := by simpa using hp
    simp (disch := first | assumption | omega) only [go_sem, ↓reduceIte, f2, f8, f9, f10, hlt, hy, hny, hyN, srN_get, hb, List.length_map, Bool.false_eq_true]
    exact hP (l.length - (i + 1)) _ (by omega) ⟨i + 1, rfl, by omega, by simp only [go_sem, ↓reduceIte, f2, f8, hst], by rw [hat]; simp; omega⟩
  ·obtain rfl : i = l.length := by omega
   rw [List.take_length] at hA f9
   by_cases hsm : sumI (fun n => sur es n.toNat) l < 2
   ·have hb : decide (sumI (fun n => sur es n.toNat) l < 2) = true := by simpa using hsm
    simp (disch := first | assumption | omega) only [go_sem, ↓reduceIte, f2, f8, f9, f10, hlt, hb, List.length_map]
    refine hV _ _ ?_
    rw [frz_int, ovB, hA, Bool.true_and, if_neg (by simp; omega)]
   ·have hb : decide (sumI (fun n => sur es n.toNat) l < 2) = false := by simpa using hsm
    simp (disch := first | assumption | omega) only [go_sem, ↓reduceIte, f2, f8, f9, f10, hlt, hb, List.length_map, Bool.false_eq_true]
    refine hV _ _ ?_
    rw [frz_int, ovB, hA, Bool.true_and, if_pos (by simp; omega)]
set_option maxHeartbeats 2000000 in
theorem con_refProof2 (N : Nat) (es : List Ed) (l : List Int) (hk : OkB N es) (hl : l.length ≤ 1000) : Con T 3 32 [bkA (bkN N es), .int .i64 2, ints l] (.int .i64 (ckPN N es 2 l)) := by
 refine con_intro t32 fun n hn V hV => ?_
 have b0 : ((0 : Int) != 0) = false := rfl
 have d1 : ((2 : Int) != 1) = true := rfl
 have d2 : ((2 : Int) != 2) = false := rfl
 have d3 : ((2 : Int) == 1) = false := rfl
 have h1 := hk.n1
 have h8 := hk.n8
 have hl20 := hk.le20
 have hs := sur_20 hl20
 have g1 : ¬ ((2 : Int) ≠ 1 ∧ (2 : Int) ≠ 2) := by omega
 rw [bkN_A]
 simp (disch := first | assumption | omega) only [c32, go_sem, ↓reduceIte, cs_refOk, b0, d1, d2, d3, Bool.false_eq_true]
 refine m_loop (fun M st => ∃ (i : Nat) (nx : Int), M = l.length - i ∧ i ≤ l.length ∧ At st.env [(1, .int .i64 2), (2, ints l), (3, .optr 3 0 0), (7, .int .i64 i)] ∧ getH st.heap 3 = .cells 0 [.int .i64 N, eds es] ∧ 0 ≤ nx ∧ (i = 0 → nx = 0) ∧ (∀ z, 0 < i → l[i - 1]? = some z → nx = z + 1) ∧ risF N 0 l = risF N nx (l.drop i)) l.length (by omega)
  ⟨0, 0, by omega, by omega, by simp only [go_sem, ↓reduceIte], by simp only [go_sem, ↓reduceIte], by omega, fun _ => rfl, fun z h => by omega, rfl⟩ ?_
 rintro M e h hM ⟨i, nx, rfl, hi, hE, hH, hnx0, hnxa, hnxb, hA⟩ P hP
 simp only [At_cons, At_nil] at hE hH
 obtain ⟨f1, f2, f3, f7, -⟩ := hE
 by_cases hlt : i < l.length
 ·obtain ⟨y, hy⟩ := get_ex hlt
  rw [drop_cons hy, risF] at hA
  have bad : (decide (nx ≤ y) && decide (y < (N : Int))) = false → ∀ h, V (.int .i64 3, h) := fun hb h => hV _ _ (by
   rw [hb, Bool.false_and] at hA
   rw [frz_int, ckPN, if_neg g1, if_pos hA])
  by_cases hny : noteB N y = true
  ·have hy0 : 0 ≤ y ∧ y < N := by simpa [noteB] using hny
   by_cases hi0 : i = 0
   ·have dd : decide ((i : Int) > 0) = false := by simp; omega
    have hnx := hnxa hi0
    have hr : (decide (nx ≤ y) && decide (y < (N : Int))) = true := by simp; omega
    rw [hr, Bool.true_and] at hA
    simp (disch := first | assumption | omega) only [go_sem, ↓reduceIte, f1, f2, f3, f7, hH, hlt, hy, cs_noteOk, hny, dd, List.length_map, Bool.not_true, Bool.false_eq_true]
    exact hP (l.length - (i + 1)) _ (by omega) ⟨i + 1, y + 1, rfl, by omega, by simp only [go_sem, ↓reduceIte, f1, f2, f3], hH, by omega, fun h => by omega, fun z _ hz => by
     rw [show i + 1 - 1 = i from rfl] at hz
     have : some y = some z := hy.symm.trans hz
     cases this; rfl, hA⟩
   ·obtain ⟨z, hz⟩ := get_ex (show i - 1 < l.length by omega)
    have hnx := hnxb z (by omega) hz
    have dd : decide ((i : Int) > 0) = true := by simp; omega
    have hni : asNat (.int .i64 ((i : Int) - 1)) = some (i - 1) := by
     rw [show (i : Int) - 1 = ((i - 1 : Nat) : Int) by omega]
     exact asNat_nat _ _
    by_cases hyz : y ≤ z
    ·have d4 : decide (y ≤ z) = true := by simpa using hyz
     simp (disch := first | assumption | omega) only [go_sem, ↓reduceIte, f1, f2, f3, f7, hH, hlt, hy, hni, hz, cs_noteOk, hny, dd, d4, List.length_map, Bool.not_true, Bool.false_eq_true]
     exact bad (by simp; omega) _
    ·have d4 : decide (y ≤ z) = false := by simpa using hyz
     have hr : (decide (nx ≤ y) && decide (y < (N : Int))) = true := by simp; omega
     rw [hr, Bool.true_and] at hA
     simp (disch := first | assumption | omega) only [go_sem, ↓reduceIte, f1, f2, f3, f7, hH, hlt, hy, hni, hz, cs_noteOk, hny, dd, d4, List.length_map, Bool.not_true, Bool.false_eq_true]
     exact hP (l.length - (i + 1)) _ (by omega) ⟨i + 1, y + 1, rfl, by omega, by simp only [go_sem, ↓reduceIte, f1, f2, f3], hH, by omega, fun h => by omega, fun z _ hz => by
      rw [show i + 1 - 1 = i from rfl] at hz
      have : some y = some z := hy.symm.trans hz
      cases this; rfl, hA⟩
  ·have hny' : noteB N y = false := by simpa using hny
   simp (disch := first | assumption | omega) only [go_sem, ↓reduceIte, f1, f2, f3, f7, hH, hlt, hy, cs_noteOk, hny', List.length_map, Bool.not_false, Bool.false_eq_true]
   refine bad ?_ _
   cases hc : (decide (nx ≤ y) && decide (y < (N : Int))) with
   | false => rfl
   | true =>
    simp only [Bool.and_eq_true, decide_eq_true_eq] at hc
    have : noteB N y = true := by simp [noteB]; omega
    exact absurd this hny
 ·have g2 : risF N 0 l = true := by rw [hA, List.drop_eq_nil_of_le (by omega)]; rfl
  have g2' : ¬ risF N 0 l = false := by rw [g2]; decide
  have hin := ris_in (by omega) g2
  simp (disch := first | assumption | omega) only [go_sem, ↓reduceIte, f1, f2, f3, f7, hH, hlt, d3, List.length_map, Bool.false_eq_true]
  clear hP hA f7 hlt hM
  have hck : ckPN N es 2 l = if apB es l = true then 0 else 14 := by rw [ckPN, if_neg g1, if_neg g2', if_neg (by decide)]
  rw [hck] at hV
  refine m_loop (fun M st => ∃ i : Nat, M = es.length - i ∧ i ≤ es.length ∧ At st.env [(2, ints l), (3, .optr 3 0 0), (11, .int .i64 ((es.take i).countP fun e => hasE l e.1 : Nat)), (12, .int .i64 ((i : Int) - ((es.take i).countP fun e => hasE l e.1 : Nat))), (13, .int .i64 i)] ∧ getH st.heap 3 = .cells 0 [.int .i64 N, eds es] ∧ (es.take i).all (fun e => hasE l e.1 == hasE l e.2) = true) es.length (by omega)
   ⟨0, by omega, by omega, by simp only [go_sem, ↓reduceIte, f2, f3]; simp, hH, rfl⟩ ?_
  rintro M e h hM ⟨i, rfl, hi, hE, hH, hA⟩ P hP
  simp only [At_cons, At_nil] at hE hA hH
  obtain ⟨f2, f3, f11, f12, f13, -⟩ := hE
  by_cases hlt : i < es.length
  ·have hg := ed_get hlt
   have hat := allB_take (p := fun e => hasE l e.1 == hasE l e.2) hlt
   have hct : ((es.take (i + 1)).countP fun e => hasE l e.1) = ((es.take i).countP fun e => hasE l e.1) + if hasE l es[i].1 then 1 else 0 := by
    rw [List.take_succ_eq_append_getElem hlt, List.countP_append, List.countP_singleton]
   have hcl : ((es.take i).countP fun e => hasE l e.1) ≤ 20 := Nat.le_trans List.countP_le_length (by rw [List.length_take]; omega)
   rw [hA, Bool.true_and] at hat
   have hno : hasE l es[i].1 ≠ hasE l es[i].2 → apB es l = false := fun hne => by
    unfold apB
    have : es.all (fun e => hasE l e.1 == hasE l e.2) = false := by
     rw [List.all_eq_false]
     exact ⟨es[i], List.getElem_mem hlt, by simpa using hne⟩
    rw [this, Bool.false_and]
   generalize hqd : es[i] = q at *
   obtain ⟨qa, qb⟩ := q
   simp only [edA] at hg
   simp only at hno hct
   have hb1 : l.contains (qa : Int) = hasE l qa := rfl
   have hb2 : l.contains (qb : Int) = hasE l qb := rfl
   cases hq : hasE l qa with
   | true =>
    rw [hq] at hct hno
    cases hq2 : hasE l qb with
    | true =>
     simp (disch := first | assumption | omega) only [go_sem, ↓reduceIte, f2, f3, f11, f12, f13, hH, hlt, hg, cs_Has, hb1, hb2, hq, hq2, List.length_map, Bool.false_eq_true]
     refine hP (es.length - (i + 1)) _ (by omega) ⟨i + 1, rfl, by omega, ?_, hH, by rw [hat]; simp [hq, hq2]⟩
     simp only [go_sem, ↓reduceIte, f2, f3, f12, hct, if_true, Int.natCast_add, Int.natCast_one]
     congr 1; omega
    | false =>
     simp (disch := first | assumption | omega) only [go_sem, ↓reduceIte, f2, f3, f11, f12, f13, hH, hlt, hg, cs_Has, hb1, hb2, hq, hq2, List.length_map, Bool.false_eq_true]
     exact hV _ _ (by rw [frz_int, hno (by rw [hq2]; decide), if_neg (by decide)])
   | false =>
    rw [hq] at hct hno
    cases hq2 : hasE l qb with
    | false =>
     simp (disch := first | assumption | omega) only [go_sem, ↓reduceIte, f2, f3, f11, f12, f13, hH, hlt, hg, cs_Has, hb1, hb2, hq, hq2, List.length_map, Bool.false_eq_true]
     refine hP (es.length - (i + 1)) _ (by omega) ⟨i + 1, rfl, by omega, ?_, hH, by rw [hat]; simp [hq, hq2]⟩
     simp only [go_sem, ↓reduceIte, f2, f3, f11, hct, Bool.false_eq_true, Nat.add_zero]
     congr 1; omega
    | true =>
     simp (disch := first | assumption | omega) only [go_sem, ↓reduceIte, f2, f3, f11, f12, f13, hH, hlt, hg, cs_Has, hb1, hb2, hq, hq2, List.length_map, Bool.false_eq_true]
     exact hV _ _ (by rw [frz_int, hno (by rw [hq2]; decide), if_neg (by decide)])
  ·obtain rfl : i = es.length := by omega
   rw [List.take_length] at hA f11 f12
   have hap : apB es l = (decide (1 ≤ es.countP fun e => hasE l e.1) && decide ((es.countP fun e => hasE l e.1) + 1 ≤ es.length)) := by rw [apB, hA, Bool.true_and]
   rw [hap] at hV
   have hkl : es.countP (fun e => hasE l e.1) ≤ es.length := List.countP_le_length
   generalize es.countP (fun e => hasE l e.1) = k at *
   by_cases c1 : k = 0
   ·have hb : ((k : Int) == 0) = true := by simp; omega
    simp (disch := first | assumption | omega) only [go_sem, ↓reduceIte, f2, f3, f11, f12, f13, hH, hlt, hb, List.length_map, Bool.false_eq_true]
    exact hV _ _ (by rw [frz_int, if_neg (by simp; omega)])
   ·have hb : ((k : Int) == 0) = false := by simp; omega
    by_cases c2 : (es.length : Int) - k = 0
    ·have hb2 : ((es.length : Int) - k == 0) = true := by simpa using c2
     simp (disch := first | assumption | omega) only [go_sem, ↓reduceIte, f2, f3, f11, f12, f13, hH, hlt, hb, hb2, List.length_map, Bool.false_eq_true]
     exact hV _ _ (by rw [frz_int, if_neg (by simp; omega)])
    ·have hb2 : ((es.length : Int) - k == 0) = false := by simpa using c2
     simp (disch := first | assumption | omega) only [go_sem, ↓reduceIte, f2, f3, f11, f12, f13, hH, hlt, hb, hb2, List.length_map, Bool.false_eq_true]
     exact hV _ _ (by rw [frz_int, if_pos (by simp; omega)])
end Go.Ev.YtjcabpldgdafeaaC
