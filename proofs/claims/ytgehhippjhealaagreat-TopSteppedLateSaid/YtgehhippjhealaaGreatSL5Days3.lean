/- The kept orders are as many as can be; what more work, earlier Dues and fewer orders change. Delays, step by step; what an exchange, more work, earlier Dues, one more order, later Dues and longer days change. What Delay answers, the reference's Ends and Delay, and the comparisons of lists. What the functions about sequences answer: the orders by their Due, and which are on time. What the functions about bounds and days answer. The shortest delay and its day, by a range over a function that yields the days. What Shortest and Day answer, the program's and the reference's. What Sequence and Kinds answer, the program's and the reference's. No condition but those that stand in each. -/
import Derived.Test.YtgehhippjhealaaGreatSL5Prog2
import Derived.Test.YtgehhippjhealaaGreatSTopKex
import Derived.Test.YtgehhippjhealaaGreatSEvKer3
set_option linter.unusedSimpArgs false
set_option linter.unusedVariables false
namespace Go.Ev.YtgehhippjhealaaGreatC.P5
open Go
theorem wk_nonneg {w : List Int} (hw : ∀ x ∈ w, 0 ≤ x) (i : Int) : 0 ≤ wk w i := by
 have := sumW_nonneg hw [i]
 simpa [sumW] using this
theorem feas_any {l : List Order} {w : List Int} (hw : ∀ x ∈ w, 0 ≤ x) {T : List Int} (h : feasGo l w 0 T = true) : Feas l w T := by
 rw [feasGo_iff_pre] at h
 intro d hd
 obtain ⟨x, hx, hxd⟩ := hd
 obtain ⟨k, i, hk, hp, hdrop⟩ := last_of (fun i => decide (dueOf l i ≤ d)) T ⟨x, hx, by simpa using hxd⟩
 have h3 : T.filter (fun i => decide (dueOf l i ≤ d)) = (T.take (k + 1)).filter fun i => decide (dueOf l i ≤ d) := by
  conv => lhs; rw [← List.take_append_drop (k + 1) T]
  rw [List.filter_append, hdrop, List.append_nil]
 have h4 := sumW_filter_le hw (fun i => decide (dueOf l i ≤ d)) (T.take (k + 1))
 have h5 := h k i hk
 have h6 : dueOf l i ≤ d := by simpa using hp
 rw [h3]
 omega
theorem feasGo_mono {l m : List Order} {w v : List Int} : ∀ (S : List Int) (d d' : Int), d' ≤ d → (∀ i ∈ S, wk v i ≤ wk w i ∧ dueOf l i ≤ dueOf m i) → feasGo l w d S = true → feasGo m v d' S = true
 | [], _, _, _, _, _ => rfl
 | i :: r, d, d', hd, hi, h => by
  have h1 := hi i List.mem_cons_self
  simp only [feasGo, Bool.and_eq_true, decide_eq_true_eq] at h ⊢
  exact ⟨by omega, feasGo_mono r (d + wk w i) (d' + wk v i) (by omega) (fun j hj => hi j (List.mem_cons_of_mem _ hj)) h.2⟩
theorem Feas.mono {l m : List Order} {w v T : List Int} (hw : ∀ x ∈ w, 0 ≤ x) (hv : ∀ x ∈ v, 0 ≤ x) (hi : ∀ i ∈ T, wk v i ≤ wk w i ∧ dueOf l i ≤ dueOf m i) (h : Feas l w T) : Feas m v T := by
 have hp : (isort (dueOf l) [] T).Perm T := by simpa using isort_perm (dueOf l) T []
 have hs : (isort (dueOf l) [] T).Pairwise fun a b => dueOf l a ≤ dueOf l b := isort_sorted _ _ _ List.Pairwise.nil
 have h1 := (feasGo_iff hw hs).2 (h.perm hp.symm)
 have h2 := feasGo_mono (m := m) (v := v) _ 0 0 (Int.le_refl 0) (fun i hi' => hi i (hp.mem_iff.1 hi')) h1
 exact (feas_any hv h2).perm hp
end Go.Ev.YtgehhippjhealaaGreatC.P5
set_option linter.unusedSimpArgs false
set_option linter.unusedVariables false
namespace Go.Ev.YtgehhippjhealaaGreatC.P5
open Go
def wi (l : List Order) (w : List Int) (D : Int) : Int → List Int → Prop
 | _, [] => True
 | day, i :: r => day + wk w i - dueOf l i ≤ D ∧ wi l w D (day + wk w i) r
theorem wi_iff_pre (l : List Order) (w : List Int) (D : Int) : ∀ (T : List Int) (day : Int), wi l w D day T ↔ ∀ (k : Nat) (i : Int), T[k]? = some i → day + sumW w (T.take (k + 1)) - dueOf l i ≤ D
 | [], day => by simp [wi]
 | a :: r, day => by
  rw [wi, wi_iff_pre l w D r]
  constructor
  ·rintro ⟨h1, h2⟩ k i hk
   cases k with
   | zero =>
    simp at hk
    subst hk
    simpa [sumW] using h1
   | succ k =>
    simp only [List.getElem?_cons_succ] at hk
    have := h2 k i hk
    rw [List.take_succ_cons, sumW_cons]
    omega
  ·intro h
   refine ⟨?_, fun k i hk => ?_⟩
   ·have := h 0 a rfl
    simpa [sumW] using this
   ·have := h (k + 1) i (by simpa using hk)
    rw [List.take_succ_cons, sumW_cons] at this
    omega
theorem delay_le {l : List Order} {S w : List Int} (hs : Seq l.length S) (h0 : 0 < l.length) (D : Int) : delayOf l S w ≤ D ↔ wi l w D 0 S := by
 obtain ⟨⟨k, i, hk, h1⟩, h2⟩ := delay_spec (w := w) hs h0
 rw [wi_iff_pre]
 constructor
 ·intro h k i hk
  have := h2 k i hk
  omega
 ·intro h
  have := h k i hk
  omega
theorem wi_append (l : List Order) (w : List Int) (D : Int) : ∀ (a b : List Int) (d : Int), wi l w D d (a ++ b) ↔ wi l w D d a ∧ wi l w D (d + sumW w a) b
 | [], b, d => by simp [wi, sumW]
 | x :: a, b, d => by
  rw [List.cons_append, wi, wi, wi_append l w D a b, sumW_cons, and_assoc]
  have e : d + wk w x + sumW w a = d + (wk w x + sumW w a) := by omega
  rw [e]
end Go.Ev.YtgehhippjhealaaGreatC.P5
set_option linter.unusedSimpArgs false
set_option linter.unusedVariables false
namespace Go.Ev.YtgehhippjhealaaGreatC.P5
open Go
open Go Go.Proofs
attribute [local irreducible] Res.all evC evLoop evOps evOper evOp evFn evCall freeze G GO GV GP GC R
set_option maxRecDepth 100000
theorem con_63 (x y : Int) : Con T 1 62 ([] ++ [.int .i64 x, .int .i64 y] ++ []) (.bool (decide (x > y))) := by
 refine con_intro t63 fun n hn V hV => ?_
 simp (disch := first | assumption | omega) only [c63, go_sem, ↓reduceIte]
 exact hV _ _ (frz_bool _ _ _)
theorem con_62 (xs : List Int) (hl : xs.length ≤ 1000) (h0 : 0 < xs.length) : Con T 2 61 [ints xs, .clo 62 [] []] (.int .i64 (maxL xs)) := by
 refine con_intro t62 fun n hn V hV => ?_
 obtain ⟨a, ha⟩ := get_ex h0
 have z : asNat (.int .i64 0) = some 0 := rfl
 have h1 : (1 : Int) ≤ xs.length := by omega
 have hz1 : (0 : Int) ≤ 1 := by omega
 have hn1 : Int.toNat 1 = 1 := rfl
 simp (disch := first | assumption | omega) only [c62, go_sem, ↓reduceIte, z, ha, h1, hz1, hn1, ← List.map_drop, List.length_drop]
 refine m_loop (fun M st => ∃ (k : Nat) (m : Int), M = xs.length - 1 - k ∧ k ≤ xs.length - 1 ∧ At st.env [(0, ints xs), (1, .clo 62 [] []), (5, .int .i64 m), (12, ints (xs.drop 1)), (13, .int .i64 (xs.length - 1 : Nat)), (14, .int .i64 k)] ∧
  ((xs.drop 1).drop k).foldl (fun m x => if x > m then x else m) m = maxL xs) (xs.length - 1) (by omega) ⟨0, a, by simp, by omega, by simp [go_sem, ↓reduceIte], ?_⟩ ?_
 ·have := drop_cons ha
  rw [List.drop_zero] at this
  conv => rhs; rw [this, maxL]
  rfl
 rintro M e h hM ⟨k, m, rfl, hk, hE, hR⟩ P hP
 simp only [At_cons, At_nil] at hE
 obtain ⟨h0, h1, h5, h12, h13, h14, -⟩ := hE
 by_cases hlt : k < xs.length - 1
 ·obtain ⟨x, hx⟩ := get_ex (l := xs.drop 1) (i := k) (by simp; omega)
  rw [drop_cons hx, List.foldl_cons] at hR
  have hlt' : (k : Int) < ((xs.length - 1 : Nat) : Int) := by omega
  simp (disch := first | assumption | omega) only [go_sem, ↓reduceIte, h0, h1, h5, h12, h13, h14, hlt, hx]
  refine gp_con (con_63 x m) (by omega) (fz_int _ _ _ (fz_int _ _ _ (fz_nil _))) (or_pb _ _) ?_
  by_cases hgt : x > m
  ·rw [if_pos hgt] at hR
   simp (disch := first | assumption | omega) only [go_sem, ↓reduceIte, h0, h1, h5, h12, h13, h14, hgt]
   exact hP (xs.length - 1 - (k + 1)) _ (by omega) ⟨k + 1, _, rfl, by omega, by simp only [go_sem, ↓reduceIte, h0, h1, h12, h13], hR⟩
  ·rw [if_neg hgt] at hR
   simp (disch := first | assumption | omega) only [go_sem, ↓reduceIte, h0, h1, h5, h12, h13, h14, hgt]
   exact hP (xs.length - 1 - (k + 1)) _ (by omega) ⟨k + 1, _, rfl, by omega, by simp only [go_sem, ↓reduceIte, h0, h1, h5, h12, h13], hR⟩
 ·simp (disch := first | assumption | omega) only [go_sem, ↓reduceIte, h0, h1, h5, h12, h13, h14, hlt]
  rw [List.drop_eq_nil_of_le (by simp; omega)] at hR
  exact hV _ _ (by rw [frz_int, ← hR]; rfl)
theorem refDelay_zero (l : List Order) (s w : List Int) (h : chkWork l s w = 0) : Valid l ∧ Seq l.length s ∧ w.length = l.length ∧ workOk l w = true := by
 unfold chkWork at h
 split at h
 ·next h1 => exact (h1 h).elim
 ·next h1 =>
  split at h
  ·cases h
  ·split at h
   ·next h2 h3 => exact ⟨((chkSeq_zero l s).1 (by omega)).1, ((chkSeq_zero l s).1 (by omega)).2, by omega, h3⟩
   ·cases h
def delayV (l : List Order) (s w : List Int) : AV := .tuple [.int .i64 (refDelay l s w).1, .int .i64 (refDelay l s w).2]
theorem con_21 (l : List Order) (s w : List Int) (hl : l.length ≤ 15) (hs : s.length ≤ 15) : Con T 12 22 [ords l, ints s, ints w] (delayV l s w) := by
 refine con_intro t21 fun n hn V hV => ?_
 replace hV : ∀ a b h, a = (refDelay l s w).1 → b = (refDelay l s w).2 → V (.tuple [.int .i64 a, .int .i64 b], h) := fun a b h e1 e2 => hV _ _ (by rw [e1, e2]; exact frz_two (frz_int _ _ _ _) (frz_int _ _ _ _))
 simp (disch := first | assumption | omega) only [c21, go_sem, ↓reduceIte]
 refine gp_raw (raw_19 l s w hl hs) hn ?_
 rintro v h' (⟨hc, rfl⟩ | ⟨hc, key, ver, hkey, rfl, hH⟩)
 ·have hc' : (chkWork l s w != 0) = true := by simp [hc]
  simp (disch := first | assumption | omega) only [go_sem, ↓reduceIte, hc']
  exact hV _ _ _ (by rw [refDelay, if_pos hc]) (by rw [refDelay, if_pos hc])
 ·have hc' : ((0 : Int) != 0) = false := rfl
  obtain ⟨hval, hseq, hwl, hwo⟩ := refDelay_zero l s w hc
  have hsl := hseq.len
  have hwb := workOk_of hwl hwo hval.ok
  by_cases hl0 : l.length = 0
  ·have hl0' : ((l.length : Int) == 0) = true := beq_iff_eq.2 (by omega)
   simp (disch := first | assumption | omega) only [go_sem, ↓reduceIte, hc', hl0']
   exact hV _ _ _ (by rw [refDelay, if_neg (by omega), if_pos hl0]) (by rw [refDelay, if_neg (by omega), if_pos hl0])
  ·have hl0' : ((l.length : Int) == 0) = false := beq_eq_false_iff_ne.2 (by omega)
   simp (disch := first | assumption | omega) only [go_sem, ↓reduceIte, hc', hl0']
   have hk : 45 ≤ key := by simpa using hkey
   have hk1 : ¬ (11 = key) := by omega
   have hk2 : ¬ (key = 11) := by omega
   have hel : (endsOf s w).length = l.length := by rw [endsOf_length, hsl]
   have hbd := endsOf_bd hwb s hs
   have hdl : (delays l (endsOf s w)).length = l.length := by simp [delays, hel]
   have hstep : ∀ (k : Nat) (o : Order) (x : Int), l[k]? = some o → (endsOf s w)[k]? = some x → (delays l (endsOf s w))[k]? = some (x - o.due) := fun k o x h1 h2 => by simp [delays, List.getElem?_zipWith, h1, h2]
   refine m_loop (fun M st => ∃ (k : Nat) (c : List Int), M = l.length - k ∧ k ≤ l.length ∧ At st.env [(0, ords l), (8, .oslice key ver none 0 s.length (some s.length)), (27, ords l), (28, .int .i64 l.length), (29, .int .i64 k)] ∧ getH st.heap key = .cells ver (c.map (.int .i64)) ∧ c.length = l.length ∧
    ∀ j, j < l.length → c[j]? = if j < k then (delays l (endsOf s w))[j]? else (endsOf s w)[j]?) l.length (by omega) ⟨0, endsOf s w, by simp, by omega, by simp [go_sem, ↓reduceIte], hH, hel, by simp⟩ ?_
   rintro M e h hM ⟨k, c, rfl, hk, hE, hH, hcl, hcc⟩ P hP
   simp only [At_cons, At_nil] at hE hH
   obtain ⟨h0, h8, h27, h28, h29, -⟩ := hE
   by_cases hlt : k < l.length
   ·obtain ⟨o, ho⟩ := get_ex hlt
    obtain ⟨x, hx⟩ := get_ex (l := endsOf s w) (i := k) (by omega)
    have ho' := hval.ok o (List.mem_of_getElem? ho)
    have hod := ho'.d1
    have hod0 := ho'.d0
    have hx' := hbd x (List.mem_of_getElem? hx)
    have hck : c[k]? = some x := by rw [hcc k hlt, if_neg (by omega), hx]
    have hks : k < s.length := by omega
    have hkc : k + 1 ≤ c.length := by omega
    simp (disch := first | assumption | omega) only [go_sem, ↓reduceIte, h0, h8, h27, h28, h29, hlt, hks, ho, oAV, hH, hk1, hk2, hck, hkc]
    refine hP (l.length - (k + 1)) _ (by omega) ⟨k + 1, c.set k (x - o.due), rfl, by omega, by simp only [go_sem, ↓reduceIte, h0, h8, h27, h28], by simp only [go_sem, ↓reduceIte, hk1, hk2, hH], by simp [hcl], ?_⟩
    intro j hj
    rw [List.getElem?_set]
    by_cases hjk : k = j
    ·subst hjk
     rw [if_pos rfl, if_pos (by omega), if_pos (by omega), hstep k o x ho hx]
    ·rw [if_neg hjk, hcc j hj]
     by_cases hj2 : j < k
     ·rw [if_pos hj2, if_pos (by omega)]
     ·rw [if_neg hj2, if_neg (by omega)]
   ·simp (disch := first | assumption | omega) only [go_sem, ↓reduceIte, h0, h8, h27, h28, h29, hlt]
    have hcd : c = delays l (endsOf s w) := by
     apply List.ext_getElem?
     intro j
     by_cases hj : j < l.length
     ·rw [hcc j hj, if_pos (by omega)]
     ·rw [List.getElem?_eq_none (by omega), List.getElem?_eq_none (by omega)]
    refine gp_con (con_62 c (by omega) (by omega)) (by omega) (fz_cons (frz_own hH (by omega)) (fz_cons (frz_clo (mz_nil _ _) (mz_nil _ _)) (fz_nil _))) (or_pi _ _ _) ?_
    simp (disch := first | assumption | omega) only [go_sem, ↓reduceIte]
    exact hV _ _ _ (by rw [refDelay, if_neg (by omega), if_neg hl0, delayOf, hcd]) (by rw [refDelay, if_neg (by omega), if_neg hl0])
end Go.Ev.YtgehhippjhealaaGreatC.P5
set_option linter.unusedSimpArgs false
set_option linter.unusedVariables false
namespace Go.Ev.YtgehhippjhealaaGreatC.P5
open Go
open Go Go.Proofs
attribute [local irreducible] Res.all evC evLoop evOps evOper evOp evFn evCall freeze G GO GV GP GC R
set_option maxRecDepth 100000
end Go.Ev.YtgehhippjhealaaGreatC.P5
set_option linter.unusedSimpArgs false
set_option linter.unusedVariables false
namespace Go.Ev.YtgehhippjhealaaGreatC.P5
open Go
open Go Go.Proofs
attribute [local irreducible] Res.all evC evLoop evOps evOper evOp evFn evCall freeze G GO GV GP GC R
set_option maxRecDepth 100000
theorem side_bd' {l : List Order} (hv : Valid l) (s : Int) : ∀ x ∈ side l s, 0 ≤ x ∧ x ≤ 1000 := fun x hx => by
 obtain ⟨o, ho, rfl⟩ := List.mem_map.1 hx
 have := hv.ok o ho
 have h1 := this.lo
 have h2 := this.lh
 have h3 := this.hi
 split <;> omega
def bdV (l : List Order) (s day : Int) : AV := .tuple [.int .i64 (bd l (side l s) day), .bool (someDue l day)]
theorem sumW_step {w : List Int} {n k : Nat} (hk : k < n) (p : Int → Bool) : sumW w (((idx n).take (k + 1)).filter p) = sumW w (((idx n).take k).filter p) + if p (k : Int) then wk w k else 0 := by
 rw [filter_step hk, sumW_append]
 split <;> simp [sumW]
theorem any_step {n k : Nat} (hk : k < n) (p : Int → Bool) : ((idx n).take (k + 1)).any p = (((idx n).take k).any p || p (k : Int)) := by
 rw [idx_step hk, List.any_append]
 simp
theorem sumW_le {w : List Int} (hw : ∀ x ∈ w, 0 ≤ x ∧ x ≤ 1000) (ks : List Int) : sumW w ks ≤ 1000 * ks.length := by
 induction ks with
 | nil => simp [sumW]
 | cons a r ih =>
  have := wk_bd (by omega) hw a
  simp only [sumW, List.map_cons, List.sum_cons, List.length_cons] at ih ⊢
  omega
theorem con_70 (l : List Order) (s day : Int) (hl : l.length ≤ 15) (hw : ∀ x ∈ side l s, 0 ≤ x ∧ x ≤ 1000) (hd : -100000 ≤ day ∧ day ≤ 100000) : Con T 1 124 [deskV l s, .int .i64 day] (bdV l s day) := by
 refine con_intro t70 fun n hn V hV => ?_
 simp (disch := first | assumption | omega) only [c70, go_sem, ↓reduceIte, deskV]
 refine m_loop (fun M st => ∃ k : Nat, M = l.length - k ∧ k ≤ l.length ∧ At st.env [(0, deskV l s), (1, .int .i64 day), (6, .int .i64 (sumW (side l s) (((idx l.length).take k).filter fun i => decide (dueOf l i ≤ day)) - day)), (7, .bool (((idx l.length).take k).any fun i => decide (dueOf l i ≤ day))), (16, ords l), (17, .int .i64 l.length), (18, .int .i64 k)]) l.length (by omega)
  ⟨0, by simp, by omega, by simp [go_sem, ↓reduceIte, deskV, sumW]⟩ ?_
 rintro M e h hM ⟨k, rfl, hk, hE⟩ P hP
 simp only [At_cons, At_nil] at hE
 obtain ⟨h0, h1, h6, h7, h16, h17, h18, -⟩ := hE
 by_cases hlt : k < l.length
 ·obtain ⟨o, ho⟩ := get_ex hlt
  obtain ⟨x, hx⟩ := get_ex (l := side l s) (i := k) (by rw [side_length]; omega)
  have hxw := wk_get hx
  have hxb := hw x (List.mem_of_getElem? hx)
  have hss := sumW_step (w := side l s) hlt fun i => decide (dueOf l i ≤ day)
  have has := any_step hlt fun i => decide (dueOf l i ≤ day)
  have hb0 := sumW_nonneg (fun x hx => (hw x hx).1) (((idx l.length).take k).filter fun i => decide (dueOf l i ≤ day))
  have hb1 := sumW_le hw (((idx l.length).take k).filter fun i => decide (dueOf l i ≤ day))
  have hb2 : (((idx l.length).take k).filter fun i => decide (dueOf l i ≤ day)).length ≤ 15 := by
   refine Nat.le_trans (List.length_filter_le _ _) ?_
   rw [List.length_take]; omega
  by_cases hle : o.due ≤ day
  ·have hd' : decide (dueOf l (k : Int) ≤ day) = true := by rw [dueOf_nat ho]; simp [hle]
   rw [hd', if_pos rfl, ← hxw] at hss
   rw [hd', Bool.or_true] at has
   simp (disch := first | assumption | omega) only [go_sem, ↓reduceIte, h0, h1, h6, h7, h16, h17, h18, deskV, hlt, ho, oAV, hle, hx]
   refine hP (l.length - (k + 1)) _ (by omega) ⟨k + 1, rfl, by omega, ?_⟩
   rw [hss, has]
   simp only [go_sem, ↓reduceIte, h0, h1, h16, h17, deskV]
   congr 1
   omega
  ·have hd' : decide (dueOf l (k : Int) ≤ day) = false := by rw [dueOf_nat ho]; simpa using hle
   rw [hd', if_neg (by simp), Int.add_zero] at hss
   rw [hd', Bool.or_false] at has
   simp (disch := first | assumption | omega) only [go_sem, ↓reduceIte, h0, h1, h6, h7, h16, h17, h18, deskV, hlt, ho, oAV, hle, hx]
   refine hP (l.length - (k + 1)) _ (by omega) ⟨k + 1, rfl, by omega, ?_⟩
   rw [hss, has]
   simp only [go_sem, ↓reduceIte, h0, h1, h6, h7, h16, h17, deskV]
 ·obtain rfl : k = l.length := by omega
  rw [List.take_of_length_le (by rw [idx_length]; omega)] at h6 h7
  simp (disch := first | assumption | omega) only [go_sem, ↓reduceIte, h0, h1, h6, h7, h16, h17, h18, hlt]
  exact hV _ _ (frz_two (frz_int _ _ _ _) (frz_bool _ _ _))
section
variable {n base : Nat} {Q : EX × St → Prop} {d : Option Nat} {L : List IOper} {ks : List Kont} {e : Env} {h : Heap}
theorem cs_70 {l : List Order} {s day : Int} (hn : 1 ≤ n) (hl : l.length ≤ 15) (hw : ∀ x ∈ side l s, 0 ≤ x ∧ x ≤ 1000) (hd : -100000 ≤ day ∧ day ≤ 100000) : GP (evCall T n) base Q d L ks e (evCall T n false (.fn 124) [deskV l s, .int .i64 day] h) = GO (evCall T n) base Q L ks ⟨setDst e d (bdV l s day), h⟩ :=
 gp_eq (con_70 l s day hl hw hd) hn (fz_cons (frz_desk _ _ _ _) (fz_int _ _ _ (fz_nil _))) rfl
end
def dayErr (l : List Order) (s : Int) : Int := if chkSide l s ≠ 0 then chkSide l s else if l.length = 0 then 5 else 0
theorem dayErr_zero (l : List Order) (s : Int) : dayErr l s = 0 ↔ Valid l ∧ (s = 0 ∨ s = 1) ∧ 0 < l.length := by
 unfold dayErr
 constructor
 ·intro h
  split at h
  ·next h1 => exact (h1 h).elim
  ·next h1 =>
   split at h
   ·cases h
   ·have := (chkSide_zero l s).1 (by omega)
    exact ⟨this.1, this.2, by omega⟩
 ·rintro ⟨h1, h2, h3⟩
  rw [if_neg (by simp [(chkSide_zero l s).2 ⟨h1, h2⟩]), if_neg (by omega)]
end Go.Ev.YtgehhippjhealaaGreatC.P5
set_option linter.unusedSimpArgs false
set_option linter.unusedVariables false
namespace Go.Ev.YtgehhippjhealaaGreatC.P5
open Go
open Go Go.Proofs
attribute [local irreducible] Res.all evC evLoop evOps evOper evOp evFn evCall freeze G GO GV GP GC R
set_option maxRecDepth 100000
theorem con_88 (l : List Order) : Con T 1 123 [.agg [ords l]] (.clo 182 [] [.ptr [ords l] 0]) := by
 refine con_intro t88 fun n hn V hV => ?_
 simp (disch := first | assumption | omega) only [c88, go_sem, ↓reduceIte]
 exact hV _ _ (frz_clo (mz_nil _ _) (mz_cons (frz_optr (cs := [ords l]) (by simp [go_sem, ↓reduceIte]) (mz_cons (frz_slice _ _ _ _ _) (mz_nil _ _))) (mz_nil _ _)))
theorem raw_98 (l : List Order) (hl : l.length ≤ 15) (key ver : Nat) (J : List Int → Heap → Prop) (hJ : ∀ r h, J r h → J r (h ++ List.replicate 29 .none)) {n : Nat} (hn : 8 ≤ n)
  (hy : ∀ d r h, J (d :: r) h → d ∈ daysOf l → (evCall T (n - 1) true (.yld key ver) [.int .i64 d] h).all fun p => p.1 = .bool true ∧ J r p.2) (h : Heap) (h0 : J (daysOf l) h) (V : AV × Heap → Prop) (hV : ∀ v h', J [] h' → V (v, h')) :
  (evCall T n true (.fn 182) [.yld key ver, .ptr [ords l] 0] h).all V := by
 obtain ⟨m, rfl⟩ : ∃ m, n = m + 1 := ⟨n - 1, by omega⟩
 rw [raw_enter t98]
 have hsl := seqOf_length l
 have h1 : (1 : Nat) ≤ 1 := by omega
 simp (disch := first | assumption | omega) only [c98, go_sem, ↓reduceIte, h1, cs_68]
 refine m_loop (fun M st => ∃ (k : Nat) (last : Int), M = l.length - k ∧ k ≤ l.length ∧ At st.env [(0, .yld key ver), (1, .ptr [ords l] 0), (3, .int .i64 last), (8, ints (seqOf l)), (9, .int .i64 l.length), (10, .int .i64 k)] ∧ J (daysGo (dueOf l) last ((seqOf l).drop k)) st.heap ∧ (∀ d, d ∈ daysGo (dueOf l) last ((seqOf l).drop k) → d ∈ daysOf l)) l.length (by omega)
  ⟨0, -1, by simp, by omega, by simp [go_sem, ↓reduceIte, hsl], hJ _ _ h0, fun d hd => hd⟩ ?_
 rintro M e h hM ⟨k, last, rfl, hk, hE, hH, hD⟩ P hP
 simp only [At_cons, At_nil] at hE hH
 obtain ⟨h0, h1, h3, h8, h9, h10, -⟩ := hE
 by_cases hlt : k < l.length
 ·obtain ⟨i, hi⟩ := get_ex (l := seqOf l) (i := k) (by omega)
  have hib := seqOf_mem.1 (List.mem_of_getElem? hi)
  obtain ⟨j, rfl⟩ := Int.eq_ofNat_of_zero_le hib.1
  obtain ⟨o, ho⟩ := get_ex (l := l) (i := j) (by omega)
  rw [drop_cons hi, daysGo, dueOf_nat ho] at hH hD
  by_cases hgt : o.due > last
  ·rw [if_pos hgt] at hH hD
   simp (disch := first | assumption | omega) only [go_sem, ↓reduceIte, h0, h1, h3, h8, h9, h10, hlt, hi, ho, oAV, hgt]
   refine gp_of (Res.all_mono _ (hy o.due _ h hH (hD _ List.mem_cons_self)) ?_)
   rintro ⟨v, h'⟩ ⟨hv, hJ'⟩
   simp only at hv hJ'
   subst hv
   simp (disch := first | assumption | omega) only [go_sem, ↓reduceIte, h0, h1, h3, h8, h9, h10]
   exact hP (l.length - (k + 1)) _ (by omega) ⟨k + 1, o.due, rfl, by omega, by simp only [go_sem, ↓reduceIte, h0, h1, h8, h9], hJ', fun d hd => hD d (List.mem_cons_of_mem _ hd)⟩
  ·rw [if_neg hgt] at hH hD
   simp (disch := first | assumption | omega) only [go_sem, ↓reduceIte, h0, h1, h3, h8, h9, h10, hlt, hi, ho, oAV, hgt]
   exact hP (l.length - (k + 1)) _ (by omega) ⟨k + 1, last, rfl, by omega, by simp only [go_sem, ↓reduceIte, h0, h1, h3, h8, h9], hH, hD⟩
 ·rw [List.drop_eq_nil_of_le (by omega)] at hH
  simp (disch := first | assumption | omega) only [go_sem, ↓reduceIte, h0, h1, h3, h8, h9, h10, hlt]
  exact hV _ _ hH
def refTight (l : List Order) (s : Int) : Int × Int × Int := if dayErr l s ≠ 0 then (0, 0, dayErr l s) else match tightOf l s with | some (a, m) => (a, m, 0) | none => (0, 0, 0)
def tightV (l : List Order) (s : Int) : AV := .tuple [.int .i64 (refTight l s).1, .int .i64 (refTight l s).2.1, .int .i64 (refTight l s).2.2]
theorem con_73 (l : List Order) (s : Int) (hl : l.length ≤ 15) : Con T 12 63 [ords l, .int .i64 s] (tightV l s) := by
 refine con_intro t73 fun n hn V hV => ?_
 replace hV : ∀ a b c h, a = (refTight l s).1 → b = (refTight l s).2.1 → c = (refTight l s).2.2 → V (.tuple [.int .i64 a, .int .i64 b, .int .i64 c], h) := fun a b c h e1 e2 e3 => hV _ _ (by rw [e1, e2, e3]; exact frz_three (frz_int _ _ _ _) (frz_int _ _ _ _) (frz_int _ _ _ _))
 unfold refTight at hV
 by_cases hc : chkSide l s = 0
 ·have hc' : (chkSide l s != 0) = false := by simp [hc]
  obtain ⟨hval, hs⟩ := (chkSide_zero l s).1 hc
  have hsb := side_bd' hval s
  by_cases h0 : l.length = 0
  ·have h0' : ((l.length : Int) == 0) = true := beq_iff_eq.2 (by omega)
   have hde : dayErr l s = 5 := by rw [dayErr, if_neg (by omega), if_pos h0]
   rw [if_pos (by omega)] at hV
   simp (disch := first | assumption | omega) only [c73, go_sem, ↓reduceIte, cs_69, sidedV, hc', hc, deskV, h0']
   exact hV _ _ _ _ rfl rfl hde.symm
  ·have h0' : ((l.length : Int) == 0) = false := beq_eq_false_iff_ne.2 (by omega)
   have hde : dayErr l s = 0 := by rw [dayErr, if_neg (by omega), if_neg h0]
   rw [if_neg (by omega)] at hV
   have z1 : (1 : Nat) ≤ 2 := by omega
   have c88 : ∀ (e : Env) (h : Heap) (Q : EX × St → Prop) (d : Option Nat) (L : List IOper) (ks : List Kont), GP (evCall T n) 0 Q d L ks e (evCall T n false (.fn 123) [.agg [.slice (some 3) (l.map oAV) false]] h) = GO (evCall T n) 0 Q L ks ⟨setDst e d (.clo 182 [] [.ptr [ords l] 0]), h⟩ := fun e h Q d L ks =>
    gp_eq (con_88 l) (by omega) (fz_cons (frz_agg (mz_cons (frz_slice _ _ _ _ _) (mz_nil _ _))) (fz_nil _)) rfl
   obtain ⟨at0, ht1, ht2, ht3, ht4, ht5, -⟩ := tight_spec hval (by omega) s
   rw [ht1] at hV
   have hb0 : ((0 : Int) != 0) = false := rfl
   simp (disch := first | assumption | omega) only [c73, go_sem, ↓reduceIte, cs_69, sidedV, hc', hc, deskV, h0', hb0, z1, c88]
   refine g_cut (fun st => At st.env [(7, .optr 7 0 0), (9, .optr 9 0 0), (10, .optr 10 0 0), (11, .optr 11 0 0), (33, .clo 182 [] [.ptr [ords l] 0])] ∧ st.heap.length = 51 ∧ getH st.heap 7 = .cells 0 [deskV l s] ∧ getH st.heap 9 = .cells 0 [.bool true] ∧ getH st.heap 10 = .cells 0 [.int .i64 0] ∧ getH st.heap 11 = .cells 0 [.int .i64 0])
    ⟨by simp only [go_sem, ↓reduceIte], by simp [length_setH], by simp only [go_sem, ↓reduceIte, deskV], by simp only [go_sem, ↓reduceIte], by simp only [go_sem, ↓reduceIte], by simp only [go_sem, ↓reduceIte]⟩ ?_
   rintro e h ⟨hE, hlen, g7, g9, g10, g11⟩
   simp only [At_cons, At_nil] at hE hlen g7 g9 g10 g11
   obtain ⟨h7, h9, h10, h11, h33, -⟩ := hE
   refine m_rangeF' (g := 182) (first := []) (captured := [.ptr [ords l] 0]) (by simp only [go_sem, ↓reduceIte, h33]) hlen fun lf f1 f2 f3 f4 f5 => ?_
   refine raw_98 l hl 51 0 (fun r h' => ∃ (first : Bool) (a m : Int), getH h' 51 = .loop 0 .ready none lf ∧ getH h' 7 = .cells 0 [deskV l s] ∧ getH h' 9 = .cells 0 [.bool first] ∧ getH h' 10 = .cells 0 [.int .i64 a] ∧ getH h' 11 = .cells 0 [.int .i64 m] ∧
    r.foldl (tightStep (bd l (side l s))) (if first then none else some (a, m)) = tightOf l s) (fun r h' hJ => ?_) (by omega) (fun d r h' hJ hd => ?_) _ ?_ _ (fun v h' hJ => ?_)
   ·obtain ⟨first, a, m, j1, j2, j3, j4, j5, j6⟩ := hJ
    exact ⟨first, a, m, by rw [getH_append_none, j1], by rw [getH_append_none, j2], by rw [getH_append_none, j3], by rw [getH_append_none, j4], by rw [getH_append_none, j5], j6⟩
   ·obtain ⟨first, a, m, j1, j2, j3, j4, j5, j6⟩ := hJ
    obtain ⟨q, rfl⟩ : ∃ q, n = q + 2 := ⟨n - 2, by omega⟩
    have hdb : -100000 ≤ d ∧ d ≤ 100000 := by
     obtain ⟨i, hi, rfl⟩ := (daysOf_mem l hval d).1 hd
     have hib := seqOf_mem.1 hi
     obtain ⟨j, rfl⟩ := Int.eq_ofNat_of_zero_le hib.1
     obtain ⟨o, ho⟩ := get_ex (l := l) (i := j) (by omega)
     have hok := hval.ok o (List.mem_of_getElem? ho)
     have := hok.d0
     have := hok.d1
     rw [dueOf_nat ho]
     omega
    show (evCall T (q + 1) true (.yld 51 0) [.int .i64 d] h').all _
    refine m_round j1 (by rw [f3]; rfl) ?_
    rw [f4]
    simp (disch := first | assumption | omega) only [go_sem, ↓reduceIte, f1, f2, f3, setPs]
    refine ⟨none, lf, j1, ?_⟩
    rw [f5]
    cases first with
    | true =>
     simp (disch := first | assumption | omega) only [go_sem, ↓reduceIte, h7, h9, h10, h11, j2, j3, j4, j5, cs_70, bdV]
     exact ⟨_, _, lf, rfl, false, d, _, rfl, rfl, rfl, rfl, j6⟩
    | false =>
     by_cases hgt : bd l (side l s) d > m
     ·simp (disch := first | assumption | omega) only [go_sem, ↓reduceIte, h7, h9, h10, h11, j2, j3, j4, j5, cs_70, bdV, hgt]
      rw [List.foldl_cons] at j6
      simp only [Bool.false_eq_true, if_false, tightStep, if_pos hgt] at j6
      exact ⟨_, _, lf, rfl, false, d, _, rfl, rfl, rfl, rfl, j6⟩
     ·simp (disch := first | assumption | omega) only [go_sem, ↓reduceIte, h7, h9, h10, h11, j2, j3, j4, j5, cs_70, bdV, hgt]
      rw [List.foldl_cons] at j6
      simp only [Bool.false_eq_true, if_false, tightStep, if_neg hgt] at j6
      exact ⟨_, _, lf, rfl, false, a, m, rfl, rfl, rfl, rfl, j6⟩
   ·have n51 : ¬ 51 = 7 := by omega
    exact ⟨true, 0, 0, by simp only [go_sem, ↓reduceIte], by simp only [go_sem, ↓reduceIte]; exact g7, by simp only [go_sem, ↓reduceIte]; exact g9, by simp only [go_sem, ↓reduceIte]; exact g10, by simp only [go_sem, ↓reduceIte]; exact g11, rfl⟩
   ·obtain ⟨first, a, m, j1, j2, j3, j4, j5, j6⟩ := hJ
    refine ⟨.ready, none, lf, j1, by simp, ?_⟩
    have hfirst : first = false := by
     cases first with
     | false => rfl
     | true => rw [ht1] at j6; cases j6
    subst hfirst
    rw [ht1] at j6
    have e1 : some (a, m) = some (at0, bd l (side l s) at0) := j6
    simp only [Option.some.injEq, Prod.mk.injEq] at e1
    obtain ⟨rfl, rfl⟩ := e1
    simp (disch := first | assumption | omega) only [go_sem, ↓reduceIte, h7, h9, h10, h11, j4, j5]
    exact hV _ _ _ _ rfl rfl rfl
 ·have hc' : (chkSide l s != 0) = true := by simp [hc]
  have hde : dayErr l s = chkSide l s := by rw [dayErr, if_pos hc]
  rw [if_pos (by omega)] at hV
  simp (disch := first | assumption | omega) only [c73, go_sem, ↓reduceIte, cs_69, sidedV, hc', if_neg hc]
  exact hV _ _ _ _ rfl rfl hde.symm
end Go.Ev.YtgehhippjhealaaGreatC.P5
set_option linter.unusedSimpArgs false
set_option linter.unusedVariables false
namespace Go.Ev.YtgehhippjhealaaGreatC.P5
open Go
open Go Go.Proofs
attribute [local irreducible] Res.all evC evLoop evOps evOper evOp evFn evCall freeze G GO GV GP GC R
set_option maxRecDepth 100000
theorem cs_73 {n base : Nat} {Q : EX × St → Prop} {d : Option Nat} {L : List IOper} {ks : List Kont} {e : Env} {h : Heap} {l : List Order} {s : Int} {x : Bool} (hn : 12 ≤ n) (hl : l.length ≤ 15) : GP (evCall T n) base Q d L ks e (evCall T n false (.fn 63) [.slice (some 3) (l.map oAV) x, .int .i64 s] h) = GO (evCall T n) base Q L ks ⟨setDst e d (.tuple [.int .i64 (refTight l s).1, .int .i64 (refTight l s).2.1, .int .i64 (refTight l s).2.2]), h⟩ :=
 gp_eq (con_73 l s hl) hn (by repeat (first | exact fz_nil _ | refine fz_slice _ _ _ _ ?_ | refine fz_int _ _ _ ?_)) rfl
theorem refTight_err (l : List Order) (s : Int) : (refTight l s).2.2 = dayErr l s := by
 unfold refTight
 split
 ·rfl
 ·next h => split <;> simp_all
def refShort (l : List Order) (s : Int) : Int × Int := ((refTight l s).2.1, dayErr l s)
def shortV (l : List Order) (s : Int) : AV := .tuple [.int .i64 (refShort l s).1, .int .i64 (refShort l s).2]
theorem con_33 (l : List Order) (s : Int) (hl : l.length ≤ 15) : Con T 13 23 [ords l, .int .i64 s] (shortV l s) := by
 refine con_intro t33 fun n hn V hV => ?_
 simp (disch := first | assumption | omega) only [c33, go_sem, ↓reduceIte, cs_73]
 exact hV _ _ (by rw [shortV, refShort, refTight_err]; exact frz_two (frz_int _ _ _ _) (frz_int _ _ _ _))
theorem refTight_ok {l : List Order} {s : Int} (h : dayErr l s = 0) : ∃ a, refTight l s = (a, delayOf l (seqOf l) (side l s), 0) ∧ someDue l a = true ∧ bd l (side l s) a = delayOf l (seqOf l) (side l s) ∧ 0 ≤ a ∧ a ≤ 2000 ∧
  ∀ d, d < a → ¬ (someDue l d = true ∧ bd l (side l s) d = bd l (side l s) a) := by
 obtain ⟨hv, hs, h0⟩ := (dayErr_zero l s).1 h
 obtain ⟨a, e1, e2, e3, e4, e5, e6⟩ := tight_spec hv h0 s
 refine ⟨a, ?_, e3, e2, e4, e5, e6⟩
 rw [refTight, if_neg (by omega), e1, ← e2]
end Go.Ev.YtgehhippjhealaaGreatC.P5
set_option linter.unusedSimpArgs false
set_option linter.unusedVariables false
namespace Go.Ev.YtgehhippjhealaaGreatC.P5
open Go
open Go Go.Proofs
attribute [local irreducible] Res.all evC evLoop evOps evOper evOp evFn evCall freeze G GO GV GP GC R
set_option maxRecDepth 100000
def refSeq (l : List Order) : List Int × Int := if chk l ≠ 0 then ([], chk l) else (seqOf l, 0)
def seqV (l : List Order) : AV := .tuple [ints (refSeq l).1, .int .i64 (refSeq l).2]
theorem con_26 (l : List Order) (hl : l.length ≤ 15) : Con T 10 18 [ords l] (seqV l) := by
 refine con_intro t26 fun n hn V hV => ?_
 unfold seqV refSeq at hV
 by_cases hc : chk l = 0
 ·have hc' : (chk l != 0) = false := by simp [hc]
  have hz : ((0 : Int) = 0 ∨ (0 : Int) = 1) := .inl rfl
  have hsl := seqOf_length l
  have z1 : (1 : Nat) ≤ 2 := by omega
  simp (disch := first | assumption | omega) only [c26, go_sem, ↓reduceIte, cs_23, hc', cs_67, deskV, cs_68, cs_ints, hsl, z1]
  by_cases h0 : l.length = 0
  ·have hs0 : seqOf l = [] := List.length_eq_zero_iff.1 (by omega)
   rw [h0, cp_none (cs := []) (by simp [go_sem, ↓reduceIte])]
   simp (disch := first | assumption | omega) only [go_sem, ↓reduceIte]
   refine hV _ _ ?_
   rw [if_neg (by omega), hs0]
   exact frz_two (frz_own (l := []) (by simp [go_sem, ↓reduceIte]) rfl) (frz_int _ _ _ _)
  ·rw [cp_full (cs := (List.replicate l.length [AV.int .i64 0]).flatten) (by simp only [go_sem, ↓reduceIte]) (by simp) (by simp [hsl]) (by omega)]
   simp (disch := first | assumption | omega) only [go_sem, ↓reduceIte]
   refine hV _ _ ?_
   rw [if_neg (by omega)]
   exact frz_two (frz_own (getH_setH_self _ _ _) hsl.symm) (frz_int _ _ _ _)
 ·have hc' : (chk l != 0) = true := by simp [hc]
  simp (disch := first | assumption | omega) only [c26, go_sem, ↓reduceIte, cs_23, hc']
  refine hV _ _ ?_
  rw [if_pos hc]
  exact frz_two (frz_slice _ _ _ _ _) (frz_int _ _ _ _)
def acc (l : List Order) (s : List Int) : Nat → Nat → Int
 | 0, _ => 0
 | k + 1, j => acc l s k j + tm l s k j
end Go.Ev.YtgehhippjhealaaGreatC.P5
