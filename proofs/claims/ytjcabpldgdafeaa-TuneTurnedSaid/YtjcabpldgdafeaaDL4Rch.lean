/- Whether slurs lead from a note to another one, and from each to each: the program's. No condition but those that stand in each. -/
import Derived.Test.YtjcabpldgdafeaaDL4Flw
import Derived.Test.YtjcabpldgdafeaaDL4Tune
set_option linter.unusedSimpArgs false
set_option linter.unusedVariables false
namespace Go.Ev.YtjcabpldgdafeaaC
open Go Go.Proofs Go.Ev
attribute [local irreducible] Res.all evC evLoop evOps evOper evOp evFn evCall freeze G GO GV GP GC R
set_option maxRecDepth 100000
def mkF (σ : Nat → Int) (e : Ed) : Nat → Int := fun y => if y = e.2 then (if σ e.1 > σ e.2 then σ e.1 else σ e.2) else σ y
def mkL (σ : Nat → Int) (l : List Ed) : Nat → Int := l.foldl mkF σ
theorem mkF_ge (σ : Nat → Int) (e : Ed) (y : Nat) : σ y ≤ mkF σ e y := by
 unfold mkF
 split
 ·next h => subst h; split <;> omega
 ·exact Int.le_refl _
theorem mkL_ge : ∀ (l : List Ed) (σ : Nat → Int) (y : Nat), σ y ≤ mkL σ l y
 | [], _, _ => Int.le_refl _
 | e :: l, σ, y => Int.le_trans (mkF_ge σ e y) (mkL_ge l (mkF σ e) y)
theorem mkL_take {es : List Ed} {i : Nat} (h : i < es.length) (σ : Nat → Int) : mkL σ (es.take (i + 1)) = mkF (mkL σ (es.take i)) es[i] := by
 unfold mkL
 rw [List.take_succ_eq_append_getElem h, List.foldl_append]; rfl
theorem mkL_fix : ∀ (l : List Ed) (σ : Nat → Int), (∀ e ∈ l, mkL σ l e.2 = σ e.2) → ∀ e ∈ l, σ e.1 ≤ σ e.2
 | [], _, _, _, h => by cases h
 | e :: l, σ, h, f, hf => by
  have h1 : mkL (mkF σ e) l e.2 = σ e.2 := h e List.mem_cons_self
  have h2 := mkL_ge l (mkF σ e) e.2
  have h3 := mkF_ge σ e e.2
  have h4 : mkF σ e e.2 = σ e.2 := by omega
  have hle : σ e.1 ≤ σ e.2 := by
   unfold mkF at h4
   rw [if_pos rfl] at h4
   split at h4 <;> omega
  have h5 : mkF σ e = σ := funext fun y => by
   by_cases hy : y = e.2
   ·rw [hy, h4]
   ·unfold mkF; rw [if_neg hy]
  rcases List.mem_cons.1 hf with rfl | hf
  ·exact hle
  ·exact mkL_fix l σ (fun g hg => by
    have := h g (List.mem_cons_of_mem _ hg)
    change mkL (mkF σ e) l g.2 = σ g.2 at this
    rwa [h5] at this) f hf
structure Mks (es : List Ed) (a : Nat) (σ : Nat → Int) : Prop where
 b : ∀ y, σ y = 0 ∨ σ y = 1
 s : ∀ y, σ y = 1 → Rch es a y
 o : σ a = 1
theorem Mks.push {es : List Ed} {a : Nat} {σ : Nat → Int} (h : Mks es a σ) {e : Ed} (he : e ∈ es) : Mks es a (mkF σ e) where
 b := fun y => by
  have h1 := h.b e.1; have h2 := h.b e.2; have h3 := h.b y
  unfold mkF
  split
  ·split <;> omega
  ·exact h3
 s := fun y hy => by
  unfold mkF at hy
  split at hy
  ·next hye =>
   subst hye
   split at hy
   ·exact fun p hp ha => hp e he (h.s e.1 hy p hp ha)
   ·exact h.s _ hy
  ·exact h.s y hy
 o := by
  have h1 := mkF_ge σ e a
  have h2 := h.o
  have h3 := h.b e.1; have h4 := h.b e.2; have h5 := h.b a
  unfold mkF at h1 ⊢
  split
  ·next hh => rw [if_pos hh] at h1; split <;> split at h1 <;> omega
  ·exact h2
theorem Mks.all {es : List Ed} {a : Nat} : ∀ {l : List Ed} {σ : Nat → Int}, Mks es a σ → (∀ e ∈ l, e ∈ es) → Mks es a (mkL σ l)
 | [], _, h, _ => h
 | e :: l, σ, h, hl => Mks.all (l := l) (h.push (hl e List.mem_cons_self)) fun f hf => hl f (List.mem_cons_of_mem _ hf)
open Classical in
noncomputable def rchB (es : List Ed) (a b : Nat) : Bool := decide (Rch es a b)
theorem rchB_iff {es : List Ed} {a b : Nat} : rchB es a b = true ↔ Rch es a b := by simp [rchB]
theorem Mks.done {es : List Ed} {a : Nat} {σ : Nat → Int} (h : Mks es a σ) (hc : ∀ e ∈ es, σ e.1 ≤ σ e.2) (b : Nat) : decide (σ b > 0) = rchB es a b := by
 rw [Bool.eq_iff_iff, rchB_iff, decide_eq_true_eq]
 constructor
 ·intro hb
  exact h.s b (by have := h.b b; omega)
 ·intro hr
  have := hr (fun x => decide (0 < σ x)) (fun e he hx => by
   simp only [decide_eq_true_eq] at hx ⊢
   have := hc e he; omega) (by have := h.o; simp [this])
  simpa using this
def sumM (σ : Nat → Int) : Nat := (8 - sumF σ 8).toNat
theorem sumM_lt {σ τ : Nat → Int} {y : Nat} (hy : y < 8) (hb : ∀ x, σ x = 0 ∨ σ x = 1) (hb2 : ∀ x, τ x = 0 ∨ τ x = 1) (hle : ∀ x, σ x ≤ τ x) (hne : τ y ≠ σ y) : sumM τ < sumM σ := by
 have h1 := sumF_lt (n := 8) (f := σ) (g := τ) (fun x _ => hle x) hy (by have := hle y; omega)
 have h2 : sumF τ 8 ≤ 8 := by
  have := sumF_le (n := 8) (f := τ) (g := fun _ => 1) fun x _ => by rcases hb2 x with h | h <;> omega
  simpa [sumF] using this
 unfold sumM; omega
theorem sr8_set (s : Nat → Int) {v : Nat} (h : v < 8) (a : Int) : (sr8 s).set v (.int .i64 a) = sr8 fun y => if y = v then a else s y := by
 unfold sr8
 rw [set_range]
 apply List.map_congr_left
 intro b _
 simp only
 split <;> rfl
theorem sr8_take (s : Nat → Int) : (sr8 s).take 8 = sr8 s := List.take_of_length_le (by rw [sr8_len]; exact Nat.le_refl _)
theorem sr8_one (s : Nat → Int) : (sr8 s).all oneB = true := by
 unfold sr8; rw [List.all_map]; exact List.all_eq_true.2 fun _ _ => rfl
set_option maxHeartbeats 1000000 in
theorem con_reaches (N : Int) (es : List Ed) (s : Nat → Int) (p : AV) (a b : Nat) (hl : es.length ≤ 20) (hn8 : ∀ q ∈ es, q.1 < 8 ∧ q.2 < 8) (ha : a < 8) (hb : b < 8) : Con T 1 89 [stA N es s p, .int .i64 a, .int .i64 b] (.bool (rchB es a b)) := by
 refine con_intro t89 fun n hn V hV => ?_
 have hz : [AV.int IntKind.i64 0, AV.int IntKind.i64 0, AV.int IntKind.i64 0, AV.int IntKind.i64 0, AV.int IntKind.i64 0, AV.int IntKind.i64 0, AV.int IntKind.i64 0, AV.int IntKind.i64 0].set a (.int .i64 1) = sr8 (fun y => if y = a then 1 else 0) := sr8_set (fun _ => 0) ha 1
 have hsp : ∀ σ, splice [AV.int IntKind.i64 0, AV.int IntKind.i64 0, AV.int IntKind.i64 0, AV.int IntKind.i64 0, AV.int IntKind.i64 0, AV.int IntKind.i64 0, AV.int IntKind.i64 0, AV.int IntKind.i64 0] 0 (sr8 σ) = sr8 σ := fun σ => splice_full _ _ (by simp [sr8_len])
 have hK0 : Mks es a fun y => if y = a then 1 else 0 := ⟨fun y => by
   by_cases h : y = a
   ·exact .inr (if_pos h)
   ·exact .inl (if_neg h), fun y hy => by
   by_cases h : y = a
   ·subst h; exact fun p _ hp => hp
   ·exact absurd hy (by rw [if_neg h]; decide), if_pos rfl⟩
 have ha7 : a ≤ 7 := by omega
 simp (disch := first | assumption | omega) only [c89, go_sem, ↓reduceIte, hz, ha, ha7]
 refine m_loop (fun M st => ∃ σ, M = sumM σ ∧ Mks es a σ ∧ At st.env [(0, stA N es s p), (2, .int .i64 b), (7, .optr 7 0 0)] ∧ getH st.heap 7 = .cells 0 (sr8 σ)) (sumM fun y => if y = a then 1 else 0) ?_
  ⟨fun y => if y = a then 1 else 0, rfl, hK0, by simp only [go_sem, ↓reduceIte, stA], by simp only [go_sem, ↓reduceIte]⟩ ?_
 ·have : sumF (fun y => if y = a then 1 else 0) 8 ≥ 0 := by
   have := sumF_le (n := 8) (f := fun _ => 0) (g := fun y => if y = a then 1 else 0) fun x _ => by split <;> omega
   simpa [sumF] using this
  unfold sumM; omega
 rintro M e h hM ⟨σ, rfl, hK, hE, g7⟩ P hP
 simp only [At_cons, At_nil] at hE g7
 obtain ⟨f0, f2, f7, -⟩ := hE
 simp (disch := first | assumption | omega) only [go_sem, ↓reduceIte, f0, f2, f7, g7, sr8_len, sr8_take, sr8_one, hsp, stA, stC_1, Nat.le_refl]
 refine m_loop (fun M st => ∃ (i : Nat), M = es.length - i ∧ i ≤ es.length ∧ At st.env [(0, stA N es s p), (2, .int .i64 b), (7, .optr 7 0 0), (8, .optr 8 (getH h 8).next 0), (18, eds es), (19, .int .i64 es.length), (20, .int .i64 i)] ∧ getH st.heap 7 = .cells 0 (sr8 (mkL σ (es.take i))) ∧ getH st.heap 8 = .cells (getH h 8).next (sr8 σ)) es.length (by omega)
  ⟨0, by omega, by omega, by simp only [go_sem, ↓reduceIte, f0, f2, f7, stA], by simp only [go_sem, ↓reduceIte, g7]; rfl, by simp only [go_sem, ↓reduceIte]⟩ ?_
 rintro M e2 h2 hM ⟨i, rfl, hi, hE, g7, g8⟩ P2 hP2
 simp only [At_cons, At_nil] at hE g7 g8
 obtain ⟨f0, f2, f7, f8, f18, f19, f20, -⟩ := hE
 by_cases hlt : i < es.length
 ·have hq := hn8 _ (List.getElem_mem hlt)
  have hg := ed_get hlt
  have hmk := mkL_take hlt σ
  generalize hqd : es[i] = q at *
  obtain ⟨qa, qb⟩ := q
  simp only at hq
  simp only [edA] at hg
  obtain ⟨hq1, hq2⟩ := hq
  have hq7 : qb ≤ 7 := by omega
  simp (disch := first | assumption | omega) only [go_sem, ↓reduceIte, f0, f2, f7, f8, f18, f19, f20, g7, hlt, hg, hq1, hq2, hq7, sr8_len, sr8_get, sr8_set]
  refine hP2 (es.length - (i + 1)) _ (by omega) ⟨i + 1, rfl, by omega, by simp only [go_sem, ↓reduceIte, f0, f2, f7, f8, f18, f19], ?_, by simp only [go_sem, ↓reduceIte, g8]⟩
  simp only [go_sem, ↓reduceIte]
  rw [hmk]
  rfl
 ·obtain rfl : i = es.length := by omega
  rw [List.take_length] at g7
  have heq : eqInts (sr8 σ) (sr8 (mkL σ es)) = some ((List.range 8).all fun v => decide (σ v = mkL σ es v)) := eqInts_map σ (mkL σ es) (List.range 8)
  obtain ⟨B, hB⟩ : ∃ B, B = (List.range 8).all fun v => decide (σ v = mkL σ es v) := ⟨_, rfl⟩
  rw [← hB] at heq
  cases hBv : B with
  | true =>
   rw [hBv] at heq hB
   have bt : (true != false) = true := rfl
   have hfx : ∀ e ∈ es, σ e.1 ≤ σ e.2 := mkL_fix es σ fun e he => by
    have := List.all_eq_true.1 hB.symm e.2 (List.mem_range.2 (hn8 e he).2)
    simp only [decide_eq_true_eq] at this
    exact this.symm
   have hσb : mkL σ es b = σ b := by
    have := List.all_eq_true.1 hB.symm b (List.mem_range.2 hb)
    simp only [decide_eq_true_eq] at this
    exact this.symm
   have hd := hK.done hfx b
   simp (disch := first | assumption | omega) only [go_sem, ↓reduceIte, f0, f2, f7, f8, f18, f19, f20, g7, g8, hlt, sr8_len, sr8_take, eaA, heq, bt, hb, sr8_get, hσb, hd, Nat.le_refl]
   exact hV _ _ (frz_bool _ _ _)
  | false =>
   rw [hBv] at heq hB
   have bf : (false != false) = false := rfl
   obtain ⟨y, hy, hne⟩ := List.all_eq_false.1 hB.symm
   have hK2 := hK.all (l := es) fun _ h => h
   simp (disch := first | assumption | omega) only [go_sem, ↓reduceIte, f0, f2, f7, f8, f18, f19, f20, g7, g8, hlt, sr8_len, sr8_take, eaA, heq, bf, Nat.le_refl]
   refine hP (sumM (mkL σ es)) _ ?_ ⟨_, rfl, hK2, by simp only [go_sem, ↓reduceIte, f0, f2, f7], by simp only [go_sem, ↓reduceIte, g7]⟩
   exact sumM_lt (List.mem_range.1 hy) hK.b hK2.b (mkL_ge es σ) (fun h => hne (by simpa using h.symm))
section
variable {n base : Nat} {Q : EX × St → Prop} {d : Option Nat} {L : List IOper} {ks : List Kont} {e : Env} {h : Heap}
theorem cs_reaches {N : Int} {es : List Ed} {s : Nat → Int} {p : AV} {a b : Nat} (hn : 1 ≤ n) (hl : es.length ≤ 20) (hn8 : ∀ q ∈ es, q.1 < 8 ∧ q.2 < 8) (ha : a < 8) (hb : b < 8) : GP (evCall T n) base Q d L ks e (evCall T n false (.fn 89) [stA N es s p, .int .i64 a, .int .i64 b] h) = GO (evCall T n) base Q L ks ⟨setDst e d (.bool (rchB es a b)), h⟩ :=
 gp_eq (con_reaches N es s p a b hl hn8 ha hb) hn (fz_cons (frz_stA _ _ _ _ _ _) (fz_int _ _ _ (fz_int _ _ _ (fz_nil _)))) (or_pb _ _)
end
def pr4 (e f : Ed) : List Ed := [(e.1, f.1), (e.1, f.2), (e.2, f.1), (e.2, f.2)]
noncomputable def cl4 (es : List Ed) (e f : Ed) : Bool := (pr4 e f).all fun q => rchB es q.1 q.2
noncomputable def cloB (es : List Ed) : Bool := es.all fun e => es.all fun f => cl4 es e f
theorem cloB_iff {es : List Ed} : cloB es = true ↔ Clo es := by
 simp only [cloB, cl4, pr4, List.all_eq_true, Clo, List.mem_cons, List.not_mem_nil, or_false, forall_eq_or_imp, forall_eq, rchB_iff]
set_option maxHeartbeats 2000000 in
theorem con_closes (N : Int) (es : List Ed) (s : Nat → Int) (p : AV) (hl : es.length ≤ 20) (hn8 : ∀ q ∈ es, q.1 < 8 ∧ q.2 < 8) : Con T 2 71 [stA N es s p] (.bool (cloB es)) := by
 refine con_intro t71 fun n hn V hV => ?_
 have hVf : ∀ (i k : Nat) (hi : i < es.length) (hk : k < es.length), cl4 es es[i] es[k] = false → ∀ h, V (.bool false, h) := fun i k hi hk hc h => hV _ _ (by
  have : cloB es = false := by
   rw [cloB, List.all_eq_false]
   refine ⟨es[i], List.getElem_mem hi, ?_⟩
   rw [Bool.not_eq_true, List.all_eq_false]
   exact ⟨es[k], List.getElem_mem hk, by rw [hc]; decide⟩
  rw [this]; exact frz_bool _ _ _)
 simp (disch := first | assumption | omega) only [c71, stA, go_sem, ↓reduceIte, stC_1]
 refine m_loop (fun M st => ∃ i : Nat, M = es.length - i ∧ i ≤ es.length ∧ At st.env [(0, stA N es s p), (13, eds es), (14, .int .i64 es.length), (15, .int .i64 i)] ∧ (es.take i).all (fun e => es.all fun f => cl4 es e f) = true) es.length (by omega)
  ⟨0, by omega, by omega, by simp only [go_sem, ↓reduceIte, stA, List.length_map], rfl⟩ ?_
 rintro M e h hM ⟨i, rfl, hi, hE, hA⟩ P hP
 simp only [At_cons, At_nil] at hE
 obtain ⟨f0, f13, f14, f15, -⟩ := hE
 by_cases hlt : i < es.length
 ·have hg := ed_get hlt
  have hat := allB_take (p := fun e => es.all fun f => cl4 es e f) hlt
  have hq := hn8 _ (List.getElem_mem hlt)
  have hVi := fun k hk => hVf i k hlt hk
  rw [hA, Bool.true_and] at hat
  generalize hqd : es[i] = q at *
  obtain ⟨qa, qb⟩ := q
  simp only at hq
  simp only [edA] at hg
  obtain ⟨hq1, hq2⟩ := hq
  simp (disch := first | assumption | omega) only [go_sem, ↓reduceIte, f0, f13, f14, f15, hlt, hg, stA, stC_1]
  refine m_loop (fun M st => ∃ k : Nat, M = es.length - k ∧ k ≤ es.length ∧ At st.env [(0, stA N es s p), (4, .optr 4 (getH h 4).next 0), (13, eds es), (14, .int .i64 es.length), (15, .int .i64 i), (23, eds es), (24, .int .i64 es.length), (25, .int .i64 k)] ∧ getH st.heap 4 = .cells (getH h 4).next [.int .i64 qa, .int .i64 qb] ∧ (es.take k).all (fun f => cl4 es (qa, qb) f) = true) es.length (by omega)
   ⟨0, by omega, by omega, by simp only [go_sem, ↓reduceIte, f0, f13, f14, f15, stA, List.length_map], by simp only [go_sem, ↓reduceIte], rfl⟩ ?_
  rintro M e2 h2 hM ⟨k, rfl, hk, hE, g4, hA2⟩ P2 hP2
  simp only [At_cons, At_nil] at hE g4
  obtain ⟨f0, f4, f13, f14, f15, f23, f24, f25, -⟩ := hE
  by_cases hlt2 : k < es.length
  ·have hg2 := ed_get hlt2
   have hat2 := allB_take (p := fun f => cl4 es (qa, qb) f) hlt2
   have hr := hn8 _ (List.getElem_mem hlt2)
   have hVk := hVi k hlt2
   rw [hA2, Bool.true_and] at hat2
   generalize hrd : es[k] = r at *
   obtain ⟨ra, rb⟩ := r
   simp only at hr
   simp only [edA] at hg2
   obtain ⟨hr1, hr2⟩ := hr
   have hp8 : ∀ q ∈ pr4 (qa, qb) (ra, rb), q.1 < 8 ∧ q.2 < 8 := by
    simp only [pr4, List.mem_cons, List.not_mem_nil, or_false, forall_eq_or_imp, forall_eq]
    exact ⟨⟨hq1, hr1⟩, ⟨hq1, hr2⟩, ⟨hq2, hr1⟩, hq2, hr2⟩
   have hlen : (pr4 (qa, qb) (ra, rb)).length = 4 := rfl
   have hdiv : 8 / 2 = 4 := rfl
   simp (config := { maxSteps := 3000000 }) (disch := first | assumption | omega) only [go_sem, ↓reduceIte, f0, f4, f13, f14, f15, f23, f24, f25, g4, hlt2, hg2, ixAA_optr, hdiv]
   refine m_loop (fun M st => ∃ j : Nat, M = 4 - j ∧ j ≤ 4 ∧ At st.env [(0, stA N es s p), (4, .optr 4 (getH h 4).next 0), (13, eds es), (14, .int .i64 es.length), (15, .int .i64 i), (23, eds es), (24, .int .i64 es.length), (25, .int .i64 k), (49, .slice (some 2) ((pr4 (qa, qb) (ra, rb)).map edA) true), (50, .int .i64 4), (51, .int .i64 j)] ∧ getH st.heap 4 = .cells (getH h 4).next [.int .i64 qa, .int .i64 qb] ∧ ((pr4 (qa, qb) (ra, rb)).take j).all (fun q => rchB es q.1 q.2) = true) 4 (by omega)
    ⟨0, by omega, by omega, by simp only [go_sem, ↓reduceIte, f0, f4, f13, f14, f15, f23, f24, f25, stA]; exact ⟨rfl, rfl⟩, by simp only [go_sem, ↓reduceIte, g4], rfl⟩ ?_
   rintro M e3 h3 hM ⟨j, rfl, hj, hE, g4, hA3⟩ P3 hP3
   simp only [At_cons, At_nil] at hE g4
   obtain ⟨f0, f4, f13, f14, f15, f23, f24, f25, f49, f50, f51, -⟩ := hE
   by_cases hlt3 : j < 4
   ·have hd3 : decide ((j : Int) < 4) = true := by simp; omega
    have hg3 := ed_get (es := pr4 (qa, qb) (ra, rb)) (i := j) (by rw [hlen]; exact hlt3)
    have hat3 := allB_take (es := pr4 (qa, qb) (ra, rb)) (p := fun q => rchB es q.1 q.2) (i := j) (by rw [hlen]; exact hlt3)
    have hu8 := hp8 _ (List.getElem_mem (l := pr4 (qa, qb) (ra, rb)) (n := j) (by rw [hlen]; exact hlt3))
    have hbad : rchB es ((pr4 (qa, qb) (ra, rb))[j]'(by rw [hlen]; exact hlt3)).1 ((pr4 (qa, qb) (ra, rb))[j]'(by rw [hlen]; exact hlt3)).2 = false → cl4 es (qa, qb) (ra, rb) = false := fun hb => by
     rw [cl4, List.all_eq_false]
     exact ⟨_, List.getElem_mem (l := pr4 (qa, qb) (ra, rb)) (n := j) (by rw [hlen]; exact hlt3), by rw [hb]; decide⟩
    rw [hA3, Bool.true_and] at hat3
    generalize hud : (pr4 (qa, qb) (ra, rb))[j]'(by rw [hlen]; exact hlt3) = u at *
    obtain ⟨ua, ub⟩ := u
    simp only at hu8 hbad hat3
    obtain ⟨hu1, hu2⟩ := hu8
    generalize pr4 (qa, qb) (ra, rb) = L4 at *
    simp only [edA] at hg3
    cases hr : rchB es ua ub with
    | true =>
     simp (config := { maxSteps := 3000000 }) (disch := first | assumption | omega) only [go_sem, ↓reduceIte, f0, f4, f13, f14, f15, f23, f24, f25, f49, f50, f51, g4, hd3, hg3, ixAA_optr, cs_reaches, hr]
     exact hP3 (4 - (j + 1)) _ (by omega) ⟨j + 1, rfl, by omega, by simp only [go_sem, ↓reduceIte, f0, f4, f13, f14, f15, f23, f24, f25, f49, f50], by simp only [go_sem, ↓reduceIte, g4], by rw [hat3, hr]⟩
    | false =>
     simp (config := { maxSteps := 3000000 }) (disch := first | assumption | omega) only [go_sem, ↓reduceIte, f0, f4, f13, f14, f15, f23, f24, f25, f49, f50, f51, g4, hd3, hg3, ixAA_optr, cs_reaches, hr]
     exact hVk (hbad hr) _
   ·obtain rfl : j = 4 := by omega
    have hd3 : decide ((4 : Int) < 4) = false := by decide
    rw [List.take_of_length_le (by rw [hlen]; exact Nat.le_refl _)] at hA3
    simp (disch := first | assumption | omega) only [go_sem, ↓reduceIte, f0, f4, f13, f14, f15, f23, f24, f25, f49, f50, f51, hd3]
    exact hP2 (es.length - (k + 1)) _ (by omega) ⟨k + 1, rfl, by omega, by simp only [go_sem, ↓reduceIte, f0, f4, f13, f14, f15, f23, f24], by simp only [go_sem, ↓reduceIte, g4], by rw [hat2]; exact hA3⟩
  ·obtain rfl : k = es.length := by omega
   rw [List.take_length] at hA2
   simp (disch := first | assumption | omega) only [go_sem, ↓reduceIte, f0, f13, f14, f15, f23, f24, f25, hlt2]
   exact hP (es.length - (i + 1)) _ (by omega) ⟨i + 1, rfl, by omega, by simp only [go_sem, ↓reduceIte, f0, f13, f14], by rw [hat]; exact hA2⟩
 ·obtain rfl : i = es.length := by omega
  rw [List.take_length] at hA
  simp (disch := first | assumption | omega) only [go_sem, ↓reduceIte, f0, f13, f14, f15, hlt]
  refine hV _ _ ?_
  rw [cloB, hA]
  exact frz_bool _ _ _
end Go.Ev.YtjcabpldgdafeaaC
