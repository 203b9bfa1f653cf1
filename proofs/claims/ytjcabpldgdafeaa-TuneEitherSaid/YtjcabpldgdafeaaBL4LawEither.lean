/- The law TuneEither answers true: either there is a tune, or notes prove that there is none. No condition but those that stand in each. -/
import Derived.Test.YtjcabpldgdafeaaBL4Fn7
import Derived.Test.YtjcabpldgdafeaaBL4Tnl
import Derived.Test.YtjcabpldgdafeaaBL4LawProofs
set_option linter.unusedSimpArgs false
set_option linter.unusedVariables false
namespace Go.Ev.YtjcabpldgdafeaaC
open Go Go.Proofs
theorem small8 {n : Int} (h : (Lit.int .u8 n).wf = true) : ∃ m : Nat, n = (m : Int) ∧ m < 256 := by
 simp only [Lit.wf, IntKind.wrap, IntKind.bits, IntKind.signed, beq_iff_eq] at h
 have a1 : IntKind.u8.min = 0 := rfl
 have a2 : IntKind.u8.max = 255 := rfl
 simp at h
 exact ⟨n.toNat, by omega, by omega⟩
theorem b_shr8 (a b : Nat) (hb : b ≤ 63) (ha : a < 256) : binA .shr (.int .u8 (a : Int)) (.int .i64 (b : Int)) = .ret (.int .u8 ((a / 2 ^ b : Nat) : Int)) := by
 simp only [binA]
 rw [if_neg (by omega)]
 congr 2
 simp only [IntKind.bits, Int.toNat_natCast]
 have h3 : ∀ c : Nat, ((2 : Int) ^ c) = ((2 ^ c : Nat) : Int) := fun c => by simp
 rw [h3, Int.fdiv_eq_ediv_of_nonneg _ (Int.natCast_nonneg _), ← Int.natCast_ediv]
 congr 1
 by_cases hb8 : b ≤ 8
 ·rw [show Nat.min b 8 = b from Nat.min_eq_left hb8]
 ·rw [show Nat.min b 8 = 8 from Nat.min_eq_right (by omega), Nat.div_eq_of_lt (by omega), Nat.div_eq_of_lt]
  exact Nat.lt_of_lt_of_le ha (Nat.pow_le_pow_right (n := 2) (by omega) (show 8 ≤ b by omega))
theorem b_and8 (a : Nat) (ha : a < 256) : binA .and (.int .u8 (a : Int)) (.int .u8 1) = .ret (.int .u8 ((a % 2 : Nat) : Int)) := by
 simp only [binA, binI, if_true]
 congr 2
 have h1 : (BitVec.ofInt 8 (a : Int) &&& BitVec.ofInt 8 1).toNat = a % 2 := by
  rw [BitVec.toNat_and]
  have e1 : (BitVec.ofInt 8 (a : Int)).toNat = a := by
   rw [BitVec.ofInt_natCast, BitVec.toNat_ofNat]
   omega
  have e2 : (BitVec.ofInt 8 1).toNat = 1 := by decide
  rw [e1, e2, Nat.and_one_is_mod]
 show IntKind.u8.wrap ((BitVec.ofInt 8 (a : Int) &&& BitVec.ofInt 8 1).toNat : Int) = _
 rw [h1]
 simp only [IntKind.wrap, IntKind.signed, IntKind.bits]
 simp
 omega
theorem upU_mono (s : Nat → Int) {k M : Nat} (h : k ≤ M) : upU s k ≤ upU s M := by
 have : ∀ d, upU s k ≤ upU s (k + d) := fun d => by
  induction d with
  | zero => exact Int.le_refl _
  | succ d ih => rw [← Nat.add_assoc, upU]; split <;> omega
 have := this (M - k)
 rwa [show k + (M - k) = M by omega] at this
theorem sum_ris {s : Nat → Int} {N M : Nat} (hM : N ≤ M) : ∀ {l : List Int} {k : Nat}, k ≤ M → risF N k l = true → (∀ n ∈ l, 0 < s n.toNat) → sumI (fun n => s n.toNat) l + upU s k ≤ upU s M
 | [], k, hk, _, _ => by
  simp only [sumI, Int.zero_add]
  exact upU_mono s hk
 | n :: l, k, hk, h, hp => by
  simp only [risF, Bool.and_eq_true, decide_eq_true_eq] at h
  have hn := hp n List.mem_cons_self
  have ih := sum_ris hM (l := l) (k := n.toNat + 1) (by omega) (by rw [show ((n.toNat + 1 : Nat) : Int) = n + 1 by omega]; exact h.2) (fun m hm => hp m (List.mem_cons_of_mem _ hm))
  have := upU_mono s (show k ≤ n.toNat by omega)
  rw [upU, if_pos hn] at ih
  simp only [sumI]
  omega
theorem ck_no {N : Nat} {es : List Ed} (hk : OkB N es) (h : strL N es ≠ []) (kind : Int) (l : List Int) : ckPN N es kind l ≠ 0 := by
 obtain ⟨h1, h2⟩ := str_some h
 have hh := (ap_hang hk.ne hk.lt8).1 h1
 unfold ckPN
 split
 ·decide
 ·split
  ·decide
  ·next hr =>
   have hr' : risF N 0 l = true := by simpa using hr
   split
   ·split
    ·next ho =>
     exfalso
     simp only [ovB, Bool.and_eq_true, List.all_eq_true, decide_eq_true_eq] at ho
     have := sum_ris (s := sur es) hk.n8 (l := l) (k := 0) (by omega) hr' ho.1
     rw [show upU (sur es) 0 = 0 from rfl] at this
     omega
    ·decide
   ·split
    ·next ha =>
     exfalso
     simp only [apB, Bool.and_eq_true, List.all_eq_true, decide_eq_true_eq, beq_iff_eq] at ha
     obtain ⟨a1, a2, a3⟩ := ha
     obtain ⟨e, he, hpe⟩ := List.countP_pos_iff.1 (show 0 < es.countP fun e => hasE l e.1 by omega)
     have : ∃ f ∈ es, hasE l f.1 = false := Classical.byContradiction fun hn => by
      have : es.countP (fun e => hasE l e.1) = es.length := List.countP_eq_length.2 fun f hf => by
       cases hq : hasE l f.1 with
       | true => rfl
       | false => exact absurd ⟨f, hf, hq⟩ hn
      omega
     obtain ⟨f, hf, hpf⟩ := this
     have := hh (fun x => hasE l x) a1 e he f hf
     rw [hpe, hpf] at this
     cases this
    ·decide
theorem ck_14 {N : Nat} {es : List Ed} {kind : Int} {l : List Int} (hkd : kind = 1 ∨ kind = 2) (hr : risF N 0 l = true) : ckPN N es kind l = 0 ∨ ckPN N es kind l = 14 := by
 unfold ckPN
 rw [if_neg (by omega), if_neg (by rw [hr]; decide)]
 split <;> split <;> simp
def bsL (m i : Nat) : List Nat := (List.range i).filter fun j => decide (m / 2 ^ j % 2 = 1)
theorem bsL_succ (m i : Nat) : bsL m (i + 1) = bsL m i ++ if m / 2 ^ i % 2 = 1 then [i] else [] := by
 unfold bsL
 rw [List.range_succ, List.filter_append]
 congr 1
 by_cases h : m / 2 ^ i % 2 = 1
 ·rw [if_pos h, List.filter_cons, if_pos (by simpa using h)]; rfl
 ·rw [if_neg h, List.filter_cons, if_neg (by simpa using h)]; rfl
theorem bsL_ris (m N : Nat) : risF N 0 (nI4 (bsL m N)) = true := ris_asc (k := 0) (List.Pairwise.sublist List.filter_sublist List.pairwise_lt_range) fun x hx => ⟨Nat.zero_le _, List.mem_range.1 (List.mem_filter.1 hx).1⟩
theorem bsL_len (m i : Nat) : (bsL m i).length ≤ i := by
 have := List.length_filter_le (fun j => decide (m / 2 ^ j % 2 = 1)) (List.range i)
 simpa [bsL] using this
attribute [local irreducible] Res.all evC evLoop evOps evOper evOp evFn evCall freeze G GO GV GP GC R
set_option maxRecDepth 100000
set_option maxHeartbeats 2000000 in
theorem tuneEither_at (n40 : Nat) (hn : n40 = 20000) (b : Bk) (kd bi : Int) (l : List Int) (hw : BkWf b) (hkd : (Lit.int .u8 kd).wf = true) (hbi : (Lit.int .u8 bi).wf = true) (hm : l.length ≤ maxLen) : (evFn (evCall T n40) c7 [bkA b, .int .u8 kd, .int .u8 bi, ints l] []).all fun p => p.1 = .bool true := by
 rw [m_fn]
 obtain ⟨kd, rfl, hk8⟩ := small8 hkd
 obtain ⟨bi, rfl, hb8⟩ := small8 hbi
 have h20 : 20 ≤ n40 := by omega
 have h21 : 21 ≤ n40 := by omega
 have h11 : 11 ≤ n40 := by omega
 have h10 : 10 ≤ n40 := by omega
 have h4 : 4 ≤ n40 := by omega
 have h3 : 3 ≤ n40 := by omega
 have e00 : ((0 : Int) == 0) = true := rfl
 have b00 : ((0 : Int) != 0) = false := rfl
 by_cases hf : fineB b = true
 ·obtain ⟨hc, h11'⟩ := fine_ok hf
  by_cases hl : l.length > 30
  ·have d2 : decide ((l.length : Int) > 30) = true := by rw [decide_eq_true_eq]; omega
   simp (disch := first | assumption | omega) only [c7, go_sem, ↓reduceIte, cs_fine, hf, d2, cs_Works hn]
  have d2 : decide ((l.length : Int) > 30) = false := by rw [decide_eq_false_iff_not]; omega
  obtain ⟨N, es, rfl, hk⟩ := chk_ok hc
  have h11' : es.length ≤ 11 := by simpa [bkN] using h11'
  have hn8 := hk.n8
  have k1 := con_counted hk h11'
  have k2 := con_Proof N es hk
  have k3 := con_CheckProof N es (1 + ((kd % 2 : Nat) : Int)) (nI4 (bsL bi N)) hk (by rw [nI4_len]; have := bsL_len bi N; omega)
  have k4 := con_CheckTune (bkN N es) l (by simp [bkN]; omega) (by omega)
  have hck := ck_14 (es := es) (kind := 1 + ((kd % 2 : Nat) : Int)) (by omega) (bsL_ris bi N)
  unfold ckA at k4
  obtain ⟨CP, hCP⟩ : ∃ CP, CP = ckPN N es (1 + ((kd % 2 : Nat) : Int)) (nI4 (bsL bi N)) := ⟨_, rfl⟩
  rw [← hCP] at k3 hck
  have hrem := b_rem2 .u8 kd
  have hwr : IntKind.i64.wrap ((kd % 2 : Nat) : Int) = ((kd % 2 : Nat) : Int) := wrap64 (by omega) (by omega)
  have hkb : kd % 2 < 2 := Nat.mod_lt _ (by omega)
  obtain ⟨pk, pl, pe, hpr, hcase⟩ : ∃ pk pl pe, prA N es = .tuple [.int .i64 pk, ints pl, .int .i64 pe] ∧ ((strL N es = [] ∧ pk = prK es ∧ pl = nI4 (prL es) ∧ pe = 0) ∨ (strL N es ≠ [] ∧ pk = 0 ∧ pl = [] ∧ pe = 5)) := by
   unfold prA
   by_cases hs : strL N es = []
   ·rw [if_pos hs]; exact ⟨_, _, _, rfl, .inl ⟨hs, rfl, rfl, rfl⟩⟩
   ·rw [if_neg hs]; exact ⟨_, _, _, rfl, .inr ⟨hs, rfl, rfl, rfl⟩⟩
  rw [hpr] at k2
  have hpll : pl.length ≤ 1000 := by
   rcases hcase with ⟨_, _, rfl, _⟩ | ⟨_, _, rfl, _⟩
   ·rw [nI4_len]; have := prL_len es; omega
   ·simp
  obtain ⟨tl, htl⟩ : ∃ tl, tl = nI4 (tuL es) := ⟨_, rfl⟩
  rw [← htl] at k1
  have hA := bkN_A N es
  simp only [bkA] at hA
  simp (disch := first | assumption | omega) only [c7, go_sem, ↓reduceIte, cs_fine, hf, d2, gp_bk k1 h21, gp_bk k2 h20]
  refine m_loop (fun M st => ∃ (i : Nat) (x : AV), M = N - i ∧ i ≤ N ∧ At st.env [(1, .int .u8 kd), (2, .int .u8 bi), (3, ints l), (4, .optr 4 0 0), (9, .int .i64 (cntT es)), (10, ints tl), (11, .bool true), (12, .int .i64 pk), (13, ints pl), (14, .int .i64 pe), (15, x), (16, .int .i64 i)] ∧ getH st.heap 4 = .cells 0 [.int .i64 N, eds es] ∧ Own 138 st.heap x .i64 (nI4 (bsL bi i)) ∧ 138 ≤ st.heap.length) N (by omega)
   ⟨0, .slice none [] true, by omega, by omega, by simp only [go_sem, ↓reduceIte], ?_, own_nil .., by simp [length_setH]⟩ ?_
  ·simp only [go_sem, ↓reduceIte]
   show AObj.cells 0 [.int .i64 N, .slice (some 2) ((es.map eI).map pA) false] = _
   rw [map_eI]
  rintro M e h hM ⟨i, x, rfl, hi, hE, g4, hO, hh⟩ P hP
  simp only [At_cons, At_nil] at hE g4 hO hh
  obtain ⟨f1, f2, f3, f4, f9, f10, f11, f12, f13, f14, f15, f16, -⟩ := hE
  by_cases hlt : i < N
  ·have hshr := b_shr8 bi i (by omega) hb8
   have hand := b_and8 (bi / 2 ^ i) (by have := Nat.div_le_self bi (2 ^ i); omega)
   have hbs := bsL_succ bi i
   have hbl := bsL_len bi i
   by_cases hb : bi / 2 ^ i % 2 = 1
   ·rw [hb] at hand
    rw [if_pos hb] at hbs
    have e1 : ((1 : Int) == 1) = true := rfl
    simp (disch := first | assumption | omega) only [go_sem, ↓reduceIte, f1, f2, f3, f4, f9, f10, f11, f12, f13, f14, f15, f16, g4, hlt, hshr, hand, e1]
    refine gp_append1 (lo := 138) rfl hO hh (by rw [nI4_len]; omega) fun x' h' hO' hF hL _ _ => ?_
    simp (disch := first | assumption | omega) only [go_sem, ↓reduceIte, f1, f2, f3, f4, f9, f10, f11, f12, f13, f14, f15, f16]
    exact hP (N - (i + 1)) _ (by omega) ⟨i + 1, x', rfl, by omega, by simp only [go_sem, ↓reduceIte, f1, f2, f3, f4, f9, f10, f11, f12, f13, f14], by rw [hF 4 (by omega), g4], by rw [hbs, nI4_app]; exact hO', by simp only; omega⟩
   ·have hb0 : bi / 2 ^ i % 2 = 0 := by omega
    rw [hb0] at hand
    rw [if_neg hb, List.append_nil] at hbs
    have e1 : ((0 : Int) == 1) = false := rfl
    simp (disch := first | assumption | omega) only [go_sem, ↓reduceIte, f1, f2, f3, f4, f9, f10, f11, f12, f13, f14, f15, f16, g4, hlt, hshr, hand, e1]
    exact hP (N - (i + 1)) _ (by omega) ⟨i + 1, x, rfl, by omega, by simp only [go_sem, ↓reduceIte, f1, f2, f3, f4, f9, f10, f11, f12, f13, f14, f15], g4, by rw [hbs]; exact hO, hh⟩
  ·obtain rfl : N = i := by omega
   rw [bkN_A] at k3 k4
   have z1 : ∀ {base : Nat} {Q : EX × St → Prop} {d : Option Nat} {L : List IOper} {ks : List Kont} {e : Env} {h : Heap} {x y : Bool} {f k : Nat} {l : List Int} {r : AV} (_ : Con T k f [.agg [.int .i64 (N : Int), eds es], ints l] r) (_ : k ≤ n40), GP (evCall T n40) base Q d L ks e (evCall T n40 false (.fn f) [.agg [.int .i64 (N : Int), .slice (some 2) (es.map edA) x], .slice none (l.map (.int .i64)) y] h) = GO (evCall T n40) base Q L ks ⟨setDst e d r, h⟩ := fun hc hk => gp_eq hc hk (fz_cons (frz_agg (mz_cons (frz_int _ _ _ _) (mz_cons (frz_slice _ _ _ _ _) (mz_nil _ _)))) (fz_slice _ _ _ _ (fz_nil _))) rfl
   have z2 : ∀ {base : Nat} {Q : EX × St → Prop} {d : Option Nat} {L : List IOper} {ks : List Kont} {e : Env} {h : Heap} {x y : Bool} {f k : Nat} {c : Int} {l : List Int} {r : AV} (_ : Con T k f [.agg [.int .i64 (N : Int), eds es], .int .i64 c, ints l] r) (_ : k ≤ n40), GP (evCall T n40) base Q d L ks e (evCall T n40 false (.fn f) [.agg [.int .i64 (N : Int), .slice (some 2) (es.map edA) x], .int .i64 c, .slice none (l.map (.int .i64)) y] h) = GO (evCall T n40) base Q L ks ⟨setDst e d r, h⟩ := fun hc hk => gp_eq hc hk (fz_cons (frz_agg (mz_cons (frz_int _ _ _ _) (mz_cons (frz_slice _ _ _ _ _) (mz_nil _ _)))) (fz_int _ _ _ (fz_slice _ _ _ _ (fz_nil _)))) rfl
   simp (disch := first | assumption | omega) only [go_sem, ↓reduceIte, f1, f2, f3, f4, f9, f10, f11, f12, f13, f14, f15, f16, g4, hlt, hrem, hwr]
   refine gp_con k3 (by omega) (fz_cons (frz_agg (mz_cons (frz_int _ _ _ _) (mz_cons (frz_slice _ _ _ _ _) (mz_nil _ _)))) (fz_int _ _ _ (fz_cons (frz_Own hO) (fz_nil _)))) (or_pi _ _ _) ?_
   have hcp : (CP != 0) = decide (CP ≠ 0) := by rcases hck with h | h <;> rw [h] <;> rfl
   rcases hcase with ⟨hs, rfl, rfl, rfl⟩ | ⟨hs, rfl, rfl, rfl⟩
   ·have hcn := cnt_none hk hs
    have d0 : decide ((0 : Int) > 0) = false := rfl
    have hno : (ckT (bkN N es) l).2.2 ≠ 0 := fun h => by
     obtain ⟨a, r, _, _, _, ha, _⟩ := ck_need hk h
     rw [hs] at ha; cases ha
    have hnb : ((ckT (bkN N es) l).2.2 != 0) = true := by rw [bne_iff_ne]; exact hno
    have k5 := con_CheckProof N es (prK es) (nI4 (prL es)) hk (by rw [nI4_len]; have := prL_len es; omega)
    have k6 := con_refPr N es (prK es) (nI4 (prL es)) hk (by rw [nI4_len]; have := prL_len es; omega)
    rw [pr_ok hk hs, bkN_A] at k5 k6
    rw [hcn] at f9
    rcases hck with h | h
    ·have c1 : (CP != 0) = false := by rw [h]; rfl
     simp (disch := first | assumption | omega) only [go_sem, ↓reduceIte, f1, f3, f4, f9, f10, f11, f12, f13, f14, g4, z1 k4 h10, c1, d0, e00, z2 k5 h11, z2 k6 h3, hnb, cs_Works hn]
    ·have c1 : (CP != 0) = true := by rw [h]; rfl
     have c2 : (CP != 14) = false := by rw [h]; rfl
     simp (disch := first | assumption | omega) only [go_sem, ↓reduceIte, f1, f3, f4, f9, f10, f11, f12, f13, f14, g4, z1 k4 h10, c1, c2, d0, e00, z2 k5 h11, z2 k6 h3, hnb, cs_Works hn]
   ·have hcn := cnt_some hk hs
    have d0 : decide (cntT es > 0) = true := by rw [decide_eq_true_eq]; exact hcn
    have h14 : CP = 14 := by
     rcases hck with h | h
     ·rw [hCP] at h; exact absurd h (ck_no hk hs _ _)
     ·exact h
    have c1 : (CP != 0) = true := by rw [h14]; rfl
    have c2 : (CP != 14) = false := by rw [h14]; rfl
    have c3 : (CP == 14) = true := by rw [h14]; rfl
    obtain ⟨t1, t2, t3, b, t4⟩ := tuL_ok hk hs
    have hck2 := trail_ck hk t1 t2 t3 t4
    have k7 := con_CheckTune (bkN N es) (nI4 (tuL es)) (by simp [bkN]; omega) (by rw [nI4_len]; omega)
    unfold ckA at k7
    rw [hck2, bkN_A, ← htl] at k7
    have e5 : ((5 : Int) == 5) = true := rfl
    simp (disch := first | assumption | omega) only [go_sem, ↓reduceIte, f1, f3, f4, f9, f10, f11, f12, f13, f14, g4, z1 k4 h10, c1, c2, c3, d0, e00, e5, z1 k7 h10, cs_Works hn]
 ·have hf' : fineB b = false := by simpa using hf
  simp (disch := first | assumption | omega) only [c7, go_sem, ↓reduceIte, cs_fine, hf', cs_Works hn]
def tuneEither_n : Nat := 20000
theorem tuneEither_ev (b : Bk) (kd bi : Int) (l : List Int) (hw : BkWf b) (hkd : (Lit.int .u8 kd).wf = true) (hbi : (Lit.int .u8 bi).wf = true) (hwl : ∀ n ∈ l, (Lit.int .i64 n).wf = true) (hm : l.length ≤ maxLen) : (evFn (evCall T tuneEither_n) c7 [bkA b, .int .u8 kd, .int .u8 bi, ints l] []).all fun p => p.1 = .bool true := tuneEither_at _ rfl b kd bi l hw hkd hbi hm
end Go.Ev.YtjcabpldgdafeaaC
