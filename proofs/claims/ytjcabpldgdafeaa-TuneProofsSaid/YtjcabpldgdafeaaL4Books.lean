/- CheckTune, the program's and the reference's. Contracts; conditions stand in each. -/
import Derived.Test.YtjcabpldgdafeaaL4Base
set_option linter.unusedSimpArgs false
set_option linter.unusedVariables false
namespace Go.Ev.YtjcabpldgdafeaaC
open Go Go.Proofs

attribute [local irreducible] Res.all evC evLoop evOps evOper evOp evFn evCall freeze G GO GV GP GC R
set_option maxRecDepth 100000

def frI (l : List (Int × Int)) (x : Int) : Int := (l.getD x.toNat (0, 0)).1
def toI (l : List (Int × Int)) (x : Int) : Int := (l.getD x.toNat (0, 0)).2
/-- each slur leads from where the one before it leads -/
def chainB (l : List (Int × Int)) : Int → List Int → Bool
  | _, [] => true
  | at', s :: r => decide (frI l s = at') && chainB l (toI l s) r
def endI (l : List (Int × Int)) : Int → List Int → Int
  | a, [] => a
  | _, s :: r => endI l (toI l s) r
def inB (l : List (Int × Int)) (t : List Int) : Bool := t.all fun x => decide (0 ≤ x) && decide (x < l.length)
def ckT (b : Bk) (t : List Int) : Int × Int × Int :=
  if chkB b ≠ 0 then (0, 0, chkB b)
  else if t.length ≠ b.slurs.length then (0, 0, 15)
  else if inB b.slurs t = false then (0, 0, 3)
  else if ¬ t.Nodup then (0, 0, 11)
  else if chainB b.slurs (frI b.slurs (t.getD 0 0)) t = false then (0, 0, 19)
  else (frI b.slurs (t.getD 0 0), endI b.slurs (frI b.slurs (t.getD 0 0)) t, 0)
def ckA (b : Bk) (t : List Int) : AV := .tuple [.int .i64 (ckT b t).1, .int .i64 (ckT b t).2.1, .int .i64 (ckT b t).2.2]

theorem inB_within (l : List (Int × Int)) (t : List Int) : withinB 0 ((l.length : Int) - 1) t = inB l t := by
  unfold withinB inB
  induction t with
  | nil => rfl
  | cons a r ih =>
    rw [List.any_cons, List.all_cons, ← ih, Bool.not_or]
    congr 1
    rw [Bool.eq_iff_iff]
    simp
    omega
theorem in_get {l : List (Int × Int)} {t : List Int} (h : inB l t = true) {i : Nat} {y : Int} (hy : t[i]? = some y) : 0 ≤ y ∧ y < l.length ∧ l[y.toNat]? = some (frI l y, toI l y) := by
  have h1 := List.all_eq_true.1 h y (List.mem_of_getElem? hy)
  simp only [Bool.and_eq_true, decide_eq_true_eq] at h1
  refine ⟨h1.1, h1.2, ?_⟩
  have : y.toNat < l.length := by omega
  simp only [frI, toI, List.getD_eq_getElem?_getD, List.getElem?_eq_getElem this, Option.getD_some]
theorem nodup_take_succ {t : List Int} {i : Nat} {y : Int} (hy : t[i]? = some y) : (t.take (i + 1)).Nodup ↔ (t.take i).Nodup ∧ y ∉ t.take i := by
  have hi : i < t.length := (List.getElem?_eq_some_iff.1 hy).1
  have hy' : t[i] = y := (List.getElem?_eq_some_iff.1 hy).2
  rw [List.take_succ_eq_append_getElem hi, List.nodup_append, hy']
  constructor
  · rintro ⟨h1, _, h3⟩
    exact ⟨h1, fun hm => h3 _ hm _ (List.mem_singleton.2 rfl) rfl⟩
  · rintro ⟨h1, h2⟩
    refine ⟨h1, by simp, fun a ha b hb => ?_⟩
    obtain rfl : b = y := by simpa using hb
    exact fun e => h2 (e ▸ ha)
theorem not_nodup_take {t : List Int} {i : Nat} (h : ¬ (t.take i).Nodup) : ¬ t.Nodup := fun hn => h (List.Nodup.sublist (List.take_sublist _ _) hn)

set_option maxHeartbeats 1000000 in
theorem con_CheckTune (b : Bk) (t : List Int) (hl : b.slurs.length ≤ 20) (ht : t.length ≤ 30) : Con T 10 17 [bkA b, ints t] (ckA b t) := by
  refine con_intro t17 fun n hn V hV => ?_
  replace hV : ∀ a c e h, ckT b t = (a, c, e) → V (.tuple [.int .i64 a, .int .i64 c, .int .i64 e], h) := fun a c e h e1 => hV _ _ (by rw [ckA, e1]; exact frz_three (frz_int _ _ _ _) (frz_int _ _ _ _) (frz_int _ _ _ _))
  by_cases g0 : chkB b = 0
  · have b0 : (chkB b != 0) = false := by simp [g0]
    by_cases g1 : t.length = b.slurs.length
    · have b1 : ((t.length : Int) != (b.slurs.length : Int)) = false := by simp [g1]
      by_cases g2 : inB b.slurs t = true
      · have hbs : 1 ≤ b.slurs.length := by
          unfold chkB at g0
          split at g0
          · omega
          · omega
        have hw := inB_within b.slurs t
        rw [g2] at hw
        simp (disch := first | assumption | omega) only [c17, go_sem, ↓reduceIte, cs_CheckBook, b0, b1, cs_within, hw, Bool.not_true, Bool.false_eq_true]
        refine m_loop (fun M st => ∃ i : Nat, M = t.length - i ∧ i ≤ t.length ∧ At st.env [(1, ints t), (2, .optr 2 0 0), (34, ints t), (35, .int .i64 t.length), (36, .int .i64 i)] ∧ getH st.heap 2 = .cells 0 [.int .i64 b.notes, prs b.slurs] ∧ (t.take i).Nodup) t.length (by omega)
          ⟨0, by omega, by omega, by simp only [go_sem, ↓reduceIte], by simp only [go_sem, ↓reduceIte], by simp⟩ ?_
        rintro M e h hM ⟨i, rfl, hi, hE, hH, hA⟩ P hP
        simp only [At_cons, At_nil] at hE hH hA
        obtain ⟨f1, f2, f34, f35, f36, -⟩ := hE
        by_cases hlt : i < t.length
        · obtain ⟨y, hy⟩ := get_ex hlt
          have hii : (0 : Int) ≤ i ∧ (i : Int) ≤ t.length := by omega
          have hl30 : (t.take i).length ≤ 1000 := by rw [List.length_take]; omega
          by_cases hin : y ∈ t.take i
          · have hc : (t.take i).contains y = true := by simpa using hin
            simp (disch := first | assumption | omega) only [go_sem, ↓reduceIte, f1, f2, f34, f35, f36, hH, hlt, hy, hii, Int.toNat_natCast, List.drop_zero, ← List.map_take, cs_has, hc]
            refine hV _ _ _ _ ?_
            have hnd : ¬ t.Nodup := not_nodup_take (i := i + 1) fun hn => ((nodup_take_succ hy).1 hn).2 hin
            rw [ckT, if_neg (by omega), if_neg (by omega), if_neg (by simp [g2]), if_pos hnd]
          · have hc : (t.take i).contains y = false := by simpa using hin
            simp (disch := first | assumption | omega) only [go_sem, ↓reduceIte, f1, f2, f34, f35, f36, hH, hlt, hy, hii, Int.toNat_natCast, List.drop_zero, ← List.map_take, cs_has, hc, Bool.false_eq_true]
            exact hP (t.length - (i + 1)) _ (by omega) ⟨i + 1, rfl, by omega, by simp only [go_sem, ↓reduceIte, f1, f2, f34, f35], hH, (nodup_take_succ hy).2 ⟨hA, hin⟩⟩
        · obtain rfl : i = t.length := by omega
          rw [List.take_length] at hA
          have htl : 0 < t.length := by omega
          obtain ⟨t0, ht0⟩ := get_ex htl
          obtain ⟨q1, q2, q3⟩ := in_get g2 ht0
          have hn0 : asNat (.int .i64 t0) = some t0.toNat := by simp [asNat, q1]
          have ht0' : t.getD 0 0 = t0 := by rw [List.getD_eq_getElem?_getD, ht0]; rfl
          simp (disch := first | assumption | omega) only [go_sem, ↓reduceIte, f1, f2, f34, f35, f36, hH, hlt, ht0, hn0, q3, pA]
          refine m_loop (fun M st => ∃ i : Nat, M = t.length - i ∧ i ≤ t.length ∧ ∃ a : Int, At st.env [(1, ints t), (2, .optr 2 0 0), (10, .int .i64 a), (55, ints t), (56, .int .i64 t.length), (57, .int .i64 i)] ∧ getH st.heap 2 = .cells 0 [.int .i64 b.notes, prs b.slurs] ∧
              chainB b.slurs (frI b.slurs t0) t = chainB b.slurs a (t.drop i) ∧ endI b.slurs (frI b.slurs t0) t = endI b.slurs a (t.drop i)) t.length (by omega)
            ⟨0, by omega, by omega, frI b.slurs t0, by simp only [go_sem, ↓reduceIte, f1, f2], hH, rfl, rfl⟩ ?_
          rintro M e2 h2 hM2 ⟨i, rfl, hi2, a, hE2, hH2, hB, hC⟩ P2 hP2
          simp only [At_cons, At_nil] at hE2 hH2 hB hC
          obtain ⟨f1, f2, f10, f55, f56, f57, -⟩ := hE2
          by_cases hlt2 : i < t.length
          · obtain ⟨y, hy⟩ := get_ex hlt2
            obtain ⟨r1, r2, r3⟩ := in_get g2 hy
            have hny : asNat (.int .i64 y) = some y.toNat := by simp [asNat, r1]
            rw [drop_cons hy, chainB] at hB
            rw [drop_cons hy, endI] at hC
            by_cases hfa : frI b.slurs y = a
            · have hb : (frI b.slurs y != a) = false := by simp [hfa]
              simp (disch := first | assumption | omega) only [go_sem, ↓reduceIte, f1, f2, f10, f55, f56, f57, hH2, hlt2, hy, hny, r3, pA, hb, Bool.false_eq_true]
              exact hP2 (t.length - (i + 1)) _ (by omega) ⟨i + 1, rfl, by omega, toI b.slurs y, by simp only [go_sem, ↓reduceIte, f1, f2, f55, f56], hH2, by rw [hB]; simp [hfa], hC⟩
            · have hb : (frI b.slurs y != a) = true := by simpa using hfa
              simp (disch := first | assumption | omega) only [go_sem, ↓reduceIte, f1, f2, f10, f55, f56, f57, hH2, hlt2, hy, hny, r3, pA, hb]
              refine hV _ _ _ _ ?_
              rw [ckT, if_neg (by omega), if_neg (by omega), if_neg (by simp [g2]), if_neg (fun h => h hA), ht0', if_pos (by rw [hB]; simp [hfa])]
          · rw [List.drop_eq_nil_of_le (by omega)] at hB hC
            simp (disch := first | assumption | omega) only [go_sem, ↓reduceIte, f1, f2, f10, f55, f56, f57, hH2, hlt2, ht0, hn0, q3, pA]
            refine hV _ _ _ _ ?_
            rw [ckT, if_neg (by omega), if_neg (by omega), if_neg (by simp [g2]), if_neg (fun h => h hA), ht0', if_neg (by rw [hB]; simp [chainB]), hC]
            rfl
      · have hw := inB_within b.slurs t
        have g2' : inB b.slurs t = false := by simpa using g2
        rw [g2'] at hw
        simp (disch := first | assumption | omega) only [c17, go_sem, ↓reduceIte, cs_CheckBook, b0, b1, cs_within, hw, Bool.not_false, Bool.false_eq_true]
        refine hV _ _ _ _ ?_
        rw [ckT, if_neg (by omega), if_neg (by omega), if_pos g2']
    · have b1 : ((t.length : Int) != (b.slurs.length : Int)) = true := by simp; omega
      simp (disch := first | assumption | omega) only [c17, go_sem, ↓reduceIte, cs_CheckBook, b0, b1, Bool.false_eq_true]
      refine hV _ _ _ _ ?_
      rw [ckT, if_neg (by omega), if_pos g1]
  · have b0 : (chkB b != 0) = true := by simp [g0]
    simp (disch := first | assumption | omega) only [c17, go_sem, ↓reduceIte, cs_CheckBook, b0]
    refine hV _ _ _ _ ?_
    rw [ckT, if_pos g0]

theorem inB_drop {l : List (Int × Int)} {t : List Int} {i : Nat} {y : Int} (hy : t[i]? = some y) : inB l (t.drop i) = ((decide (0 ≤ y) && decide (y < l.length)) && inB l (t.drop (i + 1))) := by
  rw [drop_cons hy]; rfl

set_option maxHeartbeats 1000000 in
theorem con_refTune (b : Bk) (t : List Int) (hl : b.slurs.length ≤ 20) (ht : t.length ≤ 30) : Con T 3 18 [bkA b, ints t] (ckA b t) := by
  refine con_intro t18 fun n hn V hV => ?_
  replace hV : ∀ a c e h, ckT b t = (a, c, e) → V (.tuple [.int .i64 a, .int .i64 c, .int .i64 e], h) := fun a c e h e1 => hV _ _ (by rw [ckA, e1]; exact frz_three (frz_int _ _ _ _) (frz_int _ _ _ _) (frz_int _ _ _ _))
  by_cases g0 : chkB b = 0
  · have b0 : (chkB b != 0) = false := by simp [g0]
    by_cases g1 : t.length = b.slurs.length
    · have b1 : ((t.length : Int) != (b.slurs.length : Int)) = false := by simp [g1]
      have hbs : 1 ≤ b.slurs.length := by
        unfold chkB at g0
        split at g0
        · omega
        · omega
      simp (disch := first | assumption | omega) only [c18, go_sem, ↓reduceIte, cs_refCheck, b0, b1, Bool.false_eq_true]
      refine m_loop (fun M st => ∃ i : Nat, M = t.length - i ∧ i ≤ t.length ∧ At st.env [(1, ints t), (2, .optr 2 0 0), (7, .int .i64 i)] ∧ getH st.heap 2 = .cells 0 [.int .i64 b.notes, prs b.slurs] ∧ inB b.slurs t = inB b.slurs (t.drop i)) t.length (by omega)
        ⟨0, by omega, by omega, by simp only [go_sem, ↓reduceIte], by simp only [go_sem, ↓reduceIte], rfl⟩ ?_
      rintro M e h hM ⟨i, rfl, hi, hE, hH, hA⟩ P hP
      simp only [At_cons, At_nil] at hE hH hA
      obtain ⟨f1, f2, f7, -⟩ := hE
      by_cases hlt : i < t.length
      · obtain ⟨y, hy⟩ := get_ex hlt
        rw [inB_drop hy] at hA
        by_cases c1 : y < 0
        · have d1 : decide (y < 0) = true := by simpa using c1
          have hin : inB b.slurs t = false := by rw [hA]; simp; omega
          simp (disch := first | assumption | omega) only [go_sem, ↓reduceIte, f1, f2, f7, hH, hlt, hy, d1]
          refine hV _ _ _ _ ?_
          rw [ckT, if_neg (by omega), if_neg (by omega), if_pos hin]
        · have d1 : decide (y < 0) = false := by simpa using c1
          by_cases c2 : y ≥ b.slurs.length
          · have d2 : decide (y ≥ (b.slurs.length : Int)) = true := by simpa using c2
            have hin : inB b.slurs t = false := by rw [hA]; simp; omega
            simp (disch := first | assumption | omega) only [go_sem, ↓reduceIte, f1, f2, f7, hH, hlt, hy, d1, d2, Bool.false_eq_true]
            refine hV _ _ _ _ ?_
            rw [ckT, if_neg (by omega), if_neg (by omega), if_pos hin]
          · have d2 : decide (y ≥ (b.slurs.length : Int)) = false := by simpa using c2
            simp (disch := first | assumption | omega) only [go_sem, ↓reduceIte, f1, f2, f7, hH, hlt, hy, d1, d2, Bool.false_eq_true]
            exact hP (t.length - (i + 1)) _ (by omega) ⟨i + 1, rfl, by omega, by simp only [go_sem, ↓reduceIte, f1, f2], hH, by rw [hA]; simp [show 0 ≤ y by omega, show y < b.slurs.length by omega]⟩
      · have g2 : inB b.slurs t = true := by rw [hA, List.drop_eq_nil_of_le (by omega)]; rfl
        simp (disch := first | assumption | omega) only [go_sem, ↓reduceIte, f1, f2, f7, hH, hlt]
        clear hP hA f7 hlt hM
        refine m_loop (fun M st => ∃ i : Nat, M = t.length - i ∧ i ≤ t.length ∧ At st.env [(1, ints t), (2, .optr 2 0 0), (8, .int .i64 i)] ∧ getH st.heap 2 = .cells 0 [.int .i64 b.notes, prs b.slurs] ∧ (t.take i).Nodup) t.length (by omega)
          ⟨0, by omega, by omega, by simp only [go_sem, ↓reduceIte, f1, f2], hH, by simp⟩ ?_
        rintro M e h hM ⟨i, rfl, hi, hE, hH, hA⟩ P hP
        simp only [At_cons, At_nil] at hE hH hA
        obtain ⟨f1, f2, f8, -⟩ := hE
        by_cases hlt : i < t.length
        · obtain ⟨y, hy⟩ := get_ex hlt
          simp (disch := first | assumption | omega) only [go_sem, ↓reduceIte, f1, f2, f8, hH, hlt]
          refine m_loop (fun M st => ∃ k : Nat, M = i - k ∧ k ≤ i ∧ At st.env [(1, ints t), (2, .optr 2 0 0), (8, .int .i64 i), (9, .int .i64 k)] ∧ getH st.heap 2 = .cells 0 [.int .i64 b.notes, prs b.slurs] ∧ y ∉ t.take k) i (by omega)
            ⟨0, by omega, by omega, by simp only [go_sem, ↓reduceIte, f1, f2, f8], hH, by simp⟩ ?_
          rintro M e2 h2 hM2 ⟨k, rfl, hk, hE2, hH2, hB⟩ P2 hP2
          simp only [At_cons, At_nil] at hE2 hH2 hB
          obtain ⟨f1, f2, f8, f9, -⟩ := hE2
          by_cases hlt2 : k < i
          · obtain ⟨z, hz⟩ := get_ex (show k < t.length by omega)
            by_cases hzy : z = y
            · have hb : (z == y) = true := by simpa using hzy
              simp (disch := first | assumption | omega) only [go_sem, ↓reduceIte, f1, f2, f8, f9, hH2, hlt2, hlt, hz, hy, hb]
              refine hV _ _ _ _ ?_
              have hnd : ¬ t.Nodup := not_nodup_take (i := i + 1) fun hn => ((nodup_take_succ hy).1 hn).2 (by
                rw [← hzy]
                exact List.mem_take_iff_getElem.2 ⟨k, by omega, (List.getElem?_eq_some_iff.1 hz).2⟩)
              rw [ckT, if_neg (by omega), if_neg (by omega), if_neg (by simp [g2]), if_pos hnd]
            · have hb : (z == y) = false := by simpa using hzy
              simp (disch := first | assumption | omega) only [go_sem, ↓reduceIte, f1, f2, f8, f9, hH2, hlt2, hlt, hz, hy, hb, Bool.false_eq_true]
              exact hP2 (i - (k + 1)) _ (by omega) ⟨k + 1, rfl, by omega, by simp only [go_sem, ↓reduceIte, f1, f2, f8], hH2, by
                rw [List.take_succ_eq_append_getElem (show k < t.length by omega), (List.getElem?_eq_some_iff.1 hz).2]
                simp only [List.mem_append, List.mem_singleton, not_or]
                exact ⟨hB, fun e => hzy e.symm⟩⟩
          · obtain rfl : k = i := by omega
            simp (disch := first | assumption | omega) only [go_sem, ↓reduceIte, f1, f2, f8, f9, hH2, hlt2]
            exact hP (t.length - (k + 1)) _ (by omega) ⟨k + 1, rfl, by omega, by simp only [go_sem, ↓reduceIte, f1, f2], hH2, (nodup_take_succ hy).2 ⟨hA, hB⟩⟩
        · obtain rfl : i = t.length := by omega
          rw [List.take_length] at hA
          have htl : 0 < t.length := by omega
          obtain ⟨t0, ht0⟩ := get_ex htl
          obtain ⟨q1, q2, q3⟩ := in_get g2 ht0
          have hn0 : asNat (.int .i64 t0) = some t0.toNat := by simp [asNat, q1]
          have ht0' : t.getD 0 0 = t0 := by rw [List.getD_eq_getElem?_getD, ht0]; rfl
          simp (disch := first | assumption | omega) only [go_sem, ↓reduceIte, f1, f2, f8, hH, hlt]
          clear hP f8 hlt hM
          refine m_loop (fun M st => ∃ i : Nat, M = t.length - i ∧ 1 ≤ i ∧ i ≤ t.length ∧ ∃ z : Int, t[i - 1]? = some z ∧ At st.env [(1, ints t), (2, .optr 2 0 0), (10, .int .i64 i)] ∧ getH st.heap 2 = .cells 0 [.int .i64 b.notes, prs b.slurs] ∧
              chainB b.slurs (frI b.slurs t0) t = chainB b.slurs (toI b.slurs z) (t.drop i) ∧ endI b.slurs (frI b.slurs t0) t = endI b.slurs (toI b.slurs z) (t.drop i)) (t.length - 1) (by omega)
            ⟨1, by omega, by omega, by omega, t0, ht0, by simp only [go_sem, ↓reduceIte, f1, f2], hH, by
              have := drop_cons ht0
              rw [List.drop_zero] at this
              constructor
              · conv => lhs; rw [this]
                simp [chainB]
              · conv => lhs; rw [this]
                rfl⟩ ?_
          rintro M e2 h2 hM2 ⟨i, rfl, hi1, hi2, z, hz, hE2, hH2, hB, hC⟩ P2 hP2
          simp only [At_cons, At_nil] at hE2 hH2 hB hC
          obtain ⟨f1, f2, f10, -⟩ := hE2
          obtain ⟨p1, p2, p3⟩ := in_get g2 hz
          have hnz : asNat (.int .i64 z) = some z.toNat := by simp [asNat, p1]
          by_cases hlt2 : i < t.length
          · obtain ⟨y, hy⟩ := get_ex hlt2
            obtain ⟨r1, r2, r3⟩ := in_get g2 hy
            have hny : asNat (.int .i64 y) = some y.toNat := by simp [asNat, r1]
            have hni : asNat (.int .i64 ((i : Int) - 1)) = some (i - 1) := by
              rw [show (i : Int) - 1 = ((i - 1 : Nat) : Int) by omega]
              exact asNat_nat _ _
            rw [drop_cons hy, chainB] at hB
            rw [drop_cons hy, endI] at hC
            by_cases hfa : frI b.slurs y = toI b.slurs z
            · have hb : (frI b.slurs y != toI b.slurs z) = false := by simp [hfa]
              simp (disch := first | assumption | omega) only [go_sem, ↓reduceIte, f1, f2, f10, hH2, hlt2, hy, hny, r3, hni, hz, hnz, p3, pA, hb, Bool.false_eq_true]
              exact hP2 (t.length - (i + 1)) _ (by omega) ⟨i + 1, rfl, by omega, by omega, y, by simpa using hy, by simp only [go_sem, ↓reduceIte, f1, f2], hH2, by rw [hB]; simp [hfa], hC⟩
            · have hb : (frI b.slurs y != toI b.slurs z) = true := by simpa using hfa
              simp (disch := first | assumption | omega) only [go_sem, ↓reduceIte, f1, f2, f10, hH2, hlt2, hy, hny, r3, hni, hz, hnz, p3, pA, hb]
              refine hV _ _ _ _ ?_
              rw [ckT, if_neg (by omega), if_neg (by omega), if_neg (by simp [g2]), if_neg (fun h => h hA), ht0', if_pos (by rw [hB]; simp [hfa])]
          · obtain rfl : i = t.length := by omega
            have hni : asNat (.int .i64 ((t.length : Int) - 1)) = some (t.length - 1) := by
              rw [show (t.length : Int) - 1 = ((t.length - 1 : Nat) : Int) by omega]
              exact asNat_nat _ _
            rw [List.drop_eq_nil_of_le (by omega)] at hB hC
            simp (disch := first | assumption | omega) only [go_sem, ↓reduceIte, f1, f2, f10, hH2, hlt2, ht0, hn0, q3, hni, hz, hnz, p3, pA]
            refine hV _ _ _ _ ?_
            rw [ckT, if_neg (by omega), if_neg (by omega), if_neg (by simp [g2]), if_neg (fun h => h hA), ht0', if_neg (by rw [hB]; simp [chainB]), hC]
            rfl
    · have b1 : ((t.length : Int) != (b.slurs.length : Int)) = true := by simp; omega
      simp (disch := first | assumption | omega) only [c18, go_sem, ↓reduceIte, cs_refCheck, b0, b1, Bool.false_eq_true]
      refine hV _ _ _ _ ?_
      rw [ckT, if_neg (by omega), if_pos g1]
  · have b0 : (chkB b != 0) = true := by simp [g0]
    simp (disch := first | assumption | omega) only [c18, go_sem, ↓reduceIte, cs_refCheck, b0]
    refine hV _ _ _ _ ?_
    rw [ckT, if_pos g0]

section
variable {n base : Nat} {Q : EX × St → Prop} {d : Option Nat} {L : List IOper} {ks : List Kont} {e : Env} {h : Heap} {b : Bk} {t : List Int} {x y : Bool}
theorem fz_bt (h : Heap) (b : Bk) (t : List Int) (x y : Bool) : fz h [.agg [.int .i64 b.notes, .slice (some 2) (b.slurs.map pA) x], .slice none (t.map (.int .i64)) y] = .ret [bkA b, ints t] :=
  fz_cons (frz_agg (mz_cons (frz_int _ _ _ _) (mz_cons (frz_slice _ _ _ _ _) (mz_nil _ _)))) (fz_slice _ _ _ _ (fz_nil _))
theorem cs_CheckTune (hn : 10 ≤ n) (hl : b.slurs.length ≤ 20) (ht : t.length ≤ 30) : GP (evCall T n) base Q d L ks e (evCall T n false (.fn 17) [.agg [.int .i64 b.notes, .slice (some 2) (b.slurs.map pA) x], .slice none (t.map (.int .i64)) y] h) = GO (evCall T n) base Q L ks ⟨setDst e d (ckA b t), h⟩ :=
  gp_eq (con_CheckTune b t hl ht) hn (fz_bt _ _ _ _ _) (by simp [ckA, plainB, depth])
theorem cs_refTune (hn : 3 ≤ n) (hl : b.slurs.length ≤ 20) (ht : t.length ≤ 30) : GP (evCall T n) base Q d L ks e (evCall T n false (.fn 18) [.agg [.int .i64 b.notes, .slice (some 2) (b.slurs.map pA) x], .slice none (t.map (.int .i64)) y] h) = GO (evCall T n) base Q L ks ⟨setDst e d (ckA b t), h⟩ :=
  gp_eq (con_refTune b t hl ht) hn (fz_bt _ _ _ _ _) (by simp [ckA, plainB, depth])
end

end Go.Ev.YtjcabpldgdafeaaC
