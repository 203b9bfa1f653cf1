/- The determinant of a table, as the program reckons it: step by step, each number out of four, while none grows too great. No condition. -/
import Derived.Test.YtjcabpldgdafeaaEvKer2
import Derived.Test.YtjcabpldgdafeaaEvRem
import Derived.Test.YtjcabpldgdafeaaL4Code
set_option linter.unusedSimpArgs false
set_option linter.unusedVariables false
namespace Go.Ev.YtjcabpldgdafeaaC
open Go Go.Proofs

attribute [local irreducible] Res.all evC evLoop evOps evOper evOp evFn evCall freeze G GO GV GP GC R
set_option maxRecDepth 100000

/-- a table of m rows of m numbers lies in memory -/
structure TabAt (h : Heap) (kt m : Nat) (kk : Nat → Nat) (F : Nat → Nat → Int) : Prop where
  tab : getH h kt = .cells 0 ((List.range m).map fun a => .oslice (kk a) 0 none 0 m (some m))
  row : ∀ a, a < m → getH h (kk a) = .cells 0 ((List.range m).map fun b => .int .i64 (F a b))
  inj : ∀ a b, a < m → b < m → kk a = kk b → a = b
  ne : ∀ a, a < m → kk a ≠ kt

theorem range_get {α : Type} (m i : Nat) (f : Nat → α) (hi : i < m) : ((List.range m).map f)[i]? = some (f i) := by
  rw [List.getElem?_map, List.getElem?_range hi]; rfl
theorem rd_range (m i : Nat) (f : Nat → AV) (hi : i < m) : rd none ((List.range m).map f) i = .ret (f i) := by
  simp only [rd, range_get m i f hi]; rfl
theorem set_range {α : Type} (m i : Nat) (f : Nat → α) (v : α) : ((List.range m).map f).set i v = (List.range m).map fun b => if b = i then v else f b := by
  apply List.ext_getElem?
  intro j
  rw [List.getElem?_set]
  by_cases hj : j < m
  · rw [range_get m j _ hj, range_get m j _ hj]
    by_cases hij : i = j
    · subst hij; simp [hj]
    · rw [if_neg hij, if_neg (fun h => hij h.symm)]
  · rw [List.getElem?_eq_none (by simp; omega), List.getElem?_eq_none (by simp; omega)]
    split
    · next h => rw [if_neg (by simp; omega)]
    · rfl
theorem TabAt.upd {h : Heap} {kt m : Nat} {kk : Nat → Nat} {F : Nat → Nat → Int} (ht : TabAt h kt m kk F) {i j : Nat} (hi : i < m) (v : Int) :
    TabAt (setH h (kk i) (.cells 0 (((List.range m).map fun b => AV.int .i64 (F i b)).set j (.int .i64 v)))) kt m kk (fun a b => if a = i ∧ b = j then v else F a b) where
  tab := by rw [getH_setH_ne _ _ _ _ (ht.ne i hi)]; exact ht.tab
  row := fun a ha => by
    by_cases hai : a = i
    · subst hai
      rw [getH_setH_self, set_range]
      congr 1
      apply List.map_congr_left
      intro b hb
      simp only [true_and]
      split <;> rfl
    · rw [getH_setH_ne _ _ _ _ (fun h => hai (ht.inj _ _ hi ha h).symm), ht.row a ha]
      congr 1
      apply List.map_congr_left
      intro b hb
      rw [if_neg (fun h => hai h.1)]
  inj := ht.inj
  ne := ht.ne
theorem TabAt.congr {h : Heap} {kt m : Nat} {kk : Nat → Nat} {F G : Nat → Nat → Int} (ht : TabAt h kt m kk F) (hg : ∀ a b, a < m → b < m → F a b = G a b) : TabAt h kt m kk G where
  tab := ht.tab
  row := fun a ha => by
    rw [ht.row a ha]
    congr 1
    apply List.map_congr_left
    intro b hb
    rw [hg a b ha (by simpa using hb)]
  inj := ht.inj
  ne := ht.ne
theorem TabAt.ldt {h : Heap} {kt m : Nat} {kk : Nat → Nat} {F : Nat → Nat → Int} (ht : TabAt h kt m kk F) {a : Nat} (ha : a < m) : ldA none h (.optr kt 0 a) = .ret (.oslice (kk a) 0 none 0 m (some m)) := by
  simp only [ldA, ht.tab, if_true, rd_range m a _ ha]
theorem TabAt.ldr {h : Heap} {kt m : Nat} {kk : Nat → Nat} {F : Nat → Nat → Int} (ht : TabAt h kt m kk F) {a b : Nat} (ha : a < m) (hb : b < m) : ldA none h (.optr (kk a) 0 b) = .ret (.int .i64 (F a b)) := by
  simp only [ldA, ht.row a ha, if_true, rd_range m b _ hb]
theorem b_quoT {a b : Int} (hb : b ≠ 0) (h1 : -9223372036854775808 ≤ a.tdiv b) (h2 : a.tdiv b ≤ 9223372036854775807) : binA .quo (.int .i64 a) (.int .i64 b) = .ret (.int .i64 (a.tdiv b)) := by
  simp only [binA, binI, if_true]
  rw [if_neg hb, wrap64 h1 h2]

/-- how far a place is -/
def stg (k i j a b : Nat) : Nat := if k < a ∧ k < b ∧ (a < i ∨ (a = i ∧ b < j)) then k + 1 else min k (min a b)

theorem stg_init (k a b : Nat) : stg k (k + 1) 0 a b = min k (min a b) := by unfold stg; split <;> omega
theorem stg_a {k i : Nat} (a b : Nat) (h : k < i) : stg k i (k + 1) a b = stg k i 0 a b := by unfold stg; split <;> split <;> omega
theorem stg_b {k i m b : Nat} (a : Nat) (h : b < m) : stg k i m a b = stg k (i + 1) 0 a b := by unfold stg; split <;> split <;> omega
theorem stg_c {k m a : Nat} (b : Nat) (h : a < m) : stg k m 0 a b = min (k + 1) (min a b) := by unfold stg; split <;> omega
theorem stg_at (k i j : Nat) : stg k i j i j = min k (min i j) := by unfold stg; split <;> omega
theorem stg_up {k i j : Nat} (a b : Nat) (h : ¬ (a = i ∧ b = j)) : stg k i j a b = stg k i (j + 1) a b := by unfold stg; split <;> split <;> omega
theorem stg_do {k i j : Nat} (h1 : k < i) (h2 : k < j) : stg k i (j + 1) i j = k + 1 := by unfold stg; split <;> omega
/-- the numbers of all steps -/
structure Bar (m : Nat) (X : Nat → Nat → Nat → Int) (L : Nat → Int) : Prop where
  l0 : L 0 = 1
  ls : ∀ k, k < m → L (k + 1) = X k k k
  nz : ∀ k, k < m → L k ≠ 0
  st : ∀ k i j, k < i → i < m → k < j → j < m → X (k + 1) i j = (X k i j * X k k k - X k i k * X k k j).tdiv (L k)
  lo : ∀ k i j, -1073741824 ≤ X k i j
  hi : ∀ k i j, X k i j ≤ 1073741824

theorem mul_box {a b : Int} (h1 : -1073741824 ≤ a) (h2 : a ≤ 1073741824) (h3 : -1073741824 ≤ b) (h4 : b ≤ 1073741824) : -1152921504606846976 ≤ a * b ∧ a * b ≤ 1152921504606846976 := by
  have h5 : a.natAbs ≤ 1073741824 := by omega
  have h6 : b.natAbs ≤ 1073741824 := by omega
  have h7 := Nat.mul_le_mul h5 h6
  rw [← Int.natAbs_mul] at h7
  omega

theorem TabAt.pad {h : Heap} {kt m : Nat} {kk : Nat → Nat} {F : Nat → Nat → Int} (ht : TabAt h kt m kk F) (n : Nat) : TabAt (h ++ List.replicate n .none) kt m kk F where
  tab := by rw [getH_append_none]; exact ht.tab
  row := fun a ha => by rw [getH_append_none]; exact ht.row a ha
  inj := ht.inj
  ne := ht.ne
theorem tdiv_box {a b : Int} (h1 : -4611686018427387904 ≤ a) (h2 : a ≤ 4611686018427387904) : -9223372036854775808 ≤ a.tdiv b ∧ a.tdiv b ≤ 9223372036854775807 := by
  have h3 : (a.tdiv b).natAbs ≤ a.natAbs := by rw [Int.natAbs_tdiv]; exact Nat.div_le_self _ _
  omega

set_option maxHeartbeats 4000000 in
theorem det_raw {m : Nat} {X : Nat → Nat → Nat → Int} {L : Nat → Int} (hX : Bar m X L) (hm : m ≤ 64) {kt : Nat} {kk : Nat → Nat} {h0 : Heap} (ht0 : TabAt h0 kt m kk (X 0)) (n : Nat) {V : AV × Heap → Prop} (hV : ∀ h', V (.int .i64 (L m), h')) :
    (evCall T (n + 1) true (.fn 87) [.oslice kt 0 none 0 m (some m)] h0).all V := by
  rw [raw_enter t87]
  simp (disch := first | assumption | omega) only [c87, go_sem, ↓reduceIte]
  refine m_loop (fun M st => ∃ k, M = m - k ∧ k ≤ m ∧ At st.env [(0, .oslice kt 0 none 0 m (some m)), (3, .int .i64 (L k)), (8, .int .i64 m), (9, .int .i64 k)] ∧ TabAt st.heap kt m kk (fun a b => X (min k (min a b)) a b)) m (by omega)
    ⟨0, rfl, by omega, by simp only [go_sem, ↓reduceIte, hX.l0], (ht0.pad 76).congr fun a b _ _ => by rw [Nat.zero_min]⟩ ?_
  rintro M e h hM ⟨k, rfl, hk, hE, hT⟩ P hP
  simp only [At_cons, At_nil] at hE hT
  obtain ⟨f0, f3, f8, f9, -⟩ := hE
  by_cases hlt : k < m
  · simp (disch := first | assumption | omega) only [go_sem, ↓reduceIte, f0, f3, f8, f9, hlt]
    refine m_loop (fun M st => ∃ i, M = m - i ∧ k < i ∧ i ≤ m ∧ At st.env [(0, .oslice kt 0 none 0 m (some m)), (3, .int .i64 (L k)), (4, .int .i64 k), (5, .int .i64 i), (8, .int .i64 m), (9, .int .i64 k)] ∧ TabAt st.heap kt m kk (fun a b => X (stg k i 0 a b) a b)) (m - (k + 1)) (by omega)
      ⟨k + 1, rfl, by omega, by omega, by simp only [go_sem, ↓reduceIte, f0, f3, f8, f9], hT.congr fun a b _ _ => by rw [stg_init]⟩ ?_
    rintro M e2 h2 hM2 ⟨i, rfl, hki, hi, hE2, hT2⟩ P2 hP2
    simp only [At_cons, At_nil] at hE2 hT2
    obtain ⟨g0, g3, g4, g5, g8, g9, -⟩ := hE2
    by_cases hlt2 : i < m
    · simp (disch := first | assumption | omega) only [go_sem, ↓reduceIte, g0, g3, g4, g5, g8, g9, hlt2]
      refine m_loop (fun M st => ∃ j, M = m - j ∧ k < j ∧ j ≤ m ∧ At st.env [(0, .oslice kt 0 none 0 m (some m)), (3, .int .i64 (L k)), (4, .int .i64 k), (5, .int .i64 i), (6, .int .i64 j), (8, .int .i64 m), (9, .int .i64 k)] ∧ TabAt st.heap kt m kk (fun a b => X (stg k i j a b) a b)) (m - (k + 1)) (by omega)
        ⟨k + 1, rfl, by omega, by omega, by simp only [go_sem, ↓reduceIte, g0, g3, g4, g5, g8, g9], hT2.congr fun a b _ _ => by rw [stg_a a b hki]⟩ ?_
      rintro M e3 h3 hM3 ⟨j, rfl, hkj, hj, hE3, hT3⟩ P3 hP3
      simp only [At_cons, At_nil] at hE3 hT3
      obtain ⟨q0, q3, q4, q5, q6, q8, q9, -⟩ := hE3
      by_cases hlt3 : j < m
      · have e1 := hT3.ldt hlt2
        have e2 := hT3.ldt hlt
        have d1 := hT3.ldr hlt2 hlt3
        have d2 := hT3.ldr hlt hlt
        have d3 := hT3.ldr hlt2 hlt
        have d4 := hT3.ldr hlt hlt3
        have s1 : stg k i j i j = k := by unfold stg; split <;> omega
        have s2 : stg k i j k k = k := by unfold stg; split <;> omega
        have s3 : stg k i j i k = k := by unfold stg; split <;> omega
        have s4 : stg k i j k j = k := by unfold stg; split <;> omega
        rw [s1] at d1; rw [s2] at d2; rw [s3] at d3; rw [s4] at d4
        have r1 := hT3.row i hlt2
        have m1 := mul_box (hX.lo k i j) (hX.hi k i j) (hX.lo k k k) (hX.hi k k k)
        have m2 := mul_box (hX.lo k i k) (hX.hi k i k) (hX.lo k k j) (hX.hi k k j)
        have hst := hX.st k i j hki hlt2 hkj hlt3
        generalize hp1 : X k i j * X k k k = p1 at *
        generalize hp2 : X k i k * X k k j = p2 at *
        have hq : binA .quo (.int .i64 (p1 - p2)) (.int .i64 (L k)) = .ret (.int .i64 (X (k + 1) i j)) := by
          rw [hst]
          exact b_quoT (hX.nz k hlt) (tdiv_box (by omega) (by omega)).1 (tdiv_box (by omega) (by omega)).2
        simp (disch := first | assumption | omega) only [go_sem, ↓reduceIte, q0, q3, q4, q5, q6, q8, q9, hlt, hlt2, hlt3, e1, e2, d1, d2, d3, d4, hp1, hp2, hq, r1, List.length_map, List.length_range]
        refine ⟨by omega, ?_⟩
        refine hP3 (m - (j + 1)) _ (by omega) ⟨j + 1, rfl, by omega, by omega, by simp only [go_sem, ↓reduceIte, q0, q3, q4, q5, q6, q8, q9], ?_⟩
        exact (hT3.upd hlt2 (X (k + 1) i j) (j := j)).congr fun a b ha hb => by
          by_cases hab : a = i ∧ b = j
          · obtain ⟨rfl, rfl⟩ := hab
            rw [if_pos ⟨rfl, rfl⟩, stg_do hki hkj]
          · rw [if_neg hab, stg_up a b hab]
      · obtain rfl : j = m := by omega
        simp (disch := first | assumption | omega) only [go_sem, ↓reduceIte, q0, q3, q4, q5, q6, q8, q9, hlt3]
        exact hP2 (j - (i + 1)) _ (by omega) ⟨i + 1, rfl, by omega, by omega, by simp only [go_sem, ↓reduceIte, q0, q3, q4, q5, q8, q9], hT3.congr fun a b ha hb => by rw [stg_b a hb]⟩
    · obtain rfl : i = m := by omega
      have e1 := hT2.ldt hlt
      have d1 := hT2.ldr hlt hlt
      have s1 : stg k i 0 k k = k := by unfold stg; split <;> omega
      rw [s1] at d1
      simp (disch := first | assumption | omega) only [go_sem, ↓reduceIte, g0, g3, g4, g5, g8, g9, hlt2, hlt, e1, d1]
      exact hP (i - (k + 1)) _ (by omega) ⟨k + 1, rfl, by omega, by simp only [go_sem, ↓reduceIte, g0, g3, g8, g9, hX.ls k hlt], hT2.congr fun a b ha hb => by rw [stg_c b ha]⟩
  · obtain rfl : k = m := by omega
    simp (disch := first | assumption | omega) only [go_sem, ↓reduceIte, f0, f3, f8, f9, hlt]
    exact hV _

end Go.Ev.YtjcabpldgdafeaaC
