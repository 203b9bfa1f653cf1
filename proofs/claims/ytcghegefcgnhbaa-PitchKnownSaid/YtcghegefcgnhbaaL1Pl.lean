/- The places of a chain, by a map and a sort. -/
import Derived.Test.YtcghegefcgnhbaaL1Chain
set_option linter.unusedSimpArgs false
set_option linter.unusedVariables false
namespace Go.Ev.YtcghegefcgnhbaaC
open Go Go.Proofs

attribute [local irreducible] Res.all evC evLoop evOps evOper evOp evFn evCall freeze G GO GV GP GC R
set_option maxRecDepth 100000

/-! ### a map with keys of one int64, whatever the values -/
theorem zip3 : ∀ (a : List Int) (b : List AV) (c : List Nat), b.length = a.length → c.length = a.length → ∃ E : List (Int × AV × Nat), E.map (·.1) = a ∧ E.map (·.2.1) = b ∧ E.map (·.2.2) = c
  | [], [], [], _, _ => ⟨[], rfl, rfl, rfl⟩
  | x :: a, y :: b, z :: c, h1, h2 => by
    obtain ⟨E, e1, e2, e3⟩ := zip3 a b c (by simpa using h1) (by simpa using h2)
    exact ⟨(x, y, z) :: E, by simp [e1], by simp [e2], by simp [e3]⟩
  | [], _ :: _, _, h1, _ => by simp at h1
  | [], [], _ :: _, _, h2 => by simp at h2
  | _ :: _, [], _, h1, _ => by simp at h1
  | _ :: _, _ :: _, [], _, h2 => by simp at h2
theorem zip_mE : ∀ E : List (Int × AV × Nat), (kz (E.map (·.1))).zip ((E.map (·.2.1)).zip (E.map (·.2.2))) = E.map fun t => (AV.agg [.int .i64 t.1], t.2.1, t.2.2)
  | [] => rfl
  | t :: r => by
    have := zip_mE r
    simp only [kz, List.map_cons, List.zip_cons_cons] at this ⊢
    rw [this]
theorem left_mE (E : List (Int × AV × Nat)) (seen : List Nat) : leftOf (kz (E.map (·.1))) (E.map (·.2.1)) (E.map (·.2.2)) seen = (E.filter fun t => !seen.contains t.2.2).map fun t => (AV.agg [.int .i64 t.1], t.2.1, t.2.2) := by
  rw [leftOf, zip_mE, List.filter_map]
  rfl
theorem born_inj {E : List (Int × AV × Nat)} (hn : (E.map (·.2.2)).Nodup) {u t : Int × AV × Nat} (hu : u ∈ E) (ht : t ∈ E) (h : u.2.2 = t.2.2) : u = t := by
  induction E with
  | nil => cases hu
  | cons a r ih =>
    rw [List.map_cons, List.nodup_cons] at hn
    rcases List.mem_cons.1 hu with hu' | hu' <;> rcases List.mem_cons.1 ht with ht' | ht'
    · rw [hu', ht']
    · exact absurd (List.mem_map.2 ⟨t, ht', by rw [← hu']; exact h.symm⟩) hn.1
    · exact absurd (List.mem_map.2 ⟨u, hu', by rw [← ht']; exact h⟩) hn.1
    · exact ih hn.2 hu' ht'
theorem key_inj {E : List (Int × AV × Nat)} (hn : (E.map (·.1)).Nodup) {u t : Int × AV × Nat} (hu : u ∈ E) (ht : t ∈ E) (h : u.1 = t.1) : u = t := by
  induction E with
  | nil => cases hu
  | cons a r ih =>
    rw [List.map_cons, List.nodup_cons] at hn
    rcases List.mem_cons.1 hu with hu' | hu' <;> rcases List.mem_cons.1 ht with ht' | ht'
    · rw [hu', ht']
    · exact absurd (List.mem_map.2 ⟨t, ht', by rw [← hu']; exact h.symm⟩) hn.1
    · exact absurd (List.mem_map.2 ⟨u, hu', by rw [← ht']; exact h⟩) hn.1
    · exact ih hn.2 hu' ht'
theorem find_mE (E : List (Int × AV × Nat)) (t : Int × AV × Nat) (hn : (E.map (·.2.2)).Nodup) (ht : t ∈ E) : ((kz (E.map (·.1))).zip ((E.map (·.2.1)).zip (E.map (·.2.2)))).find? (fun u => u.2.2 == t.2.2) = some (AV.agg [.int .i64 t.1], t.2.1, t.2.2) := by
  rw [zip_mE]
  induction E with
  | nil => cases ht
  | cons a r ih =>
    rw [List.map_cons, List.find?_cons]
    rw [List.map_cons, List.nodup_cons] at hn
    rcases List.mem_cons.1 ht with rfl | ht
    · simp
    · have hne : (a.2.2 == t.2.2) = false := by
        have : a.2.2 ≠ t.2.2 := fun h => hn.1 (h ▸ List.mem_map_of_mem (f := fun t : Int × AV × Nat => t.2.2) ht)
        simpa using this
      simp only [hne]
      exact ih hn.2 ht
theorem gp_nextM {n base : Nat} {Q : EX × St → Prop} {d : Option Nat} {L : List IOper} {kk : List Kont} {e : Env} {h : Heap} {key ver mk mv clock : Nat} {E : List (Int × AV × Nat)} {seen : List Nat}
    (hi : getH h key = .iter ver mk mv clock seen clock) (hm : getH h mk = .map mv clock (kz (E.map (·.1))) (E.map (·.2.1)) (E.map (·.2.2))) (hb : ∀ t ∈ E, t.2.2 < clock)
    (hE : (∀ t ∈ E, t.2.2 ∈ seen) → GO (evCall T n) base Q L kk ⟨setDst e d (.tuple [.bool false]), h⟩)
    (hN : ∀ t ∈ E, t.2.2 ∉ seen → GO (evCall T n) base Q L kk ⟨setDst e d (.tuple [.bool true, .agg [.int .i64 t.1], t.2.1]), setH h key (.iter ver mk mv clock (seen ++ [t.2.2]) clock)⟩) :
    GP (evCall T n) base Q d L kk e (nxA h (.iter key ver)) := by
  refine gp_next hi hm ?_ (Nat.le_refl _) ?_ ?_
  · intro b hb'
    obtain ⟨t, ht, rfl⟩ := List.mem_map.1 hb'
    exact hb t ht
  · intro hl
    rw [left_mE] at hl
    refine hE fun t ht => ?_
    have := List.map_eq_nil_iff.1 hl
    rw [List.filter_eq_nil_iff] at this
    simpa using this t ht
  · intro k v b hmem
    rw [left_mE] at hmem
    obtain ⟨t, ht, he⟩ := List.mem_map.1 hmem
    obtain ⟨h1, h2⟩ := List.mem_filter.1 ht
    cases he
    exact hN t h1 (by simpa using h2)
theorem enA_mE {h : Heap} {key ver mk mv clock since : Nat} {E : List (Int × AV × Nat)} {seen : List Nat} {t : Int × AV × Nat}
    (hi : getH h key = .iter ver mk mv since (seen ++ [t.2.2]) clock) (hm : getH h mk = .map mv clock (kz (E.map (·.1))) (E.map (·.2.1)) (E.map (·.2.2))) (hn : (E.map (·.2.2)).Nodup) (ht : t ∈ E) :
    enA h (.iter key ver) = .ret (.tuple [.agg [.int .i64 t.1], t.2.1]) := by
  simp only [enA, hi, hm, List.getLast?_append, List.getLast?_singleton, Option.some_or]
  rw [if_pos ⟨trivial, trivial, trivial⟩, find_mE E t hn ht]
theorem filter_lt {α : Type} (p q : α → Bool) (hqp : ∀ t, q t = true → p t = true) (t0 : α) (hp : p t0 = true) (hq : q t0 = false) : ∀ l : List α, t0 ∈ l → (l.filter q).length < (l.filter p).length
  | [], h => by cases h
  | a :: r, h => by
    have hle : ∀ l : List α, (l.filter q).length ≤ (l.filter p).length := fun l => by
      induction l with
      | nil => simp
      | cons b r ih =>
        rw [List.filter_cons, List.filter_cons]
        by_cases hb : q b = true
        · rw [if_pos hb, if_pos (hqp b hb)]; simpa using ih
        · rw [if_neg hb]
          split
          · simp only [List.length_cons]; omega
          · exact ih
    rw [List.filter_cons, List.filter_cons]
    rcases List.mem_cons.1 h with rfl | h
    · rw [if_pos hp, if_neg (by rw [hq]; simp)]
      have := hle r
      simp only [List.length_cons]; omega
    · have ih := filter_lt p q hqp t0 hp hq r h
      by_cases hb : q a = true
      · rw [if_pos hb, if_pos (hqp a hb)]; simpa using ih
      · rw [if_neg hb]
        split
        · simp only [List.length_cons]; omega
        · exact ih

/-- the map when i notes have been looked at -/
structure InP (N s i : Nat) (ks : List Int) (vs : List AV) (bs : List Nat) (clock : Nat) : Prop where
  nd : ks.Nodup
  mem : ∀ p : Int, p ∈ ks ↔ ∃ j, j < i ∧ ((j * s % N : Nat) : Int) = p
  lv : vs.length = ks.length
  lb : bs.length = ks.length
  bn : bs.Nodup
  bc : ∀ b ∈ bs, b < clock
  hd : 0 < i → ∃ r, ks = 0 :: r
  len : ks.length ≤ i
theorem InP.old {N s i : Nat} {ks : List Int} {vs : List AV} {bs : List Nat} {clock : Nat} (h : InP N s i ks vs bs clock) (hx : ((i * s % N : Nat) : Int) ∈ ks) (k : Nat) (v : AV) : InP N s (i + 1) ks (vs.set k v) bs clock where
  nd := h.nd
  mem := fun p => by
    rw [h.mem]
    constructor
    · rintro ⟨j, h1, h2⟩; exact ⟨j, by omega, h2⟩
    · rintro ⟨j, h1, h2⟩
      by_cases hj : j < i
      · exact ⟨j, hj, h2⟩
      · obtain rfl : j = i := by omega
        rw [h2, h.mem] at hx
        exact hx
  lv := by rw [List.length_set, h.lv]
  lb := h.lb
  bn := h.bn
  bc := h.bc
  hd := fun _ => by
    by_cases hi : 0 < i
    · exact h.hd hi
    · obtain ⟨j, h1, _⟩ := (h.mem _).1 hx
      omega
  len := by have := h.len; omega
theorem InP.new {N s i : Nat} {ks : List Int} {vs : List AV} {bs : List Nat} {clock : Nat} (h : InP N s i ks vs bs clock) (hx : ((i * s % N : Nat) : Int) ∉ ks) (v : AV) : InP N s (i + 1) (ks ++ [((i * s % N : Nat) : Int)]) (vs ++ [v]) (bs ++ [clock]) (clock + 1) where
  nd := by
    rw [List.nodup_append]
    refine ⟨h.nd, by simp, fun a ha b hb => ?_⟩
    have hb' : b = ((i * s % N : Nat) : Int) := List.mem_singleton.1 hb
    exact fun e => hx (by rw [← hb', ← e]; exact ha)
  mem := fun p => by
    rw [List.mem_append, h.mem]
    constructor
    · rintro (⟨j, h1, h2⟩ | hp)
      · exact ⟨j, by omega, h2⟩
      · exact ⟨i, by omega, (List.mem_singleton.1 hp).symm⟩
    · rintro ⟨j, h1, h2⟩
      by_cases hj : j < i
      · exact .inl ⟨j, hj, h2⟩
      · obtain rfl : j = i := by omega
        exact .inr (by simp [h2])
  lv := by simp [h.lv]
  lb := by simp [h.lb]
  bn := by
    rw [List.nodup_append]
    refine ⟨h.bn, by simp, fun a ha b hb => ?_⟩
    obtain rfl : b = clock := by simpa using hb
    have := h.bc a ha
    omega
  bc := fun b hb => by
    rcases List.mem_append.1 hb with hb | hb
    · have := h.bc b hb; omega
    · obtain rfl : b = clock := by simpa using hb
      omega
  hd := fun _ => by
    by_cases hi : 0 < i
    · obtain ⟨r, rfl⟩ := h.hd hi
      exact ⟨_, rfl⟩
    · obtain rfl : i = 0 := by omega
      have : ks = [] := by
        cases ks with
        | nil => rfl
        | cons a r =>
          obtain ⟨j, h1, _⟩ := (h.mem a).1 (by simp)
          omega
      subst this
      exact ⟨[], by simp⟩
  len := by have := h.len; simp; omega
theorem natI_sorted {l : List Nat} (h : l.Pairwise (· < ·)) : (natI l).Pairwise (· ≤ ·) ∧ (natI l).Nodup := by
  constructor
  · rw [natI, List.pairwise_map]; exact h.imp (by omega)
  · rw [natI, List.Nodup, List.pairwise_map]; exact h.imp (by omega)
theorem mem_natI {l : List Nat} {p : Int} : p ∈ natI l ↔ ∃ q ∈ l, (q : Int) = p := by simp [natI]
theorem isort_plc {N s n : Nat} (hN : 0 < N) {l : List Int} (hn : l.Nodup) (hm : ∀ p : Int, p ∈ l ↔ ∃ j, j < n ∧ ((j * s % N : Nat) : Int) = p) : isort l = natI (plc N s n) := by
  obtain ⟨h1, h2⟩ := natI_sorted (plc_sorted N s n)
  refine sorted_uniq (isort_sorted l) h1 ((isort_perm l).trans ?_)
  rw [List.perm_ext_iff_of_nodup hn h2]
  intro p
  rw [hm, mem_natI]
  constructor
  · rintro ⟨j, h3, h4⟩; exact ⟨j * s % N, (mem_plc hN).2 ⟨j, h3, rfl⟩, h4⟩
  · rintro ⟨q, h3, h4⟩
    obtain ⟨i, h5, h6⟩ := (mem_plc hN).1 h3
    exact ⟨i, h5, by rw [← h4, ← h6]; rfl⟩

theorem kz_set (ks : List Int) (x : Int) (hx : x ∈ ks) : (kz ks).set (ks.idxOf x) (.agg [.int .i64 x]) = kz ks := by
  apply List.ext_getElem?
  intro i
  rw [List.getElem?_set]
  split
  · next h =>
    subst h
    have hlt : ks.idxOf x < ks.length := List.idxOf_lt_length_iff.2 hx
    rw [if_pos (by simpa [kz] using hlt)]
    simp [kz, List.getElem?_map, List.getElem?_eq_getElem hlt]
  · rfl

theorem frz_OwnC {lo : Nat} {h : Heap} {v x : AV} {k : IntKind} {l : List Int} {n : Nat} (hx : Own lo h x k l) (hv : v = x ∨ v = capped x) : freeze h (n + 2) v = .ret (.slice none (l.map (.int k)) false) := by
  rcases hv with rfl | rfl
  · exact frz_Own hx
  · rcases hx with ⟨rfl, rfl⟩ | ⟨key, ver, _, rfl, hH⟩
    · exact frz_Own (lo := 0) (own_nil ..)
    · exact frz_own hH rfl
theorem Own.low {lo lo' : Nat} {h : Heap} {v : AV} {k : IntKind} {l : List Int} (hx : Own lo h v k l) (hl : lo' ≤ lo) : Own lo' h v k l := by
  rcases hx with h1 | ⟨key, ver, h1, h2, h3⟩
  · exact .inl h1
  · exact .inr ⟨key, ver, by omega, h2, h3⟩
theorem gp_sortC {T : Cfg} {f n : Nat} {base : Nat} {Q : EX × St → Prop} {d : Option Nat} {L : List IOper} {ks : List Kont} {e : Env} {h : Heap} {lo : Nat} {v x : AV} {l : List Int} (hf : T.fns f = some sortFn) (hx : Own lo h x .i64 l) (hv : v = x ∨ v = capped x) (hl : 0 < l.length) (hl2 : l.length < 1099511627776)
    (H : ∀ h', Own lo h' x .i64 (isort l) → GO (evCall T (n + 1)) base Q L ks ⟨setDst e d (.tuple []), h'⟩) :
    GP (evCall T (n + 1)) base Q d L ks e (evCall T (n + 1) true (.fn f) [v] h) := by
  rcases hx with ⟨rfl, rfl⟩ | ⟨key, ver, hk, rfl, hH⟩
  · simp at hl
  · obtain ⟨cap, rfl⟩ : ∃ cap, v = .oslice key ver none 0 l.length cap := by
      rcases hv with rfl | rfl
      · exact ⟨_, rfl⟩
      · exact ⟨_, rfl⟩
    have hlen : (isort l).length = l.length := length_isort l
    have e0 : evCall T (n + 1) true (.fn f) [.oslice key ver none 0 l.length cap] h = .ret (.tuple [], setH (h ++ [.none]) key (.cells ver ((isort l).map (.int .i64)))) := by
      have e1 : getH (h ++ [AObj.none]) key = .cells ver (l.map (.int .i64)) := by rw [getH_pad]; exact hH
      have e2 : ((l.map (AV.int .i64)).drop 0).take l.length = l.map (.int .i64) := by rw [List.drop_zero, List.take_of_length_le (by simp)]
      have e3 : ∀ l : List Int, intsOf (l.map (.int .i64)) = some l := fun l => by
        induction l with
        | nil => rfl
        | cons a r ih => simp [intsOf, ih]
      have e4 : ∀ (xs : List AV) (ys : List AV), ys.length = xs.length → splice xs 0 ys = ys := fun xs ys hy => by
        apply List.ext_getElem?
        intro i
        rw [getElem?_splice]
        split
        · rfl
        · next h => rw [List.getElem?_eq_none (by omega), List.getElem?_eq_none (by omega)]
      simp only [evCall, hf, if_true, reduceIte, evFn, sortFn, evC, List.replicate, evSort, e1]
      rw [if_pos ⟨trivial, by simp, hl, hl2⟩, e2, e3]
      simp only [Res.bind, mapR, pack]
      rw [e4 _ _ (by simp [hlen])]
    rw [e0, gp_ret]
    exact H _ (.inr ⟨key, ver, hk, by rw [hlen], getH_setH_self _ _ _⟩)

theorem gp_appendC {call : Caller} {base : Nat} {Q : EX × St → Prop} {d : Option Nat} {L : List IOper} {ks : List Kont} {e : Env} {h : Heap} {lo b m kk : Nat} {v x y : AV} {k : IntKind} {l l2 : List Int} (hv : v = x ∨ v = capped x) (hkk : kk = h.length) (hx : Own lo h x k l) (hlo : lo ≤ h.length) (hy : cellsOfSlice h y = some (none, m, l2.map (.int k))) (hm : m = l2.length) (hm0 : 0 < m) (hr : (l.length + m) * b ≤ 1099511627776)
    (H : ∀ x' h', Own lo h' x' k (l ++ l2) → (∀ j, j < lo → getH h' j = getH h j) → h.length ≤ h'.length → (∀ j, j < h.length → keyOf x ≠ some j → getH h' j = getH h j) → (∀ j, keyOf x' = some j → keyOf x = some j ∨ j = h.length) → GO call base Q L ks ⟨setDst e d x', h'⟩) :
    GP call base Q d L ks e (evAppend kk none b v y h) := by
  rcases hv with rfl | rfl
  · exact gp_append hkk hx hlo hy hm hm0 hr H
  · exact gp_append_capped hkk hx hlo hy hm hm0 hr fun x' h' h1 h2 h3 h4 => H x' h' h1 (fun j hj => h2 j (by omega)) h3 (fun j hj _ => h2 j hj) (fun j hj => .inr (by rw [h4] at hj; exact (Option.some.inj hj).symm))

theorem getH_new (h : Heap) (n k : Nat) : getH (h ++ List.replicate n .none) (h.length + k) = .none := by
  rw [getH_append_none]
  exact getH_ge _ _ (by omega)
def PPl (N s n : Nat) (h : Heap) (v : AV) (h' : Heap) : Prop := ∃ x, Own h.length h' x .i64 (natI (plc N s n)) ∧ (v = x ∨ v = capped x)

set_option maxHeartbeats 2000000 in
theorem g_places (N s n : Nat) (h1 : 1 ≤ N) (h2 : N ≤ 2400) (h3 : s ≤ N) (h4 : 1 ≤ n) (h5 : n ≤ 60) : ∀ m, 1 ≤ m → ∀ (h : Heap) (V : AV × Heap → Prop), (∀ v h', PPl N s n h v h' → V (v, h')) →
    G (evCall T m) h.length (Fin c77.results V) c77.body [] ⟨[.int .i64 N, .int .i64 s, .int .i64 n], h ++ List.replicate c77.ntmps .none⟩ := by
  intro m hm h0 V hV
  obtain ⟨m, rfl⟩ : ∃ m', m = m' + 1 := ⟨m - 1, by omega⟩
  have hnew := getH_new h0 42 42
  simp (disch := first | assumption | omega) only [c77, go_sem, ↓reduceIte, reduceIte, Nat.reduceEqDiff, Nat.reduceAdd, Nat.reduceMul, reduceCtorEq, Nat.reduceDiv, Nat.reduceLeDiff, Nat.reduceLT, Nat.reduceSub, m_next, hnew, next_none]
  refine m_loop (fun M st => ∃ (i : Nat) (ks : List Int) (vs : List AV) (bs : List Nat) (clock : Nat), M = n - i ∧ i ≤ n ∧ InP N s i ks vs bs clock ∧ At st.env [(0, .int .i64 N), (1, .int .i64 s), (7, .omap (h0.length + 42) 0), (12, .int .i64 n), (13, .int .i64 i)] ∧ getH st.heap (h0.length + 42) = .map 0 clock (kz ks) vs bs ∧ h0.length + 43 ≤ st.heap.length) n (by omega)
    ⟨0, [], [], [], 0, by omega, by omega, ⟨by simp, by simp, rfl, rfl, by simp, by simp, by omega, by simp⟩, by simp only [go_sem, ↓reduceIte, reduceIte, Nat.reduceEqDiff, Nat.reduceAdd, Nat.reduceMul, reduceCtorEq, Nat.reduceDiv, Nat.reduceLeDiff, Nat.reduceLT, Nat.reduceSub], by simp only [go_sem, ↓reduceIte, reduceIte, Nat.reduceEqDiff, Nat.reduceAdd, Nat.reduceMul, reduceCtorEq, Nat.reduceDiv, Nat.reduceLeDiff, Nat.reduceLT, Nat.reduceSub]; rfl, by simp only [length_setH, List.length_append, List.length_replicate]; omega⟩ ?_
  rintro M e h hM ⟨i, ks, vs, bs, clock, rfl, hi, hin, hE, g42, hl⟩ P hP
  simp only [At_cons, At_nil] at hE g42 hl
  obtain ⟨f0, f1, f7, f12, f13, -⟩ := hE
  by_cases hlt : i < n
  · have hm1 : i * s ≤ 60 * 2400 := Nat.mul_le_mul (by omega) (by omega)
    have hms : ((i : Int) * (s : Int)) = ((i * s : Nat) : Int) := by simp
    by_cases hx : ((i * s % N : Nat) : Int) ∈ ks
    · have hmu : muA (some 1) h (.agg [.int .i64 ((i * s % N : Nat) : Int)]) (.int .i64 i) (.omap (h0.length + 42) 0) = .ret (.undef, setH h (h0.length + 42) (.map 0 clock (kz ks) (vs.set (ks.idxOf ((i * s % N : Nat) : Int)) (.int .i64 i)) bs)) := by
        simp only [muA, g42, findK_kz, if_pos hx, keyOk_one]
        rw [if_pos ⟨trivial, trivial⟩]
        simp only [Nat.zero_add, kz_set _ _ hx]
      simp (disch := first | assumption | omega) only [go_sem, ↓reduceIte, reduceIte, Nat.reduceEqDiff, Nat.reduceAdd, Nat.reduceMul, reduceCtorEq, Nat.reduceDiv, Nat.reduceLeDiff, Nat.reduceLT, Nat.reduceSub, m_next, f0, f1, f7, f12, f13, hlt, hms, b_rem, hmu]
      exact hP (n - (i + 1)) _ (by omega) ⟨i + 1, ks, _, bs, clock, rfl, by omega, hin.old hx (ks.idxOf ((i * s % N : Nat) : Int)) (.int .i64 i), by simp only [go_sem, ↓reduceIte, reduceIte, Nat.reduceEqDiff, Nat.reduceAdd, Nat.reduceMul, reduceCtorEq, Nat.reduceDiv, Nat.reduceLeDiff, Nat.reduceLT, Nat.reduceSub, f0, f1, f7, f12], by simp only [go_sem, ↓reduceIte, reduceIte, Nat.reduceEqDiff, Nat.reduceAdd, Nat.reduceMul, reduceCtorEq, Nat.reduceDiv, Nat.reduceLeDiff, Nat.reduceLT, Nat.reduceSub], by simp only [length_setH]; omega⟩
    · have hmu : muA (some 1) h (.agg [.int .i64 ((i * s % N : Nat) : Int)]) (.int .i64 i) (.omap (h0.length + 42) 0) = .ret (.undef, setH h (h0.length + 42) (.map 0 (clock + 1) (kz (ks ++ [((i * s % N : Nat) : Int)])) (vs ++ [.int .i64 i]) (bs ++ [clock]))) := by
        simp only [muA, g42, findK_kz, if_neg hx, keyOk_one]
        rw [if_pos ⟨trivial, trivial⟩]
        simp only [kz, List.map_append, List.map_cons, List.map_nil]
      simp (disch := first | assumption | omega) only [go_sem, ↓reduceIte, reduceIte, Nat.reduceEqDiff, Nat.reduceAdd, Nat.reduceMul, reduceCtorEq, Nat.reduceDiv, Nat.reduceLeDiff, Nat.reduceLT, Nat.reduceSub, m_next, f0, f1, f7, f12, f13, hlt, hms, b_rem, hmu]
      exact hP (n - (i + 1)) _ (by omega) ⟨i + 1, _, _, _, clock + 1, rfl, by omega, hin.new hx (.int .i64 i), by simp only [go_sem, ↓reduceIte, reduceIte, Nat.reduceEqDiff, Nat.reduceAdd, Nat.reduceMul, reduceCtorEq, Nat.reduceDiv, Nat.reduceLeDiff, Nat.reduceLT, Nat.reduceSub, f0, f1, f7, f12], by simp only [go_sem, ↓reduceIte, reduceIte, Nat.reduceEqDiff, Nat.reduceAdd, Nat.reduceMul, reduceCtorEq, Nat.reduceDiv, Nat.reduceLeDiff, Nat.reduceLT, Nat.reduceSub], by simp only [length_setH]; omega⟩
  obtain rfl : i = n := by omega
  obtain ⟨r, rfl⟩ := hin.hd (by omega)
  have hlv := hin.lv
  have hlb := hin.lb
  cases vs with
  | nil => simp at hlv
  | cons v0 vr =>
  cases bs with
  | nil => simp at hlb
  | cons b0 br =>
  obtain ⟨E, rfl, rfl, rfl⟩ := zip3 r vr br (by simpa using hlv) (by simpa using hlb)
  have hdl : dlA (some 1) h (.agg [.int .i64 0]) (.omap (h0.length + 42) 0) = .ret (.undef, setH h (h0.length + 42) (.map 0 clock (kz (E.map (·.1))) (E.map (·.2.1)) (E.map (·.2.2)))) := by
    simp only [dlA, g42, findK_kz, keyOk_one]
    rw [if_pos ⟨trivial, trivial⟩]
    simp only [List.mem_cons, true_or, if_true, List.idxOf_cons_self, kz, List.map_cons, List.eraseIdx_zero, List.tail_cons, Nat.add_zero]
  have hbn : (E.map (·.2.2)).Nodup := (List.nodup_cons.1 hin.bn).2
  have hbc : ∀ t ∈ E, t.2.2 < clock := fun t ht => hin.bc _ (List.mem_cons_of_mem _ (List.mem_map_of_mem (f := fun t : Int × AV × Nat => t.2.2) ht))
  have hkn : (E.map (·.1)).Nodup := (List.nodup_cons.1 hin.nd).2
  have hk0 : (0 : Int) ∉ E.map (·.1) := (List.nodup_cons.1 hin.nd).1
  have hEl : E.length ≤ 60 := by have := hin.len; simp at this; omega
  have hmemE : ∀ p : Int, p ∈ (0 : Int) :: E.map (·.1) ↔ ∃ j, j < i ∧ ((j * s % N : Nat) : Int) = p := hin.mem
  clear hin hlv hlb
  have l42 : ∀ c : AObj, (setH h (h0.length + 42) c).length = h.length := fun c => by rw [length_setH]; omega
  generalize hA : setH h (h0.length + 42) (.map 0 clock (kz (E.map (·.1))) (E.map (·.2.1)) (E.map (·.2.2))) = h1A at hdl
  have a42 : getH h1A (h0.length + 42) = .map 0 clock (kz (E.map (·.1))) (E.map (·.2.1)) (E.map (·.2.2)) := by rw [← hA]; exact getH_setH_self _ _ _
  have aL : h0.length + 43 ≤ h1A.length := by rw [← hA, l42]; exact hl
  clear hA g42 hl l42
  have aK : getH h1A h1A.length = .none := getH_ge _ _ (Nat.le_refl _)
  generalize hK : h1A.length = K at *
  have l27 : ∀ c : AObj, (setH h1A K c).length = K + 1 := fun c => by rw [length_setH]; omega
  have b42 : ∀ c : AObj, getH (setH h1A K c) (h0.length + 42) = .map 0 clock (kz (E.map (·.1))) (E.map (·.2.1)) (E.map (·.2.2)) := fun c => by rw [getH_setH_ne _ _ _ _ (by omega), a42]
  have bN : ∀ c : AObj, getH (setH h1A K c) (K + 1) = .none := fun c => getH_ge _ _ (by rw [l27]; omega)
  have hrg : ∀ c : AObj, rgA (setH h1A K c) (.omap (h0.length + 42) 0) = .ret (.iter (K + 1) 0, setH (setH h1A K c) (K + 1) (.iter 0 (h0.length + 42) 0 clock [] clock)) := fun c => by
    simp only [rgA, b42, l27, bN, next_none, if_true]
  have n10 : ¬ K + 1 = h0.length + 10 := by omega
  have n42 : ¬ K + 1 = h0.length + 42 := by omega
  have k42 : ¬ K = h0.length + 42 := by omega
  have nK : ¬ K + 1 = K := by omega
  have m10 : ¬ h0.length + 10 = K + 1 := by omega
  simp (disch := first | assumption | omega) only [go_sem, ↓reduceIte, reduceIte, Nat.reduceEqDiff, Nat.reduceAdd, Nat.reduceMul, reduceCtorEq, Nat.reduceDiv, Nat.reduceLeDiff, Nat.reduceLT, Nat.reduceSub, m_next, f0, f1, f7, f12, f13, hlt, hdl, aK, next_none, hK, hrg]
  refine m_loop (fun M st => ∃ (done : List (Int × AV × Nat)) (v x : AV), M = (E.filter fun t => !(done.map (fun t : Int × AV × Nat => t.2.2)).contains t.2.2).length ∧ (∀ t ∈ done, t ∈ E) ∧ ((0 : Int) :: done.map (fun t : Int × AV × Nat => t.1)).Nodup ∧ done.length ≤ 60 ∧
      At st.env [(9, v), (29, .iter (K + 1) 0)] ∧ getH st.heap (h0.length + 42) = .map 0 clock (kz (E.map (·.1))) (E.map (·.2.1)) (E.map (·.2.2)) ∧ getH st.heap (K + 1) = .iter 0 (h0.length + 42) 0 clock (done.map (fun t : Int × AV × Nat => t.2.2)) clock ∧ Own (h0.length + 43) st.heap x .i64 (0 :: done.map (fun t : Int × AV × Nat => t.1)) ∧ (v = x ∨ v = capped x) ∧ keyOf x ≠ some (K + 1) ∧ K + 1 < st.heap.length) E.length (by omega)
      ⟨[], .oslice K 0 none 0 1 (some 1), .oslice K 0 none 0 1 none, by rw [List.filter_eq_self.2 (by simp)], by simp, by simp, by simp, by simp only [go_sem, ↓reduceIte, reduceIte, Nat.reduceEqDiff, Nat.reduceAdd, Nat.reduceMul, reduceCtorEq, Nat.reduceDiv, Nat.reduceLeDiff, Nat.reduceLT, Nat.reduceSub], ?_, by simp only [go_sem, ↓reduceIte, reduceIte, Nat.reduceEqDiff, Nat.reduceAdd, Nat.reduceMul, reduceCtorEq, Nat.reduceDiv, Nat.reduceLeDiff, Nat.reduceLT, Nat.reduceSub], .inr ⟨K, 0, by omega, rfl, ?_⟩, .inr rfl, by simp [keyOf], by simp only [length_setH]; omega⟩ ?_
  · simp only [go_sem, ↓reduceIte, reduceIte, Nat.reduceEqDiff, Nat.reduceAdd, Nat.reduceMul, reduceCtorEq, Nat.reduceDiv, Nat.reduceLeDiff, Nat.reduceLT, Nat.reduceSub, n42, k42]; exact a42
  · simp only [go_sem, ↓reduceIte, reduceIte, Nat.reduceEqDiff, Nat.reduceAdd, Nat.reduceMul, reduceCtorEq, Nat.reduceDiv, Nat.reduceLeDiff, Nat.reduceLT, Nat.reduceSub, nK]
  rintro M e2 h' hM ⟨done, v, x, rfl, hsub, hnd, hdl60, hE, g42, gI, hO, hvx, hko, hlen⟩ P2 hP2
  simp only [At_cons, At_nil] at hE g42 gI hO hlen
  obtain ⟨f9, f29, -⟩ := hE
  simp (disch := first | assumption | omega) only [go_sem, ↓reduceIte, reduceIte, Nat.reduceEqDiff, Nat.reduceAdd, Nat.reduceMul, reduceCtorEq, Nat.reduceDiv, Nat.reduceLeDiff, Nat.reduceLT, Nat.reduceSub, m_next, f29]
  refine gp_nextM gI g42 hbc (fun hall => ?_) (fun t ht hnt => ?_)
  · have hmem : ∀ a : Int, a ∈ (0 : Int) :: done.map (fun t : Int × AV × Nat => t.1) ↔ a ∈ (0 : Int) :: E.map (·.1) := fun a => by
      rw [List.mem_cons, List.mem_cons]
      refine or_congr_right ?_
      constructor
      · intro ha
        obtain ⟨t, ht, rfl⟩ := List.mem_map.1 ha
        exact List.mem_map_of_mem (f := fun t : Int × AV × Nat => t.1) (hsub t ht)
      · intro ha
        obtain ⟨t, ht, rfl⟩ := List.mem_map.1 ha
        obtain ⟨u, hu, e2⟩ := List.mem_map.1 (hall t ht)
        have : u = t := born_inj hbn (hsub u hu) ht e2
        exact List.mem_map_of_mem (f := fun t : Int × AV × Nat => t.1) (this ▸ hu)
    simp (disch := first | assumption | omega) only [go_sem, ↓reduceIte, reduceIte, Nat.reduceEqDiff, Nat.reduceAdd, Nat.reduceMul, reduceCtorEq, Nat.reduceDiv, Nat.reduceLeDiff, Nat.reduceLT, Nat.reduceSub, m_next, f9, f29]
    refine gp_sortC t80 hO hvx (by simp) (by simp; omega) fun h2 hz => ?_
    simp (disch := first | assumption | omega) only [go_sem, ↓reduceIte, reduceIte, Nat.reduceEqDiff, Nat.reduceAdd, Nat.reduceMul, reduceCtorEq, Nat.reduceDiv, Nat.reduceLeDiff, Nat.reduceLT, Nat.reduceSub, m_next, f9, f29]
    rw [isort_plc (n := i) (by omega) hnd (fun p => (hmem p).trans (hmemE p))] at hz
    exact hV _ _ ⟨x, Own.low hz (by omega), hvx⟩
  · have hen : enA (setH h' (K + 1) (.iter 0 (h0.length + 42) 0 clock (done.map (fun t : Int × AV × Nat => t.2.2) ++ [t.2.2]) clock)) (.iter (K + 1) 0) = .ret (.tuple [.agg [.int .i64 t.1], t.2.1]) :=
      enA_mE (E := E) (mk := h0.length + 42) (mv := 0) (clock := clock) (since := clock) (seen := done.map (fun t : Int × AV × Nat => t.2.2)) (getH_setH_self _ _ _) (by rw [getH_setH_ne _ _ _ _ n42]; exact g42) hbn ht
    have hte : t.1 ∉ done.map (fun t : Int × AV × Nat => t.1) := fun hm => by
      obtain ⟨u, hu, e1⟩ := List.mem_map.1 hm
      have : u = t := key_inj hkn (hsub u hu) ht e1
      exact hnt (List.mem_map_of_mem (f := fun t : Int × AV × Nat => t.2.2) (this ▸ hu))
    have ht0 : t.1 ≠ 0 := fun h0 => hk0 (h0 ▸ List.mem_map_of_mem (f := fun t : Int × AV × Nat => t.1) ht)
    have hml : (E.filter fun u => !((done ++ [t]).map (fun t : Int × AV × Nat => t.2.2)).contains u.2.2).length < (E.filter fun u => !(done.map (fun t : Int × AV × Nat => t.2.2)).contains u.2.2).length := by
      refine filter_lt _ _ (fun u hu => ?_) t ?_ ?_ E ht
      · simp at hu ⊢
        exact hu.1
      · simpa using hnt
      · simp
    have hdl' : done.length + 1 ≤ 60 := by
      have h1 := List.Nodup.length_le_of_subset (l₁ := (done ++ [t]).map (fun t : Int × AV × Nat => t.1)) (l₂ := E.map (·.1)) (by
        rw [List.map_append, List.nodup_append]
        refine ⟨(List.nodup_cons.1 hnd).2, by simp, fun a ha b hb => ?_⟩
        obtain rfl : b = t.1 := by simpa using hb
        exact fun e => hte (e ▸ ha)) (fun a ha => by
        obtain ⟨u, hu, rfl⟩ := List.mem_map.1 ha
        rcases List.mem_append.1 hu with hu | hu
        · exact List.mem_map_of_mem (f := fun t : Int × AV × Nat => t.1) (hsub u hu)
        · obtain rfl : u = t := by simpa using hu
          exact List.mem_map_of_mem (f := fun t : Int × AV × Nat => t.1) ht)
      simp at h1
      omega
    have hl' : ∀ a : AObj, (setH h' (K + 1) a).length = h'.length := fun a => by rw [length_setH]; omega
    have hO1 : ∀ a : AObj, Own (h0.length + 43) (setH h' (K + 1) a) x .i64 (0 :: done.map (fun t : Int × AV × Nat => t.1)) := fun a => hO.other fun j hj => getH_setH_ne _ _ _ _ (fun h => hko (h ▸ hj))
    have g42' : ∀ a : AObj, getH (setH h' (K + 1) a) (h0.length + 42) = .map 0 clock (kz (E.map (·.1))) (E.map (·.2.1)) (E.map (·.2.2)) := fun a => by rw [getH_setH_ne _ _ _ _ n42]; exact g42
    have gI' : ∀ a : AObj, getH (setH h' (K + 1) a) (K + 1) = a := fun a => getH_setH_self _ _ _
    generalize hit : AObj.iter 0 (h0.length + 42) 0 clock (done.map (fun t : Int × AV × Nat => t.2.2) ++ [t.2.2]) clock = it at *
    replace hl' := hl' it
    replace hO1 := hO1 it
    replace g42' := g42' it
    replace gI' := gI' it
    generalize setH h' (K + 1) it = hh at *
    clear g42 gI hO
    have mL : ¬ h0.length + 10 = hh.length := by omega
    have lL : getH hh hh.length = .none := getH_ge _ _ (Nat.le_refl _)
    simp (disch := first | assumption | omega) only [go_sem, ↓reduceIte, reduceIte, Nat.reduceEqDiff, Nat.reduceAdd, Nat.reduceMul, reduceCtorEq, Nat.reduceDiv, Nat.reduceLeDiff, Nat.reduceLT, Nat.reduceSub, m_next, f9, f29, hen, n10, n42, m10, mL, lL, next_none]
    have hO2 : ∀ a b c : AObj, Own (h0.length + 43) (setH (setH (setH hh (h0.length + 10) a) (h0.length + 10) b) hh.length c) x .i64 (0 :: done.map (fun t : Int × AV × Nat => t.1)) := fun a b c => by
      refine ((hO1.setH (by omega)).setH (by omega)).other fun j hj => getH_setH_ne _ _ _ _ (fun h => ?_)
      rcases hO1 with ⟨_, rfl⟩ | ⟨key, ver, hk, rfl, hH⟩
      · simp [keyOf] at hj
      · have := getH_lt hH (by simp)
        simp [keyOf] at hj
        omega
    have hcs : ∀ a b : AObj, cellsOfSlice (setH (setH (setH hh (h0.length + 10) a) (h0.length + 10) b) hh.length (.cells 0 [.int .i64 t.1])) (.oslice hh.length 0 none 0 1 (some 1)) = some (none, 1, [t.1].map (.int .i64)) := fun a b => by
      simp only [cellsOfSlice, getH_setH_self]
      rfl
    have h3l : ∀ a b c : AObj, (setH (setH (setH hh (h0.length + 10) a) (h0.length + 10) b) hh.length c).length = hh.length + 1 := fun a b c => by
      simp only [length_setH]; omega
    refine gp_appendC (l2 := [t.1]) hvx (by rw [h3l]; omega) (hO2 _ _ _) (by rw [h3l]; omega) (hcs _ _) rfl (by omega) (by simp; omega) fun x' h2 hO' hF hL hF2 hF3 => ?_
    rw [h3l] at hF3 hL
    simp (disch := first | assumption | omega) only [go_sem, ↓reduceIte, reduceIte, Nat.reduceEqDiff, Nat.reduceAdd, Nat.reduceMul, reduceCtorEq, Nat.reduceDiv, Nat.reduceLeDiff, Nat.reduceLT, Nat.reduceSub, m_next, f9, f29]
    refine hP2 _ _ hml ⟨done ++ [t], x', x', rfl, ?_, ?_, by simp; omega, by simp only [go_sem, ↓reduceIte, reduceIte, Nat.reduceEqDiff, Nat.reduceAdd, Nat.reduceMul, reduceCtorEq, Nat.reduceDiv, Nat.reduceLeDiff, Nat.reduceLT, Nat.reduceSub, f29], ?_, ?_, by simpa using hO', .inl rfl, ?_, ?_⟩
    · intro u hu
      rcases List.mem_append.1 hu with hu | hu
      · exact hsub u hu
      · obtain rfl : u = t := by simpa using hu
        exact ht
    · rw [List.map_append, ← List.cons_append, List.nodup_append]
      refine ⟨hnd, by simp, fun a ha b hb => ?_⟩
      obtain rfl : b = t.1 := by simpa using hb
      rcases List.mem_cons.1 ha with rfl | ha
      · exact Ne.symm ht0
      · exact fun e => hte (e ▸ ha)
    · have : ¬ hh.length = h0.length + 42 := by omega
      rw [hF (h0.length + 42) (by omega)]
      simp only [go_sem, ↓reduceIte, reduceIte, Nat.reduceEqDiff, Nat.reduceAdd, Nat.reduceMul, reduceCtorEq, Nat.reduceDiv, Nat.reduceLeDiff, Nat.reduceLT, Nat.reduceSub, this]; exact g42'
    · have : ¬ hh.length = K + 1 := by omega
      rw [hF2 (K + 1) (by rw [h3l]; omega) hko]
      simp only [go_sem, ↓reduceIte, reduceIte, Nat.reduceEqDiff, Nat.reduceAdd, Nat.reduceMul, reduceCtorEq, Nat.reduceDiv, Nat.reduceLeDiff, Nat.reduceLT, Nat.reduceSub, m10, this, gI', ← hit, List.map_append, List.map_cons, List.map_nil]
    · intro hx
      rcases hF3 _ hx with hx | hx
      · exact hko hx
      · omega
    · show K + 1 < h2.length
      omega

theorem raw_places (N s n : Nat) (h1 : 1 ≤ N) (h2 : N ≤ 2400) (h3 : s ≤ N) (h4 : 1 ≤ n) (h5 : n ≤ 60) : Raw T 2 77 [.int .i64 N, .int .i64 s, .int .i64 n] (PPl N s n) := raw_intro t77 (g_places N s n h1 h2 h3 h4 h5)
theorem con_places (N s n : Nat) (h1 : 1 ≤ N) (h2 : N ≤ 2400) (h3 : s ≤ N) (h4 : 1 ≤ n) (h5 : n ≤ 60) : Con T 2 77 [.int .i64 N, .int .i64 s, .int .i64 n] (longsV (natI (plc N s n))) :=
  con_raw t77 (g_places N s n h1 h2 h3 h4 h5) fun v h' ⟨x, hx, hv⟩ => frz_OwnC hx hv

end Go.Ev.YtcghegefcgnhbaaC
