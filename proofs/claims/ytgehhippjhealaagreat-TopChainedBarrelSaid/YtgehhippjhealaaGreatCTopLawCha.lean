/- The code of functions that are walked, compiled for the evaluator, as text. Chains: what is valid, and the places of a chain, the reference's way. The places of a chain, by a map and a sort. What Places answers for a valid chain. The notes of a chain and a place of the octave: when they meet, and how many places there are. Two pins, one each step and one at a place of the octave: when they sound together. What the law of chained barrels asks of whole numbers. The code of functions that are walked, compiled for the evaluator, as text. FROM PITCHES TO BARRELS: what the law's function answers, the works given. No condition but those that stand in each. -/
import Derived.Test.YtgehhippjhealaaGreatCTopW
import Derived.Test.YtgehhippjhealaaGreatCEvKer3
import Derived.Test.YtgehhippjhealaaGreatCEvOpen
import Derived.Test.YtgehhippjhealaaGreatCEvSort
import Derived.Test.YtgehhippjhealaaGreatCL1Math8
import Derived.Test.YtgehhippjhealaaGreatCTopBax
set_option linter.unusedSimpArgs false
set_option linter.unusedVariables false
set_option maxRecDepth 100000
namespace Go.Ev.YtgehhippjhealaaGreatC
open Go.Proofs
def c24 : IFunc := ⟨20, [.tmp 6, .tmp 7], .seq (.ops [dO 6 (.mv (.const (.slice none [] true))), dO 7 (.mv (cI 0))]) (.seq (.seq (.ops [dO 9 (.mv (tM 0)), dO 10 (.mv (tM 1)), dO 11 (.mv (tM 2)), dO 12 (.callF false 64 [tM 9, tM 10, tM 11]), dO 8 (.mv (tM 12))]) (.seq (.ops [dO 13 (.mv (tM 8)), dO 14 (.bin .neq (tM 13) (cI 0))]) (.cond (tM 14) (.seq (.ops [dO 15 (.mv (tM 8)), dO 6 (.mv (.const (.slice none [] true))), dO 7 (.mv (tM 15))]) .ret) .skip))) (.seq (.ops [dO 16 (.mv (tM 0)), dO 17 (.mv (tM 1)), dO 18 (.mv (tM 2)), dO 19 (.callF false 65 [tM 16, tM 17, tM 18]), dO 6 (.mv (tM 19)), dO 7 (.mv (cI 0))]) .ret))⟩
theorem k24 : (cfgOf Tryz.prog byr).fns 24 = some c24 := by kernel_rfl
theorem t24 : T.fns 24 = some c24 := T_fns k24 (by decide) (by decide)
def c65 : IFunc := ⟨42, [.tmp 6], .seq (.ops [dO 6 (.mv (.const (.slice none [] true)))]) (.seq (.ops [⟨some 11, .mkMap, none⟩, dO 7 (.mv (tM 11))]) (.seq (.seq (.ops [dO 12 (.mv (tM 2)), dO 13 (.mv (cI 0))]) (.block 0 (.loop (.seq (.ops [dO 14 (.bin .lss (tM 13) (tM 12))]) (.seq (.cond (tM 14) .skip (.exit 0)) (.seq (.block 1 (.seq (.ops [dO 15 (.mv (tM 13)), dO 8 (.mv (tM 15))]) (.ops [dO 16 (.mv (tM 7)), dO 17 (.mv (tM 8)), dO 18 (.mv (tM 1)), dO 19 (.bin .mul (tM 17) (tM 18)), dO 20 (.mv (tM 0)), dO 21 (.bin .rem (tM 19) (tM 20)), dO 22 (.build [.int .i64 0] [(0, (1, tM 21))]), dO 23 (.mv (tM 8)), eO (.mapUpdate (some 1) (tM 16) (tM 22) (tM 23))]))) (.ops [dO 24 (.bin .add (tM 13) (cI 1)), dO 13 (.mv (tM 24))]))))))) (.seq (.ops [dO 25 (.mv (tM 7)), dO 26 (.build [.int .i64 0] []), eO (.delete (some 1) (tM 25) (tM 26))]) (.seq (.ops [dO 27 (.buildSliceO none [.int .i64 0] [(0, (1, cI 0))]), dO 9 (.mv (tM 27))]) (.seq (.seq (.ops [dO 28 (.mv (tM 7)), dO 29 (.range (tM 28))]) (.block 2 (.loop (.seq (.ops [dO 30 (.next (tM 29)), dO 31 (.extract (tM 30) 0)]) (.seq (.cond (tM 31) .skip (.exit 2)) (.block 3 (.seq (.ops [dO 32 (.entry (tM 29)), dO 33 (.extract (tM 32) 0), dO 10 (.alloc [.int .i64 0]), eO (.store 1 (tM 10) (tM 33))]) (.ops [dO 34 (.mv (tM 9)), dO 35 (.fieldAddr 0 (tM 10)), dO 36 (.load none (tM 35)), dO 37 (.buildSliceO none [.int .i64 0] [(0, (1, tM 36))]), dO 38 (.append none 8 (tM 34) (tM 37)), dO 9 (.mv (tM 38))])))))))) (.seq (.ops [dO 39 (.mv (tM 9)), dO 40 (.callF true 126 [tM 39])]) (.seq (.ops [dO 41 (.mv (tM 9)), dO 6 (.mv (tM 41))]) .ret)))))))⟩
theorem k65 : (cfgOf Tryz.prog byr).fns 65 = some c65 := by kernel_rfl
theorem t65 : T.fns 65 = some c65 := T_fns k65 (by decide) (by decide)
def c64 : IFunc := ⟨24, [.tmp 6], .seq (.ops [dO 6 (.mv (cI 0))]) (.seq (.block 0 (.seq (.ops [dO 8 (.mv (tM 0)), dO 9 (.buildSlice none [.int .i64 0] [(0, (1, tM 8))]), dO 10 (.callF false 125 [cI 1, cI 2400, tM 9]), dO 11 (.un .not (tM 10)), dO 12 (.mv (tM 11)), gO 13 (.mv (tM 0)) 12 false, gO 14 (.mv (tM 1)) 12 false, gO 15 (.buildSlice none [.int .i64 0] [(0, (1, tM 14))]) 12 false, gO 16 (.callF false 125 [cI 0, tM 13, tM 15]) 12 false, gO 17 (.un .not (tM 16)) 12 false, dO 18 (.pick (tM 12) (cB true) (tM 17)), dO 7 (.mv (tM 18))]) (.cond (tM 7) (.seq (.ops [dO 6 (.mv (cI 2))]) .ret) (.seq (.ops [dO 20 (.mv (tM 2)), dO 21 (.buildSlice none [.int .i64 0] [(0, (1, tM 20))]), dO 22 (.callF false 125 [cI 1, cI 60, tM 21]), dO 23 (.un .not (tM 22)), dO 19 (.mv (tM 23))]) (.cond (tM 19) (.seq (.ops [dO 6 (.mv (cI 6))]) .ret) .skip))))) (.seq (.ops [dO 6 (.mv (cI 0))]) .ret))⟩
theorem k64 : (cfgOf Tryz.prog byr).fns 64 = some c64 := by kernel_rfl
theorem t64 : T.fns 64 = some c64 := T_fns k64 (by decide) (by decide)
def c125 : IFunc := ⟨11, [.tmp 6], .seq (.ops [dO 3 (.box (tM 0)), dO 4 (.box (tM 1)), dO 6 (.mv (cB false))]) (.seq (.ops [dO 7 (.mv (tM 2)), dO 8 (.mkFunc 183 [] [tM 3, tM 4]), dO 9 (.callF false 177 [tM 7, tM 8]), dO 10 (.un .not (tM 9)), dO 6 (.mv (tM 10))]) .ret)⟩
theorem k125 : (cfgOf Tryz.prog byr).fns 125 = some c125 := by kernel_rfl
theorem t125 : T.fns 125 = some c125 := T_fns k125 (by decide) (by decide)
def c183 : IFunc := ⟨13, [.tmp 4], .seq (.ops [dO 4 (.mv (cB false))]) (.seq (.ops [dO 5 (.mv (tM 0)), dO 6 (.load none (tM 1)), dO 7 (.bin .lss (tM 5) (tM 6)), dO 8 (.mv (tM 7)), gO 9 (.mv (tM 0)) 8 false, gO 10 (.load none (tM 2)) 8 false, gO 11 (.bin .gtr (tM 9) (tM 10)) 8 false, dO 12 (.pick (tM 8) (cB true) (tM 11)), dO 4 (.mv (tM 12))]) .ret)⟩
theorem k183 : (cfgOf Tryz.prog byr).fns 183 = some c183 := by kernel_rfl
theorem t183 : T.fns 183 = some c183 := T_fns k183 (by decide) (by decide)
end Go.Ev.YtgehhippjhealaaGreatC
set_option linter.unusedSimpArgs false
set_option linter.unusedVariables false
namespace Go.Ev.YtgehhippjhealaaGreatC
open Go Go.Proofs
abbrev longsV (l : List Int) : AV := .slice none (l.map (.int .i64)) false
def isPl (N s n p : Nat) : Bool := (List.range n).any fun i => atC N s i == p
def plc (N s n : Nat) : List Nat := (List.range N).filter fun p => isPl N s n p
theorem isPl_iff (N s n p : Nat) : isPl N s n p = true ↔ ∃ i, i < n ∧ atC N s i = p := by
 unfold isPl
 simp [List.any_eq_true]
theorem mem_plc {N s n p : Nat} (hN : 0 < N) : p ∈ plc N s n ↔ ∃ i, i < n ∧ atC N s i = p := by
 unfold plc
 rw [List.mem_filter, isPl_iff, List.mem_range]
 constructor
 ·intro h; exact h.2
 ·rintro ⟨i, h1, rfl⟩
  exact ⟨at_lt hN s i, i, h1, rfl⟩
theorem plc_sorted (N s n : Nat) : (plc N s n).Pairwise (· < ·) := List.Pairwise.filter _ (List.pairwise_lt_range)
theorem plc_len (N s n : Nat) : (plc N s n).length ≤ N := by
 have := List.length_filter_le (fun p => isPl N s n p) (List.range N)
 simpa [plc] using this
abbrev natI (L : List Nat) : List Int := L.map fun n : Nat => (n : Int)
end Go.Ev.YtgehhippjhealaaGreatC
set_option linter.unusedSimpArgs false
set_option linter.unusedVariables false
namespace Go.Ev.YtgehhippjhealaaGreatC
open Go Go.Proofs
attribute [local irreducible] Res.all evC evLoop evOps evOper evOp evFn evCall freeze G GO GV GP GC R
set_option maxRecDepth 100000
theorem zip3 : ∀ (a : List Int) (b : List AV) (c : List Nat), b.length = a.length → c.length = a.length → ∃ E : List (Int × AV × Nat), E.map (·.1) = a ∧ E.map (·.2.1) = b ∧ E.map (·.2.2) = c
 | [], [], [], _, _ => ⟨[], rfl, rfl, rfl⟩
 | x :: a, y :: b, z :: c, h1, h2 => by
  obtain ⟨E, e1, e2, e3⟩ := zip3 a b c (by simpa using h1) (by simpa using h2)
  exact ⟨(x, y, z) :: E, by simp [e1], by simp [e2], by simp [e3]⟩
 | [], _ :: _, _, h1, _ => by simp at h1
 | [], [], _ :: _, _, h2 => by simp at h2
 | _ :: _, [], _, h1, _ => by simp at h1
 | _ :: _, _ :: _, [], _, h2 => by simp at h2
theorem zip_mE : ∀ E : List (Int × AV × Nat), (kz (E.map (·.1))).zip ((E.map (·.2.1)).zip (E.map (·.2.2))) = E.map fun t => (AV.agg [.int .i64 t.1], t.2.1, t.2.2)
 | [] => rfl
 | t :: r => by
  have := zip_mE r
  simp only [kz, List.map_cons, List.zip_cons_cons] at this ⊢
  rw [this]
theorem left_mE (E : List (Int × AV × Nat)) (seen : List Nat) : leftOf (kz (E.map (·.1))) (E.map (·.2.1)) (E.map (·.2.2)) seen = (E.filter fun t => !seen.contains t.2.2).map fun t => (AV.agg [.int .i64 t.1], t.2.1, t.2.2) := by
 rw [leftOf, zip_mE, List.filter_map]
 rfl
theorem born_inj {E : List (Int × AV × Nat)} (hn : (E.map (·.2.2)).Nodup) {u t : Int × AV × Nat} (hu : u ∈ E) (ht : t ∈ E) (h : u.2.2 = t.2.2) : u = t := by
 induction E with
 | nil => cases hu
 | cons a r ih =>
  rw [List.map_cons, List.nodup_cons] at hn
  rcases List.mem_cons.1 hu with hu' | hu' <;> rcases List.mem_cons.1 ht with ht' | ht'
  ·rw [hu', ht']
  ·exact absurd (List.mem_map.2 ⟨t, ht', by rw [← hu']; exact h.symm⟩) hn.1
  ·exact absurd (List.mem_map.2 ⟨u, hu', by rw [← ht']; exact h⟩) hn.1
  ·exact ih hn.2 hu' ht'
theorem key_inj {E : List (Int × AV × Nat)} (hn : (E.map (·.1)).Nodup) {u t : Int × AV × Nat} (hu : u ∈ E) (ht : t ∈ E) (h : u.1 = t.1) : u = t := by
 induction E with
 | nil => cases hu
 | cons a r ih =>
  rw [List.map_cons, List.nodup_cons] at hn
  rcases List.mem_cons.1 hu with hu' | hu' <;> rcases List.mem_cons.1 ht with ht' | ht'
  ·rw [hu', ht']
  ·exact absurd (List.mem_map.2 ⟨t, ht', by rw [← hu']; exact h.symm⟩) hn.1
  ·exact absurd (List.mem_map.2 ⟨u, hu', by rw [← ht']; exact h⟩) hn.1
  ·exact ih hn.2 hu' ht'
theorem find_mE (E : List (Int × AV × Nat)) (t : Int × AV × Nat) (hn : (E.map (·.2.2)).Nodup) (ht : t ∈ E) : ((kz (E.map (·.1))).zip ((E.map (·.2.1)).zip (E.map (·.2.2)))).find? (fun u => u.2.2 == t.2.2) = some (AV.agg [.int .i64 t.1], t.2.1, t.2.2) := by
 rw [zip_mE]
 induction E with
 | nil => cases ht
 | cons a r ih =>
  rw [List.map_cons, List.find?_cons]
  rw [List.map_cons, List.nodup_cons] at hn
  rcases List.mem_cons.1 ht with rfl | ht
  ·simp
  ·have hne : (a.2.2 == t.2.2) = false := by
    have : a.2.2 ≠ t.2.2 := fun h => hn.1 (h ▸ List.mem_map_of_mem (f := fun t : Int × AV × Nat => t.2.2) ht)
    simpa using this
   simp only [hne]
   exact ih hn.2 ht
theorem gp_nextM {n base : Nat} {Q : EX × St → Prop} {d : Option Nat} {L : List IOper} {kk : List Kont} {e : Env} {h : Heap} {key ver mk mv clock : Nat} {E : List (Int × AV × Nat)} {seen : List Nat}
  (hi : getH h key = .iter ver mk mv clock seen clock) (hm : getH h mk = .map mv clock (kz (E.map (·.1))) (E.map (·.2.1)) (E.map (·.2.2))) (hb : ∀ t ∈ E, t.2.2 < clock)
  (hE : (∀ t ∈ E, t.2.2 ∈ seen) → GO (evCall T n) base Q L kk ⟨setDst e d (.tuple [.bool false]), h⟩)
  (hN : ∀ t ∈ E, t.2.2 ∉ seen → GO (evCall T n) base Q L kk ⟨setDst e d (.tuple [.bool true, .agg [.int .i64 t.1], t.2.1]), setH h key (.iter ver mk mv clock (seen ++ [t.2.2]) clock)⟩) :
  GP (evCall T n) base Q d L kk e (nxA h (.iter key ver)) := by
 refine gp_next hi hm ?_ (Nat.le_refl _) ?_ ?_
 ·intro b hb'
  obtain ⟨t, ht, rfl⟩ := List.mem_map.1 hb'
  exact hb t ht
 ·intro hl
  rw [left_mE] at hl
  refine hE fun t ht => ?_
  have := List.map_eq_nil_iff.1 hl
  rw [List.filter_eq_nil_iff] at this
  simpa using this t ht
 ·intro k v b hmem
  rw [left_mE] at hmem
  obtain ⟨t, ht, he⟩ := List.mem_map.1 hmem
  obtain ⟨h1, h2⟩ := List.mem_filter.1 ht
  cases he
  exact hN t h1 (by simpa using h2)
theorem enA_mE {h : Heap} {key ver mk mv clock since : Nat} {E : List (Int × AV × Nat)} {seen : List Nat} {t : Int × AV × Nat}
  (hi : getH h key = .iter ver mk mv since (seen ++ [t.2.2]) clock) (hm : getH h mk = .map mv clock (kz (E.map (·.1))) (E.map (·.2.1)) (E.map (·.2.2))) (hn : (E.map (·.2.2)).Nodup) (ht : t ∈ E) :
  enA h (.iter key ver) = .ret (.tuple [.agg [.int .i64 t.1], t.2.1]) := by
 simp only [enA, hi, hm, List.getLast?_append, List.getLast?_singleton, Option.some_or]
 rw [if_pos ⟨trivial, trivial, trivial⟩, find_mE E t hn ht]
theorem filter_lt {α : Type} (p q : α → Bool) (hqp : ∀ t, q t = true → p t = true) (t0 : α) (hp : p t0 = true) (hq : q t0 = false) : ∀ l : List α, t0 ∈ l → (l.filter q).length < (l.filter p).length
 | [], h => by cases h
 | a :: r, h => by
  have hle : ∀ l : List α, (l.filter q).length ≤ (l.filter p).length := fun l => by
   induction l with
   | nil => simp
   | cons b r ih =>
    rw [List.filter_cons, List.filter_cons]
    by_cases hb : q b = true
    ·rw [if_pos hb, if_pos (hqp b hb)]; simpa using ih
    ·rw [if_neg hb]
     split
     ·simp only [List.length_cons]; omega
     ·exact ih
  rw [List.filter_cons, List.filter_cons]
  rcases List.mem_cons.1 h with rfl | h
  ·rw [if_pos hp, if_neg (by rw [hq]; simp)]
   have := hle r
   simp only [List.length_cons]; omega
  ·have ih := filter_lt p q hqp t0 hp hq r h
   by_cases hb : q a = true
   ·rw [if_pos hb, if_pos (hqp a hb)]; simpa using ih
   ·rw [if_neg hb]
    split
    ·simp only [List.length_cons]; omega
    ·exact ih
structure InP (N s i : Nat) (ks : List Int) (vs : List AV) (bs : List Nat) (clock : Nat) : Prop where
 nd : ks.Nodup
 mem : ∀ p : Int, p ∈ ks ↔ ∃ j, j < i ∧ ((j * s % N : Nat) : Int) = p
 lv : vs.length = ks.length
 lb : bs.length = ks.length
 bn : bs.Nodup
 bc : ∀ b ∈ bs, b < clock
 hd : 0 < i → ∃ r, ks = 0 :: r
 len : ks.length ≤ i
theorem InP.old {N s i : Nat} {ks : List Int} {vs : List AV} {bs : List Nat} {clock : Nat} (h : InP N s i ks vs bs clock) (hx : ((i * s % N : Nat) : Int) ∈ ks) (k : Nat) (v : AV) : InP N s (i + 1) ks (vs.set k v) bs clock where
 nd := h.nd
 mem := fun p => by
  rw [h.mem]
  constructor
  ·rintro ⟨j, h1, h2⟩; exact ⟨j, by omega, h2⟩
  ·rintro ⟨j, h1, h2⟩
   by_cases hj : j < i
   ·exact ⟨j, hj, h2⟩
   ·obtain rfl : j = i := by omega
    rw [h2, h.mem] at hx
    exact hx
 lv := by rw [List.length_set, h.lv]
 lb := h.lb
 bn := h.bn
 bc := h.bc
 hd := fun _ => by
  by_cases hi : 0 < i
  ·exact h.hd hi
  ·obtain ⟨j, h1, _⟩ := (h.mem _).1 hx
   omega
 len := by have := h.len; omega
theorem InP.new {N s i : Nat} {ks : List Int} {vs : List AV} {bs : List Nat} {clock : Nat} (h : InP N s i ks vs bs clock) (hx : ((i * s % N : Nat) : Int) ∉ ks) (v : AV) : InP N s (i + 1) (ks ++ [((i * s % N : Nat) : Int)]) (vs ++ [v]) (bs ++ [clock]) (clock + 1) where
 nd := by
  rw [List.nodup_append]
  refine ⟨h.nd, by simp, fun a ha b hb => ?_⟩
  have hb' : b = ((i * s % N : Nat) : Int) := List.mem_singleton.1 hb
  exact fun e => hx (by rw [← hb', ← e]; exact ha)
 mem := fun p => by
  rw [List.mem_append, h.mem]
  constructor
  ·rintro (⟨j, h1, h2⟩ | hp)
   ·exact ⟨j, by omega, h2⟩
   ·exact ⟨i, by omega, (List.mem_singleton.1 hp).symm⟩
  ·rintro ⟨j, h1, h2⟩
   by_cases hj : j < i
   ·exact .inl ⟨j, hj, h2⟩
   ·obtain rfl : j = i := by omega
    exact .inr (by simp [h2])
 lv := by simp [h.lv]
 lb := by simp [h.lb]
 bn := by
  rw [List.nodup_append]
  refine ⟨h.bn, by simp, fun a ha b hb => ?_⟩
  obtain rfl : b = clock := by simpa using hb
  have := h.bc a ha
  omega
 bc := fun b hb => by
  rcases List.mem_append.1 hb with hb | hb
  ·have := h.bc b hb; omega
  ·obtain rfl : b = clock := by simpa using hb
   omega
 hd := fun _ => by
  by_cases hi : 0 < i
  ·obtain ⟨r, rfl⟩ := h.hd hi
   exact ⟨_, rfl⟩
  ·obtain rfl : i = 0 := by omega
   have : ks = [] := by
    cases ks with
    | nil => rfl
    | cons a r =>
     obtain ⟨j, h1, _⟩ := (h.mem a).1 (by simp)
     omega
   subst this
   exact ⟨[], by simp⟩
 len := by have := h.len; simp; omega
theorem natI_sorted {l : List Nat} (h : l.Pairwise (· < ·)) : (natI l).Pairwise (· ≤ ·) ∧ (natI l).Nodup := by
 constructor
 ·rw [natI, List.pairwise_map]; exact h.imp (by omega)
 ·rw [natI, List.Nodup, List.pairwise_map]; exact h.imp (by omega)
theorem mem_natI {l : List Nat} {p : Int} : p ∈ natI l ↔ ∃ q ∈ l, (q : Int) = p := by simp [natI]
theorem isort_plc {N s n : Nat} (hN : 0 < N) {l : List Int} (hn : l.Nodup) (hm : ∀ p : Int, p ∈ l ↔ ∃ j, j < n ∧ ((j * s % N : Nat) : Int) = p) : isort l = natI (plc N s n) := by
 obtain ⟨h1, h2⟩ := natI_sorted (plc_sorted N s n)
 refine sorted_uniq (isort_sorted l) h1 ((isort_perm l).trans ?_)
 rw [List.perm_ext_iff_of_nodup hn h2]
 intro p
 rw [hm, mem_natI]
 constructor
 ·rintro ⟨j, h3, h4⟩; exact ⟨j * s % N, (mem_plc hN).2 ⟨j, h3, rfl⟩, h4⟩
 ·rintro ⟨q, h3, h4⟩
  obtain ⟨i, h5, h6⟩ := (mem_plc hN).1 h3
  exact ⟨i, h5, by rw [← h4, ← h6]; rfl⟩
theorem kz_set (ks : List Int) (x : Int) (hx : x ∈ ks) : (kz ks).set (ks.idxOf x) (.agg [.int .i64 x]) = kz ks := by
 apply List.ext_getElem?
 intro i
 rw [List.getElem?_set]
 split
 ·next h =>
  subst h
  have hlt : ks.idxOf x < ks.length := List.idxOf_lt_length_iff.2 hx
  rw [if_pos (by simpa [kz] using hlt)]
  simp [kz, List.getElem?_map, List.getElem?_eq_getElem hlt]
 ·rfl
theorem frz_OwnC {lo : Nat} {h : Heap} {v x : AV} {k : IntKind} {l : List Int} {n : Nat} (hx : Own lo h x k l) (hv : v = x ∨ v = capped x) : freeze h (n + 2) v = .ret (.slice none (l.map (.int k)) false) := by
 rcases hv with rfl | rfl
 ·exact frz_Own hx
 ·rcases hx with ⟨rfl, rfl⟩ | ⟨key, ver, _, rfl, hH⟩
  ·exact frz_Own (lo := 0) (own_nil ..)
  ·exact frz_own hH rfl
theorem Own.low {lo lo' : Nat} {h : Heap} {v : AV} {k : IntKind} {l : List Int} (hx : Own lo h v k l) (hl : lo' ≤ lo) : Own lo' h v k l := by
 rcases hx with h1 | ⟨key, ver, h1, h2, h3⟩
 ·exact .inl h1
 ·exact .inr ⟨key, ver, by omega, h2, h3⟩
theorem gp_sortC {T : Cfg} {f n : Nat} {base : Nat} {Q : EX × St → Prop} {d : Option Nat} {L : List IOper} {ks : List Kont} {e : Env} {h : Heap} {lo : Nat} {v x : AV} {l : List Int} (hf : T.fns f = some sortFn) (hx : Own lo h x .i64 l) (hv : v = x ∨ v = capped x) (hl : 0 < l.length) (hl2 : l.length < 1099511627776)
  (H : ∀ h', Own lo h' x .i64 (isort l) → GO (evCall T (n + 1)) base Q L ks ⟨setDst e d (.tuple []), h'⟩) :
  GP (evCall T (n + 1)) base Q d L ks e (evCall T (n + 1) true (.fn f) [v] h) := by
 rcases hx with ⟨rfl, rfl⟩ | ⟨key, ver, hk, rfl, hH⟩
 ·simp at hl
 ·obtain ⟨cap, rfl⟩ : ∃ cap, v = .oslice key ver none 0 l.length cap := by
   rcases hv with rfl | rfl
   ·exact ⟨_, rfl⟩
   ·exact ⟨_, rfl⟩
  have hlen : (isort l).length = l.length := length_isort l
  have e0 : evCall T (n + 1) true (.fn f) [.oslice key ver none 0 l.length cap] h = .ret (.tuple [], setH (h ++ [.none]) key (.cells ver ((isort l).map (.int .i64)))) := by
   have e1 : getH (h ++ [AObj.none]) key = .cells ver (l.map (.int .i64)) := by rw [getH_pad]; exact hH
   have e2 : ((l.map (AV.int .i64)).drop 0).take l.length = l.map (.int .i64) := by rw [List.drop_zero, List.take_of_length_le (by simp)]
   have e3 : ∀ l : List Int, intsOf (l.map (.int .i64)) = some l := fun l => by
    induction l with
    | nil => rfl
    | cons a r ih => simp [intsOf, ih]
   have e4 : ∀ (xs : List AV) (ys : List AV), ys.length = xs.length → splice xs 0 ys = ys := fun xs ys hy => by
    apply List.ext_getElem?
    intro i
    rw [getElem?_splice]
    split
    ·rfl
    ·next h => rw [List.getElem?_eq_none (by omega), List.getElem?_eq_none (by omega)]
   simp only [evCall, hf, if_true, reduceIte, evFn, sortFn, evC, List.replicate, evSort, e1]
   rw [if_pos ⟨trivial, by simp, hl, hl2⟩, e2, e3]
   simp only [Res.bind, mapR, pack]
   rw [e4 _ _ (by simp [hlen])]
  rw [e0, gp_ret]
  exact H _ (.inr ⟨key, ver, hk, by rw [hlen], getH_setH_self _ _ _⟩)
theorem gp_appendC {call : Caller} {base : Nat} {Q : EX × St → Prop} {d : Option Nat} {L : List IOper} {ks : List Kont} {e : Env} {h : Heap} {lo b m kk : Nat} {v x y : AV} {k : IntKind} {l l2 : List Int} (hv : v = x ∨ v = capped x) (hkk : kk = h.length) (hx : Own lo h x k l) (hlo : lo ≤ h.length) (hy : cellsOfSlice h y = some (none, m, l2.map (.int k))) (hm : m = l2.length) (hm0 : 0 < m) (hr : (l.length + m) * b ≤ 1099511627776)
  (H : ∀ x' h', Own lo h' x' k (l ++ l2) → (∀ j, j < lo → getH h' j = getH h j) → h.length ≤ h'.length → (∀ j, j < h.length → keyOf x ≠ some j → getH h' j = getH h j) → (∀ j, keyOf x' = some j → keyOf x = some j ∨ j = h.length) → GO call base Q L ks ⟨setDst e d x', h'⟩) :
  GP call base Q d L ks e (evAppend kk none b v y h) := by
 rcases hv with rfl | rfl
 ·exact gp_append hkk hx hlo hy hm hm0 hr H
 ·exact gp_append_capped hkk hx hlo hy hm hm0 hr fun x' h' h1 h2 h3 h4 => H x' h' h1 (fun j hj => h2 j (by omega)) h3 (fun j hj _ => h2 j hj) (fun j hj => .inr (by rw [h4] at hj; exact (Option.some.inj hj).symm))
theorem getH_new (h : Heap) (n k : Nat) : getH (h ++ List.replicate n .none) (h.length + k) = .none := by
 rw [getH_append_none]
 exact getH_ge _ _ (by omega)
def PPl (N s n : Nat) (h : Heap) (v : AV) (h' : Heap) : Prop := ∃ x, Own h.length h' x .i64 (natI (plc N s n)) ∧ (v = x ∨ v = capped x)
set_option maxHeartbeats 2000000 in
theorem g_places (N s n : Nat) (h1 : 1 ≤ N) (h2 : N ≤ 2400) (h3 : s ≤ N) (h4 : 1 ≤ n) (h5 : n ≤ 60) : ∀ m, 1 ≤ m → ∀ (h : Heap) (V : AV × Heap → Prop), (∀ v h', PPl N s n h v h' → V (v, h')) →
  G (evCall T m) h.length (Fin c65.results V) c65.body [] ⟨[.int .i64 N, .int .i64 s, .int .i64 n], h ++ List.replicate c65.ntmps .none⟩ := by
 intro m hm h0 V hV
 obtain ⟨m, rfl⟩ : ∃ m', m = m' + 1 := ⟨m - 1, by omega⟩
 have hnew := getH_new h0 42 42
 simp (disch := first | assumption | omega) only [c65, go_sem, ↓reduceIte, m_next, hnew, next_none]
 refine m_loop (fun M st => ∃ (i : Nat) (ks : List Int) (vs : List AV) (bs : List Nat) (clock : Nat), M = n - i ∧ i ≤ n ∧ InP N s i ks vs bs clock ∧ At st.env [(0, .int .i64 N), (1, .int .i64 s), (7, .omap (h0.length + 42) 0), (12, .int .i64 n), (13, .int .i64 i)] ∧ getH st.heap (h0.length + 42) = .map 0 clock (kz ks) vs bs ∧ h0.length + 43 ≤ st.heap.length) n (by omega)
  ⟨0, [], [], [], 0, by omega, by omega, ⟨by simp, by simp, rfl, rfl, by simp, by simp, by omega, by simp⟩, by simp only [go_sem, ↓reduceIte], by simp only [go_sem, ↓reduceIte]; rfl, by simp only [length_setH, List.length_append, List.length_replicate]; omega⟩ ?_
 rintro M e h hM ⟨i, ks, vs, bs, clock, rfl, hi, hin, hE, g42, hl⟩ P hP
 simp only [At_cons, At_nil] at hE g42 hl
 obtain ⟨f0, f1, f7, f12, f13, -⟩ := hE
 by_cases hlt : i < n
 ·have hm1 : i * s ≤ 60 * 2400 := Nat.mul_le_mul (by omega) (by omega)
  have hms : ((i : Int) * (s : Int)) = ((i * s : Nat) : Int) := by simp
  by_cases hx : ((i * s % N : Nat) : Int) ∈ ks
  ·have hmu : muA (some 1) h (.agg [.int .i64 ((i * s % N : Nat) : Int)]) (.int .i64 i) (.omap (h0.length + 42) 0) = .ret (.undef, setH h (h0.length + 42) (.map 0 clock (kz ks) (vs.set (ks.idxOf ((i * s % N : Nat) : Int)) (.int .i64 i)) bs)) := by
    simp only [muA, g42, findK_kz, if_pos hx, keyOk_one]
    rw [if_pos ⟨trivial, trivial⟩]
    simp only [Nat.zero_add, kz_set _ _ hx]
   simp (disch := first | assumption | omega) only [go_sem, ↓reduceIte, m_next, f0, f1, f7, f12, f13, hlt, hms, b_rem, hmu]
   exact hP (n - (i + 1)) _ (by omega) ⟨i + 1, ks, _, bs, clock, rfl, by omega, hin.old hx (ks.idxOf ((i * s % N : Nat) : Int)) (.int .i64 i), by simp only [go_sem, ↓reduceIte, f0, f1, f7, f12], by simp only [go_sem, ↓reduceIte], by simp only [length_setH]; omega⟩
  ·have hmu : muA (some 1) h (.agg [.int .i64 ((i * s % N : Nat) : Int)]) (.int .i64 i) (.omap (h0.length + 42) 0) = .ret (.undef, setH h (h0.length + 42) (.map 0 (clock + 1) (kz (ks ++ [((i * s % N : Nat) : Int)])) (vs ++ [.int .i64 i]) (bs ++ [clock]))) := by
    simp only [muA, g42, findK_kz, if_neg hx, keyOk_one]
    rw [if_pos ⟨trivial, trivial⟩]
    simp only [kz, List.map_append, List.map_cons, List.map_nil]
   simp (disch := first | assumption | omega) only [go_sem, ↓reduceIte, m_next, f0, f1, f7, f12, f13, hlt, hms, b_rem, hmu]
   exact hP (n - (i + 1)) _ (by omega) ⟨i + 1, _, _, _, clock + 1, rfl, by omega, hin.new hx (.int .i64 i), by simp only [go_sem, ↓reduceIte, f0, f1, f7, f12], by simp only [go_sem, ↓reduceIte], by simp only [length_setH]; omega⟩
 obtain rfl : i = n := by omega
 obtain ⟨r, rfl⟩ := hin.hd (by omega)
 have hlv := hin.lv
 have hlb := hin.lb
 cases vs with
 | nil => simp at hlv
 | cons v0 vr =>
 cases bs with
 | nil => simp at hlb
 | cons b0 br =>
 obtain ⟨E, rfl, rfl, rfl⟩ := zip3 r vr br (by simpa using hlv) (by simpa using hlb)
 have hdl : dlA (some 1) h (.agg [.int .i64 0]) (.omap (h0.length + 42) 0) = .ret (.undef, setH h (h0.length + 42) (.map 0 clock (kz (E.map (·.1))) (E.map (·.2.1)) (E.map (·.2.2)))) := by
  simp only [dlA, g42, findK_kz, keyOk_one]
  rw [if_pos ⟨trivial, trivial⟩]
  simp only [List.mem_cons, true_or, if_true, List.idxOf_cons_self, kz, List.map_cons, List.eraseIdx_zero, List.tail_cons, Nat.add_zero]
 have hbn : (E.map (·.2.2)).Nodup := (List.nodup_cons.1 hin.bn).2
 have hbc : ∀ t ∈ E, t.2.2 < clock := fun t ht => hin.bc _ (List.mem_cons_of_mem _ (List.mem_map_of_mem (f := fun t : Int × AV × Nat => t.2.2) ht))
 have hkn : (E.map (·.1)).Nodup := (List.nodup_cons.1 hin.nd).2
 have hk0 : (0 : Int) ∉ E.map (·.1) := (List.nodup_cons.1 hin.nd).1
 have hEl : E.length ≤ 60 := by have := hin.len; simp at this; omega
 have hmemE : ∀ p : Int, p ∈ (0 : Int) :: E.map (·.1) ↔ ∃ j, j < i ∧ ((j * s % N : Nat) : Int) = p := hin.mem
 clear hin hlv hlb
 have l42 : ∀ c : AObj, (setH h (h0.length + 42) c).length = h.length := fun c => by rw [length_setH]; omega
 generalize hA : setH h (h0.length + 42) (.map 0 clock (kz (E.map (·.1))) (E.map (·.2.1)) (E.map (·.2.2))) = h1A at hdl
 have a42 : getH h1A (h0.length + 42) = .map 0 clock (kz (E.map (·.1))) (E.map (·.2.1)) (E.map (·.2.2)) := by rw [← hA]; exact getH_setH_self _ _ _
 have aL : h0.length + 43 ≤ h1A.length := by rw [← hA, l42]; exact hl
 clear hA g42 hl l42
 have aK : getH h1A h1A.length = .none := getH_ge _ _ (Nat.le_refl _)
 generalize hK : h1A.length = K at *
 have l27 : ∀ c : AObj, (setH h1A K c).length = K + 1 := fun c => by rw [length_setH]; omega
 have b42 : ∀ c : AObj, getH (setH h1A K c) (h0.length + 42) = .map 0 clock (kz (E.map (·.1))) (E.map (·.2.1)) (E.map (·.2.2)) := fun c => by rw [getH_setH_ne _ _ _ _ (by omega), a42]
 have bN : ∀ c : AObj, getH (setH h1A K c) (K + 1) = .none := fun c => getH_ge _ _ (by rw [l27]; omega)
 have hrg : ∀ c : AObj, rgA (setH h1A K c) (.omap (h0.length + 42) 0) = .ret (.iter (K + 1) 0, setH (setH h1A K c) (K + 1) (.iter 0 (h0.length + 42) 0 clock [] clock)) := fun c => by
  simp only [rgA, b42, l27, bN, next_none, if_true]
 have n10 : ¬ K + 1 = h0.length + 10 := by omega
 have n42 : ¬ K + 1 = h0.length + 42 := by omega
 have k42 : ¬ K = h0.length + 42 := by omega
 have nK : ¬ K + 1 = K := by omega
 have m10 : ¬ h0.length + 10 = K + 1 := by omega
 simp (disch := first | assumption | omega) only [go_sem, ↓reduceIte, m_next, f0, f1, f7, f12, f13, hlt, hdl, aK, next_none, hK, hrg]
 refine m_loop (fun M st => ∃ (done : List (Int × AV × Nat)) (v x : AV), M = (E.filter fun t => !(done.map (fun t : Int × AV × Nat => t.2.2)).contains t.2.2).length ∧ (∀ t ∈ done, t ∈ E) ∧ ((0 : Int) :: done.map (fun t : Int × AV × Nat => t.1)).Nodup ∧ done.length ≤ 60 ∧
   At st.env [(9, v), (29, .iter (K + 1) 0)] ∧ getH st.heap (h0.length + 42) = .map 0 clock (kz (E.map (·.1))) (E.map (·.2.1)) (E.map (·.2.2)) ∧ getH st.heap (K + 1) = .iter 0 (h0.length + 42) 0 clock (done.map (fun t : Int × AV × Nat => t.2.2)) clock ∧ Own (h0.length + 43) st.heap x .i64 (0 :: done.map (fun t : Int × AV × Nat => t.1)) ∧ (v = x ∨ v = capped x) ∧ keyOf x ≠ some (K + 1) ∧ K + 1 < st.heap.length) E.length (by omega)
   ⟨[], .oslice K 0 none 0 1 (some 1), .oslice K 0 none 0 1 none, by rw [List.filter_eq_self.2 (by simp)], by simp, by simp, by simp, by simp only [go_sem, ↓reduceIte], ?_, by simp only [go_sem, ↓reduceIte], .inr ⟨K, 0, by omega, rfl, ?_⟩, .inr rfl, by simp [keyOf], by simp only [length_setH]; omega⟩ ?_
 ·simp only [go_sem, ↓reduceIte, n42, k42]; exact a42
 ·simp only [go_sem, ↓reduceIte, nK]
 rintro M e2 h' hM ⟨done, v, x, rfl, hsub, hnd, hdl60, hE, g42, gI, hO, hvx, hko, hlen⟩ P2 hP2
 simp only [At_cons, At_nil] at hE g42 gI hO hlen
 obtain ⟨f9, f29, -⟩ := hE
 simp (disch := first | assumption | omega) only [go_sem, ↓reduceIte, m_next, f29]
 refine gp_nextM gI g42 hbc (fun hall => ?_) (fun t ht hnt => ?_)
 ·have hmem : ∀ a : Int, a ∈ (0 : Int) :: done.map (fun t : Int × AV × Nat => t.1) ↔ a ∈ (0 : Int) :: E.map (·.1) := fun a => by
   rw [List.mem_cons, List.mem_cons]
   refine or_congr_right ?_
   constructor
   ·intro ha
    obtain ⟨t, ht, rfl⟩ := List.mem_map.1 ha
    exact List.mem_map_of_mem (f := fun t : Int × AV × Nat => t.1) (hsub t ht)
   ·intro ha
    obtain ⟨t, ht, rfl⟩ := List.mem_map.1 ha
    obtain ⟨u, hu, e2⟩ := List.mem_map.1 (hall t ht)
    have : u = t := born_inj hbn (hsub u hu) ht e2
    exact List.mem_map_of_mem (f := fun t : Int × AV × Nat => t.1) (this ▸ hu)
  simp (disch := first | assumption | omega) only [go_sem, ↓reduceIte, m_next, f9, f29]
  refine gp_sortC t126 hO hvx (by simp) (by simp; omega) fun h2 hz => ?_
  simp (disch := first | assumption | omega) only [go_sem, ↓reduceIte, m_next, f9, f29]
  rw [isort_plc (n := i) (by omega) hnd (fun p => (hmem p).trans (hmemE p))] at hz
  exact hV _ _ ⟨x, Own.low hz (by omega), hvx⟩
 ·have hen : enA (setH h' (K + 1) (.iter 0 (h0.length + 42) 0 clock (done.map (fun t : Int × AV × Nat => t.2.2) ++ [t.2.2]) clock)) (.iter (K + 1) 0) = .ret (.tuple [.agg [.int .i64 t.1], t.2.1]) :=
   enA_mE (E := E) (mk := h0.length + 42) (mv := 0) (clock := clock) (since := clock) (seen := done.map (fun t : Int × AV × Nat => t.2.2)) (getH_setH_self _ _ _) (by rw [getH_setH_ne _ _ _ _ n42]; exact g42) hbn ht
  have hte : t.1 ∉ done.map (fun t : Int × AV × Nat => t.1) := fun hm => by
   obtain ⟨u, hu, e1⟩ := List.mem_map.1 hm
   have : u = t := key_inj hkn (hsub u hu) ht e1
   exact hnt (List.mem_map_of_mem (f := fun t : Int × AV × Nat => t.2.2) (this ▸ hu))
  have ht0 : t.1 ≠ 0 := fun h0 => hk0 (h0 ▸ List.mem_map_of_mem (f := fun t : Int × AV × Nat => t.1) ht)
  have hml : (E.filter fun u => !((done ++ [t]).map (fun t : Int × AV × Nat => t.2.2)).contains u.2.2).length < (E.filter fun u => !(done.map (fun t : Int × AV × Nat => t.2.2)).contains u.2.2).length := by
   refine filter_lt _ _ (fun u hu => ?_) t ?_ ?_ E ht
   ·simp at hu ⊢
    exact hu.1
   ·simpa using hnt
   ·simp
  have hdl' : done.length + 1 ≤ 60 := by
   have h1 := List.Nodup.length_le_of_subset (l₁ := (done ++ [t]).map (fun t : Int × AV × Nat => t.1)) (l₂ := E.map (·.1)) (by
    rw [List.map_append, List.nodup_append]
    refine ⟨(List.nodup_cons.1 hnd).2, by simp, fun a ha b hb => ?_⟩
    obtain rfl : b = t.1 := by simpa using hb
    exact fun e => hte (e ▸ ha)) (fun a ha => by
    obtain ⟨u, hu, rfl⟩ := List.mem_map.1 ha
    rcases List.mem_append.1 hu with hu | hu
    ·exact List.mem_map_of_mem (f := fun t : Int × AV × Nat => t.1) (hsub u hu)
    ·obtain rfl : u = t := by simpa using hu
     exact List.mem_map_of_mem (f := fun t : Int × AV × Nat => t.1) ht)
   simp at h1
   omega
  have hl' : ∀ a : AObj, (setH h' (K + 1) a).length = h'.length := fun a => by rw [length_setH]; omega
  have hO1 : ∀ a : AObj, Own (h0.length + 43) (setH h' (K + 1) a) x .i64 (0 :: done.map (fun t : Int × AV × Nat => t.1)) := fun a => hO.other fun j hj => getH_setH_ne _ _ _ _ (fun h => hko (h ▸ hj))
  have g42' : ∀ a : AObj, getH (setH h' (K + 1) a) (h0.length + 42) = .map 0 clock (kz (E.map (·.1))) (E.map (·.2.1)) (E.map (·.2.2)) := fun a => by rw [getH_setH_ne _ _ _ _ n42]; exact g42
  have gI' : ∀ a : AObj, getH (setH h' (K + 1) a) (K + 1) = a := fun a => getH_setH_self _ _ _
  generalize hit : AObj.iter 0 (h0.length + 42) 0 clock (done.map (fun t : Int × AV × Nat => t.2.2) ++ [t.2.2]) clock = it at *
  replace hl' := hl' it
  replace hO1 := hO1 it
  replace g42' := g42' it
  replace gI' := gI' it
  generalize setH h' (K + 1) it = hh at *
  clear g42 gI hO
  have mL : ¬ h0.length + 10 = hh.length := by omega
  have lL : getH hh hh.length = .none := getH_ge _ _ (Nat.le_refl _)
  simp (disch := first | assumption | omega) only [go_sem, ↓reduceIte, m_next, f9, f29, hen, n10, n42, m10, mL, lL, next_none]
  have hO2 : ∀ a b c : AObj, Own (h0.length + 43) (setH (setH (setH hh (h0.length + 10) a) (h0.length + 10) b) hh.length c) x .i64 (0 :: done.map (fun t : Int × AV × Nat => t.1)) := fun a b c => by
   refine ((hO1.setH (by omega)).setH (by omega)).other fun j hj => getH_setH_ne _ _ _ _ (fun h => ?_)
   rcases hO1 with ⟨_, rfl⟩ | ⟨key, ver, hk, rfl, hH⟩
   ·simp [keyOf] at hj
   ·have := getH_lt hH (by simp)
    simp [keyOf] at hj
    omega
  have hcs : ∀ a b : AObj, cellsOfSlice (setH (setH (setH hh (h0.length + 10) a) (h0.length + 10) b) hh.length (.cells 0 [.int .i64 t.1])) (.oslice hh.length 0 none 0 1 (some 1)) = some (none, 1, [t.1].map (.int .i64)) := fun a b => by
   simp only [cellsOfSlice, getH_setH_self]
   rfl
  have h3l : ∀ a b c : AObj, (setH (setH (setH hh (h0.length + 10) a) (h0.length + 10) b) hh.length c).length = hh.length + 1 := fun a b c => by
   simp only [length_setH]; omega
  refine gp_appendC (l2 := [t.1]) hvx (by rw [h3l]; omega) (hO2 _ _ _) (by rw [h3l]; omega) (hcs _ _) rfl (by omega) (by simp; omega) fun x' h2 hO' hF hL hF2 hF3 => ?_
  rw [h3l] at hF3 hL
  simp (disch := first | assumption | omega) only [go_sem, ↓reduceIte, m_next, f9, f29]
  refine hP2 _ _ hml ⟨done ++ [t], x', x', rfl, ?_, ?_, by simp; omega, by simp only [go_sem, ↓reduceIte, f29], ?_, ?_, by simpa using hO', .inl rfl, ?_, ?_⟩
  ·intro u hu
   rcases List.mem_append.1 hu with hu | hu
   ·exact hsub u hu
   ·obtain rfl : u = t := by simpa using hu
    exact ht
  ·rw [List.map_append, ← List.cons_append, List.nodup_append]
   refine ⟨hnd, by simp, fun a ha b hb => ?_⟩
   obtain rfl : b = t.1 := by simpa using hb
   rcases List.mem_cons.1 ha with rfl | ha
   ·exact Ne.symm ht0
   ·exact fun e => hte (e ▸ ha)
  ·have : ¬ hh.length = h0.length + 42 := by omega
   rw [hF (h0.length + 42) (by omega)]
   simp only [go_sem, ↓reduceIte, this]; exact g42'
  ·have : ¬ hh.length = K + 1 := by omega
   rw [hF2 (K + 1) (by rw [h3l]; omega) hko]
   simp only [go_sem, ↓reduceIte, m10, this, gI', ← hit, List.map_append, List.map_cons, List.map_nil]
  ·intro hx
   rcases hF3 _ hx with hx | hx
   ·exact hko hx
   ·omega
  ·show K + 1 < h2.length
   omega
theorem con_places (N s n : Nat) (h1 : 1 ≤ N) (h2 : N ≤ 2400) (h3 : s ≤ N) (h4 : 1 ≤ n) (h5 : n ≤ 60) : Con T 2 65 [.int .i64 N, .int .i64 s, .int .i64 n] (longsV (natI (plc N s n))) :=
 con_raw t65 (g_places N s n h1 h2 h3 h4 h5) fun v h' ⟨x, hx, hv⟩ => frz_OwnC hx hv
end Go.Ev.YtgehhippjhealaaGreatC
set_option linter.unusedSimpArgs false
set_option linter.unusedVariables false
namespace Go.Ev.YtgehhippjhealaaGreatC
open Go Go.Proofs
attribute [local irreducible] Res.all evC evLoop evOps evOper evOp evFn evCall freeze G GO GV GP GC R
set_option maxRecDepth 100000
theorem con_withinT1 (x lo hi : Int) : Con T 1 183 ([] ++ [.int .i64 x] ++ [.ptr [.int .i64 lo] 0, .ptr [.int .i64 hi] 0]) (.bool (decide (x < lo) || decide (x > hi))) := by
 refine con_intro t183 fun n hn V hV => ?_
 by_cases g1 : x < lo
 ·simp (disch := first | assumption | omega) only [c183, go_sem, ↓reduceIte, g1, List.cons_append]
  refine hV _ _ ?_
  simp [g1, frz_bool]
 ·simp (disch := first | assumption | omega) only [c183, go_sem, ↓reduceIte, g1, List.cons_append]
  refine hV _ _ ?_
  simp [g1, frz_bool]
theorem con_withinT (lo hi : Int) (xs : List Int) (hl : xs.length ≤ 1000) : Con T 4 125 [.int .i64 lo, .int .i64 hi, intsQ xs] (.bool (withinQ lo hi xs)) := by
 refine con_intro t125 fun n hn V hV => ?_
 simp (disch := first | assumption | omega) only [c125, go_sem, ↓reduceIte]
 refine gp_con (con_conFQ (p := fun x => decide (x < lo) || decide (x > hi)) xs hl (fun x _ => con_withinT1 x lo hi) (fun h x => ?_) (fun h => ?_)) hn (fz_slice _ _ _ _ (fz_cons (frz_clo (mz_nil _ _) (mz_cons (frz_optr (cs := [.int .i64 lo]) (by simp [go_sem, ↓reduceIte]) (mz_cons (frz_int _ _ _ _) (mz_nil _ _))) (mz_cons (frz_optr (cs := [.int .i64 hi]) (by simp [go_sem, ↓reduceIte]) (mz_cons (frz_int _ _ _ _) (mz_nil _ _))) (mz_nil _ _)))) (fz_nil _))) (or_pb _ _) ?_
 ·exact fz_int _ _ _ (fz_cons (frz_ptr _ _ _ _) (fz_cons (frz_ptr _ _ _ _) (fz_nil _)))
 ·exact frz_clo (mz_nil _ _) (mz_cons (frz_ptr _ _ _ _) (mz_cons (frz_ptr _ _ _ _) (mz_nil _ _)))
 simp (disch := first | assumption | omega) only [go_sem, ↓reduceIte]
 exact hV _ _ (frz_bool _ _ _)
section
variable {n base : Nat} {Q : EX × St → Prop} {d : Option Nat} {L : List IOper} {ks : List Kont} {e : Env} {h : Heap}
theorem cs_withinT {lo hi : Int} {xs : List Int} {x : Bool} (hn : 4 ≤ n) (hl : xs.length ≤ 1000) :
  GP (evCall T n) base Q d L ks e (evCall T n false (.fn 125) [.int .i64 lo, .int .i64 hi, .slice none (xs.map (.int .i64)) x] h) = GO (evCall T n) base Q L ks ⟨setDst e d (.bool (withinQ lo hi xs)), h⟩ :=
 gp_eq (con_withinT lo hi xs hl) hn (by repeat (first | exact fz_nil _ | refine fz_slice _ _ _ _ ?_ | refine fz_int _ _ _ ?_)) rfl
theorem cs_withinT1 {lo hi a : Int} {x : Bool} (hn : 4 ≤ n) :
  GP (evCall T n) base Q d L ks e (evCall T n false (.fn 125) [.int .i64 lo, .int .i64 hi, .slice none [.int .i64 a] x] h) = GO (evCall T n) base Q L ks ⟨setDst e d (.bool (!(decide (a < lo) || decide (a > hi)))), h⟩ := by
 have := cs_withinT (base := base) (Q := Q) (d := d) (L := L) (ks := ks) (e := e) (h := h) (lo := lo) (hi := hi) (xs := [a]) (x := x) hn (by simp)
 rw [show withinQ lo hi [a] = (!(decide (a < lo) || decide (a > hi))) by simp [withinQ]] at this
 exact this
end
theorem con_chainV (N s n : Nat) (h1 : 1 ≤ N) (h2 : N ≤ 2400) (h3 : s ≤ N) (h4 : 1 ≤ n) (h5 : n ≤ 60) : Con T 5 64 [.int .i64 N, .int .i64 s, .int .i64 n] (.int .i64 0) := by
 refine con_intro t64 fun m hm V hV => ?_
 have d1 : decide ((N : Int) < 1) = false := decide_eq_false (by omega)
 have d2 : decide ((N : Int) > 2400) = false := decide_eq_false (by omega)
 have d3 : decide ((s : Int) < 0) = false := decide_eq_false (by omega)
 have d4 : decide ((s : Int) > (N : Int)) = false := decide_eq_false (by omega)
 have d4b : decide (N < s) = false := decide_eq_false (by omega)
 have d5 : decide ((n : Int) < 1) = false := decide_eq_false (by omega)
 have d6 : decide ((n : Int) > 60) = false := decide_eq_false (by omega)
 simp (disch := first | assumption | omega) only [c64, go_sem, ↓reduceIte, cs_withinT1, d1, d2, d3, d4, d4b, d5, d6, Bool.or_self, Bool.not_false, Bool.not_true, Bool.false_eq_true]
 exact hV _ _ (frz_int _ _ _ _)
theorem con_PlacesV (N s n : Nat) (h1 : 1 ≤ N) (h2 : N ≤ 2400) (h3 : s ≤ N) (h4 : 1 ≤ n) (h5 : n ≤ 60) : Con T 6 24 [.int .i64 N, .int .i64 s, .int .i64 n] (.tuple [longsV (natI (plc N s n)), .int .i64 0]) := by
 refine con_intro t24 fun m hm V hV => ?_
 have cs1 : ∀ {base : Nat} {Q : EX × St → Prop} {d : Option Nat} {L : List IOper} {ks : List Kont} {e : Env} {h : Heap}, GP (evCall T m) base Q d L ks e (evCall T m false (.fn 64) [.int .i64 N, .int .i64 s, .int .i64 n] h) = GO (evCall T m) base Q L ks ⟨setDst e d (.int .i64 0), h⟩ :=
  gp_eq (con_chainV N s n h1 h2 h3 h4 h5) (by omega) (by repeat (first | exact fz_nil _ | refine fz_slice _ _ _ _ ?_ | refine fz_int _ _ _ ?_)) rfl
 have cs2 : ∀ {base : Nat} {Q : EX × St → Prop} {d : Option Nat} {L : List IOper} {ks : List Kont} {e : Env} {h : Heap}, GP (evCall T m) base Q d L ks e (evCall T m false (.fn 65) [.int .i64 N, .int .i64 s, .int .i64 n] h) = GO (evCall T m) base Q L ks ⟨setDst e d (longsV (natI (plc N s n))), h⟩ :=
  gp_eq (con_places N s n h1 h2 h3 h4 h5) (by omega) (by repeat (first | exact fz_nil _ | refine fz_slice _ _ _ _ ?_ | refine fz_int _ _ _ ?_)) rfl
 have e0 : ((0 : Int) != 0) = false := rfl
 simp (disch := first | assumption | omega) only [c24, go_sem, ↓reduceIte, cs1, cs2, e0, Bool.false_eq_true]
 exact hV _ _ (by repeat (first | exact mz_nil _ _ | exact frz_int _ _ _ _ | exact frz_bool _ _ _ | exact frz_slice _ _ _ _ _ | exact frz_ptr _ _ _ _ | exact frz_nilptr _ _ | refine mz_cons ?_ ?_ | refine frz_agg ?_ | refine frz_two ?_ ?_ | refine frz_three ?_ ?_ ?_))
end Go.Ev.YtgehhippjhealaaGreatC
set_option linter.unusedSimpArgs false
set_option linter.unusedVariables false
namespace Go.Ev.YtgehhippjhealaaGreatC
open Go
section
variable {g st sn R q i : Nat}
theorem hit_iff (i p : Nat) : i * (g * sn) % (g * st) = p ↔ p = g * (i * sn % st) := by
 rw [show i * (g * sn) = g * (i * sn) by rw [Nat.mul_left_comm], Nat.mul_mod_mul_left]
 exact eq_comm
theorem hit_first (hR : R * sn % st = 1 % st) (hq : q < st) : q * R % st * sn % st = q := by
 rw [Nat.mod_mul_mod, Nat.mul_assoc, Nat.mul_mod, hR, ← Nat.mul_mod, Nat.mul_one, Nat.mod_eq_of_lt hq]
theorem hit_only (hR : R * sn % st = 1 % st) (hi : i * sn % st = q) : i % st = q * R % st := by
 rw [← hi, Nat.mod_mul_mod, Nat.mul_assoc, Nat.mul_comm sn R, Nat.mul_mod, hR, ← Nat.mul_mod, Nat.mul_one]
end
theorem mults_len (g : Nat) (hg : 0 < g) : ∀ st, ((List.range (g * st)).filter fun p => p % g == 0).length = st
 | 0 => by simp
 | st + 1 => by
  have ih := mults_len g hg st
  rw [Nat.mul_succ, List.range_add, List.filter_append, List.length_append, ih, List.filter_map, List.length_map]
  congr 1
  obtain ⟨k, rfl⟩ : ∃ k, g = k + 1 := ⟨g - 1, by omega⟩
  rw [List.range_succ_eq_map, List.filter_cons]
  have h0 : ((fun p => p % (k + 1) == 0) ∘ fun x => (k + 1) * st + x) 0 = true := by simp
  rw [if_pos h0, List.length_cons]
  have h1 : ((List.range k).map Nat.succ).filter ((fun p => p % (k + 1) == 0) ∘ fun x => (k + 1) * st + x) = [] := by
   rw [List.filter_eq_nil_iff]
   intro x hx
   obtain ⟨y, hy, rfl⟩ := List.mem_map.1 hx
   have hy := List.mem_range.1 hy
   simp only [Function.comp, Nat.mul_add_mod]
   rw [Nat.mod_eq_of_lt (by omega)]
   simp
  rw [h1]
  rfl
section
variable {g st sn R p : Nat} (hg : 0 < g) (hst : 0 < st) (hR : R * sn % st = 1 % st)
include hg hst hR
theorem cha_mem : p < g * st → (p ∈ plc (g * st) (g * sn) (g * st) ↔ p % g = 0) := by
 intro hp
 rw [mem_plc (Nat.mul_pos hg hst)]
 constructor
 ·rintro ⟨i, _, hi⟩
  rw [atC, hit_iff] at hi
  rw [hi, Nat.mul_mod_right]
 ·intro h0
  have hpg : p = g * (p / g) := (Nat.mul_div_cancel' (Nat.dvd_of_mod_eq_zero h0)).symm
  have hq : p / g < st := Nat.div_lt_of_lt_mul hp
  refine ⟨p / g * R % st, Nat.lt_of_lt_of_le (Nat.mod_lt _ hst) (Nat.le_mul_of_pos_left _ hg), ?_⟩
  rw [atC, hit_iff, hit_first hR hq]
  exact hpg
theorem cha_len : (plc (g * st) (g * sn) (g * st)).length = st := by
 have : plc (g * st) (g * sn) (g * st) = (List.range (g * st)).filter fun p => p % g == 0 := by
  apply List.filter_congr
  intro p hp
  have hp := List.mem_range.1 hp
  have h1 := cha_mem (p := p) hg hst hR hp
  have h2 : p ∈ plc (g * st) (g * sn) (g * st) ↔ isPl (g * st) (g * sn) (g * st) p = true := by
   simp [plc, List.mem_filter, hp]
  rw [h2] at h1
  by_cases h : p % g = 0
  ·rw [h1.2 h]; simp [h]
  ·have : ¬ isPl (g * st) (g * sn) (g * st) p = true := fun c => h (h1.1 c)
   simp [h, this]
 rw [this, mults_len g hg st]
theorem cha_has (hp : p < g * st) (h0 : p % g = 0) : p ∈ plc (g * st) (g * sn) (p / g * R % st + 1) := by
 have hpg : p = g * (p / g) := (Nat.mul_div_cancel' (Nat.dvd_of_mod_eq_zero h0)).symm
 have hq : p / g < st := Nat.div_lt_of_lt_mul hp
 refine (mem_plc (Nat.mul_pos hg hst)).2 ⟨p / g * R % st, by omega, ?_⟩
 rw [atC, hit_iff, hit_first hR hq]
 exact hpg
theorem cha_not (hp : p < g * st) (h0 : p % g = 0) : p ∉ plc (g * st) (g * sn) (p / g * R % st) := by
 have hpg : p = g * (p / g) := (Nat.mul_div_cancel' (Nat.dvd_of_mod_eq_zero h0)).symm
 have hq : p / g < st := Nat.div_lt_of_lt_mul hp
 intro hm
 obtain ⟨i, hi, he⟩ := (mem_plc (Nat.mul_pos hg hst)).1 hm
 rw [atC, hit_iff] at he
 have h1 : i * sn % st = p / g := by
  have := he
  rw [hpg] at this
  exact (Nat.eq_of_mul_eq_mul_left hg this).symm
 have h2 := hit_only hR h1
 have h3 : p / g * R % st < st := Nat.mod_lt _ hst
 rw [Nat.mod_eq_of_lt (by omega)] at h2
 omega
theorem cha_zero (hp : p < g * st) (h0 : p % g = 0) (hn : p / g * R % st = 0) : p = 0 := by
 have _ := hg
 have _ := hst
 have hpg : p = g * (p / g) := (Nat.mul_div_cancel' (Nat.dvd_of_mod_eq_zero h0)).symm
 have hq : p / g < st := Nat.div_lt_of_lt_mul hp
 have h1 := hit_first hR hq
 rw [hn, Nat.zero_mul, Nat.zero_mod] at h1
 rw [hpg, ← h1, Nat.mul_zero]
end
end Go.Ev.YtgehhippjhealaaGreatC
set_option linter.unusedSimpArgs false
set_option linter.unusedVariables false
namespace Go.Ev.YtgehhippjhealaaGreatC
open Go Go.Proofs
section
variable {s O p : Nat}
theorem cl_two (hs : 1 ≤ s) (hO : 1 ≤ O) : clE [(s, 0), (O, p)] = [] ↔ p % Nat.gcd s O = 0 := by
 have h1 : prs 2 = [(0, 1)] := by decide
 have h2 : enE [(s, 0), (O, p)] (prs 2) = [((0, 1), Nat.gcd s O, 0)] := by rw [h1]; rfl
 have h3 : clE [(s, 0), (O, p)] = (enE [(s, 0), (O, p)] (prs 2)).filter fun t => !calm [(s, 0), (O, p)] t := rfl
 rw [h3, h2]
 have h4 : calm [(s, 0), (O, p)] ((0, 1), Nat.gcd s O, 0) = decide (((0 : Int) - (p : Int)).tmod (Nat.gcd s O : Nat) = 0) := rfl
 rw [List.filter_cons, h4]
 have h5 : ((0 : Int) - (p : Int)).tmod (Nat.gcd s O : Nat) = -((p % Nat.gcd s O : Nat) : Int) := by
  rw [Int.zero_sub, Int.neg_tmod]; rfl
 rw [h5]
 by_cases h : p % Nat.gcd s O = 0
 ·simp [h]
 ·have : ¬ (-((p % Nat.gcd s O : Nat) : Int) = 0) := by omega
  rw [decide_eq_false this, Bool.not_false, if_pos rfl]
  simp only [h, iff_false]
  intro hc
  cases hc
theorem jn_zero (hs : 1 ≤ s) : jst (0, 1) (s, 0) = (0, s) := by
 have h1 : Nat.gcd 1 s = 1 := Nat.gcd_one_left s
 have h2 : jn 0 1 s 0 = 0 := by
  simp only [jn, h1]
  simp
 have h3 : jw 0 1 s 0 = 0 := by
  simp only [jw, h2, h1, Nat.div_one, Int.zero_add]
  rw [Int.tmod_self]; rfl
 simp only [jst, h3, h1, Nat.div_one]
 simp
theorem jw_two (hO : 1 ≤ O) : jw 0 s O p = p / Nat.gcd s O * invR (s / Nat.gcd s O) (O / Nat.gcd s O) % (O / Nat.gcd s O) := by
 have hg : 0 < Nat.gcd s O := Nat.gcd_pos_of_pos_right _ hO
 have hst : 0 < O / Nat.gcd s O := Nat.div_pos (Nat.le_of_dvd hO (Nat.gcd_dvd_right _ _)) hg
 have h1 : jn 0 s O p = ((p / Nat.gcd s O % (O / Nat.gcd s O) * invR (s / Nat.gcd s O) (O / Nat.gcd s O) % (O / Nat.gcd s O) : Nat) : Int) := by
  simp only [jn, Int.natCast_zero, Int.sub_zero]
  rfl
 have h2 : p / Nat.gcd s O % (O / Nat.gcd s O) * invR (s / Nat.gcd s O) (O / Nat.gcd s O) % (O / Nat.gcd s O) < O / Nat.gcd s O := Nat.mod_lt _ hst
 have h3 : jw 0 s O p = (p / Nat.gcd s O % (O / Nat.gcd s O) * invR (s / Nat.gcd s O) (O / Nat.gcd s O) % (O / Nat.gcd s O) + O / Nat.gcd s O) % (O / Nat.gcd s O) := by
  simp only [jw, h1]
  rfl
 rw [h3, Nat.add_mod_right, Nat.mod_mod, Nat.mod_mul_mod]
theorem jn_two (hs : 1 ≤ s) (hO : 1 ≤ O) : jnF [(s, 0), (O, p)] = (p / Nat.gcd s O * invR (s / Nat.gcd s O) (O / Nat.gcd s O) % (O / Nat.gcd s O) * s, s * (O / Nat.gcd s O)) := by
 show jst (jst (0, 1) (s, 0)) (O, p) = _
 rw [jn_zero hs]
 simp only [jst, jw_two hO, Nat.zero_add]
end
end Go.Ev.YtgehhippjhealaaGreatC
set_option linter.unusedSimpArgs false
set_option linter.unusedVariables false
namespace Go.Ev.YtgehhippjhealaaGreatC
open Go Go.Proofs
theorem invR_okI {n P : Nat} (hP : 0 < P) (hg : Nat.gcd n P = 1) : ∀ (y x : Nat) (a b : Int), InvI n P x y a b → invR n P * n % P = 1 % P := by
 intro y
 induction y using Nat.strongRecOn with
 | _ y ih =>
  intro x a b h
  by_cases h0 : y = 0
  ·subst h0
   exact (invI_end h hP hg).2.2
  ·exact ih (x % y) (Nat.mod_lt _ (by omega)) y b _ (invI_step h (by omega))
theorem invR_ok {n P : Nat} (hP : 0 < P) (hg : Nat.gcd n P = 1) : invR n P * n % P = 1 % P := invR_okI hP hg P _ 1 0 (invI_start n P hP)
theorem any_natI (L : List Nat) (p : Nat) : (natI L).any (fun x => x == (p : Int)) = decide (p ∈ L) := by
 rw [Bool.eq_iff_iff, List.any_eq_true, decide_eq_true_eq]
 constructor
 ·rintro ⟨x, hx, he⟩
  obtain ⟨y, hy, rfl⟩ := List.mem_map.1 hx
  have h1 : (y : Int) = (p : Int) := by simpa using he
  have : y = p := by omega
  exact this ▸ hy
 ·intro h
  exact ⟨(p : Int), List.mem_map.2 ⟨p, h, rfl⟩, by simp⟩
def noteC (O s p : Nat) : Nat := p / Nat.gcd s O * invR (s / Nat.gcd s O) (O / Nat.gcd s O) % (O / Nat.gcd s O)
structure ChaF (O s p : Nat) : Prop where
 st : 0 < O / Nat.gcd s O ∧ O / Nat.gcd s O ≤ O
 has : p ∈ plc O s O ↔ p % Nat.gcd s O = 0
 len : (plc O s O).length = O / Nat.gcd s O
 lt : noteC O s p < O / Nat.gcd s O
 at1 : p % Nat.gcd s O = 0 → p ∈ plc O s (noteC O s p + 1)
 at0 : p % Nat.gcd s O = 0 → p ∉ plc O s (noteC O s p)
 zero : p % Nat.gcd s O = 0 → noteC O s p = 0 → p = 0
theorem chaF {O s p : Nat} (hO : 1 ≤ O) (hp : p < O) : ChaF O s p := by
 have hg : 0 < Nat.gcd s O := Nat.gcd_pos_of_pos_right _ hO
 have hst : 0 < O / Nat.gcd s O := Nat.div_pos (Nat.le_of_dvd hO (Nat.gcd_dvd_right _ _)) hg
 have e1 : Nat.gcd s O * (O / Nat.gcd s O) = O := Nat.mul_div_cancel' (Nat.gcd_dvd_right _ _)
 have e2 : Nat.gcd s O * (s / Nat.gcd s O) = s := Nat.mul_div_cancel' (Nat.gcd_dvd_left _ _)
 have hc : Nat.gcd (s / Nat.gcd s O) (O / Nat.gcd s O) = 1 := Nat.gcd_div_gcd_div_gcd_of_pos_right hO
 have hR := invR_ok hst hc
 have hlt : noteC O s p < O / Nat.gcd s O := Nat.mod_lt _ hst
 have hp' : p < Nat.gcd s O * (O / Nat.gcd s O) := by rw [e1]; exact hp
 have c1 := cha_mem (p := p) hg hst hR hp'
 have c2 := cha_len hg hst hR
 have c3 := cha_has (p := p) hg hst hR hp'
 have c4 := cha_not (p := p) hg hst hR hp'
 have c5 := cha_zero (p := p) hg hst hR hp'
 rw [e1, e2] at c1 c2
 rw [e1, e2] at c3 c4
 exact ⟨⟨hst, Nat.div_le_self _ _⟩, c1, c2, hlt, c3, c4, c5⟩
end Go.Ev.YtgehhippjhealaaGreatC
set_option linter.unusedSimpArgs false
set_option linter.unusedVariables false
set_option maxRecDepth 100000
namespace Go.Ev.YtgehhippjhealaaGreatC
open Go.Proofs
def c5 : IFunc := ⟨140, [.tmp 6], .seq (.ops [dO 6 (.mv (cB false))]) (.seq (.ops [dO 16 (.mv (tM 0)), dO 17 (.conv .i64 (tM 16)), dO 18 (.bin .rem (tM 17) (cI 60)), dO 19 (.bin .add (cI 1) (tM 18)), dO 7 (.mv (tM 19))]) (.seq (.ops [dO 20 (.mv (tM 1)), dO 21 (.conv .i64 (tM 20)), dO 22 (.mv (tM 7)), dO 23 (.bin .rem (tM 21) (tM 22)), dO 24 (.bin .add (cI 1) (tM 23)), dO 25 (.mv (tM 2)), dO 26 (.conv .i64 (tM 25)), dO 27 (.mv (tM 7)), dO 28 (.bin .rem (tM 26) (tM 27)), dO 8 (.mv (tM 24)), dO 9 (.mv (tM 28))]) (.seq (.ops [dO 30 (.mv (tM 7)), dO 31 (.mv (tM 8)), dO 32 (.mv (tM 7)), dO 33 (.callF false 24 [tM 30, tM 31, tM 32]), dO 29 (.mv (tM 33)), dO 34 (.extract (tM 29) 0), dO 35 (.extract (tM 29) 1), dO 10 (.mv (tM 34)), dO 11 (.mv (tM 35))]) (.seq (.seq (.ops [dO 36 (.mv (tM 11)), dO 37 (.bin .neq (tM 36) (cI 0)), dO 38 (.mv (tM 37)), gO 39 (.mv (tM 10)) 38 false, gO 40 (.len (tM 39)) 38 false, gO 41 (.bin .lss (tM 40) (cI 1)) 38 false, dO 42 (.pick (tM 38) (cB true) (tM 41)), dO 43 (.mv (tM 42)), gO 44 (.mv (tM 10)) 43 false, gO 45 (.len (tM 44)) 43 false, gO 46 (.mv (tM 7)) 43 false, gO 47 (.bin .gtr (tM 45) (tM 46)) 43 false, dO 48 (.pick (tM 43) (cB true) (tM 47))]) (.cond (tM 48) (.seq (.ops [dO 6 (.mv (cB false))]) .ret) .skip)) (.seq (.ops [dO 50 (.mv (tM 8)), dO 51 (.build [.int .i64 0, .int .i64 0] [(0, (1, tM 50))]), dO 52 (.mv (tM 7)), dO 53 (.mv (tM 9)), dO 54 (.build [.int .i64 0, .int .i64 0] [(0, (1, tM 52)), (1, (1, tM 53))]), dO 55 (.buildSlice (some 2) [.int .i64 0, .int .i64 0, .int .i64 0, .int .i64 0] [(0, (2, tM 51)), (2, (2, tM 54))]), dO 56 (.callF false 25 [tM 55]), dO 49 (.mv (tM 56)), dO 57 (.extract (tM 49) 0), dO 58 (.extract (tM 49) 1), dO 59 (.extract (tM 49) 2), dO 12 (.mv (tM 57)), dO 13 (.mv (tM 58)), dO 11 (.mv (tM 59))]) (.seq (.seq (.ops [dO 60 (.mv (tM 11)), dO 61 (.bin .eql (tM 60) (cI 0)), dO 62 (.mv (tM 10)), dO 63 (.mv (tM 9)), dO 64 (.callF false 26 [tM 62, tM 63]), dO 65 (.eqB true (tM 61) (tM 64))]) (.cond (tM 65) (.seq (.ops [dO 6 (.mv (cB false))]) .ret) .skip)) (.seq (.seq (.ops [dO 66 (.mv (tM 11)), dO 67 (.bin .neq (tM 66) (cI 0))]) (.cond (tM 67) (.seq (.ops [dO 68 (.mv (tM 11)), dO 69 (.bin .eql (tM 68) (cI 21)), dO 70 (.mv (tM 69)), gO 71 (.callF false 27 []) 70 true, dO 72 (.pick (tM 70) (tM 71) (cB false)), dO 6 (.mv (tM 72))]) .ret) .skip)) (.seq (.seq (.ops [dO 73 (.mv (tM 12)), dO 74 (.bin .lss (tM 73) (cI 0)), dO 75 (.mv (tM 74)), gO 76 (.mv (tM 12)) 75 false, gO 77 (.mv (tM 8)) 75 false, gO 78 (.bin .rem (tM 76) (tM 77)) 75 false, gO 79 (.bin .neq (tM 78) (cI 0)) 75 false, dO 80 (.pick (tM 75) (cB true) (tM 79)), dO 81 (.mv (tM 80)), gO 82 (.mv (tM 12)) 81 false, gO 83 (.mv (tM 8)) 81 false, gO 84 (.bin .quo (tM 82) (tM 83)) 81 false, gO 85 (.mv (tM 7)) 81 false, gO 86 (.bin .geq (tM 84) (tM 85)) 81 false, dO 87 (.pick (tM 81) (cB true) (tM 86)), dO 88 (.mv (tM 87)), gO 89 (.mv (tM 13)) 88 false, gO 90 (.mv (tM 8)) 88 false, gO 91 (.mv (tM 10)) 88 false, gO 92 (.len (tM 91)) 88 false, gO 93 (.bin .mul (tM 90) (tM 92)) 88 false, gO 94 (.bin .neq (tM 89) (tM 93)) 88 false, dO 95 (.pick (tM 88) (cB true) (tM 94))]) (.cond (tM 95) (.seq (.ops [dO 6 (.mv (cB false))]) .ret) .skip)) (.seq (.ops [dO 96 (.mv (tM 12)), dO 97 (.mv (tM 8)), dO 98 (.bin .quo (tM 96) (tM 97)), dO 14 (.mv (tM 98))]) (.seq (.ops [dO 100 (.mv (tM 7)), dO 101 (.mv (tM 8)), dO 102 (.mv (tM 14)), dO 103 (.bin .add (tM 102) (cI 1)), dO 104 (.callF false 24 [tM 100, tM 101, tM 103]), dO 99 (.mv (tM 104)), dO 105 (.extract (tM 99) 0), dO 106 (.extract (tM 99) 1), dO 15 (.mv (tM 105)), dO 11 (.mv (tM 106))]) (.seq (.seq (.ops [dO 107 (.mv (tM 11)), dO 108 (.bin .neq (tM 107) (cI 0)), dO 109 (.mv (tM 108)), gO 110 (.mv (tM 15)) 109 false, gO 111 (.mv (tM 9)) 109 false, gO 112 (.callF false 26 [tM 110, tM 111]) 109 false, gO 113 (.un .not (tM 112)) 109 false, dO 114 (.pick (tM 109) (cB true) (tM 113))]) (.cond (tM 114) (.seq (.ops [dO 6 (.mv (cB false))]) .ret) .skip)) (.seq (.seq (.ops [dO 115 (.mv (tM 14)), dO 116 (.bin .eql (tM 115) (cI 0))]) (.cond (tM 116) (.seq (.ops [dO 117 (.mv (tM 9)), dO 118 (.bin .eql (tM 117) (cI 0)), dO 119 (.mv (tM 118)), gO 120 (.callF false 27 []) 119 true, dO 121 (.pick (tM 119) (tM 120) (cB false)), dO 6 (.mv (tM 121))]) .ret) .skip)) (.seq (.ops [dO 123 (.mv (tM 7)), dO 124 (.mv (tM 8)), dO 125 (.mv (tM 14)), dO 126 (.callF false 24 [tM 123, tM 124, tM 125]), dO 122 (.mv (tM 126)), dO 127 (.extract (tM 122) 0), dO 128 (.extract (tM 122) 1), dO 15 (.mv (tM 127)), dO 11 (.mv (tM 128))]) (.seq (.ops [dO 129 (.mv (tM 11)), dO 130 (.bin .eql (tM 129) (cI 0)), dO 131 (.mv (tM 130)), gO 132 (.mv (tM 15)) 131 true, gO 133 (.mv (tM 9)) 131 true, gO 134 (.callF false 26 [tM 132, tM 133]) 131 true, gO 135 (.un .not (tM 134)) 131 true, dO 136 (.pick (tM 131) (tM 135) (cB false)), dO 137 (.mv (tM 136)), gO 138 (.callF false 27 []) 137 true, dO 139 (.pick (tM 137) (tM 138) (cB false)), dO 6 (.mv (tM 139))]) .ret))))))))))))))⟩
theorem k5 : (cfgOf Tryz.prog byr).fns 5 = some c5 := by kernel_rfl
theorem t5 : T.fns 5 = some c5 := T_fns k5 (by decide) (by decide)
def c26 : IFunc := ⟨18, [.tmp 4], .seq (.ops [dO 4 (.mv (cB false))]) (.seq (.seq (.ops [dO 5 (.mv (cI 0))]) (.block 0 (.loop (.seq (.seq (.ops [dO 6 (.mv (tM 5)), dO 7 (.mv (tM 0)), dO 8 (.len (tM 7)), dO 9 (.bin .lss (tM 6) (tM 8))]) (.cond (tM 9) .skip (.exit 0))) (.seq (.block 1 (.seq (.ops [dO 12 (.mv (tM 0)), dO 13 (.mv (tM 5)), dO 14 (.indexAddr 1 (tM 12) (tM 13)), dO 15 (.load none (tM 14)), dO 16 (.mv (tM 1)), dO 17 (.bin .eql (tM 15) (tM 16))]) (.cond (tM 17) (.seq (.ops [dO 4 (.mv (cB true))]) .ret) .skip))) (.ops [dO 10 (.mv (tM 5)), dO 11 (.bin .add (tM 10) (cI 1)), dO 5 (.mv (tM 11))])))))) (.seq (.ops [dO 4 (.mv (cB false))]) .ret))⟩
theorem k26 : (cfgOf Tryz.prog byr).fns 26 = some c26 := by kernel_rfl
theorem t26 : T.fns 26 = some c26 := T_fns k26 (by decide) (by decide)
end Go.Ev.YtgehhippjhealaaGreatC
set_option linter.unusedSimpArgs false
set_option linter.unusedVariables false
namespace Go.Ev.YtgehhippjhealaaGreatC
open Go Go.Proofs
attribute [local irreducible] Res.all evC evLoop evOps evOper evOp evFn evCall freeze G GO GV GP GC R
set_option maxRecDepth 100000
theorem con_has07 (xs : List Int) (a : Int) (hl : xs.length ≤ 1000) : Con T 1 26 [longsV xs, .int .i64 a] (.bool (xs.any fun x => x == a)) := by
 refine con_intro t26 fun n hn V hV => ?_
 simp (disch := first | assumption | omega) only [c26, go_sem, ↓reduceIte]
 refine m_loop (fun M s => ∃ k : Nat, M = xs.length - k ∧ k ≤ xs.length ∧ At s.env [(0, longsV xs), (1, .int .i64 a), (5, .int .i64 k)] ∧ xs.any (fun x => x == a) = (xs.drop k).any fun x => x == a) xs.length (by omega) ⟨0, by simp, by omega, by simp [go_sem, ↓reduceIte], rfl⟩ ?_
 rintro M e h hM ⟨k, rfl, hk, hE, hA⟩ P hP
 simp only [At_cons, At_nil] at hE
 obtain ⟨h0, h1, h5, -⟩ := hE
 by_cases hlt : k < xs.length
 ·obtain ⟨y, hy⟩ := get_ex hlt
  rw [drop_cons hy, List.any_cons] at hA
  by_cases hp : (y == a) = true
  ·simp (disch := first | assumption | omega) only [go_sem, ↓reduceIte, h0, h1, h5, hlt, hy, hp, List.length_map]
   exact hV _ _ (by rw [frz_bool, hA, hp, Bool.true_or])
  ·have hp' : (y == a) = false := by simpa using hp
   simp (disch := first | assumption | omega) only [go_sem, ↓reduceIte, h0, h1, h5, hlt, hy, hp', Bool.false_eq_true, List.length_map]
   exact hP (xs.length - (k + 1)) _ (by omega) ⟨k + 1, rfl, by omega, by simp only [go_sem, ↓reduceIte, h0, h1], by rw [hA, hp', Bool.false_or]⟩
 ·simp (disch := first | assumption | omega) only [go_sem, ↓reduceIte, h0, h1, h5, hlt, List.length_map]
  exact hV _ _ (by rw [frz_bool, hA, List.drop_eq_nil_of_le (by omega)]; rfl)
theorem topChained_at (kw n : Nat) (hw : Con T kw 27 [] (.bool true)) (hn : kw ≤ n) (hn2 : 1100 ≤ n) (a b c : Nat) (ha : a ≤ 255) (hb : b ≤ 255) (hc : c ≤ 255) :
  (evFn (evCall T n) c5 [.int .u8 a, .int .u8 b, .int .u8 c] []).all fun p => p.1 = .bool true := by
 rw [m_fn]
 obtain ⟨O, hO⟩ : ∃ O, O = 1 + a % 60 := ⟨_, rfl⟩
 obtain ⟨s, hs⟩ : ∃ s, s = 1 + b % O := ⟨_, rfl⟩
 obtain ⟨p, hp⟩ : ∃ p, p = c % O := ⟨_, rfl⟩
 have hO1 : 1 ≤ O ∧ O ≤ 60 := by omega
 have hs1 : 1 ≤ s ∧ s ≤ O := by have := Nat.mod_lt b (show 0 < O by omega); omega
 have hp1 : p < O := by rw [hp]; exact Nat.mod_lt _ (by omega)
 have hF := chaF (s := s) hO1.1 hp1
 have r1 : (1 : Int) + (a : Int) % 60 = (O : Int) := by rw [hO]; simp
 have r2 : (1 : Int) + (b : Int) % (O : Int) = (s : Int) := by rw [hs]; simp
 have r3 : (c : Int) % (O : Int) = (p : Int) := by rw [hp]; simp
 have csW : ∀ {base : Nat} {Q : EX × St → Prop} {d : Option Nat} {L : List IOper} {ks : List Kont} {e : Env} {h : Heap}, GP (evCall T n) base Q d L ks e (evCall T n false (.fn 27) [] h) = GO (evCall T n) base Q L ks ⟨setDst e d (.bool true), h⟩ :=
  gp_eq hw hn (fz_nil _) rfl
 have csP : ∀ {base : Nat} {Q : EX × St → Prop} {d : Option Nat} {L : List IOper} {ks : List Kont} {e : Env} {h : Heap} {N s m : Nat}, 1 ≤ N → N ≤ 2400 → s ≤ N → 1 ≤ m → m ≤ 60 → GP (evCall T n) base Q d L ks e (evCall T n false (.fn 24) [.int .i64 N, .int .i64 s, .int .i64 m] h) = GO (evCall T n) base Q L ks ⟨setDst e d (.tuple [longsV (natI (plc N s m)), .int .i64 0]), h⟩ :=
  fun h1 h2 h3 h4 h5 => gp_eq (con_PlacesV _ _ _ h1 h2 h3 h4 h5) (by omega) (by repeat (first | exact fz_nil _ | refine fz_slice _ _ _ _ ?_ | refine fz_int _ _ _ ?_)) rfl
 have csP1 : ∀ {base : Nat} {Q : EX × St → Prop} {d : Option Nat} {L : List IOper} {ks : List Kont} {e : Env} {h : Heap}, _ := fun {base Q d L ks e h} => csP (base := base) (Q := Q) (d := d) (L := L) (ks := ks) (e := e) (h := h) (N := O) (s := s) (m := O) hO1.1 (by omega) hs1.2 hO1.1 hO1.2
 have hlen := hF.len
 have hst := hF.st
 have e0 : ((0 : Int) != 0) = false := rfl
 have d1 : decide (((O / Nat.gcd s O : Nat) : Int) < 1) = false := decide_eq_false (by omega)
 have d2 : decide (((O / Nat.gcd s O : Nat) : Int) > (O : Int)) = false := decide_eq_false (by omega)
 have w1 : IntKind.i64.wrap (a : Int) = a := wrap64 (by omega) (by omega)
 have w2 : IntKind.i64.wrap (b : Int) = b := wrap64 (by omega) (by omega)
 have w3 : IntKind.i64.wrap (c : Int) = c := wrap64 (by omega) (by omega)
 generalize hG : O / Nat.gcd s O = S at *
 simp (disch := first | assumption | omega) only [c5, go_sem, ↓reduceIte, w1, w2, w3, b_remI, r1, r2, r3, csP1, e0, Bool.false_eq_true, List.length_map, hlen, d1, d2, Bool.or_self]
 have d3 : decide (O < S) = false := decide_eq_false (by omega)
 rw [d3]
 simp only [Bool.false_eq_true, if_false]
 have hpv : PinsV [(s, 0), (O, p)] := ⟨by simp, by simp, fun q hq => by
  rcases List.mem_cons.1 hq with rfl | hq
  ·exact ⟨hs1.1, by simp only; omega, by simp only; omega⟩
  ·obtain rfl : q = (O, p) := by simpa using hq
   exact ⟨hO1.1, by simp only; omega, hp1⟩⟩
 have hcl := cl_two (s := s) (O := O) (p := p) hs1.1 hO1.1
 have hjn := jn_two (s := s) (O := O) (p := p) hs1.1 hO1.1
 refine gp_con (con_First _ hpv) (by omega) (fz_slice _ _ _ _ (fz_nil _)) (by
  unfold firstV
  split <;> exact Bool.or_true _) ?_
 have csH : ∀ {base : Nat} {Q : EX × St → Prop} {d : Option Nat} {L : List IOper} {ks : List Kont} {e : Env} {h : Heap} (m : Nat), GP (evCall T n) base Q d L ks e (evCall T n false (.fn 26) [longsV (natI (plc O s m)), .int .i64 (p : Int)] h) = GO (evCall T n) base Q L ks ⟨setDst e d (.bool (decide (p ∈ plc O s m))), h⟩ := fun m => by
  rw [← any_natI]
  exact gp_eq (con_has07 _ _ (by have := plc_len O s m; simp; omega)) (by omega) (by repeat (first | exact fz_nil _ | refine fz_slice _ _ _ _ ?_ | refine fz_int _ _ _ ?_)) rfl
 by_cases h0 : p % Nat.gcd s O = 0
 ·have hfv : firstV [(s, 0), (O, p)] = .tuple [.int .i64 ((noteC O s p * s : Nat) : Int), .int .i64 ((s * S : Nat) : Int), .int .i64 0] := by
   rw [firstV, if_pos (hcl.2 h0), hjn]
   simp only [noteC, hG]
  have hin : decide (p ∈ plc O s O) = true := decide_eq_true (hF.has.2 h0)
  rw [hfv]
  have e00 : ((0 : Int) == 0) = true := rfl
  have b00 : ((true == true) != true) = false := rfl
  have hlt := hF.lt
  have hat1 := hF.at1 h0
  have hat0 := hF.at0 h0
  have hz := hF.zero h0
  rw [hG] at hlt
  obtain ⟨N0, hN0⟩ : ∃ N0, N0 = noteC O s p := ⟨_, rfl⟩
  rw [← hN0] at hlt hat1 hat0 hz ⊢
  obtain ⟨F, hFd⟩ : ∃ F, F = N0 * s := ⟨_, rfl⟩
  obtain ⟨W, hWd⟩ : ∃ W, W = s * S := ⟨_, rfl⟩
  rw [← hFd, ← hWd]
  have f1 : decide ((F : Int) < 0) = false := decide_eq_false (by omega)
  have f2 : (F : Int) % (s : Int) = 0 := by rw [hFd]; simp
  have f3 : (F : Int) / (s : Int) = (N0 : Int) := by rw [hFd, Int.natCast_mul]; exact Int.mul_ediv_cancel _ (by omega)
  have f4 : decide ((N0 : Int) ≥ (O : Int)) = false := decide_eq_false (by omega)
  have f4b : decide (O ≤ N0) = false := decide_eq_false (by omega)
  have f5 : (s : Int) * (S : Int) = (W : Int) := by rw [hWd]; simp
  have hFb : F ≤ 3600 := by
   have h : N0 * s ≤ 60 * 60 := Nat.mul_le_mul (by omega) (by omega)
   omega
  have hWb : W ≤ 3600 := by
   have h : s * S ≤ 60 * 60 := Nat.mul_le_mul (by omega) (by omega)
   omega
  have f6 : ((W : Int) != (W : Int)) = false := by simp
  simp (disch := first | assumption | omega) only [go_sem, ↓reduceIte, csH O, hin, e00, e0, b00, Bool.false_eq_true, f1, b_remI, f2, b_quo, f3, f4, f4b, f5, f6, List.length_map, hlen]
  refine gp_con (con_PlacesV O s (N0 + 1) hO1.1 (by omega) hs1.2 (by omega) (by omega)) (by omega) (by repeat (first | exact fz_nil _ | refine fz_slice _ _ _ _ ?_ | refine fz_int _ _ _ ?_)) rfl ?_
  have hin1 : decide (p ∈ plc O s (N0 + 1)) = true := decide_eq_true hat1
  by_cases hN : N0 = 0
  ·have hp0 : p = 0 := hz hN
   have g1 : ((N0 : Int) == 0) = true := by simp [hN]
   have g2 : ((p : Int) == 0) = true := by simp [hp0]
   simp (disch := first | assumption | omega) only [go_sem, ↓reduceIte, csH (N0 + 1), hin1, e0, Bool.not_true, Bool.false_eq_true, g1, g2, csW]
  ·have g1 : ((N0 : Int) == 0) = false := by simpa using hN
   have hin0 : decide (p ∈ plc O s N0) = false := decide_eq_false hat0
   have csP2 : ∀ {base : Nat} {Q : EX × St → Prop} {d : Option Nat} {L : List IOper} {ks : List Kont} {e : Env} {h : Heap}, _ := fun {base Q d L ks e h} => csP (base := base) (Q := Q) (d := d) (L := L) (ks := ks) (e := e) (h := h) (N := O) (s := s) (m := N0) hO1.1 (by omega) hs1.2 (by omega) (by omega)
   simp (disch := first | assumption | omega) only [go_sem, ↓reduceIte, csH (N0 + 1), hin1, e0, Bool.not_true, Bool.not_false, Bool.false_eq_true, g1, csP2, csH N0, hin0, e00, csW]
 ·have hfv : firstV [(s, 0), (O, p)] = .tuple [.int .i64 0, .int .i64 0, .int .i64 21] := by
   rw [firstV, if_neg (fun h => h0 (hcl.1 h))]
  have hin : decide (p ∈ plc O s O) = false := decide_eq_false (fun h => h0 (hF.has.1 h))
  rw [hfv]
  have e21 : ((21 : Int) == 0) = false := rfl
  have e22 : ((21 : Int) != 0) = true := rfl
  have e23 : ((21 : Int) == 21) = true := rfl
  have b00 : ((false == false) != true) = false := rfl
  simp (disch := first | assumption | omega) only [go_sem, ↓reduceIte, csH O, hin, e21, e22, e23, b00, csW, Bool.false_eq_true]
end Go.Ev.YtgehhippjhealaaGreatC
