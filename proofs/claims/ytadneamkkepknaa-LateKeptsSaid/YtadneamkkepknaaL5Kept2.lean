/- The kept orders, as the program finds them, whole. Contracts; conditions stand in each. -/
import Derived.Test.YtadneamkkepknaaL5Kept
set_option linter.unusedSimpArgs false
set_option linter.unusedVariables false
namespace Go.Ev.YtadneamkkepknaaC
open Go Go.Proofs

attribute [local irreducible] Res.all evC evLoop evOps evOper evOp evFn evCall freeze G GO GV GP GC R
set_option maxRecDepth 100000

/-! ### a map of the kept orders -/
def rkV (rk : Int → Nat) (ks : List Int) : List AV := ks.map fun i => .int .i64 (rk i)
theorem zip_ent (rk : Int → Nat) : ∀ E : List (Int × Nat), (kz (E.map Prod.fst)).zip ((rkV rk (E.map Prod.fst)).zip (E.map Prod.snd)) = E.map fun t => (AV.agg [.int .i64 t.1], AV.int .i64 (rk t.1), t.2)
  | [] => rfl
  | t :: r => by
    have := zip_ent rk r
    simp only [kz, rkV, List.map_cons, List.zip_cons_cons] at this ⊢
    rw [this]

theorem left_ent (rk : Int → Nat) (E : List (Int × Nat)) (seen : List Nat) : leftOf (kz (E.map Prod.fst)) (rkV rk (E.map Prod.fst)) (E.map Prod.snd) seen = (E.filter fun t => !seen.contains t.2).map fun t => (AV.agg [.int .i64 t.1], AV.int .i64 (rk t.1), t.2) := by
  rw [leftOf, zip_ent, List.filter_map]
  rfl

theorem find_ent (rk : Int → Nat) : ∀ (E : List (Int × Nat)) (t : Int × Nat), (E.map Prod.snd).Nodup → t ∈ E → ((kz (E.map Prod.fst)).zip ((rkV rk (E.map Prod.fst)).zip (E.map Prod.snd))).find? (fun u => u.2.2 == t.2) = some (AV.agg [.int .i64 t.1], AV.int .i64 (rk t.1), t.2) := by
  intro E t hn ht
  rw [zip_ent]
  induction E with
  | nil => cases ht
  | cons a r ih =>
    rw [List.map_cons, List.find?_cons]
    rw [List.map_cons, List.nodup_cons] at hn
    rcases List.mem_cons.1 ht with rfl | ht
    · simp
    · have hne : (a.2 == t.2) = false := by
        have : a.2 ≠ t.2 := fun h => hn.1 (h ▸ List.mem_map_of_mem ht)
        simpa using this
      simp only [hne]
      exact ih hn.2 ht

/-- one step of a range over such a map -/
theorem gp_nextE {n base : Nat} {Q : EX × St → Prop} {d : Option Nat} {L : List IOper} {kk : List Kont} {e : Env} {h : Heap} {key ver mk mv clock : Nat} {E : List (Int × Nat)} {rk : Int → Nat} {seen : List Nat}
    (hi : getH h key = .iter ver mk mv clock seen clock) (hm : getH h mk = .map mv clock (kz (E.map Prod.fst)) (rkV rk (E.map Prod.fst)) (E.map Prod.snd)) (hb : ∀ t ∈ E, t.2 < clock)
    (hE : (∀ t ∈ E, t.2 ∈ seen) → GO (evCall T n) base Q L kk ⟨setDst e d (.tuple [.bool false]), h⟩)
    (hN : ∀ t ∈ E, t.2 ∉ seen → GO (evCall T n) base Q L kk ⟨setDst e d (.tuple [.bool true, .agg [.int .i64 t.1], .int .i64 (rk t.1)]), setH h key (.iter ver mk mv clock (seen ++ [t.2]) clock)⟩) :
    GP (evCall T n) base Q d L kk e (nxA h (.iter key ver)) := by
  refine gp_next hi hm ?_ (Nat.le_refl _) ?_ ?_
  · intro b hb'
    obtain ⟨t, ht, rfl⟩ := List.mem_map.1 hb'
    exact hb t ht
  · intro hl
    rw [left_ent] at hl
    refine hE fun t ht => ?_
    have := List.map_eq_nil_iff.1 hl
    rw [List.filter_eq_nil_iff] at this
    simpa using this t ht
  · intro k v b hmem
    rw [left_ent] at hmem
    obtain ⟨t, ht, he⟩ := List.mem_map.1 hmem
    obtain ⟨h1, h2⟩ := List.mem_filter.1 ht
    cases he
    exact hN t h1 (by simpa using h2)

theorem enA_ent {h : Heap} {key ver mk mv clock since : Nat} {E : List (Int × Nat)} {rk : Int → Nat} {seen : List Nat} {t : Int × Nat}
    (hi : getH h key = .iter ver mk mv since (seen ++ [t.2]) clock) (hm : getH h mk = .map mv clock (kz (E.map Prod.fst)) (rkV rk (E.map Prod.fst)) (E.map Prod.snd)) (hn : (E.map Prod.snd).Nodup) (ht : t ∈ E) :
    enA h (.iter key ver) = .ret (.tuple [.agg [.int .i64 t.1], .int .i64 (rk t.1)]) := by
  simp only [enA, hi, hm, List.getLast?_append, List.getLast?_singleton, Option.some_or]
  rw [if_pos ⟨trivial, trivial, trivial⟩, find_ent rk E t hn ht]

theorem kz_append (a b : List Int) : kz (a ++ b) = kz a ++ kz b := by simp [kz]
theorem grouped_one (xs : List Int) : grouped (some 1) xs.length (xs.map (.int .i64)) = kz xs := by
  apply List.ext_getElem?
  intro i
  simp only [grouped, kz, List.getElem?_map]
  by_cases hi : i < xs.length
  · have h1 : (List.range xs.length)[i]? = some i := by simp [hi]
    obtain ⟨x, hx⟩ := get_ex hi
    rw [h1, hx]
    simp only [Option.map_some]
    have hd : (xs.map (AV.int .i64)).drop i = .int .i64 x :: (xs.map (AV.int .i64)).drop (i + 1) := drop_cons (by simp [hx])
    rw [Nat.mul_one, hd]
    rfl
  · have h1 : (List.range xs.length)[i]? = none := by simp; omega
    rw [h1, List.getElem?_eq_none (by omega)]
    rfl

theorem mapR_ints (h : Heap) (n : Nat) (rk : Int → Nat) (l : List Int) : mapR (freeze h (n + 1)) (rkV rk l) = .ret (rkV rk l) := by
  induction l with
  | nil => rfl
  | cons a r ih => exact mz_cons (frz_int _ _ _ _) ih

end Go.Ev.YtadneamkkepknaaC
