/- Which orders can be kept: CheckKept, the program's and the reference's. Contracts; conditions stand in each. -/
import Derived.Test.YtadneamkkepknaaL5Days
import Derived.Test.YtadneamkkepknaaL5Books
import Derived.Test.YtadneamkkepknaaL5Math
set_option linter.unusedSimpArgs false
set_option linter.unusedVariables false
namespace Go.Ev.YtadneamkkepknaaC
open Go Go.Proofs

def ocl (o : Order) : List AV := [.int .i64 o.lo, .int .i64 o.hi, .int .i64 o.due]
theorem grouped_three (xs : List Order) : grouped (some 3) xs.length (xs.flatMap ocl) = xs.map oAV := by
  apply List.ext_getElem?
  intro i
  simp only [grouped, List.getElem?_map]
  by_cases hi : i < xs.length
  · have h1 : (List.range xs.length)[i]? = some i := by simp [hi]
    obtain ⟨x, hx⟩ := get_ex hi
    rw [h1, hx]
    simp only [Option.map_some]
    have hd : ∀ (xs : List Order) (i : Nat), (xs.flatMap ocl).drop (i * 3) = (xs.drop i).flatMap ocl := by
      intro xs
      induction xs with
      | nil => intro i; simp
      | cons a r ih =>
        intro i
        cases i with
        | zero => simp
        | succ i =>
          rw [List.flatMap_cons, Nat.succ_mul, Nat.add_comm, List.drop_append]
          have : (ocl a).drop (3 + i * 3) = [] := List.drop_eq_nil_of_le (by simp [ocl])
          rw [this, List.nil_append, show (ocl a).length = 3 from rfl, show 3 + i * 3 - 3 = i * 3 by omega, ih i]
          simp
    rw [hd, drop_cons hx]
    rfl
  · have h1 : (List.range xs.length)[i]? = none := by simp; omega
    rw [h1, List.getElem?_eq_none (by omega)]
    rfl

theorem frz_ocl (h : Heap) (n : Nat) (xs : List Order) : mapR (freeze h (n + 1)) (xs.flatMap ocl) = .ret (xs.flatMap ocl) := by
  have : ∀ ys : List AV, (∀ y ∈ ys, ∃ k v, y = .int k v) → mapR (freeze h (n + 1)) ys = .ret ys := by
    intro ys
    induction ys with
    | nil => intro _; rfl
    | cons a r ih =>
      intro hy
      obtain ⟨k, v, rfl⟩ := hy a List.mem_cons_self
      exact mz_cons (frz_int _ _ _ _) (ih fun y h => hy y (List.mem_cons_of_mem _ h))
  refine this _ fun y hy => ?_
  obtain ⟨o, _, ho⟩ := List.mem_flatMap.1 hy
  simp only [ocl, List.mem_cons, List.not_mem_nil, or_false] at ho
  rcases ho with rfl | rfl | rfl <;> exact ⟨_, _, rfl⟩

theorem subO_step {l : List Order} {ks : List Int} {k : Nat} {i : Nat} {o : Order} (hk : ks[k]? = some (i : Int)) (ho : l[i]? = some o) : subO l (ks.take (k + 1)) = subO l (ks.take k) ++ [o] := by
  rw [List.take_add_one, hk, subO, subO, List.filterMap_append]
  simp [ho]

attribute [local irreducible] Res.all evC evLoop evOps evOper evOp evFn evCall freeze G GO GV GP GC R
set_option maxRecDepth 100000

/-! ### 94: some -/
theorem con_94 (l : List Order) (ks : List Int) (hl : l.length ≤ 15) (hk : ks.length ≤ 15) (hb : ∀ i ∈ ks, 0 ≤ i ∧ i < l.length) : Con T 1 94 [ords l, ints ks] (ords (subO l ks)) := by
  refine con_intro t94 fun n hn V hV => ?_
  simp (disch := first | assumption | omega) only [c94, go_sem, ↓reduceIte, reduceIte, Nat.reduceEqDiff, Nat.reduceAdd, Nat.reduceMul, reduceCtorEq, Nat.reduceDiv, Nat.reduceLeDiff, Nat.reduceLT, Nat.reduceSub]
  refine m_loop (fun M st => ∃ (k : Nat) (v : AV), M = ks.length - k ∧ k ≤ ks.length ∧ At st.env [(0, ords l), (1, ints ks), (5, v), (6, .int .i64 k)] ∧ OwnG 24 st.heap v (some 3) k ((subO l (ks.take k)).flatMap ocl) ∧ 24 ≤ st.heap.length) ks.length (by omega)
    ⟨0, .slice (some 3) [] true, by simp, by omega, by simp [go_sem, ↓reduceIte, reduceIte, Nat.reduceEqDiff, Nat.reduceAdd, Nat.reduceMul, reduceCtorEq, Nat.reduceDiv, Nat.reduceLeDiff, Nat.reduceLT, Nat.reduceSub], ownG_nil .., by simp⟩ ?_
  rintro M e h hM ⟨k, v, rfl, hkk, hE, hO, hlen⟩ P hP
  simp only [At_cons, At_nil] at hE hO hlen
  obtain ⟨h0, h1, h5, h6, -⟩ := hE
  by_cases hlt : k < ks.length
  · obtain ⟨x, hx⟩ := get_ex hlt
    have hxb := hb x (List.mem_of_getElem? hx)
    obtain ⟨i, rfl⟩ := Int.eq_ofNat_of_zero_le hxb.1
    obtain ⟨o, ho⟩ := get_ex (l := l) (i := i) (by omega)
    have hst := subO_step hx ho
    simp (disch := first | assumption | omega) only [go_sem, ↓reduceIte, reduceIte, Nat.reduceEqDiff, Nat.reduceAdd, Nat.reduceMul, reduceCtorEq, Nat.reduceDiv, Nat.reduceLeDiff, Nat.reduceLT, Nat.reduceSub, h0, h1, h5, h6, hlt, hx, ho, oAV]
    refine gp_appendG (m := 1) (c2 := ocl o) (by first | with_reducible rfl | (simp only [length_setH, List.length_append, List.length_replicate]; done) | (simp only [length_setH, List.length_append, List.length_replicate]; omega)) hO (by simp [gsize]) hlen rfl rfl (by omega) (by omega) fun x' h' hO' hF hL _ _ => ?_
    simp (disch := first | assumption | omega) only [go_sem, ↓reduceIte, reduceIte, Nat.reduceEqDiff, Nat.reduceAdd, Nat.reduceMul, reduceCtorEq, Nat.reduceDiv, Nat.reduceLeDiff, Nat.reduceLT, Nat.reduceSub, h0, h1, h5, h6]
    refine hP (ks.length - (k + 1)) _ (by omega) ⟨k + 1, x', rfl, by omega, by simp only [go_sem, ↓reduceIte, reduceIte, Nat.reduceEqDiff, Nat.reduceAdd, Nat.reduceMul, reduceCtorEq, Nat.reduceDiv, Nat.reduceLeDiff, Nat.reduceLT, Nat.reduceSub, h0, h1], ?_, Nat.le_trans hlen hL⟩
    rw [hst, List.flatMap_append]
    simpa using hO'
  · obtain rfl : k = ks.length := by omega
    simp (disch := first | assumption | omega) only [go_sem, ↓reduceIte, reduceIte, Nat.reduceEqDiff, Nat.reduceAdd, Nat.reduceMul, reduceCtorEq, Nat.reduceDiv, Nat.reduceLeDiff, Nat.reduceLT, Nat.reduceSub, h0, h1, h5, h6, hlt]
    rw [List.take_of_length_le (by omega)] at hO
    refine hV _ _ ?_
    rw [frz_OwnG hO (frz_ocl _ _ _)]
    have := grouped_three (subO l ks)
    rw [subO_length hb] at this
    rw [this]

theorem cs_94 {n base : Nat} {Q : EX × St → Prop} {d : Option Nat} {L : List IOper} {kk : List Kont} {e : Env} {h : Heap} {l : List Order} {ks : List Int} {x y : Bool} (hn : 1 ≤ n) (hl : l.length ≤ 15) (hk : ks.length ≤ 15) (hb : ∀ i ∈ ks, 0 ≤ i ∧ i < l.length) :
    GP (evCall T n) base Q d L kk e (evCall T n false (.fn 94) [.slice (some 3) (l.map oAV) x, .slice none (ks.map (.int .i64)) y] h) = GO (evCall T n) base Q L kk ⟨setDst e d (ords (subO l ks)), h⟩ :=
  gp_eq (con_94 l ks hl hk hb) hn (by repeat (first | exact fz_nil _ | refine fz_slice _ _ _ _ ?_ | refine fz_int _ _ _ ?_)) rfl

/-! ### 78: CanKeep -/
theorem subO_ok {l : List Order} (hv : Valid l) (ks : List Int) : ∀ o ∈ subO l ks, Ok o := fun o ho => by
  obtain ⟨i, _, hio⟩ := List.mem_filterMap.1 ho
  exact hv.ok o (List.mem_of_getElem? hio)

theorem con_78 (l : List Order) (s : Int) (ks : List Int) (hv : Valid l) (hk : ks.length ≤ 15) (hb : ∀ i ∈ ks, 0 ≤ i ∧ i < l.length) : Con T 4 78 [ords l, .int .i64 s, ints ks] (.bool (canB l s ks)) := by
  refine con_intro t78 fun n hn V hV => ?_
  have hl := hv.len
  have hl15 : l.length ≤ 15 := by omega
  have hsl := subO_length hb
  have hsub15 : (subO l ks).length ≤ 15 := by omega
  unfold canB at hV
  by_cases h0 : (subO l ks).length = 0
  · have h0' : (((subO l ks).length : Int) == 0) = true := beq_iff_eq.2 (by omega)
    simp (disch := first | assumption | omega) only [c78, go_sem, ↓reduceIte, reduceIte, Nat.reduceEqDiff, Nat.reduceAdd, Nat.reduceMul, reduceCtorEq, Nat.reduceDiv, Nat.reduceLeDiff, Nat.reduceLT, Nat.reduceSub, cs_94, h0']
    refine hV _ _ ?_
    rw [frz_bool]
    simp [h0]
  · have h0' : (((subO l ks).length : Int) == 0) = false := beq_eq_false_iff_ne.2 (by omega)
    have hpos : 0 < (subO l ks).length := by omega
    have hok := subO_ok hv ks
    have hss := seqOf_length (subO l ks)
    have hwl := side_length (subO l ks) s
    have hslt : ∀ x ∈ seqOf (subO l ks), 0 ≤ x ∧ x < (seqOf (subO l ks)).length := fun x hx => by rw [hss]; exact seqOf_mem.1 hx
    have hsb : ∀ x ∈ side (subO l ks) s, 0 ≤ x ∧ x ≤ 1000 := fun x hx => by
      obtain ⟨o, ho, rfl⟩ := List.mem_map.1 hx
      have := hok o ho
      have h1 := this.lo
      have h2 := this.lh
      have h3 := this.hi
      split <;> omega
    have hdue : ∀ o ∈ subO l ks, 0 ≤ o.due ∧ o.due ≤ 100000 := fun o ho => by
      have := (hok o ho).d0
      have := (hok o ho).d1
      omega
    simp (disch := first | assumption | omega) only [c78, go_sem, ↓reduceIte, reduceIte, Nat.reduceEqDiff, Nat.reduceAdd, Nat.reduceMul, reduceCtorEq, Nat.reduceDiv, Nat.reduceLeDiff, Nat.reduceLT, Nat.reduceSub, cs_94, h0', cs_52, cs_47, cs_64]
    refine hV _ _ ?_
    rw [frz_bool]
    simp [h0]

theorem cs_78 {n base : Nat} {Q : EX × St → Prop} {d : Option Nat} {L : List IOper} {kk : List Kont} {e : Env} {h : Heap} {l : List Order} {s : Int} {ks : List Int} {x y : Bool} (hn : 4 ≤ n) (hv : Valid l) (hk : ks.length ≤ 15) (hb : ∀ i ∈ ks, 0 ≤ i ∧ i < l.length) :
    GP (evCall T n) base Q d L kk e (evCall T n false (.fn 78) [.slice (some 3) (l.map oAV) x, .int .i64 s, .slice none (ks.map (.int .i64)) y] h) = GO (evCall T n) base Q L kk ⟨setDst e d (.bool (canB l s ks)), h⟩ :=
  gp_eq (con_78 l s ks hv hk hb) hn (by repeat (first | exact fz_nil _ | refine fz_slice _ _ _ _ ?_ | refine fz_int _ _ _ ?_)) rfl

end Go.Ev.YtadneamkkepknaaC
