/- The law LateMore answers true, whatever it is handed. Conditions: the arguments are integers that fit their kinds, and lists no longer than memory allows. -/
import Derived.Test.YtadneamkkepknaaL5LawFewest
import Derived.Test.YtadneamkkepknaaL5Math8
set_option linter.unusedSimpArgs false
set_option linter.unusedVariables false
namespace Go.Ev.YtadneamkkepknaaC
open Go Go.Proofs

/-! ### orders that are written -/
theorem ocs_length : ∀ X : List Order, (X.flatMap ocl).length = X.length * 3
  | [] => rfl
  | a :: r => by rw [List.flatMap_cons, List.length_append, ocs_length r, List.length_cons]; simp [ocl]; omega
theorem ocs_set01 : ∀ {X : List Order} {i : Nat} {o : Order} (_ : X[i]? = some o) (a b : Int), ((X.flatMap ocl).set (i * 3) (.int .i64 a)).set (i * 3 + 1) (.int .i64 b) = (X.set i ⟨a, b, o.due⟩).flatMap ocl
  | [], i, o, h, a, b => by simp at h
  | x :: r, 0, o, h, a, b => by
    simp at h
    subst h
    simp [ocl]
  | x :: r, i + 1, o, h, a, b => by
    have ih := ocs_set01 (X := r) (i := i) (by simpa using h) a b
    have e : (i + 1) * 3 = i * 3 + 1 + 1 + 1 := by omega
    rw [List.set_cons_succ, List.flatMap_cons, List.flatMap_cons, ← ih, e]
    simp [ocl]
theorem ocs_set2 : ∀ {X : List Order} {i : Nat} {o : Order} (_ : X[i]? = some o) (c : Int), (X.flatMap ocl).set (i * 3 + 2) (.int .i64 c) = (X.set i ⟨o.lo, o.hi, c⟩).flatMap ocl
  | [], i, o, h, c => by simp at h
  | x :: r, 0, o, h, c => by
    simp at h
    subst h
    simp [ocl]
  | x :: r, i + 1, o, h, c => by
    have ih := ocs_set2 (X := r) (i := i) (by simpa using h) c
    have e : (i + 1) * 3 + 2 = i * 3 + 2 + 1 + 1 + 1 := by omega
    rw [List.set_cons_succ, List.flatMap_cons, List.flatMap_cons, ← ih, e]
    simp [ocl]
theorem cs_ords (h : Heap) (l : List Order) (x : Bool) : cellsOfSlice h (.slice (some 3) (l.map oAV) x) = some (some 3, l.length, l.flatMap ocl) := by
  simp only [cellsOfSlice, List.length_map, flat]
  congr 3
  induction l with
  | nil => rfl
  | cons a r ih => rw [List.map_cons, List.flatMap_cons, List.flatMap_cons, ih]; rfl
theorem frz_ords {h : Heap} {key ver : Nat} {cap : Option Nat} {X : List Order} {n m : Nat} (hH : getH h key = .cells ver (X.flatMap ocl)) (hm : m = X.length) : freeze h (n + 2) (.oslice key ver (some 3) 0 m cap) = .ret (ords X) := by
  subst hm
  have hl := ocs_length X
  have e : ((X.flatMap ocl).drop 0).take (X.length * gsize (some 3)) = X.flatMap ocl := by rw [List.drop_zero, List.take_of_length_le (by simp only [gsize]; omega)]
  rw [freeze]
  simp only [hH]
  rw [if_pos ⟨trivial, by simp only [gsize]; omega⟩, e, frz_ocl]
  simp only [Res.bind, grouped_three]

/-- append to a slice with its capacity known, of whatever one cell holds -/
theorem gp_append_av {call : Caller} {base : Nat} {Q : EX × St → Prop} {d : Option Nat} {L : List IOper} {ks : List Kont} {e : Env} {h : Heap} {b m n key ver kk : Nat} {y : AV} {cs c2 : List AV} (hkk : kk = h.length) (hH : getH h key = .cells ver cs) (hn : cs.length = n) (hy : cellsOfSlice h y = some (none, m, c2)) (hm0 : 0 < m) (hr : (n + m) * b ≤ 1099511627776)
    (H : GO call base Q L ks ⟨setDst e d (.oslice h.length (getH h h.length).next none 0 (n + m) none), setH h h.length (.cells (getH h h.length).next (cs ++ c2))⟩) :
    GP call base Q d L ks e (evAppend kk none b (.oslice key ver none 0 n (some n)) y h) := by
  subst hkk
  have hroom := room_ok hr
  have h1 : ¬ m = 0 := by omega
  have h2 : ¬ n + m ≤ n := by omega
  have : evAppend h.length none b (.oslice key ver none 0 n (some n)) y h = .ret (.oslice h.length (getH h h.length).next none 0 (n + m) none, setH h h.length (.cells (getH h h.length).next (cs ++ c2))) := by
    simp only [evAppend, hy, hH, hroom, gsize, hn, ne_eq, not_true_eq_false, if_false, or_self, h1, Nat.zero_add, Nat.mul_one, Nat.lt_irrefl, h2, List.drop_zero]
    rw [List.take_of_length_le (by omega)]
  rw [this, gp_ret]
  exact H

def fw (l : List Order) (s : Int) : Int := (l.length : Int) - (keptOf l s).length
/-- books, that are compared with one -/
def Books (l : List Order) (s : Int) (h : Heap) (v : AV) : Prop :=
  ∃ (key ver : Nat) (cap : Option Nat) (B : List (AV × List Order)), v = .oslice key ver none 0 B.length cap ∧ getH h key = .cells ver (B.map Prod.fst) ∧ B.length ≤ 3 ∧ (∀ p ∈ B, freeze h 8 p.1 = .ret (ords p.2)) ∧
    ∀ (k : Nat) p, B[k]? = some p → Valid p.2 ∧ 0 < p.2.length ∧ shortest l s ≤ shortest p.2 s ∧ fw l s ≤ fw p.2 s ∧ (k = 2 → fw p.2 s ≤ fw l s + 1)

attribute [local irreducible] Res.all evC evLoop evOps evOper evOp evFn evCall freeze G GO GV GP GC R
set_option maxRecDepth 100000

theorem lateMore_at (n40 : Nat) (hn : n40 = 40) (l : List Order) (wn dn qn sd : Int) (_ : ∀ a ∈ l, OWf a) (hlm : l.length ≤ maxLen) (hww : (Lit.int .u8 wn).wf = true) (hdw : (Lit.int .u8 dn).wf = true) (hqw : (Lit.int .u8 qn).wf = true) (hsw : (Lit.int .u8 sd).wf = true) :
    (evFn (evCall T n40) c13 [ords l, .int .u8 wn, .int .u8 dn, .int .u8 qn, .int .u8 sd] []).all fun p => p.1 = .bool true := by
  rw [m_fn]
  by_cases hc : chk l = 0
  case neg => simp (disch := first | assumption | omega) only [c13, go_sem, ↓reduceIte, reduceIte, Nat.reduceEqDiff, Nat.reduceAdd, Nat.reduceMul, reduceCtorEq, Nat.reduceDiv, Nat.reduceLeDiff, Nat.reduceLT, Nat.reduceSub, cs_46, hc, cs_18']
  have hv := (chk_zero l).1 hc
  have hl : l.length ≤ 15 := Nat.le_trans hv.len (by omega)
  have hl10 := hv.len
  by_cases hl0 : l.length = 0
  · have hl0' : ((l.length : Int) == 0) = true := beq_iff_eq.2 (by omega)
    simp (disch := first | assumption | omega) only [c13, go_sem, ↓reduceIte, reduceIte, Nat.reduceEqDiff, Nat.reduceAdd, Nat.reduceMul, reduceCtorEq, Nat.reduceDiv, Nat.reduceLeDiff, Nat.reduceLT, Nat.reduceSub, cs_46, hc, hl0', cs_18']
  have hl0' : ((l.length : Int) == 0) = false := beq_eq_false_iff_ne.2 (by omega)
  have h0 : 0 < l.length := by omega
  have b1 := bounds_u8 hww
  have b2 := bounds_u8 hdw
  have b3 := bounds_u8 hqw
  have b4 := bounds_u8 hsw
  obtain ⟨wn, rfl⟩ := Int.eq_ofNat_of_zero_le b1.1
  obtain ⟨dn, rfl⟩ := Int.eq_ofNat_of_zero_le b2.1
  obtain ⟨qn, rfl⟩ := Int.eq_ofNat_of_zero_le b3.1
  obtain ⟨sn, rfl⟩ := Int.eq_ofNat_of_zero_le b4.1
  have hs2 : sn % 2 < 2 := Nat.mod_lt _ (by omega)
  have hw2 : wn % 100 < 100 := Nat.mod_lt _ (by omega)
  have hi2 : qn % l.length < l.length := Nat.mod_lt _ h0
  have hs : ((sn % 2 : Nat) : Int) = 0 ∨ ((sn % 2 : Nat) : Int) = 1 := by omega
  generalize hsn : sn % 2 = s at *
  generalize hwn : wn % 100 = w at *
  generalize hqn : qn % l.length = i at *
  obtain ⟨o, ho⟩ := get_ex hi2
  have hok := hv.ok o (List.mem_of_getElem? ho)
  have o1 := hok.lo
  have o2 := hok.lh
  have o3 := hok.hi
  have o4 := hok.d0
  have o5 := hok.d1
  simp (disch := first | assumption | omega) only [c13, go_sem, ↓reduceIte, reduceIte, Nat.reduceEqDiff, Nat.reduceAdd, Nat.reduceMul, reduceCtorEq, Nat.reduceDiv, Nat.reduceLeDiff, Nat.reduceLT, Nat.reduceSub, cs_46, hc, hl0', b_rem2, hsn, b_rem, hqn, b_rem100, hwn]
  have hol := ocs_length l
  have q1 : i * 3 + 2 ≤ (l.flatMap ocl).length := by omega
  have q2 : i * 3 + 2 + 1 ≤ (l.flatMap ocl).length := by omega
  refine gp_appendG (m := l.length) (c2 := l.flatMap ocl) (by first | with_reducible rfl | (simp only [length_setH, List.length_append, List.length_replicate]; done) | (simp only [length_setH, List.length_append, List.length_replicate]; omega)) (ownG_nil 176 _ (some 3)) (by simp [gsize]) (by simp) (cs_ords _ _ _) (by rw [ocs_length]; rfl) h0 (by omega) fun vx h1 hO1 _ hL1 _ _ => ?_
  rcases hO1 with ⟨hz, _⟩ | ⟨kx, ux, hkx, rfl, hHx, -⟩
  · omega
  rw [List.nil_append] at hHx
  rw [Nat.zero_add]
  have hL1' : 176 ≤ h1.length := Nat.le_trans (by simp) hL1
  have hkxl := getH_lt hHx (by simp)
  simp (disch := first | assumption | omega) only [go_sem, ↓reduceIte, reduceIte, Nat.reduceEqDiff, Nat.reduceAdd, Nat.reduceMul, reduceCtorEq, Nat.reduceDiv, Nat.reduceLeDiff, Nat.reduceLT, Nat.reduceSub, ho, oAV, hi2, hHx, q1, ocs_set01 ho]
  have hXl : ((l.set i ⟨if 1 + (w : Int) > o.lo then 1 + (w : Int) else o.lo, if 1 + (w : Int) > o.hi then 1 + (w : Int) else o.hi, o.due⟩)).length = l.length := by rw [List.length_set]
  have okX : Ok ⟨if 1 + (w : Int) > o.lo then 1 + (w : Int) else o.lo, if 1 + (w : Int) > o.hi then 1 + (w : Int) else o.hi, o.due⟩ := by
    constructor <;> simp only <;> (repeat' split) <;> omega
  have hvX := set_valid hv i okX
  have hX := set_at (l := l) (o := ⟨if 1 + (w : Int) > o.lo then 1 + (w : Int) else o.lo, if 1 + (w : Int) > o.hi then 1 + (w : Int) else o.hi, o.due⟩) ho (s : Int) (by simp only; repeat' split <;> omega) (by simp)
  generalize l.set i ⟨if 1 + (w : Int) > o.lo then 1 + (w : Int) else o.lo, if 1 + (w : Int) > o.hi then 1 + (w : Int) else o.hi, o.due⟩ = X at *
  refine gp_appendG (m := l.length) (c2 := l.flatMap ocl) (by first | with_reducible rfl | (simp only [length_setH, List.length_append, List.length_replicate]; done) | (simp only [length_setH, List.length_append, List.length_replicate]; omega)) (ownG_nil 176 _ (some 3)) (by simp [gsize]) (by simp only [length_setH]; omega) (cs_ords _ _ _) (by rw [ocs_length]; rfl) h0 (by omega) fun vy h2 hO2 _ hL2 hG2 hK2 => ?_
  rcases hO2 with ⟨hz, _⟩ | ⟨ky, uy, hky, rfl, hHy, -⟩
  · omega
  rw [List.nil_append] at hHy
  rw [Nat.zero_add]
  have hkxy : kx ≠ ky := by
    rcases hK2 ky rfl with h | h
    · cases h
    · rw [length_setH] at h; omega
  have hHx2 : getH h2 kx = .cells ux (X.flatMap ocl) := by
    rw [hG2 kx (by rw [length_setH]; omega) (by simp [keyOf]), getH_setH_self]
  have hkyl := getH_lt hHy (by simp)
  refine go_cutE [(0, ords l), (2, .int .u8 dn), (11, .int .i64 s), (12, .int .i64 i), (13, .int .i64 (1 + (w : Int))), (14, .oslice kx ux (some 3) 0 l.length none), (73, .oslice ky uy (some 3) 0 l.length none)] (by simp only [go_sem, ↓reduceIte, reduceIte, Nat.reduceEqDiff, Nat.reduceAdd, Nat.reduceMul, reduceCtorEq, Nat.reduceDiv, Nat.reduceLeDiff, Nat.reduceLT, Nat.reduceSub]) fun e hE => ?_
  simp only [At_cons, At_nil] at hE
  obtain ⟨r0, r2, r11, r12, r13, r14, r73, -⟩ := hE
  simp (disch := first | assumption | omega) only [go_sem, ↓reduceIte, reduceIte, Nat.reduceEqDiff, Nat.reduceAdd, Nat.reduceMul, reduceCtorEq, Nat.reduceDiv, Nat.reduceLeDiff, Nat.reduceLT, Nat.reduceSub, r0, r2, r11, r12, r13, r14, r73, ho, oAV, hi2, hHy, q2, ocs_set2 ho]
  have hYl : ((l.set i ⟨o.lo, o.hi, if o.due - (dn : Int) > 0 then o.due - (dn : Int) else 0⟩)).length = l.length := by rw [List.length_set]
  have okY : Ok ⟨o.lo, o.hi, if o.due - (dn : Int) > 0 then o.due - (dn : Int) else 0⟩ := by
    constructor <;> simp only <;> (repeat' split) <;> omega
  have hvY := set_valid hv i okY
  have hY := set_at (l := l) (o := ⟨o.lo, o.hi, if o.due - (dn : Int) > 0 then o.due - (dn : Int) else 0⟩) ho (s : Int) (Int.le_refl _) (by simp only; repeat' split <;> omega)
  generalize l.set i ⟨o.lo, o.hi, if o.due - (dn : Int) > 0 then o.due - (dn : Int) else 0⟩ = Y at *
  have goodX : Valid X ∧ 0 < X.length ∧ shortest l s ≤ shortest X s ∧ fw l s ≤ fw X s :=
    ⟨hvX, by omega, shortest_mono hv hvX h0 hXl s fun i _ _ => hX i, by have := kept_mono hv hvX hXl s fun i _ _ => hX i; simp only [fw, hXl]; omega⟩
  have goodY : Valid Y ∧ 0 < Y.length ∧ shortest l s ≤ shortest Y s ∧ fw l s ≤ fw Y s :=
    ⟨hvY, by omega, shortest_mono hv hvY h0 hYl s fun i _ _ => hY i, by have := kept_mono hv hvY hYl s fun i _ _ => hY i; simp only [fw, hYl]; omega⟩
  obtain ⟨a, e1, _⟩ := short_day hv h0 hs
  have e2 := refFewest_ok hv hs
  apply go_join (call := evCall T n40) (base := 0) (Q := Fin [.tmp 10] fun p => p.1 = .bool true) fun e h => At e [(0, ords l), (11, .int .i64 s), (110, .tuple [.int .i64 (shortest l s), .int .i64 0])] ∧ ∃ v, getE e 16 = v ∧ Books l s h v
  case main =>
    intro key
    have hlen3 : kx < h2.length := by have := getH_lt hHx2 (by simp); omega
    have n1 : ¬ ky = h2.length := by omega
    have n2 : ¬ kx = h2.length := by omega
    have n3 : ¬ h2.length = ky := by omega
    have n4 : ¬ h2.length = kx := by omega
    have n5 : ¬ ky = kx := fun h => hkxy h.symm
    have hL2' : 176 ≤ h2.length := by omega
    have m1 : Nat.max h2.length (ky + 1) = h2.length := Nat.max_eq_left (by omega)
    by_cases h10 : (l.length : Int) < 10
    · simp (disch := first | assumption | omega) only [go_sem, ↓reduceIte, reduceIte, Nat.reduceEqDiff, Nat.reduceAdd, Nat.reduceMul, reduceCtorEq, Nat.reduceDiv, Nat.reduceLeDiff, Nat.reduceLT, Nat.reduceSub, r0, r2, r11, r12, r13, r14, r73, h10, n1, n2, n3, n4, n5]
      generalize hh3 : setH (setH h2 ky (AObj.cells uy (List.flatMap ocl Y))) h2.length (AObj.cells (getH h2 h2.length).next [AV.oslice kx ux (some 3) 0 l.length none, AV.oslice ky uy (some 3) 0 l.length none]) = h3
      have g1 : getH h3 kx = .cells ux (X.flatMap ocl) := by rw [← hh3]; simp only [go_sem, ↓reduceIte, reduceIte, Nat.reduceEqDiff, Nat.reduceAdd, Nat.reduceMul, reduceCtorEq, Nat.reduceDiv, Nat.reduceLeDiff, Nat.reduceLT, Nat.reduceSub, r0, r2, r11, r12, r13, r14, r73, n1, n2, n3, n4, n5, hHx2]
      have g2 : getH h3 ky = .cells uy (Y.flatMap ocl) := by rw [← hh3]; simp only [go_sem, ↓reduceIte, reduceIte, Nat.reduceEqDiff, Nat.reduceAdd, Nat.reduceMul, reduceCtorEq, Nat.reduceDiv, Nat.reduceLeDiff, Nat.reduceLT, Nat.reduceSub, r0, r2, r11, r12, r13, r14, r73, n1, n2, n3, n4, n5]
      have g3 : getH h3 h2.length = .cells (getH h2 h2.length).next [AV.oslice kx ux (some 3) 0 l.length none, AV.oslice ky uy (some 3) 0 l.length none] := by rw [← hh3, getH_setH_self]
      have l3 := getH_lt g3 (by simp)
      refine gp_appendG (m := l.length) (c2 := l.flatMap ocl) (by rw [← hh3]; simp only [length_setH]; omega) (ownG_nil 176 _ (some 3)) (by simp [gsize]) (by omega) (cs_ords _ _ _) (by rw [ocs_length]; rfl) h0 (by omega) fun vz h4 hO4 _ hL4 hG4 hK4 => ?_
      rw [List.nil_append, Nat.zero_add] at hO4
      have g1' : getH h4 kx = .cells ux (X.flatMap ocl) := by rw [hG4 kx (by omega) (by simp [keyOf]), g1]
      have g2' : getH h4 ky = .cells uy (Y.flatMap ocl) := by rw [hG4 ky (by omega) (by simp [keyOf]), g2]
      have g3' := g3
      rw [← hG4 h2.length (by omega) (by simp [keyOf])] at g3'
      clear hh3
      refine go_cutE [(0, ords l), (2, .int .u8 dn), (11, .int .i64 s), (13, .int .i64 (1 + (w : Int))), (93, .oslice h2.length (getH h2 h2.length).next none 0 2 (some 2)), (96, vz)] (by simp only [go_sem, ↓reduceIte, reduceIte, Nat.reduceEqDiff, Nat.reduceAdd, Nat.reduceMul, reduceCtorEq, Nat.reduceDiv, Nat.reduceLeDiff, Nat.reduceLT, Nat.reduceSub, r0, r2, r11, r13]) fun e hE => ?_
      simp only [At_cons, At_nil] at hE
      obtain ⟨r0, r2, r11, r13, r93, r96, -⟩ := hE
      simp (disch := first | assumption | omega) only [go_sem, ↓reduceIte, reduceIte, Nat.reduceEqDiff, Nat.reduceAdd, Nat.reduceMul, reduceCtorEq, Nat.reduceDiv, Nat.reduceLeDiff, Nat.reduceLT, Nat.reduceSub, r0, r2, r11, r13, r93, r96]
      have okZ : Ok ⟨1 + (w : Int), 1 + (w : Int), (dn : Int)⟩ := by constructor <;> simp only <;> omega
      have hvZ : Valid (l ++ [⟨1 + (w : Int), 1 + (w : Int), (dn : Int)⟩]) := ⟨by simp; omega, fun x hx => by
        rcases List.mem_append.1 hx with h | h
        · exact hv.ok x h
        · obtain rfl : x = _ := by simpa using h
          exact okZ⟩
      have hZ1 := more_shortest hv h0 hvZ (s : Int)
      have hZ2 := more_kept hv hvZ (s : Int)
      have hZf : (l ++ [(⟨1 + (w : Int), 1 + (w : Int), (dn : Int)⟩ : Order)]).flatMap ocl = l.flatMap ocl ++ ocl ⟨1 + (w : Int), 1 + (w : Int), (dn : Int)⟩ := by simp
      refine gp_appendG (m := 1) (c2 := ocl ⟨1 + (w : Int), 1 + (w : Int), (dn : Int)⟩) (by first | with_reducible rfl | (simp only [length_setH, List.length_append, List.length_replicate]; done) | (simp only [length_setH, List.length_append, List.length_replicate]; omega)) hO4 (by simp [gsize]) (by omega) rfl rfl (by omega) (by omega) fun vz2 h5 hO5 _ hL5 hG5 hK5 => ?_
      rw [← hZf] at hO5
      have hZl : (l ++ [(⟨1 + (w : Int), 1 + (w : Int), (dn : Int)⟩ : Order)]).length = l.length + 1 := by simp
      generalize l ++ [(⟨1 + (w : Int), 1 + (w : Int), (dn : Int)⟩ : Order)] = Z at *
      rcases hO5 with ⟨hz, _⟩ | ⟨kz, uz, hkz, rfl, hHz, -⟩
      · omega
      have hno : ∀ j, j < h3.length → keyOf vz ≠ some j := fun j hj hk => by
        rcases hK4 j hk with h | h
        · cases h
        · omega
      have f1 : getH h5 kx = .cells ux (X.flatMap ocl) := by rw [hG5 kx (by omega) (hno kx (by omega)), g1']
      have f2 : getH h5 ky = .cells uy (Y.flatMap ocl) := by rw [hG5 ky (by omega) (hno ky (by omega)), g2']
      have f3 : getH h5 h2.length = .cells (getH h2 h2.length).next [AV.oslice kx ux (some 3) 0 l.length none, AV.oslice ky uy (some 3) 0 l.length none] := by rw [hG5 h2.length (by omega) (hno h2.length (by omega)), g3']
      have hkzl := getH_lt hHz (by simp)
      have p1 : ¬ h5.length = kx := by omega
      have p2 : ¬ h5.length = ky := by omega
      have p3 : ¬ h5.length = kz := by omega
      have p4 : ¬ h5.length = h2.length := by omega
      simp (disch := first | assumption | omega) only [go_sem, ↓reduceIte, reduceIte, Nat.reduceEqDiff, Nat.reduceAdd, Nat.reduceMul, reduceCtorEq, Nat.reduceDiv, Nat.reduceLeDiff, Nat.reduceLT, Nat.reduceSub, r0, r2, r11, r13, r93, r96]
      refine gp_append_av (m := 1) (c2 := [AV.oslice kz uz (some 3) 0 (l.length + 1) none]) (cs := [AV.oslice kx ux (some 3) 0 l.length none, AV.oslice ky uy (some 3) 0 l.length none]) (by first | with_reducible rfl | (simp only [length_setH, List.length_append, List.length_replicate]; done) | (simp only [length_setH, List.length_append, List.length_replicate]; omega)) (by simp only [go_sem, ↓reduceIte, reduceIte, Nat.reduceEqDiff, Nat.reduceAdd, Nat.reduceMul, reduceCtorEq, Nat.reduceDiv, Nat.reduceLeDiff, Nat.reduceLT, Nat.reduceSub, p4, f3]) rfl (by simp [cellsOfSlice, gsize]) (by omega) (by omega) ?_
      generalize hh6 : setH h5 h5.length (AObj.cells (getH h5 h5.length).next [AV.oslice kz uz (some 3) 0 (l.length + 1) none]) = h6
      have hl6 : h6.length = h5.length + 1 := by rw [← hh6, length_setH]; omega
      have q1 : getH h6 kx = .cells ux (X.flatMap ocl) := by rw [← hh6, getH_setH_ne _ _ _ _ p1, f1]
      have q2 : getH h6 ky = .cells uy (Y.flatMap ocl) := by rw [← hh6, getH_setH_ne _ _ _ _ p2, f2]
      have q3 : getH h6 kz = .cells uz (Z.flatMap ocl) := by rw [← hh6, getH_setH_ne _ _ _ _ p3, hHz]
      clear hh6
      have s1 : ¬ h6.length = kx := by omega
      have s2 : ¬ h6.length = ky := by omega
      have s3 : ¬ h6.length = kz := by omega
      simp (disch := first | assumption | omega) only [go_sem, ↓reduceIte, reduceIte, Nat.reduceEqDiff, Nat.reduceAdd, Nat.reduceMul, reduceCtorEq, Nat.reduceDiv, Nat.reduceLeDiff, Nat.reduceLT, Nat.reduceSub, r0, r2, r11, r13, r93, r96]
      simp (disch := first | assumption | omega) only [cs_33, e1]
      apply key
      refine ⟨by simp only [go_sem, ↓reduceIte, reduceIte, Nat.reduceEqDiff, Nat.reduceAdd, Nat.reduceMul, reduceCtorEq, Nat.reduceDiv, Nat.reduceLeDiff, Nat.reduceLT, Nat.reduceSub, r0, r11], _, rfl, ?_⟩
      refine ⟨h6.length, (getH h6 h6.length).next, none, [(.oslice kx ux (some 3) 0 l.length none, X), (.oslice ky uy (some 3) 0 l.length none, Y), (.oslice kz uz (some 3) 0 (l.length + 1) none, Z)], by simp only [go_sem, ↓reduceIte, reduceIte, Nat.reduceEqDiff, Nat.reduceAdd, Nat.reduceMul, reduceCtorEq, Nat.reduceDiv, Nat.reduceLeDiff, Nat.reduceLT, Nat.reduceSub], by simp only [go_sem, ↓reduceIte, reduceIte, Nat.reduceEqDiff, Nat.reduceAdd, Nat.reduceMul, reduceCtorEq, Nat.reduceDiv, Nat.reduceLeDiff, Nat.reduceLT, Nat.reduceSub], by simp, ?_, ?_⟩
      · intro p hp
        rcases List.mem_cons.1 hp with rfl | hp
        · exact frz_ords (by simp only [go_sem, ↓reduceIte, reduceIte, Nat.reduceEqDiff, Nat.reduceAdd, Nat.reduceMul, reduceCtorEq, Nat.reduceDiv, Nat.reduceLeDiff, Nat.reduceLT, Nat.reduceSub, s1, q1]) hXl.symm
        rcases List.mem_cons.1 hp with rfl | hp
        · exact frz_ords (by simp only [go_sem, ↓reduceIte, reduceIte, Nat.reduceEqDiff, Nat.reduceAdd, Nat.reduceMul, reduceCtorEq, Nat.reduceDiv, Nat.reduceLeDiff, Nat.reduceLT, Nat.reduceSub, s2, q2]) hYl.symm
        · obtain rfl : p = _ := by simpa using hp
          exact frz_ords (by simp only [go_sem, ↓reduceIte, reduceIte, Nat.reduceEqDiff, Nat.reduceAdd, Nat.reduceMul, reduceCtorEq, Nat.reduceDiv, Nat.reduceLeDiff, Nat.reduceLT, Nat.reduceSub, s3, q3]) hZl.symm
      · intro k p hp
        match k, hp with
        | 0, hp => cases hp; exact ⟨goodX.1, goodX.2.1, goodX.2.2.1, goodX.2.2.2, by omega⟩
        | 1, hp => cases hp; exact ⟨goodY.1, goodY.2.1, goodY.2.2.1, goodY.2.2.2, by omega⟩
        | 2, hp => cases hp; exact ⟨hvZ, by simp only; omega, hZ1, by simp only [fw]; omega, fun _ => by simp only [fw]; omega⟩
        | k + 3, hp => simp at hp
    · simp (disch := first | assumption | omega) only [go_sem, ↓reduceIte, reduceIte, Nat.reduceEqDiff, Nat.reduceAdd, Nat.reduceMul, reduceCtorEq, Nat.reduceDiv, Nat.reduceLeDiff, Nat.reduceLT, Nat.reduceSub, r0, r2, r11, r12, r13, r14, r73, h10, n1, n2, n3, n4, n5]
      simp (disch := first | assumption | omega) only [cs_33, e1]
      apply key
      refine ⟨by simp only [go_sem, ↓reduceIte, reduceIte, Nat.reduceEqDiff, Nat.reduceAdd, Nat.reduceMul, reduceCtorEq, Nat.reduceDiv, Nat.reduceLeDiff, Nat.reduceLT, Nat.reduceSub, r0, r2, r11, r12, r13, r14, r73], _, rfl, ?_⟩
      refine ⟨h2.length, (getH h2 h2.length).next, some 2, [(.oslice kx ux (some 3) 0 l.length none, X), (.oslice ky uy (some 3) 0 l.length none, Y)], by simp only [go_sem, ↓reduceIte, reduceIte, Nat.reduceEqDiff, Nat.reduceAdd, Nat.reduceMul, reduceCtorEq, Nat.reduceDiv, Nat.reduceLeDiff, Nat.reduceLT, Nat.reduceSub, r0, r2, r11, r12, r13, r14, r73], by simp only [go_sem, ↓reduceIte, reduceIte, Nat.reduceEqDiff, Nat.reduceAdd, Nat.reduceMul, reduceCtorEq, Nat.reduceDiv, Nat.reduceLeDiff, Nat.reduceLT, Nat.reduceSub, r0, r2, r11, r12, r13, r14, r73], by simp, ?_, ?_⟩
      · intro p hp
        rcases List.mem_cons.1 hp with rfl | hp
        · exact frz_ords (by simp only [go_sem, ↓reduceIte, reduceIte, Nat.reduceEqDiff, Nat.reduceAdd, Nat.reduceMul, reduceCtorEq, Nat.reduceDiv, Nat.reduceLeDiff, Nat.reduceLT, Nat.reduceSub, r0, r2, r11, r12, r13, r14, r73, n1, n2, n3, n4, n5, hHx2]) hXl.symm
        · obtain rfl : p = _ := by simpa using hp
          exact frz_ords (by simp only [go_sem, ↓reduceIte, reduceIte, Nat.reduceEqDiff, Nat.reduceAdd, Nat.reduceMul, reduceCtorEq, Nat.reduceDiv, Nat.reduceLeDiff, Nat.reduceLT, Nat.reduceSub, r0, r2, r11, r12, r13, r14, r73, n1, n2, n3, n4, n5]) hYl.symm
      · intro k p hp
        match k, hp with
        | 0, hp => cases hp; exact ⟨goodX.1, goodX.2.1, goodX.2.2.1, goodX.2.2.2, by omega⟩
        | 1, hp => cases hp; exact ⟨goodY.1, goodY.2.1, goodY.2.2.1, goodY.2.2.2, by omega⟩
        | k + 2, hp => simp at hp
  case key =>
    clear r0 r2 r11 r12 r13 r14 r73
    rintro e h ⟨hE, v, r16, keyb, ver, cap, B, rfl, hH, hB3, hfz, hgood⟩
    simp only [At_cons, At_nil] at hE
    obtain ⟨r0, r11, r110, -⟩ := hE
    simp (disch := first | assumption | omega) only [go_sem, ↓reduceIte, reduceIte, Nat.reduceEqDiff, Nat.reduceAdd, Nat.reduceMul, reduceCtorEq, Nat.reduceDiv, Nat.reduceLeDiff, Nat.reduceLT, Nat.reduceSub, r0, r11, r16, r110]
    simp (disch := first | assumption | omega) only [cs_42, e2]
    simp (disch := first | assumption | omega) only [go_sem, ↓reduceIte, reduceIte, Nat.reduceEqDiff, Nat.reduceAdd, Nat.reduceMul, reduceCtorEq, Nat.reduceDiv, Nat.reduceLeDiff, Nat.reduceLT, Nat.reduceSub, r0, r11, r16, r110, bne_self_eq_false]
    refine m_loop (fun M st => ∃ (k : Nat), M = B.length - k ∧ k ≤ B.length ∧ At st.env [(0, ords l), (11, .int .i64 s), (16, .oslice keyb ver none 0 B.length cap), (17, .int .i64 (shortest l s)), (19, .int .i64 ((l.length : Int) - (keptOf l s).length)), (21, .int .i64 k)] ∧ st.heap = h) B.length (by omega)
      ⟨0, by simp, by omega, by simp only [go_sem, ↓reduceIte, reduceIte, Nat.reduceEqDiff, Nat.reduceAdd, Nat.reduceMul, reduceCtorEq, Nat.reduceDiv, Nat.reduceLeDiff, Nat.reduceLT, Nat.reduceSub, r0, r11, r16], rfl⟩ ?_
    clear r0 r11 r16 r110
    rintro M e h' hM ⟨k, rfl, hk, hE, hh⟩ P hP
    simp only at hh
    subst hh
    simp only [At_cons, At_nil] at hE
    obtain ⟨r0, r11, r16, r17, r19, r21, -⟩ := hE
    by_cases hlt : k < B.length
    · obtain ⟨⟨xv, X⟩, hx⟩ := get_ex hlt
      obtain ⟨hvX, hX0, hX1, hX2, hX3⟩ := hgood k _ hx
      have hfx := hfz _ (List.mem_of_getElem? hx)
      simp only at hvX hX0 hX1 hX2 hX3 hfx
      obtain ⟨a2, d1, _⟩ := short_day hvX hX0 hs
      have d2 := refFewest_ok hvX hs
      have hXl15 : X.length ≤ 15 := Nat.le_trans hvX.len (by omega)
      have t1 : ¬ shortest X (s : Int) < shortest l (s : Int) := by omega
      have t2 : ¬ (X.length : Int) - (keptOf X (s : Int)).length < (l.length : Int) - (keptOf l (s : Int)).length := by simp only [fw] at hX2; omega
      have hkX := kept_le hvX (s : Int)
      have hkl := kept_le hv (s : Int)
      have hBk : (B.map Prod.fst)[k]? = some xv := by rw [List.getElem?_map, hx]; rfl
      simp (disch := first | assumption | omega) only [go_sem, ↓reduceIte, reduceIte, Nat.reduceEqDiff, Nat.reduceAdd, Nat.reduceMul, reduceCtorEq, Nat.reduceDiv, Nat.reduceLeDiff, Nat.reduceLT, Nat.reduceSub, r0, r11, r16, r17, r19, r21, hlt, hH, hx]
      refine gp_con (con_33 X s hXl15) (by omega) (fz_cons hfx (fz_int _ _ _ (fz_nil _))) (or_plain rfl) ?_
      simp (disch := first | assumption | omega) only [go_sem, ↓reduceIte, reduceIte, Nat.reduceEqDiff, Nat.reduceAdd, Nat.reduceMul, reduceCtorEq, Nat.reduceDiv, Nat.reduceLeDiff, Nat.reduceLT, Nat.reduceSub, shortV, d1, r0, r11, r16, r17, r19, r21, hlt, hH, hx]
      refine gp_con (con_42 X s hXl15) (by omega) (fz_cons hfx (fz_int _ _ _ (fz_nil _))) (or_plain rfl) ?_
      refine go_cutE [(0, ords l), (11, .int .i64 s), (16, .oslice keyb ver none 0 B.length cap), (17, .int .i64 (shortest l s)), (19, .int .i64 ((l.length : Int) - (keptOf l s).length)), (21, .int .i64 k), (22, .int .i64 (shortest X s)), (23, .int .i64 0), (146, .tuple [.int .i64 ((X.length : Int) - (keptOf X s).length), .int .i64 0])] (by simp only [go_sem, ↓reduceIte, reduceIte, Nat.reduceEqDiff, Nat.reduceAdd, Nat.reduceMul, reduceCtorEq, Nat.reduceDiv, Nat.reduceLeDiff, Nat.reduceLT, Nat.reduceSub, d2, r0, r11, r16, r17, r19, r21]) fun e hE => ?_
      simp only [At_cons, At_nil] at hE
      obtain ⟨r0, r11, r16, r17, r19, r21, r22, r23, r146, -⟩ := hE
      have fin : ∀ e : Env, At e [(0, ords l), (11, .int .i64 s), (16, .oslice keyb ver none 0 B.length cap), (17, .int .i64 (shortest l s)), (19, .int .i64 ((l.length : Int) - (keptOf l s).length)), (21, .int .i64 ((k : Int) + 1))] → P ⟨e, h'⟩ := fun e he => hP (B.length - (k + 1)) _ (by omega) ⟨k + 1, rfl, by omega, he, rfl⟩
      by_cases hk2 : k = 2
      · have t3 : ((k : Int) == 2) = true := by rw [beq_iff_eq]; omega
        have t4 : ¬ (X.length : Int) - (keptOf X (s : Int)).length > (l.length : Int) - (keptOf l (s : Int)).length + 1 := by have := hX3 hk2; simp only [fw] at this; omega
        simp (disch := first | assumption | omega) only [go_sem, ↓reduceIte, reduceIte, Nat.reduceEqDiff, Nat.reduceAdd, Nat.reduceMul, reduceCtorEq, Nat.reduceDiv, Nat.reduceLeDiff, Nat.reduceLT, Nat.reduceSub, r0, r11, r16, r17, r19, r21, r22, r23, r146, bne_self_eq_false, t1, t2, t3, t4]
        exact fin _ (by simp only [go_sem, ↓reduceIte, reduceIte, Nat.reduceEqDiff, Nat.reduceAdd, Nat.reduceMul, reduceCtorEq, Nat.reduceDiv, Nat.reduceLeDiff, Nat.reduceLT, Nat.reduceSub, r0, r11, r16, r17, r19])
      · have t3 : ((k : Int) == 2) = false := by rw [beq_eq_false_iff_ne]; omega
        simp (disch := first | assumption | omega) only [go_sem, ↓reduceIte, reduceIte, Nat.reduceEqDiff, Nat.reduceAdd, Nat.reduceMul, reduceCtorEq, Nat.reduceDiv, Nat.reduceLeDiff, Nat.reduceLT, Nat.reduceSub, r0, r11, r16, r17, r19, r21, r22, r23, r146, bne_self_eq_false, t1, t2, t3]
        exact fin _ (by simp only [go_sem, ↓reduceIte, reduceIte, Nat.reduceEqDiff, Nat.reduceAdd, Nat.reduceMul, reduceCtorEq, Nat.reduceDiv, Nat.reduceLeDiff, Nat.reduceLT, Nat.reduceSub, r0, r11, r16, r17, r19])
    · simp (disch := first | assumption | omega) only [go_sem, ↓reduceIte, reduceIte, Nat.reduceEqDiff, Nat.reduceAdd, Nat.reduceMul, reduceCtorEq, Nat.reduceDiv, Nat.reduceLeDiff, Nat.reduceLT, Nat.reduceSub, r16, r21, hlt, cs_18']

def lateMore_n : Nat := 40
theorem lateMore_ev (l : List Order) (wn dn qn sd : Int) (h1 : ∀ a ∈ l, OWf a) (h2 : l.length ≤ maxLen) (h3 : (Lit.int .u8 wn).wf = true) (h4 : (Lit.int .u8 dn).wf = true) (h5 : (Lit.int .u8 qn).wf = true) (h6 : (Lit.int .u8 sd).wf = true) :
    (evFn (evCall T lateMore_n) c13 [ords l, .int .u8 wn, .int .u8 dn, .int .u8 qn, .int .u8 sd] []).all fun p => p.1 = .bool true := lateMore_at _ rfl l wn dn qn sd h1 h2 h3 h4 h5 h6

end Go.Ev.YtadneamkkepknaaC
