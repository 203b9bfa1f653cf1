/- What Sequence and Kinds answer, the program's and the reference's. Contracts; conditions stand in each. -/
import Derived.Test.YtadneamkkepknaaL5Seq
import Derived.Test.YtadneamkkepknaaL5Kept
import Derived.Test.YtadneamkkepknaaEvMore
set_option linter.unusedSimpArgs false
set_option linter.unusedVariables false
namespace Go.Ev.YtadneamkkepknaaC
open Go Go.Proofs

attribute [local irreducible] Res.all evC evLoop evOps evOper evOp evFn evCall freeze G GO GV GP GC R
set_option maxRecDepth 100000

def refSeq (l : List Order) : List Int × Int := if chk l ≠ 0 then ([], chk l) else (seqOf l, 0)
def seqV (l : List Order) : AV := .tuple [ints (refSeq l).1, .int .i64 (refSeq l).2]

theorem con_26 (l : List Order) (hl : l.length ≤ 15) : Con T 10 26 [ords l] (seqV l) := by
  refine con_intro t26 fun n hn V hV => ?_
  unfold seqV refSeq at hV
  by_cases hc : chk l = 0
  · have hc' : (chk l != 0) = false := by simp [hc]
    have hz : ((0 : Int) = 0 ∨ (0 : Int) = 1) := .inl rfl
    have hsl := seqOf_length l
    have z1 : (1 : Nat) ≤ 2 := by omega
    simp (disch := first | assumption | omega) only [c26, go_sem, ↓reduceIte, reduceIte, Nat.reduceEqDiff, Nat.reduceAdd, Nat.reduceMul, reduceCtorEq, Nat.reduceDiv, Nat.reduceLeDiff, Nat.reduceLT, Nat.reduceSub, cs_23, hc', cs_67, deskV, cs_68, cs_ints, hsl, z1]
    by_cases h0 : l.length = 0
    · have hs0 : seqOf l = [] := List.length_eq_zero_iff.1 (by omega)
      rw [h0, cp_none (cs := []) (by simp [go_sem, ↓reduceIte, reduceIte, Nat.reduceEqDiff, Nat.reduceAdd, Nat.reduceMul, reduceCtorEq, Nat.reduceDiv, Nat.reduceLeDiff, Nat.reduceLT, Nat.reduceSub])]
      simp (disch := first | assumption | omega) only [go_sem, ↓reduceIte, reduceIte, Nat.reduceEqDiff, Nat.reduceAdd, Nat.reduceMul, reduceCtorEq, Nat.reduceDiv, Nat.reduceLeDiff, Nat.reduceLT, Nat.reduceSub]
      refine hV _ _ ?_
      rw [if_neg (by omega), hs0]
      exact frz_two (frz_own (l := []) (by simp [go_sem, ↓reduceIte, reduceIte, Nat.reduceEqDiff, Nat.reduceAdd, Nat.reduceMul, reduceCtorEq, Nat.reduceDiv, Nat.reduceLeDiff, Nat.reduceLT, Nat.reduceSub]) rfl) (frz_int _ _ _ _)
    · rw [cp_full (cs := (List.replicate l.length [AV.int .i64 0]).flatten) (by simp only [go_sem, ↓reduceIte, reduceIte, Nat.reduceEqDiff, Nat.reduceAdd, Nat.reduceMul, reduceCtorEq, Nat.reduceDiv, Nat.reduceLeDiff, Nat.reduceLT, Nat.reduceSub]) (by simp) (by simp [hsl]) (by omega)]
      simp (disch := first | assumption | omega) only [go_sem, ↓reduceIte, reduceIte, Nat.reduceEqDiff, Nat.reduceAdd, Nat.reduceMul, reduceCtorEq, Nat.reduceDiv, Nat.reduceLeDiff, Nat.reduceLT, Nat.reduceSub]
      refine hV _ _ ?_
      rw [if_neg (by omega)]
      exact frz_two (frz_own (getH_setH_self _ _ _) hsl.symm) (frz_int _ _ _ _)
  · have hc' : (chk l != 0) = true := by simp [hc]
    simp (disch := first | assumption | omega) only [c26, go_sem, ↓reduceIte, reduceIte, Nat.reduceEqDiff, Nat.reduceAdd, Nat.reduceMul, reduceCtorEq, Nat.reduceDiv, Nat.reduceLeDiff, Nat.reduceLT, Nat.reduceSub, cs_23, hc']
    refine hV _ _ ?_
    rw [if_pos hc]
    exact frz_two (frz_slice _ _ _ _ _) (frz_int _ _ _ _)

theorem con_27 (l : List Order) (hl : l.length ≤ 15) : Con T 2 27 [ords l] (seqV l) := by
  refine con_intro t27 fun n hn V hV => ?_
  unfold seqV refSeq at hV
  by_cases hc : chk l = 0
  · have hc' : (chk l != 0) = false := by simp [hc]
    simp (disch := first | assumption | omega) only [c27, go_sem, ↓reduceIte, reduceIte, Nat.reduceEqDiff, Nat.reduceAdd, Nat.reduceMul, reduceCtorEq, Nat.reduceDiv, Nat.reduceLeDiff, Nat.reduceLT, Nat.reduceSub, cs_24, hc', cs_52]
    refine hV _ _ ?_
    rw [if_neg (by omega)]
    exact frz_two (frz_slice _ _ _ _ _) (frz_int _ _ _ _)
  · have hc' : (chk l != 0) = true := by simp [hc]
    simp (disch := first | assumption | omega) only [c27, go_sem, ↓reduceIte, reduceIte, Nat.reduceEqDiff, Nat.reduceAdd, Nat.reduceMul, reduceCtorEq, Nat.reduceDiv, Nat.reduceLeDiff, Nat.reduceLT, Nat.reduceSub, cs_24, hc']
    refine hV _ _ ?_
    rw [if_pos hc]
    exact frz_two (frz_slice _ _ _ _ _) (frz_int _ _ _ _)

/-! ### 28: Kinds -/
def kindsV (l : List Order) (s : List Int) : AV := .tuple [ints (refKinds l s).1, .int .i64 (refKinds l s).2]
def acc (l : List Order) (s : List Int) : Nat → Nat → Int
  | 0, _ => 0
  | k + 1, j => acc l s k j + tm l s k j

theorem cs_59 {n base : Nat} {Q : EX × St → Prop} {d : Option Nat} {L : List IOper} {ks : List Kont} {e : Env} {h : Heap} {s w : List Int} {x y : Bool} (hn : 1 ≤ n) (hl : s.length ≤ 15) (hw : w.length = s.length) (hs : ∀ x ∈ s, 0 ≤ x ∧ x < s.length) (hv : ∀ x ∈ w, 0 ≤ x ∧ x ≤ 1000) :
    GP (evCall T n) base Q d L ks e (evCall T n false (.fn 59) [.slice none (s.map (.int .i64)) x, .slice none (w.map (.int .i64)) y] h) = GO (evCall T n) base Q L ks ⟨setDst e d (ints (endsOf s w)), h⟩ :=
  gp_eq (con_59 s w hl hw hs hv) hn (by repeat (first | exact fz_nil _ | refine fz_slice _ _ _ _ ?_ | refine fz_int _ _ _ ?_)) rfl

theorem side_bd {l : List Order} (hv : Valid l) (s : Int) : ∀ x ∈ side l s, 0 ≤ x ∧ x ≤ 1000 := fun x hx => by
  obtain ⟨o, ho, rfl⟩ := List.mem_map.1 hx
  have := hv.ok o ho
  have h1 := this.lo
  have h2 := this.lh
  have h3 := this.hi
  split <;> omega

theorem dueN_get {l : List Order} {i : Nat} {o : Order} (h : l[i]? = some o) : dueN l i = o.due := by simp [dueN, h]

theorem con_28 (l : List Order) (s : List Int) (hl : l.length ≤ 15) (hs : s.length ≤ 15) : Con T 11 28 [ords l, ints s] (kindsV l s) := by
  refine con_intro t28 fun n hn V hV => ?_
  unfold kindsV refKinds at hV
  by_cases hc : chkSeq l s = 0
  · have hc' : (chkSeq l s != 0) = false := by simp [hc]
    obtain ⟨hval, hseq⟩ := (chkSeq_zero l s).1 hc
    have hsl := hseq.len
    have hslt : ∀ x ∈ s, 0 ≤ x ∧ x < s.length := by rw [hsl]; exact hseq.lt.1
    have hfin : ∀ (h : Heap) (c : List Int), getH h 54 = .cells 0 (c.map (.int .i64)) → c.length = l.length → (∀ j, j < l.length → c[j]? = some (acc l s 2 j)) → V (.tuple [.oslice 54 0 none 0 l.length (some l.length), .int .i64 0], h) := fun h c hH hcl hcc => by
      refine hV _ _ ?_
      rw [if_neg (by omega)]
      have : c = kindsOf l s := by
        apply List.ext_getElem?
        intro j
        by_cases hj : j < l.length
        · rw [hcc j hj]
          simp only [kindsOf, List.getElem?_map, List.getElem?_range hj, Option.map_some, acc]
          rw [← kind_tm hval]
          simp
        · rw [List.getElem?_eq_none (by omega), List.getElem?_eq_none (by simp [kindsOf]; omega)]
      rw [← this]
      exact frz_two (frz_own hH hcl.symm) (frz_int _ _ _ _)
    simp (disch := first | assumption | omega) only [c28, go_sem, ↓reduceIte, reduceIte, Nat.reduceEqDiff, Nat.reduceAdd, Nat.reduceMul, reduceCtorEq, Nat.reduceDiv, Nat.reduceLeDiff, Nat.reduceLT, Nat.reduceSub, cs_57, hc']
    obtain ⟨h', e1, e2, -, -⟩ := cl_any (k := .i64) (h := setH (List.replicate 54 .none) 54 (.cells 0 (List.replicate l.length [AV.int .i64 0]).flatten)) (key := 54) (ver := 0) (n := l.length) (c := some l.length) (cs := (List.replicate l.length [AV.int .i64 0]).flatten) (by simp only [go_sem, ↓reduceIte, reduceIte, Nat.reduceEqDiff, Nat.reduceAdd, Nat.reduceMul, reduceCtorEq, Nat.reduceDiv, Nat.reduceLeDiff, Nat.reduceLT, Nat.reduceSub]) (by simp)
    rw [e1]
    simp (disch := first | assumption | omega) only [go_sem, ↓reduceIte, reduceIte, Nat.reduceEqDiff, Nat.reduceAdd, Nat.reduceMul, reduceCtorEq, Nat.reduceDiv, Nat.reduceLeDiff, Nat.reduceLT, Nat.reduceSub]
    clear e1
    refine m_loop (fun M st => ∃ (k : Nat) (c : List Int), M = 2 - k ∧ k ≤ 2 ∧ At st.env [(0, ords l), (1, ints s), (7, .oslice 54 0 none 0 l.length (some l.length)), (21, .int .i64 k)] ∧ getH st.heap 54 = .cells 0 (c.map (.int .i64)) ∧ c.length = l.length ∧ (∀ j, j < l.length → c[j]? = some (acc l s k j))) 2 (by omega)
      ⟨0, List.replicate l.length 0, rfl, by omega, by simp [go_sem, ↓reduceIte, reduceIte, Nat.reduceEqDiff, Nat.reduceAdd, Nat.reduceMul, reduceCtorEq, Nat.reduceDiv, Nat.reduceLeDiff, Nat.reduceLT, Nat.reduceSub], e2, by simp, fun j hj => by simp [hj, acc]⟩ ?_
    clear e2
    rintro M e h hM ⟨k, c, rfl, hk, hE, hH, hcl, hcc⟩ P hP
    simp only [At_cons, At_nil] at hE hH
    obtain ⟨h0, h1, h7, h21, -⟩ := hE
    by_cases hlt : k < 2
    · have hlt' : (k : Int) < 2 := by omega
      have hside : (k : Int) = 0 ∨ (k : Int) = 1 := by omega
      have hwl : (side l (k : Int)).length = s.length := by rw [side_length, hsl]
      have hsb := side_bd hval (k : Int)
      have hel : (endsOf s (side l (k : Int))).length = l.length := by rw [endsOf_length, hsl]
      simp (disch := first | assumption | omega) only [go_sem, ↓reduceIte, reduceIte, Nat.reduceEqDiff, Nat.reduceAdd, Nat.reduceMul, reduceCtorEq, Nat.reduceDiv, Nat.reduceLeDiff, Nat.reduceLT, Nat.reduceSub, h0, h1, h7, h21, hlt', cs_67, deskV, cs_59]
      refine m_loop (fun M st => ∃ (i : Nat) (c : List Int), M = l.length - i ∧ i ≤ l.length ∧ At st.env [(0, ords l), (1, ints s), (7, .oslice 54 0 none 0 l.length (some l.length)), (21, .int .i64 k), (31, ints (endsOf s (side l (k : Int)))), (32, .int .i64 l.length), (33, .int .i64 i)] ∧ getH st.heap 54 = .cells 0 (c.map (.int .i64)) ∧ c.length = l.length ∧
        (∀ j, j < l.length → c[j]? = some (acc l s k j + if j < i then tm l s k j else 0))) l.length (by omega) ⟨0, c, by simp, by omega, by simp [go_sem, ↓reduceIte, reduceIte, Nat.reduceEqDiff, Nat.reduceAdd, Nat.reduceMul, reduceCtorEq, Nat.reduceDiv, Nat.reduceLeDiff, Nat.reduceLT, Nat.reduceSub, h0, h1, h7, h21, hel], hH, hcl, fun j hj => by simp [hcc j hj]⟩ ?_
      clear h0 h1 h7 h21 hH hcl hcc
      rintro M e h hM ⟨i, c, rfl, hi, hE, hH, hcl, hcc⟩ P2 hP2
      simp only [At_cons, At_nil] at hE hH
      obtain ⟨h0, h1, h7, h21, h31, h32, h33, -⟩ := hE
      by_cases hlti : i < l.length
      · obtain ⟨o, ho⟩ := get_ex hlti
        obtain ⟨x, hx⟩ := get_ex (l := endsOf s (side l (k : Int))) (i := i) (by omega)
        have hci := hcc i hlti
        rw [if_neg (by omega), Int.add_zero] at hci
        have hav : -10 ≤ acc l s k i ∧ acc l s k i ≤ 10 := by
          have : ∀ m, m ≤ 2 → 0 ≤ acc l s m i ∧ acc l s m i ≤ m := by
            intro m
            induction m with
            | zero => intro _; simp [acc]
            | succ m ih =>
              intro hm
              have := ih (by omega)
              simp only [acc, tm]
              split <;> omega
          have := this k hk
          omega
        have htm : tm l s k i = if x ≤ o.due then 1 else 0 := by
          simp only [tm, dueN_get ho, List.getD_eq_getElem?_getD, hx, Option.getD_some]
        have q1 : i + 1 ≤ c.length := by omega
        by_cases hle : x ≤ o.due
        · rw [if_pos hle] at htm
          simp (disch := first | assumption | omega) only [go_sem, ↓reduceIte, reduceIte, Nat.reduceEqDiff, Nat.reduceAdd, Nat.reduceMul, reduceCtorEq, Nat.reduceDiv, Nat.reduceLeDiff, Nat.reduceLT, Nat.reduceSub, h0, h1, h7, h21, h31, h32, h33, hH, hlti, ho, hx, oAV, hle, hci, q1]
          refine hP2 (l.length - (i + 1)) _ (by omega) ⟨i + 1, c.set i (acc l s k i + 1), rfl, by omega, by simp only [go_sem, ↓reduceIte, reduceIte, Nat.reduceEqDiff, Nat.reduceAdd, Nat.reduceMul, reduceCtorEq, Nat.reduceDiv, Nat.reduceLeDiff, Nat.reduceLT, Nat.reduceSub, h0, h1, h7, h21, h31, h32], by simp only [go_sem, ↓reduceIte, reduceIte, Nat.reduceEqDiff, Nat.reduceAdd, Nat.reduceMul, reduceCtorEq, Nat.reduceDiv, Nat.reduceLeDiff, Nat.reduceLT, Nat.reduceSub], by simp [hcl], fun j hj => ?_⟩
          rw [List.getElem?_set]
          by_cases hij : i = j
          · subst hij
            rw [if_pos rfl, if_pos (by omega), if_pos (by omega), htm]
          · rw [if_neg hij, hcc j hj]
            congr 2
            by_cases h3 : j < i
            · rw [if_pos h3, if_pos (by omega)]
            · rw [if_neg h3, if_neg (by omega)]
        · rw [if_neg hle] at htm
          simp (disch := first | assumption | omega) only [go_sem, ↓reduceIte, reduceIte, Nat.reduceEqDiff, Nat.reduceAdd, Nat.reduceMul, reduceCtorEq, Nat.reduceDiv, Nat.reduceLeDiff, Nat.reduceLT, Nat.reduceSub, h0, h1, h7, h21, h31, h32, h33, hH, hlti, ho, hx, oAV, hle, hci, q1]
          refine hP2 (l.length - (i + 1)) _ (by omega) ⟨i + 1, c, rfl, by omega, by simp only [go_sem, ↓reduceIte, reduceIte, Nat.reduceEqDiff, Nat.reduceAdd, Nat.reduceMul, reduceCtorEq, Nat.reduceDiv, Nat.reduceLeDiff, Nat.reduceLT, Nat.reduceSub, h0, h1, h7, h21, h31, h32], hH, hcl, fun j hj => ?_⟩
          rw [hcc j hj]
          congr 2
          by_cases h3 : j < i
          · rw [if_pos h3, if_pos (by omega)]
          · rw [if_neg h3]
            by_cases hij : i = j
            · subst hij; rw [if_pos (by omega), htm]
            · rw [if_neg (by omega)]
      · simp (disch := first | assumption | omega) only [go_sem, ↓reduceIte, reduceIte, Nat.reduceEqDiff, Nat.reduceAdd, Nat.reduceMul, reduceCtorEq, Nat.reduceDiv, Nat.reduceLeDiff, Nat.reduceLT, Nat.reduceSub, h0, h1, h7, h21, h31, h32, h33, hlti]
        refine hP (2 - (k + 1)) _ (by omega) ⟨k + 1, c, rfl, by omega, by simp only [go_sem, ↓reduceIte, reduceIte, Nat.reduceEqDiff, Nat.reduceAdd, Nat.reduceMul, reduceCtorEq, Nat.reduceDiv, Nat.reduceLeDiff, Nat.reduceLT, Nat.reduceSub, h0, h1, h7], hH, hcl, fun j hj => ?_⟩
        rw [hcc j hj, if_pos (by omega)]
        rfl
    · obtain rfl : k = 2 := by omega
      have hlt' : ¬ ((2 : Nat) : Int) < 2 := by omega
      have hlt'' : ¬ (2 : Int) < 2 := by omega
      simp (disch := first | assumption | omega) only [go_sem, ↓reduceIte, reduceIte, Nat.reduceEqDiff, Nat.reduceAdd, Nat.reduceMul, reduceCtorEq, Nat.reduceDiv, Nat.reduceLeDiff, Nat.reduceLT, Nat.reduceSub, h0, h1, h7, h21, hlt', hlt'']
      exact hfin _ _ hH hcl hcc
  · have hc' : (chkSeq l s != 0) = true := by simp [hc]
    simp (disch := first | assumption | omega) only [c28, go_sem, ↓reduceIte, reduceIte, Nat.reduceEqDiff, Nat.reduceAdd, Nat.reduceMul, reduceCtorEq, Nat.reduceDiv, Nat.reduceLeDiff, Nat.reduceLT, Nat.reduceSub, cs_57, hc']
    refine hV _ _ ?_
    rw [if_pos hc]
    exact frz_two (frz_slice _ _ _ _ _) (frz_int _ _ _ _)

/-! ### 29: the reference's Kinds -/
theorem con_29 (l : List Order) (s : List Int) (hl : l.length ≤ 15) (hs : s.length ≤ 15) : Con T 4 29 [ords l, ints s] (kindsV l s) := by
  refine con_intro t29 fun n hn V hV => ?_
  unfold kindsV refKinds at hV
  by_cases hc : chkSeq l s = 0
  · have hc' : (chkSeq l s != 0) = false := by simp [hc]
    obtain ⟨hval, hseq⟩ := (chkSeq_zero l s).1 hc
    have hsl := hseq.len
    have hslt : ∀ x ∈ s, 0 ≤ x ∧ x < s.length := by rw [hsl]; exact hseq.lt.1
    have hwl0 : (side l 0).length = s.length := by rw [side_length, hsl]
    have hwl1 : (side l 1).length = s.length := by rw [side_length, hsl]
    have hsb0 := side_bd hval 0
    have hsb1 := side_bd hval 1
    have hel0 : (endsOf s (side l 0)).length = l.length := by rw [endsOf_length, hsl]
    have hel1 : (endsOf s (side l 1)).length = l.length := by rw [endsOf_length, hsl]
    simp (disch := first | assumption | omega) only [c29, go_sem, ↓reduceIte, reduceIte, Nat.reduceEqDiff, Nat.reduceAdd, Nat.reduceMul, reduceCtorEq, Nat.reduceDiv, Nat.reduceLeDiff, Nat.reduceLT, Nat.reduceSub, cs_48, hc', cs_47, cs_61]
    refine m_loop (fun M st => ∃ (k : Nat) (v : AV), M = l.length - k ∧ k ≤ l.length ∧ At st.env [(0, ords l), (6, ints (endsOf s (side l 0))), (7, ints (endsOf s (side l 1))), (8, v), (9, .int .i64 k)] ∧ Own 57 st.heap v .i64 ((kindsOf l s).take k) ∧ 57 ≤ st.heap.length) l.length (by omega)
      ⟨0, .slice none [] true, by simp, by omega, by simp [go_sem, ↓reduceIte, reduceIte, Nat.reduceEqDiff, Nat.reduceAdd, Nat.reduceMul, reduceCtorEq, Nat.reduceDiv, Nat.reduceLeDiff, Nat.reduceLT, Nat.reduceSub], own_nil .., by simp⟩ ?_
    rintro M e h hM ⟨k, v, rfl, hk, hE, hO, hlen⟩ P hP
    simp only [At_cons, At_nil] at hE hO hlen
    obtain ⟨h0, h6, h7, h8, h9, -⟩ := hE
    by_cases hlt : k < l.length
    · obtain ⟨o, ho⟩ := get_ex hlt
      obtain ⟨x, hx⟩ := get_ex (l := endsOf s (side l 0)) (i := k) (by omega)
      obtain ⟨y, hy⟩ := get_ex (l := endsOf s (side l 1)) (i := k) (by omega)
      have hkr : kindR l s k = if x > o.due then 0 else if y ≤ o.due then 2 else 1 := by
        simp only [kindR, dueN_get ho, List.getD_eq_getElem?_getD, hx, hy, Option.getD_some]
      have hstep : (kindsOf l s).take (k + 1) = (kindsOf l s).take k ++ [kindR l s k] := by
        rw [List.take_add_one]
        simp [kindsOf, hlt]
      have hlk : ((kindsOf l s).take k).length + 1 ≤ 16 := by rw [List.length_take]; omega
      rw [hkr] at hstep
      have fin : ∀ (e' : Env) (h' : Heap) (x' : AV), Own 57 h' x' .i64 ((kindsOf l s).take (k + 1)) → 57 ≤ h'.length → At e' [(0, ords l), (6, ints (endsOf s (side l 0))), (7, ints (endsOf s (side l 1))), (8, x'), (9, .int .i64 ((k : Int) + 1))] → P ⟨e', h'⟩ := fun e' h' x' a b c =>
        hP (l.length - (k + 1)) _ (by omega) ⟨k + 1, x', rfl, by omega, c, a, b⟩
      by_cases g1 : y ≤ o.due
      · by_cases g2 : x > o.due
        · rw [if_pos g2] at hstep
          simp (disch := first | assumption | omega) only [go_sem, ↓reduceIte, reduceIte, Nat.reduceEqDiff, Nat.reduceAdd, Nat.reduceMul, reduceCtorEq, Nat.reduceDiv, Nat.reduceLeDiff, Nat.reduceLT, Nat.reduceSub, h0, h6, h7, h8, h9, hlt, ho, hx, hy, oAV, g1, g2]
          refine gp_append1 (by first | with_reducible rfl | (simp only [length_setH, List.length_append, List.length_replicate]; done) | (simp only [length_setH, List.length_append, List.length_replicate]; omega)) hO hlen (by omega) fun x' h' hO' hF hL _ _ => ?_
          simp (disch := first | assumption | omega) only [go_sem, ↓reduceIte, reduceIte, Nat.reduceEqDiff, Nat.reduceAdd, Nat.reduceMul, reduceCtorEq, Nat.reduceDiv, Nat.reduceLeDiff, Nat.reduceLT, Nat.reduceSub, h0, h6, h7, h8, h9]
          exact fin _ _ x' (by rw [hstep]; exact hO') (Nat.le_trans hlen hL) (by simp only [go_sem, ↓reduceIte, reduceIte, Nat.reduceEqDiff, Nat.reduceAdd, Nat.reduceMul, reduceCtorEq, Nat.reduceDiv, Nat.reduceLeDiff, Nat.reduceLT, Nat.reduceSub, h0, h6, h7])
        · rw [if_neg g2, if_pos g1] at hstep
          simp (disch := first | assumption | omega) only [go_sem, ↓reduceIte, reduceIte, Nat.reduceEqDiff, Nat.reduceAdd, Nat.reduceMul, reduceCtorEq, Nat.reduceDiv, Nat.reduceLeDiff, Nat.reduceLT, Nat.reduceSub, h0, h6, h7, h8, h9, hlt, ho, hx, hy, oAV, g1, g2]
          refine gp_append1 (by first | with_reducible rfl | (simp only [length_setH, List.length_append, List.length_replicate]; done) | (simp only [length_setH, List.length_append, List.length_replicate]; omega)) hO hlen (by omega) fun x' h' hO' hF hL _ _ => ?_
          simp (disch := first | assumption | omega) only [go_sem, ↓reduceIte, reduceIte, Nat.reduceEqDiff, Nat.reduceAdd, Nat.reduceMul, reduceCtorEq, Nat.reduceDiv, Nat.reduceLeDiff, Nat.reduceLT, Nat.reduceSub, h0, h6, h7, h8, h9]
          exact fin _ _ x' (by rw [hstep]; exact hO') (Nat.le_trans hlen hL) (by simp only [go_sem, ↓reduceIte, reduceIte, Nat.reduceEqDiff, Nat.reduceAdd, Nat.reduceMul, reduceCtorEq, Nat.reduceDiv, Nat.reduceLeDiff, Nat.reduceLT, Nat.reduceSub, h0, h6, h7])
      · by_cases g2 : x > o.due
        · rw [if_pos g2] at hstep
          simp (disch := first | assumption | omega) only [go_sem, ↓reduceIte, reduceIte, Nat.reduceEqDiff, Nat.reduceAdd, Nat.reduceMul, reduceCtorEq, Nat.reduceDiv, Nat.reduceLeDiff, Nat.reduceLT, Nat.reduceSub, h0, h6, h7, h8, h9, hlt, ho, hx, hy, oAV, g1, g2]
          refine gp_append1 (by first | with_reducible rfl | (simp only [length_setH, List.length_append, List.length_replicate]; done) | (simp only [length_setH, List.length_append, List.length_replicate]; omega)) hO hlen (by omega) fun x' h' hO' hF hL _ _ => ?_
          simp (disch := first | assumption | omega) only [go_sem, ↓reduceIte, reduceIte, Nat.reduceEqDiff, Nat.reduceAdd, Nat.reduceMul, reduceCtorEq, Nat.reduceDiv, Nat.reduceLeDiff, Nat.reduceLT, Nat.reduceSub, h0, h6, h7, h8, h9]
          exact fin _ _ x' (by rw [hstep]; exact hO') (Nat.le_trans hlen hL) (by simp only [go_sem, ↓reduceIte, reduceIte, Nat.reduceEqDiff, Nat.reduceAdd, Nat.reduceMul, reduceCtorEq, Nat.reduceDiv, Nat.reduceLeDiff, Nat.reduceLT, Nat.reduceSub, h0, h6, h7])
        · rw [if_neg g2, if_neg g1] at hstep
          simp (disch := first | assumption | omega) only [go_sem, ↓reduceIte, reduceIte, Nat.reduceEqDiff, Nat.reduceAdd, Nat.reduceMul, reduceCtorEq, Nat.reduceDiv, Nat.reduceLeDiff, Nat.reduceLT, Nat.reduceSub, h0, h6, h7, h8, h9, hlt, ho, hx, hy, oAV, g1, g2]
          refine gp_append1 (by first | with_reducible rfl | (simp only [length_setH, List.length_append, List.length_replicate]; done) | (simp only [length_setH, List.length_append, List.length_replicate]; omega)) hO hlen (by omega) fun x' h' hO' hF hL _ _ => ?_
          simp (disch := first | assumption | omega) only [go_sem, ↓reduceIte, reduceIte, Nat.reduceEqDiff, Nat.reduceAdd, Nat.reduceMul, reduceCtorEq, Nat.reduceDiv, Nat.reduceLeDiff, Nat.reduceLT, Nat.reduceSub, h0, h6, h7, h8, h9]
          exact fin _ _ x' (by rw [hstep]; exact hO') (Nat.le_trans hlen hL) (by simp only [go_sem, ↓reduceIte, reduceIte, Nat.reduceEqDiff, Nat.reduceAdd, Nat.reduceMul, reduceCtorEq, Nat.reduceDiv, Nat.reduceLeDiff, Nat.reduceLT, Nat.reduceSub, h0, h6, h7])
    · obtain rfl : k = l.length := by omega
      simp (disch := first | assumption | omega) only [go_sem, ↓reduceIte, reduceIte, Nat.reduceEqDiff, Nat.reduceAdd, Nat.reduceMul, reduceCtorEq, Nat.reduceDiv, Nat.reduceLeDiff, Nat.reduceLT, Nat.reduceSub, h0, h6, h7, h8, h9, hlt]
      rw [List.take_of_length_le (by simp [kindsOf])] at hO
      refine hV _ _ ?_
      rw [if_neg (by omega)]
      exact frz_two (frz_Own hO) (frz_int _ _ _ _)
  · have hc' : (chkSeq l s != 0) = true := by simp [hc]
    simp (disch := first | assumption | omega) only [c29, go_sem, ↓reduceIte, reduceIte, Nat.reduceEqDiff, Nat.reduceAdd, Nat.reduceMul, reduceCtorEq, Nat.reduceDiv, Nat.reduceLeDiff, Nat.reduceLT, Nat.reduceSub, cs_48, hc']
    refine hV _ _ ?_
    rw [if_pos hc]
    exact frz_two (frz_slice _ _ _ _ _) (frz_int _ _ _ _)

end Go.Ev.YtadneamkkepknaaC
