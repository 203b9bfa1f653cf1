/- How many orders can be kept at most: the program's table. Contract; conditions stand in it. -/
import Derived.Test.YtadneamkkepknaaL5Days
import Derived.Test.YtadneamkkepknaaL5Math
set_option linter.unusedSimpArgs false
set_option linter.unusedVariables false
namespace Go.Ev.YtadneamkkepknaaC
open Go Go.Proofs

/-- a slice that reads as a list -/
def RdL (h : Heap) (v : AV) (ls : List Int) : Prop := (∃ ex, v = .slice none (ls.map (.int .i64)) ex) ∨ ∃ key ver cap, v = .oslice key ver none 0 ls.length cap ∧ getH h key = .cells ver (ls.map (.int .i64))

/-- how its elements are read -/
theorem RdL.pt {h : Heap} {v : AV} {ls : List Int} (hv : RdL h v ls) : lenA v = some ls.length ∧ ∃ pt : Nat → AV, (∀ (j : Nat) (x : Int), ls[j]? = some x → ixA 1 v j = .ret (pt j) ∧ ldA none h (pt j) = .ret (.int .i64 x)) ∧ ∀ (nk : Nat) (o : AObj) (h2 : Heap) (j : Nat), h.length ≤ nk → ldA none (setH h2 nk o) (pt j) = ldA none h2 (pt j) := by
  rcases hv with ⟨ex, rfl⟩ | ⟨key, ver, cap, rfl, hH⟩
  · refine ⟨by simp [lenA], fun j => .ptr [(ls.map (AV.int .i64)).getD j .undef] 0, fun j x hx => ?_, fun nk o h2 j _ => rfl⟩
    have hx' : (ls.map (AV.int .i64))[j]? = some (.int .i64 x) := by simp [hx]
    constructor
    · simp only [ixA, gsize, if_true, hx']
      rw [List.getD_eq_getElem?_getD, hx']
      rfl
    · simp only [ldA, rd]
      rw [List.getD_eq_getElem?_getD, hx']
      rfl
  · refine ⟨rfl, fun j => .optr key ver j, fun j x hx => ?_, fun nk o h2 j hnk => ?_⟩
    · have hj := (List.getElem?_eq_some_iff.1 hx).1
      have hx' : (ls.map (AV.int .i64))[j]? = some (.int .i64 x) := by simp [hx]
      constructor
      · simp only [ixA, gsize]
        rw [if_pos ⟨trivial, hj⟩]
        simp
      · simp only [ldA, hH, if_true, rd, hx']
        rfl
    · have hlt := getH_lt hH (by simp)
      simp only [ldA]
      rw [getH_setH_ne _ _ _ _ (by omega)]

attribute [local irreducible] Res.all evC evLoop evOps evOper evOp evFn evCall freeze G GO GV GP GC R
set_option maxRecDepth 100000

theorem con_79 (l : List Order) (s wi wo : Int) (hv : Valid l) : Con T 8 79 [deskV l s, .int .i64 wi, .int .i64 wo] (.int .i64 (mostOf l s wi wo)) := by
  refine con_intro t79 fun n hn V hV => ?_
  have hl := hv.len
  have hl15 : l.length ≤ 15 := by omega
  have hsl := seqOf_length l
  have hwl := side_length l s
  have hsb := side_bd' hv s
  have z1 : (1 : Nat) ≤ 2 := by omega
  simp (disch := first | assumption | omega) only [c79, go_sem, ↓reduceIte, reduceIte, Nat.reduceEqDiff, Nat.reduceAdd, Nat.reduceMul, reduceCtorEq, Nat.reduceDiv, Nat.reduceLeDiff, Nat.reduceLT, Nat.reduceSub, deskV, z1, cs_68]
  refine m_loop (fun M st => ∃ (k : Nat) (v : AV) (ls : List Int), M = l.length - k ∧ k ≤ l.length ∧ At st.env [(0, deskV l s), (1, .int .i64 wi), (2, .int .i64 wo), (7, v), (19, ints (seqOf l)), (20, .int .i64 l.length), (21, .int .i64 k)] ∧ RdL st.heap v ls ∧ ls.length ≤ k + 1 ∧ (∀ x ∈ ls, -1 ≤ x ∧ x ≤ 2000) ∧
    dpGo l (side l s) wi wo ((seqOf l).drop k) ls = dpGo l (side l s) wi wo (seqOf l) [0]) l.length (by omega)
    ⟨0, .slice none [.int .i64 0] true, [0], by simp, by omega, by simp [go_sem, ↓reduceIte, reduceIte, Nat.reduceEqDiff, Nat.reduceAdd, Nat.reduceMul, reduceCtorEq, Nat.reduceDiv, Nat.reduceLeDiff, Nat.reduceLT, Nat.reduceSub, deskV, hsl], .inl ⟨true, rfl⟩, by simp, by simp, rfl⟩ ?_
  rintro M e h hM ⟨k, v, ls, rfl, hk, hE, hR, hll, hlb, hgo⟩ P hP
  simp only [At_cons, At_nil] at hE hR
  obtain ⟨h0, h1, h2, h7, h19, h20, h21, -⟩ := hE
  obtain ⟨hlen, pt, hpt, hst⟩ := hR.pt
  by_cases hlt : k < l.length
  · obtain ⟨i, hi⟩ := get_ex (l := seqOf l) (i := k) (by omega)
    have hib := seqOf_mem.1 (List.mem_of_getElem? hi)
    obtain ⟨q, rfl⟩ := Int.eq_ofNat_of_zero_le hib.1
    obtain ⟨o, ho⟩ := get_ex (l := l) (i := q) (by omega)
    obtain ⟨y, hy⟩ := get_ex (l := side l s) (i := q) (by omega)
    have hyw := wk_get hy
    have hyb := hsb y (List.mem_of_getElem? hy)
    have hod := hv.ok o (List.mem_of_getElem? ho)
    have hod1 := hod.d1
    have hdue := dueOf_nat ho
    rw [drop_cons hi, dpGo] at hgo
    by_cases hwo : (q : Int) = wo
    · rw [if_pos hwo] at hgo
      have hb : ((q : Int) == wo) = true := by simp [hwo]
      simp (disch := first | assumption | omega) only [go_sem, ↓reduceIte, reduceIte, Nat.reduceEqDiff, Nat.reduceAdd, Nat.reduceMul, reduceCtorEq, Nat.reduceDiv, Nat.reduceLeDiff, Nat.reduceLT, Nat.reduceSub, h0, h1, h2, h7, h19, h20, h21, hlt, hi, hb]
      exact hP (l.length - (k + 1)) _ (by omega) ⟨k + 1, v, ls, rfl, by omega, by simp only [go_sem, ↓reduceIte, reduceIte, Nat.reduceEqDiff, Nat.reduceAdd, Nat.reduceMul, reduceCtorEq, Nat.reduceDiv, Nat.reduceLeDiff, Nat.reduceLT, Nat.reduceSub, h0, h1, h2, h7, h19, h20], hR, by omega, hlb, hgo⟩
    · rw [if_neg hwo] at hgo
      have hb : ((q : Int) == wo) = false := by simpa using hwo
      have hnx : getH h h.length = .none := getH_ge _ _ (Nat.le_refl _)
      simp (disch := first | assumption | omega) only [go_sem, ↓reduceIte, reduceIte, Nat.reduceEqDiff, Nat.reduceAdd, Nat.reduceMul, reduceCtorEq, Nat.reduceDiv, Nat.reduceLeDiff, Nat.reduceLT, Nat.reduceSub, h0, h1, h2, h7, h19, h20, h21, hlt, hi, hb, hlen, hnx]
      have hcell : ∀ j, j ≤ ls.length → -1 ≤ dpCell l (side l s) wi q ls j ∧ dpCell l (side l s) wi q ls j ≤ 2000 := fun j hj => by
        have hg : ∀ m, -1 ≤ ls.getD m 0 ∧ ls.getD m 0 ≤ 2000 := fun m => by
          rw [List.getD_eq_getElem?_getD]
          cases hm : ls[m]? with
          | none => simp
          | some x => exact hlb x (List.mem_of_getElem? hm)
        have ho1 : -1 ≤ dpOld wi q ls j ∧ dpOld wi q ls j ≤ 2000 := by
          unfold dpOld
          split
          · exact hg j
          · omega
        have := hg (j - 1)
        unfold dpCell
        rw [← hyw, hdue]
        split
        · exact ho1
        · split <;> omega
      refine m_loop (fun M st => ∃ (j : Nat) (c : List Int), M = ls.length + 1 - j ∧ j ≤ ls.length + 1 ∧ At st.env [(0, deskV l s), (1, .int .i64 wi), (2, .int .i64 wo), (7, v), (9, .int .i64 q), (10, .oslice h.length 0 none 0 (ls.length + 1) (some (ls.length + 1))), (19, ints (seqOf l)), (20, .int .i64 l.length), (21, .int .i64 k), (33, .int .i64 (ls.length + 1 : Nat)), (34, .int .i64 j)] ∧
        getH st.heap h.length = .cells 0 (c.map (.int .i64)) ∧ c.length = ls.length + 1 ∧ (∀ m, m < j → c[m]? = some (dpCell l (side l s) wi q ls m)) ∧ (∀ (m : Nat) (x : Int), ls[m]? = some x → ldA none st.heap (pt m) = .ret (.int .i64 x))) (ls.length + 1) (by omega)
        ⟨0, List.replicate (ls.length + 1) 0, by simp, by omega, by simp [go_sem, ↓reduceIte, reduceIte, Nat.reduceEqDiff, Nat.reduceAdd, Nat.reduceMul, reduceCtorEq, Nat.reduceDiv, Nat.reduceLeDiff, Nat.reduceLT, Nat.reduceSub, h0, h1, h2, h7, h19, h20, h21], by simp [go_sem, ↓reduceIte, reduceIte, Nat.reduceEqDiff, Nat.reduceAdd, Nat.reduceMul, reduceCtorEq, Nat.reduceDiv, Nat.reduceLeDiff, Nat.reduceLT, Nat.reduceSub], by simp, by simp, fun m x hx => by rw [hst _ _ _ _ (Nat.le_refl _)]; exact (hpt m x hx).2⟩ ?_
      clear h0 h1 h2 h7 h19 h20 h21 hnx
      generalize hK : h.length = K at *
      rintro M e h3 hM ⟨j, c, rfl, hj, hE, hH, hcl, hcc, hld⟩ P3 hP3
      simp only [At_cons, At_nil] at hE hH
      obtain ⟨h0, h1, h2, h7, h9, h10, h19, h20, h21, h33, h34, -⟩ := hE
      by_cases hltj : j < ls.length + 1
      · have hj1 : j + 1 ≤ c.length := by omega
        have hltI : (j : Int) < (ls.length : Int) + 1 := by omega
        have fin : ∀ (e' : Env) (h' : Heap) (c' : List Int), getH h' K = .cells 0 (c'.map (.int .i64)) → c'.length = ls.length + 1 → (∀ m, m < j → c'[m]? = c[m]?) → c'[j]? = some (dpCell l (side l s) wi q ls j) → (∀ m, ldA none h' (pt m) = ldA none h3 (pt m)) →
            At e' [(0, deskV l s), (1, .int .i64 wi), (2, .int .i64 wo), (7, v), (9, .int .i64 q), (10, .oslice K 0 none 0 (ls.length + 1) (some (ls.length + 1))), (19, ints (seqOf l)), (20, .int .i64 l.length), (21, .int .i64 k), (33, .int .i64 (ls.length + 1 : Nat)), (34, .int .i64 ((j : Int) + 1))] → P3 ⟨e', h'⟩ := fun e' h' c' f1 f2 f3 f4 f5 f6 =>
          hP3 (ls.length + 1 - (j + 1)) _ (by omega) ⟨j + 1, c', rfl, by omega, f6, f1, f2, fun m hm => by
            by_cases hmj : m = j
            · rw [hmj]; exact f4
            · rw [f3 m (by omega)]; exact hcc m (by omega), fun m x hx => by rw [f5]; exact hld m x hx⟩
        have hst1 : ∀ (o : AObj) (m : Nat), ldA none (setH h3 K o) (pt m) = ldA none h3 (pt m) := fun o m => hst K o h3 m (Nat.le_refl _)
        have hst2 : ∀ (o o2 : AObj) (m : Nat), ldA none (setH (setH h3 K o) K o2) (pt m) = ldA none h3 (pt m) := fun o o2 m => by rw [hst K o2 _ m (Nat.le_refl _), hst1]
        have hst3 : ∀ (o o2 o3 : AObj) (m : Nat), ldA none (setH (setH (setH h3 K o) K o2) K o3) (pt m) = ldA none h3 (pt m) := fun o o2 o3 m => by rw [hst K o3 _ m (Nat.le_refl _), hst2]
        have hset : ∀ (m : Nat) (a b : Int), m < j → (((c.set j (-1)).set j a).set j b)[m]? = c[m]? := fun m a b hm => by
          rw [List.getElem?_set_ne (by omega), List.getElem?_set_ne (by omega), List.getElem?_set_ne (by omega)]
        have hA : ∀ m, m < ls.length → (q : Int) ≠ wi → ∃ x, ls[m]? = some x ∧ dpOld wi q ls m = x := fun m hm hne => by
          obtain ⟨x, hx⟩ := get_ex hm
          exact ⟨x, hx, by rw [dpOld, if_pos ⟨hm, hne⟩, List.getD_eq_getElem?_getD, hx]; rfl⟩
        have hAm : ∀ m, ¬ (m < ls.length ∧ (q : Int) ≠ wi) → dpOld wi q ls m = -1 := fun m hm => by rw [dpOld, if_neg hm]
        have hg1 : ∀ m : Nat, m = j → (c.set m (-1))[m]? = some (-1) := fun m hm => by rw [List.getElem?_set_self (by omega)]
        have hg2 : ∀ (m : Nat) (x : Int), m = j → ((c.set m (-1)).set m x)[m]? = some x := fun m x hm => by rw [List.getElem?_set_self (by rw [List.length_set]; omega)]
        have hj2 : j + 1 ≤ ls.length + 1 := by omega
        match j, hltj, hj, hj1, hltI, h34, fin, hset, hg1, hg2, hj2, hcc, hM with
        | 0, hltj, hj, hj1, hltI, h34, fin, hset, hg1, hg2, hj2, hcc, hM =>
          have hgA1 := hg1 0 rfl
          have hgA2 := fun x => hg2 0 x rfl
          have z0 : ((0 : Int) == 0) = true := rfl
          have hltI : (0 : Int) < (ls.length : Int) + 1 := by omega
          have hd0 : dpCell l (side l s) wi q ls 0 = dpOld wi q ls 0 := by rw [dpCell, if_pos (.inl rfl)]
          by_cases hl1 : 0 < ls.length
          · have hjl : (0 : Int) < (ls.length : Int) := by omega
            by_cases hqw : (q : Int) = wi
            · have hbw : ((q : Int) != wi) = false := by simp [hqw]
              have hAe := hAm (0) (fun h => h.2 hqw)
              simp (disch := first | assumption | omega) only [go_sem, ↓reduceIte, reduceIte, Nat.reduceEqDiff, Nat.reduceAdd, Nat.reduceMul, reduceCtorEq, Nat.reduceDiv, Nat.reduceLeDiff, Nat.reduceLT, Nat.reduceSub, h0, h1, h2, h7, h9, h10, h19, h20, h21, h33, h34, hH, hcl, List.length_set, hlen, deskV, hy, ho, oAV, hj2, Int.add_sub_cancel, hjl, hbw, hltj, hltI, hgA1, z0]
              refine fin _ _ (c.set (0) (-1)) (by simp only [go_sem, ↓reduceIte, reduceIte, Nat.reduceEqDiff, Nat.reduceAdd, Nat.reduceMul, reduceCtorEq, Nat.reduceDiv, Nat.reduceLeDiff, Nat.reduceLT, Nat.reduceSub]) (by simp [hcl]) (fun m hm => ?_) ?_ (fun m => by simp only [hst1, hst2, hst3]) (by simp only [go_sem, ↓reduceIte, reduceIte, Nat.reduceEqDiff, Nat.reduceAdd, Nat.reduceMul, reduceCtorEq, Nat.reduceDiv, Nat.reduceLeDiff, Nat.reduceLT, Nat.reduceSub, h0, h1, h2, h7, h9, h10, h19, h20, h21, h33])
              · rw [List.getElem?_set_ne (by omega)]
              · rw [List.getElem?_set_self (by simp only [List.length_set, hcl]; omega)]
                rw [hd0, hAe]
            · have hbw : ((q : Int) != wi) = true := by simp [hqw]
              obtain ⟨xj, hxj, hAe⟩ := hA (0) hl1 hqw
              have hixj := (hpt _ _ hxj).1
              have hldj : ∀ o, ldA none (setH h3 K o) (pt (0)) = .ret (.int .i64 xj) := fun o => by rw [hst1]; exact hld _ _ hxj
              simp (disch := first | assumption | omega) only [go_sem, ↓reduceIte, reduceIte, Nat.reduceEqDiff, Nat.reduceAdd, Nat.reduceMul, reduceCtorEq, Nat.reduceDiv, Nat.reduceLeDiff, Nat.reduceLT, Nat.reduceSub, h0, h1, h2, h7, h9, h10, h19, h20, h21, h33, h34, hH, hcl, List.length_set, hlen, deskV, hy, ho, oAV, hj2, Int.add_sub_cancel, hjl, hbw, hltj, hltI, hixj, hldj, hgA2 xj, z0]
              refine fin _ _ ((c.set (0) (-1)).set (0) xj) (by simp only [go_sem, ↓reduceIte, reduceIte, Nat.reduceEqDiff, Nat.reduceAdd, Nat.reduceMul, reduceCtorEq, Nat.reduceDiv, Nat.reduceLeDiff, Nat.reduceLT, Nat.reduceSub]) (by simp [hcl]) (fun m hm => ?_) ?_ (fun m => by simp only [hst1, hst2, hst3]) (by simp only [go_sem, ↓reduceIte, reduceIte, Nat.reduceEqDiff, Nat.reduceAdd, Nat.reduceMul, reduceCtorEq, Nat.reduceDiv, Nat.reduceLeDiff, Nat.reduceLT, Nat.reduceSub, h0, h1, h2, h7, h9, h10, h19, h20, h21, h33])
              · rw [List.getElem?_set_ne (by omega), List.getElem?_set_ne (by omega)]
              · rw [List.getElem?_set_self (by simp only [List.length_set, hcl]; omega)]
                rw [hd0, hAe]
          · have hjl : ¬ (0 : Int) < (ls.length : Int) := by omega
            have hAe := hAm (0) (fun h => hl1 h.1)
            simp (disch := first | assumption | omega) only [go_sem, ↓reduceIte, reduceIte, Nat.reduceEqDiff, Nat.reduceAdd, Nat.reduceMul, reduceCtorEq, Nat.reduceDiv, Nat.reduceLeDiff, Nat.reduceLT, Nat.reduceSub, h0, h1, h2, h7, h9, h10, h19, h20, h21, h33, h34, hH, hcl, List.length_set, hlen, deskV, hy, ho, oAV, hj2, Int.add_sub_cancel, hjl, hltj, hltI, hgA1, z0]
            refine fin _ _ (c.set (0) (-1)) (by simp only [go_sem, ↓reduceIte, reduceIte, Nat.reduceEqDiff, Nat.reduceAdd, Nat.reduceMul, reduceCtorEq, Nat.reduceDiv, Nat.reduceLeDiff, Nat.reduceLT, Nat.reduceSub]) (by simp [hcl]) (fun m hm => ?_) ?_ (fun m => by simp only [hst1, hst2, hst3]) (by simp only [go_sem, ↓reduceIte, reduceIte, Nat.reduceEqDiff, Nat.reduceAdd, Nat.reduceMul, reduceCtorEq, Nat.reduceDiv, Nat.reduceLeDiff, Nat.reduceLT, Nat.reduceSub, h0, h1, h2, h7, h9, h10, h19, h20, h21, h33])
            · rw [List.getElem?_set_ne (by omega)]
            · rw [List.getElem?_set_self (by simp only [List.length_set, hcl]; omega)]
              rw [hd0, hAe]
        | j + 1, hltj, hj, hj1, hltI, h34, fin, hset, hg1, hg2, hj2, hcc, hM =>
          have hgA1 := hg1 (j + 1) rfl
          have hgA2 := fun x => hg2 (j + 1) x rfl
          have hltI : (j : Int) + 1 < (ls.length : Int) + 1 := by omega
          have z0 : ((j : Int) + 1 == 0) = false := beq_eq_false_iff_ne.2 (by omega)
          obtain ⟨p, hp⟩ := get_ex (l := ls) (i := j) (by omega)
          have hpb := hlb p (List.mem_of_getElem? hp)
          have hixp := (hpt _ _ hp).1
          have hldp1 : ∀ o, ldA none (setH h3 K o) (pt j) = .ret (.int .i64 p) := fun o => by rw [hst1]; exact hld _ _ hp
          have hldp2 : ∀ o o2, ldA none (setH (setH h3 K o) K o2) (pt j) = .ret (.int .i64 p) := fun o o2 => by rw [hst2]; exact hld _ _ hp
          have hpg : ls.getD j 0 = p := by rw [List.getD_eq_getElem?_getD, hp]; rfl
          have hdc : dpCell l (side l s) wi q ls (j + 1) = if p < 0 then dpOld wi q ls (j + 1) else if p + y ≤ o.due ∧ (dpOld wi q ls (j + 1) < 0 ∨ p + y < dpOld wi q ls (j + 1)) then p + y else dpOld wi q ls (j + 1) := by
            rw [dpCell]
            simp only [Nat.add_sub_cancel, Nat.add_eq_zero_iff, Nat.one_ne_zero, and_false, false_or, hpg, ← hyw, hdue]
          by_cases hl1 : j + 1 < ls.length
          · have hjl : (j : Int) + 1 < (ls.length : Int) := by omega
            by_cases hqw : (q : Int) = wi
            · have hbw : ((q : Int) != wi) = false := by simp [hqw]
              have hAe := hAm (j + 1) (fun h => h.2 hqw)
              by_cases g1 : p < 0
              · simp (disch := first | assumption | omega) only [go_sem, ↓reduceIte, reduceIte, Nat.reduceEqDiff, Nat.reduceAdd, Nat.reduceMul, reduceCtorEq, Nat.reduceDiv, Nat.reduceLeDiff, Nat.reduceLT, Nat.reduceSub, h0, h1, h2, h7, h9, h10, h19, h20, h21, h33, h34, hH, hcl, List.length_set, hlen, deskV, hy, ho, oAV, hj2, Int.add_sub_cancel, hjl, hbw, hltj, hltI, hgA1, z0, hixp, hldp1, hldp2, g1]
                refine fin _ _ (c.set (j + 1) (-1)) (by simp only [go_sem, ↓reduceIte, reduceIte, Nat.reduceEqDiff, Nat.reduceAdd, Nat.reduceMul, reduceCtorEq, Nat.reduceDiv, Nat.reduceLeDiff, Nat.reduceLT, Nat.reduceSub]) (by simp [hcl]) (fun m hm => ?_) ?_ (fun m => by simp only [hst1, hst2, hst3]) (by simp only [go_sem, ↓reduceIte, reduceIte, Nat.reduceEqDiff, Nat.reduceAdd, Nat.reduceMul, reduceCtorEq, Nat.reduceDiv, Nat.reduceLeDiff, Nat.reduceLT, Nat.reduceSub, h0, h1, h2, h7, h9, h10, h19, h20, h21, h33])
                · rw [List.getElem?_set_ne (by omega)]
                · rw [List.getElem?_set_self (by simp only [List.length_set, hcl]; omega)]
                  rw [hdc, if_pos g1, hAe]
              by_cases g2 : p + y ≤ o.due
              · have g3 : ((-1 : Int) < 0) := by omega
                simp (disch := first | assumption | omega) only [go_sem, ↓reduceIte, reduceIte, Nat.reduceEqDiff, Nat.reduceAdd, Nat.reduceMul, reduceCtorEq, Nat.reduceDiv, Nat.reduceLeDiff, Nat.reduceLT, Nat.reduceSub, h0, h1, h2, h7, h9, h10, h19, h20, h21, h33, h34, hH, hcl, List.length_set, hlen, deskV, hy, ho, oAV, hj2, Int.add_sub_cancel, hjl, hbw, hltj, hltI, hgA1, z0, hixp, hldp1, hldp2, g1, g2, g3]
                refine fin _ _ ((c.set (j + 1) (-1)).set (j + 1) (p + y)) (by simp only [go_sem, ↓reduceIte, reduceIte, Nat.reduceEqDiff, Nat.reduceAdd, Nat.reduceMul, reduceCtorEq, Nat.reduceDiv, Nat.reduceLeDiff, Nat.reduceLT, Nat.reduceSub]) (by simp [hcl]) (fun m hm => ?_) ?_ (fun m => by simp only [hst1, hst2, hst3]) (by simp only [go_sem, ↓reduceIte, reduceIte, Nat.reduceEqDiff, Nat.reduceAdd, Nat.reduceMul, reduceCtorEq, Nat.reduceDiv, Nat.reduceLeDiff, Nat.reduceLT, Nat.reduceSub, h0, h1, h2, h7, h9, h10, h19, h20, h21, h33])
                · rw [List.getElem?_set_ne (by omega), List.getElem?_set_ne (by omega)]
                · rw [List.getElem?_set_self (by simp only [List.length_set, hcl]; omega)]
                  rw [hdc, if_neg g1, hAe, if_pos ⟨g2, .inl g3⟩]
              · simp (disch := first | assumption | omega) only [go_sem, ↓reduceIte, reduceIte, Nat.reduceEqDiff, Nat.reduceAdd, Nat.reduceMul, reduceCtorEq, Nat.reduceDiv, Nat.reduceLeDiff, Nat.reduceLT, Nat.reduceSub, h0, h1, h2, h7, h9, h10, h19, h20, h21, h33, h34, hH, hcl, List.length_set, hlen, deskV, hy, ho, oAV, hj2, Int.add_sub_cancel, hjl, hbw, hltj, hltI, hgA1, z0, hixp, hldp1, hldp2, g1, g2]
                refine fin _ _ (c.set (j + 1) (-1)) (by simp only [go_sem, ↓reduceIte, reduceIte, Nat.reduceEqDiff, Nat.reduceAdd, Nat.reduceMul, reduceCtorEq, Nat.reduceDiv, Nat.reduceLeDiff, Nat.reduceLT, Nat.reduceSub]) (by simp [hcl]) (fun m hm => ?_) ?_ (fun m => by simp only [hst1, hst2, hst3]) (by simp only [go_sem, ↓reduceIte, reduceIte, Nat.reduceEqDiff, Nat.reduceAdd, Nat.reduceMul, reduceCtorEq, Nat.reduceDiv, Nat.reduceLeDiff, Nat.reduceLT, Nat.reduceSub, h0, h1, h2, h7, h9, h10, h19, h20, h21, h33])
                · rw [List.getElem?_set_ne (by omega)]
                · rw [List.getElem?_set_self (by simp only [List.length_set, hcl]; omega)]
                  rw [hdc, if_neg g1, hAe, if_neg (fun h => g2 h.1)]
            · have hbw : ((q : Int) != wi) = true := by simp [hqw]
              obtain ⟨xj, hxj, hAe⟩ := hA (j + 1) hl1 hqw
              have hixj := (hpt _ _ hxj).1
              have hldj : ∀ o, ldA none (setH h3 K o) (pt (j + 1)) = .ret (.int .i64 xj) := fun o => by rw [hst1]; exact hld _ _ hxj
              by_cases g1 : p < 0
              · simp (disch := first | assumption | omega) only [go_sem, ↓reduceIte, reduceIte, Nat.reduceEqDiff, Nat.reduceAdd, Nat.reduceMul, reduceCtorEq, Nat.reduceDiv, Nat.reduceLeDiff, Nat.reduceLT, Nat.reduceSub, h0, h1, h2, h7, h9, h10, h19, h20, h21, h33, h34, hH, hcl, List.length_set, hlen, deskV, hy, ho, oAV, hj2, Int.add_sub_cancel, hjl, hbw, hltj, hltI, hixj, hldj, hgA2 xj, z0, hixp, hldp1, hldp2, g1]
                refine fin _ _ ((c.set (j + 1) (-1)).set (j + 1) xj) (by simp only [go_sem, ↓reduceIte, reduceIte, Nat.reduceEqDiff, Nat.reduceAdd, Nat.reduceMul, reduceCtorEq, Nat.reduceDiv, Nat.reduceLeDiff, Nat.reduceLT, Nat.reduceSub]) (by simp [hcl]) (fun m hm => ?_) ?_ (fun m => by simp only [hst1, hst2, hst3]) (by simp only [go_sem, ↓reduceIte, reduceIte, Nat.reduceEqDiff, Nat.reduceAdd, Nat.reduceMul, reduceCtorEq, Nat.reduceDiv, Nat.reduceLeDiff, Nat.reduceLT, Nat.reduceSub, h0, h1, h2, h7, h9, h10, h19, h20, h21, h33])
                · rw [List.getElem?_set_ne (by omega), List.getElem?_set_ne (by omega)]
                · rw [List.getElem?_set_self (by simp only [List.length_set, hcl]; omega)]
                  rw [hdc, if_pos g1, hAe]
              by_cases g2 : p + y ≤ o.due
              · by_cases g3 : xj < 0
                · simp (disch := first | assumption | omega) only [go_sem, ↓reduceIte, reduceIte, Nat.reduceEqDiff, Nat.reduceAdd, Nat.reduceMul, reduceCtorEq, Nat.reduceDiv, Nat.reduceLeDiff, Nat.reduceLT, Nat.reduceSub, h0, h1, h2, h7, h9, h10, h19, h20, h21, h33, h34, hH, hcl, List.length_set, hlen, deskV, hy, ho, oAV, hj2, Int.add_sub_cancel, hjl, hbw, hltj, hltI, hixj, hldj, hgA2 xj, z0, hixp, hldp1, hldp2, g1, g2, g3]
                  refine fin _ _ (((c.set (j + 1) (-1)).set (j + 1) xj).set (j + 1) (p + y)) (by simp only [go_sem, ↓reduceIte, reduceIte, Nat.reduceEqDiff, Nat.reduceAdd, Nat.reduceMul, reduceCtorEq, Nat.reduceDiv, Nat.reduceLeDiff, Nat.reduceLT, Nat.reduceSub]) (by simp [hcl]) (fun m hm => ?_) ?_ (fun m => by simp only [hst1, hst2, hst3]) (by simp only [go_sem, ↓reduceIte, reduceIte, Nat.reduceEqDiff, Nat.reduceAdd, Nat.reduceMul, reduceCtorEq, Nat.reduceDiv, Nat.reduceLeDiff, Nat.reduceLT, Nat.reduceSub, h0, h1, h2, h7, h9, h10, h19, h20, h21, h33])
                  · rw [List.getElem?_set_ne (by omega), List.getElem?_set_ne (by omega), List.getElem?_set_ne (by omega)]
                  · rw [List.getElem?_set_self (by simp only [List.length_set, hcl]; omega)]
                    rw [hdc, if_neg g1, hAe, if_pos ⟨g2, .inl g3⟩]
                by_cases g4 : p + y < xj
                · simp (disch := first | assumption | omega) only [go_sem, ↓reduceIte, reduceIte, Nat.reduceEqDiff, Nat.reduceAdd, Nat.reduceMul, reduceCtorEq, Nat.reduceDiv, Nat.reduceLeDiff, Nat.reduceLT, Nat.reduceSub, h0, h1, h2, h7, h9, h10, h19, h20, h21, h33, h34, hH, hcl, List.length_set, hlen, deskV, hy, ho, oAV, hj2, Int.add_sub_cancel, hjl, hbw, hltj, hltI, hixj, hldj, hgA2 xj, z0, hixp, hldp1, hldp2, g1, g2, g3, g4]
                  refine fin _ _ (((c.set (j + 1) (-1)).set (j + 1) xj).set (j + 1) (p + y)) (by simp only [go_sem, ↓reduceIte, reduceIte, Nat.reduceEqDiff, Nat.reduceAdd, Nat.reduceMul, reduceCtorEq, Nat.reduceDiv, Nat.reduceLeDiff, Nat.reduceLT, Nat.reduceSub]) (by simp [hcl]) (fun m hm => ?_) ?_ (fun m => by simp only [hst1, hst2, hst3]) (by simp only [go_sem, ↓reduceIte, reduceIte, Nat.reduceEqDiff, Nat.reduceAdd, Nat.reduceMul, reduceCtorEq, Nat.reduceDiv, Nat.reduceLeDiff, Nat.reduceLT, Nat.reduceSub, h0, h1, h2, h7, h9, h10, h19, h20, h21, h33])
                  · rw [List.getElem?_set_ne (by omega), List.getElem?_set_ne (by omega), List.getElem?_set_ne (by omega)]
                  · rw [List.getElem?_set_self (by simp only [List.length_set, hcl]; omega)]
                    rw [hdc, if_neg g1, hAe, if_pos ⟨g2, .inr g4⟩]
                · simp (disch := first | assumption | omega) only [go_sem, ↓reduceIte, reduceIte, Nat.reduceEqDiff, Nat.reduceAdd, Nat.reduceMul, reduceCtorEq, Nat.reduceDiv, Nat.reduceLeDiff, Nat.reduceLT, Nat.reduceSub, h0, h1, h2, h7, h9, h10, h19, h20, h21, h33, h34, hH, hcl, List.length_set, hlen, deskV, hy, ho, oAV, hj2, Int.add_sub_cancel, hjl, hbw, hltj, hltI, hixj, hldj, hgA2 xj, z0, hixp, hldp1, hldp2, g1, g2, g3, g4]
                  refine fin _ _ ((c.set (j + 1) (-1)).set (j + 1) xj) (by simp only [go_sem, ↓reduceIte, reduceIte, Nat.reduceEqDiff, Nat.reduceAdd, Nat.reduceMul, reduceCtorEq, Nat.reduceDiv, Nat.reduceLeDiff, Nat.reduceLT, Nat.reduceSub]) (by simp [hcl]) (fun m hm => ?_) ?_ (fun m => by simp only [hst1, hst2, hst3]) (by simp only [go_sem, ↓reduceIte, reduceIte, Nat.reduceEqDiff, Nat.reduceAdd, Nat.reduceMul, reduceCtorEq, Nat.reduceDiv, Nat.reduceLeDiff, Nat.reduceLT, Nat.reduceSub, h0, h1, h2, h7, h9, h10, h19, h20, h21, h33])
                  · rw [List.getElem?_set_ne (by omega), List.getElem?_set_ne (by omega)]
                  · rw [List.getElem?_set_self (by simp only [List.length_set, hcl]; omega)]
                    rw [hdc, if_neg g1, hAe, if_neg (by omega)]
              · simp (disch := first | assumption | omega) only [go_sem, ↓reduceIte, reduceIte, Nat.reduceEqDiff, Nat.reduceAdd, Nat.reduceMul, reduceCtorEq, Nat.reduceDiv, Nat.reduceLeDiff, Nat.reduceLT, Nat.reduceSub, h0, h1, h2, h7, h9, h10, h19, h20, h21, h33, h34, hH, hcl, List.length_set, hlen, deskV, hy, ho, oAV, hj2, Int.add_sub_cancel, hjl, hbw, hltj, hltI, hixj, hldj, hgA2 xj, z0, hixp, hldp1, hldp2, g1, g2]
                refine fin _ _ ((c.set (j + 1) (-1)).set (j + 1) xj) (by simp only [go_sem, ↓reduceIte, reduceIte, Nat.reduceEqDiff, Nat.reduceAdd, Nat.reduceMul, reduceCtorEq, Nat.reduceDiv, Nat.reduceLeDiff, Nat.reduceLT, Nat.reduceSub]) (by simp [hcl]) (fun m hm => ?_) ?_ (fun m => by simp only [hst1, hst2, hst3]) (by simp only [go_sem, ↓reduceIte, reduceIte, Nat.reduceEqDiff, Nat.reduceAdd, Nat.reduceMul, reduceCtorEq, Nat.reduceDiv, Nat.reduceLeDiff, Nat.reduceLT, Nat.reduceSub, h0, h1, h2, h7, h9, h10, h19, h20, h21, h33])
                · rw [List.getElem?_set_ne (by omega), List.getElem?_set_ne (by omega)]
                · rw [List.getElem?_set_self (by simp only [List.length_set, hcl]; omega)]
                  rw [hdc, if_neg g1, hAe, if_neg (fun h => g2 h.1)]
          · have hjl : ¬ (j : Int) + 1 < (ls.length : Int) := by omega
            have hAe := hAm (j + 1) (fun h => hl1 h.1)
            by_cases g1 : p < 0
            · simp (disch := first | assumption | omega) only [go_sem, ↓reduceIte, reduceIte, Nat.reduceEqDiff, Nat.reduceAdd, Nat.reduceMul, reduceCtorEq, Nat.reduceDiv, Nat.reduceLeDiff, Nat.reduceLT, Nat.reduceSub, h0, h1, h2, h7, h9, h10, h19, h20, h21, h33, h34, hH, hcl, List.length_set, hlen, deskV, hy, ho, oAV, hj2, Int.add_sub_cancel, hjl, hltj, hltI, hgA1, z0, hixp, hldp1, hldp2, g1]
              refine fin _ _ (c.set (j + 1) (-1)) (by simp only [go_sem, ↓reduceIte, reduceIte, Nat.reduceEqDiff, Nat.reduceAdd, Nat.reduceMul, reduceCtorEq, Nat.reduceDiv, Nat.reduceLeDiff, Nat.reduceLT, Nat.reduceSub]) (by simp [hcl]) (fun m hm => ?_) ?_ (fun m => by simp only [hst1, hst2, hst3]) (by simp only [go_sem, ↓reduceIte, reduceIte, Nat.reduceEqDiff, Nat.reduceAdd, Nat.reduceMul, reduceCtorEq, Nat.reduceDiv, Nat.reduceLeDiff, Nat.reduceLT, Nat.reduceSub, h0, h1, h2, h7, h9, h10, h19, h20, h21, h33])
              · rw [List.getElem?_set_ne (by omega)]
              · rw [List.getElem?_set_self (by simp only [List.length_set, hcl]; omega)]
                rw [hdc, if_pos g1, hAe]
            by_cases g2 : p + y ≤ o.due
            · have g3 : ((-1 : Int) < 0) := by omega
              simp (disch := first | assumption | omega) only [go_sem, ↓reduceIte, reduceIte, Nat.reduceEqDiff, Nat.reduceAdd, Nat.reduceMul, reduceCtorEq, Nat.reduceDiv, Nat.reduceLeDiff, Nat.reduceLT, Nat.reduceSub, h0, h1, h2, h7, h9, h10, h19, h20, h21, h33, h34, hH, hcl, List.length_set, hlen, deskV, hy, ho, oAV, hj2, Int.add_sub_cancel, hjl, hltj, hltI, hgA1, z0, hixp, hldp1, hldp2, g1, g2, g3]
              refine fin _ _ ((c.set (j + 1) (-1)).set (j + 1) (p + y)) (by simp only [go_sem, ↓reduceIte, reduceIte, Nat.reduceEqDiff, Nat.reduceAdd, Nat.reduceMul, reduceCtorEq, Nat.reduceDiv, Nat.reduceLeDiff, Nat.reduceLT, Nat.reduceSub]) (by simp [hcl]) (fun m hm => ?_) ?_ (fun m => by simp only [hst1, hst2, hst3]) (by simp only [go_sem, ↓reduceIte, reduceIte, Nat.reduceEqDiff, Nat.reduceAdd, Nat.reduceMul, reduceCtorEq, Nat.reduceDiv, Nat.reduceLeDiff, Nat.reduceLT, Nat.reduceSub, h0, h1, h2, h7, h9, h10, h19, h20, h21, h33])
              · rw [List.getElem?_set_ne (by omega), List.getElem?_set_ne (by omega)]
              · rw [List.getElem?_set_self (by simp only [List.length_set, hcl]; omega)]
                rw [hdc, if_neg g1, hAe, if_pos ⟨g2, .inl g3⟩]
            · simp (disch := first | assumption | omega) only [go_sem, ↓reduceIte, reduceIte, Nat.reduceEqDiff, Nat.reduceAdd, Nat.reduceMul, reduceCtorEq, Nat.reduceDiv, Nat.reduceLeDiff, Nat.reduceLT, Nat.reduceSub, h0, h1, h2, h7, h9, h10, h19, h20, h21, h33, h34, hH, hcl, List.length_set, hlen, deskV, hy, ho, oAV, hj2, Int.add_sub_cancel, hjl, hltj, hltI, hgA1, z0, hixp, hldp1, hldp2, g1, g2]
              refine fin _ _ (c.set (j + 1) (-1)) (by simp only [go_sem, ↓reduceIte, reduceIte, Nat.reduceEqDiff, Nat.reduceAdd, Nat.reduceMul, reduceCtorEq, Nat.reduceDiv, Nat.reduceLeDiff, Nat.reduceLT, Nat.reduceSub]) (by simp [hcl]) (fun m hm => ?_) ?_ (fun m => by simp only [hst1, hst2, hst3]) (by simp only [go_sem, ↓reduceIte, reduceIte, Nat.reduceEqDiff, Nat.reduceAdd, Nat.reduceMul, reduceCtorEq, Nat.reduceDiv, Nat.reduceLeDiff, Nat.reduceLT, Nat.reduceSub, h0, h1, h2, h7, h9, h10, h19, h20, h21, h33])
              · rw [List.getElem?_set_ne (by omega)]
              · rw [List.getElem?_set_self (by simp only [List.length_set, hcl]; omega)]
                rw [hdc, if_neg g1, hAe, if_neg (fun h => g2 h.1)]
      · have hltI : ¬ (j : Int) < (ls.length : Int) + 1 := by omega
        simp (disch := first | assumption | omega) only [go_sem, ↓reduceIte, reduceIte, Nat.reduceEqDiff, Nat.reduceAdd, Nat.reduceMul, reduceCtorEq, Nat.reduceDiv, Nat.reduceLeDiff, Nat.reduceLT, Nat.reduceSub, h0, h1, h2, h7, h9, h10, h19, h20, h21, h33, h34, hltI]
        obtain rfl : j = ls.length + 1 := by omega
        have hceq : c = dpStep l (side l s) wi q ls := by
          apply List.ext_getElem?
          intro m
          by_cases hm : m < ls.length + 1
          · rw [hcc m hm, dpStep, List.getElem?_map, List.getElem?_range hm]
            rfl
          · rw [List.getElem?_eq_none (by omega), List.getElem?_eq_none (by rw [dpStep_length]; omega)]
        refine hP (l.length - (k + 1)) _ (by omega) ⟨k + 1, _, c, rfl, by omega, by simp only [go_sem, ↓reduceIte, reduceIte, Nat.reduceEqDiff, Nat.reduceAdd, Nat.reduceMul, reduceCtorEq, Nat.reduceDiv, Nat.reduceLeDiff, Nat.reduceLT, Nat.reduceSub, h0, h1, h2, h19, h20]; rfl, .inr ⟨K, 0, some (ls.length + 1), by rw [hcl], hH⟩, by omega, fun x hx => ?_, by rw [hceq]; exact hgo⟩
        obtain ⟨m, hm⟩ := List.mem_iff_getElem?.1 hx
        have hml := (List.getElem?_eq_some_iff.1 hm).1
        rw [hcc m (by omega)] at hm
        cases hm
        exact hcell m (by omega)
  · rw [List.drop_eq_nil_of_le (by omega)] at hgo
    have hls : ls = dpGo l (side l s) wi wo (seqOf l) [0] := hgo
    have hmost : mostOf l s wi wo = lastNN ls ls.length := by rw [mostOf, ← hls]
    simp (disch := first | assumption | omega) only [go_sem, ↓reduceIte, reduceIte, Nat.reduceEqDiff, Nat.reduceAdd, Nat.reduceMul, reduceCtorEq, Nat.reduceDiv, Nat.reduceLeDiff, Nat.reduceLT, Nat.reduceSub, h0, h1, h2, h7, h19, h20, h21, hlt, hlen]
    refine m_loop (fun M st => ∃ j : Int, M = (j + 1).toNat ∧ -1 ≤ j ∧ j < ls.length ∧ At st.env [(7, v), (13, .int .i64 j)] ∧ (∀ (j : Nat) (x : Int), ls[j]? = some x → ldA none st.heap (pt j) = .ret (.int .i64 x)) ∧ lastNN ls ls.length = lastNN ls (j + 1).toNat) ls.length (by omega)
      ⟨(ls.length : Int) - 1, by omega, by omega, by omega, by simp [go_sem, ↓reduceIte, reduceIte, Nat.reduceEqDiff, Nat.reduceAdd, Nat.reduceMul, reduceCtorEq, Nat.reduceDiv, Nat.reduceLeDiff, Nat.reduceLT, Nat.reduceSub, h7], fun j x hx => (hpt j x hx).2, by congr 1; omega⟩ ?_
    rintro M e h hM ⟨j, rfl, hj0, hj1, hE, hld, hln⟩ P2 hP2
    simp only [At_cons, At_nil] at hE
    obtain ⟨h7, h13, -⟩ := hE
    by_cases hge : j ≥ 0
    · obtain ⟨m, rfl⟩ := Int.eq_ofNat_of_zero_le hge
      obtain ⟨x, hx⟩ := get_ex (l := ls) (i := m) (by omega)
      have hix := (hpt m x hx).1
      have hldm := hld m x hx
      rw [show ((m : Int) + 1).toNat = m + 1 by omega, lastNN, List.getD_eq_getElem?_getD, hx, Option.getD_some] at hln
      by_cases hx0 : x ≥ 0
      · rw [if_pos hx0] at hln
        simp (disch := first | assumption | omega) only [go_sem, ↓reduceIte, reduceIte, Nat.reduceEqDiff, Nat.reduceAdd, Nat.reduceMul, reduceCtorEq, Nat.reduceDiv, Nat.reduceLeDiff, Nat.reduceLT, Nat.reduceSub, h7, h13, hge, hix, hldm, hx0]
        trace_state
        refine hV _ _ ?_
        rw [frz_int, hmost, hln]
      · rw [if_neg hx0] at hln
        simp (disch := first | assumption | omega) only [go_sem, ↓reduceIte, reduceIte, Nat.reduceEqDiff, Nat.reduceAdd, Nat.reduceMul, reduceCtorEq, Nat.reduceDiv, Nat.reduceLeDiff, Nat.reduceLT, Nat.reduceSub, h7, h13, hge, hix, hldm, hx0]
        exact hP2 _ _ (by omega) ⟨(m : Int) - 1, rfl, by omega, by omega, by simp only [go_sem, ↓reduceIte, reduceIte, Nat.reduceEqDiff, Nat.reduceAdd, Nat.reduceMul, reduceCtorEq, Nat.reduceDiv, Nat.reduceLeDiff, Nat.reduceLT, Nat.reduceSub, h7], hld, by rw [hln]; congr 1; omega⟩
    · simp (disch := first | assumption | omega) only [go_sem, ↓reduceIte, reduceIte, Nat.reduceEqDiff, Nat.reduceAdd, Nat.reduceMul, reduceCtorEq, Nat.reduceDiv, Nat.reduceLeDiff, Nat.reduceLT, Nat.reduceSub, h7, h13, hge]
      refine hV _ _ ?_
      rw [frz_int, hmost, hln, show (j + 1).toNat = 0 by omega]
      rfl

end Go.Ev.YtadneamkkepknaaC
