/- In how many ways the rest of a book can be played: the reference's table, how many tunes there are, and with which notes they begin. Contracts; conditions stand in each. How many tunes there are, with which notes they begin, and the first one: the reference's. Contracts; conditions stand in each. The first tune, the reference's. Contract; conditions stand in it. -/
import Derived.Test.YtjcabpldgdafeaaL4Prf
import Derived.Test.YtjcabpldgdafeaaL4Eul
import Derived.Test.YtjcabpldgdafeaaL4Mth
set_option linter.unusedSimpArgs false
set_option linter.unusedVariables false
namespace Go.Ev
theorem b_or_nat (a b : Nat) (h : a ||| b < 4611686018427387904) (ha : a < 4611686018427387904) (hb : b < 4611686018427387904) : binA .or (.int .i64 (a : Int)) (.int .i64 (b : Int)) = .ret (.int .i64 ((a ||| b : Nat) : Int)) := by
  simp only [binA, binI, if_true]
  congr 2
  have h1 : (BitVec.ofInt 64 (a : Int) ||| BitVec.ofInt 64 (b : Int)).toNat = a ||| b := by
    rw [BitVec.toNat_or, BitVec.ofInt_natCast, BitVec.toNat_ofNat, BitVec.ofInt_natCast, BitVec.toNat_ofNat, Nat.mod_eq_of_lt (by omega), Nat.mod_eq_of_lt (by omega)]
  show IntKind.i64.wrap ((BitVec.ofInt 64 (a : Int) ||| BitVec.ofInt 64 (b : Int)).toNat : Int) = _
  rw [h1]
  exact wrap64 (by omega) (by omega)
end Go.Ev
namespace Go.Ev.YtjcabpldgdafeaaC
open Go Go.Proofs Go.Ev

attribute [local irreducible] Res.all evC evLoop evOps evOper evOp evFn evCall freeze G GO GV GP GC R
set_option maxRecDepth 100000

abbrev rwI (N : Nat) (f : Nat → Int) : List AV := (srN N f).map (.int .i64)
theorem rwI_len (N : Nat) (f : Nat → Int) : (rwI N f).length = N := by simp [srN]
def wayA (N : Nat) (es : List Ed) : AV := .slice none ((List.range (2 ^ es.length)).map fun s => ints (srN N (wB es s))) false
structure WayT (N : Nat) (es : List Ed) (S : Nat) (h : Heap) (u : Nat) : Prop where
  tab : getH h 82 = .cells 0 ((List.range S).map fun s => if u ≤ s then .oslice (83 + (S - 1 - s)) 0 none 0 N (some N) else .slice none [] true)
  row : ∀ s, u ≤ s → s < S → getH h (83 + (S - 1 - s)) = .cells 0 (rwI N (wB es s))
theorem WayT.other {N S u : Nat} {es : List Ed} {h h' : Heap} (hw : WayT N es S h u) (hu : 0 < u) (hf : ∀ j, j < 83 + (S - u) → getH h' j = getH h j) : WayT N es S h' u where
  tab := by rw [hf 82 (by omega)]; exact hw.tab
  row := fun s h1 h2 => by rw [hf _ (by omega)]; exact hw.row s h1 h2
theorem fct11 {m : Nat} (h : m ≤ 11) : fctI m ≤ 39916800 := by
  have := fctI_mono h
  have e : fctI 11 = 39916800 := by decide
  omega

theorem frz_rows {h : Heap} {n N : Nat} (key : Nat → Nat) (f : Nat → Nat → Int) : ∀ L : List Nat, (∀ s ∈ L, getH h (key s) = .cells 0 (rwI N (f s))) → mapR (freeze h (n + 2)) (L.map fun s => .oslice (key s) 0 none 0 N (some N)) = .ret (L.map fun s => ints (srN N (f s)))
  | [], _ => rfl
  | s :: L, hf => mz_cons (frz_own (hf s List.mem_cons_self) (by simp [srN])) (frz_rows key f L fun x hx => hf x (List.mem_cons_of_mem _ hx))
theorem frz_tab {N S n : Nat} {es : List Ed} {h : Heap} (hS : S = 2 ^ es.length) (ht : getH h 82 = .cells 0 ((List.range S).map fun s => .oslice (83 + (S - 1 - s)) 0 none 0 N (some N))) (hr : ∀ s, s < S → getH h (83 + (S - 1 - s)) = .cells 0 (rwI N (wB es s))) : freeze h (n + 3) (.oslice 82 0 none 0 S (some S)) = .ret (wayA N es) := by
  have e : (((List.range S).map fun s => AV.oslice (83 + (S - 1 - s)) 0 none 0 N (some N)).drop 0).take (S * gsize none) = (List.range S).map fun s => AV.oslice (83 + (S - 1 - s)) 0 none 0 N (some N) := by rw [List.drop_zero, List.take_of_length_le (by simp [gsize])]
  rw [freeze]
  simp only [ht]
  rw [if_pos ⟨trivial, by simp [gsize]⟩, e, frz_rows (fun s => 83 + (S - 1 - s)) (wB es) (List.range S) fun s hs => hr s (List.mem_range.1 hs)]
  rw [wayA, ← hS]
  rfl

set_option maxHeartbeats 4000000 in
theorem con_Ways (N : Nat) (es : List Ed) (hk : OkB N es) (h11 : es.length ≤ 11) : Con T 1 60 [bkA (bkN N es)] (wayA N es) := by
  refine con_intro t60 fun n hn V hV => ?_
  have h1 := hk.n1
  have h8 := hk.n8
  obtain ⟨S, hS⟩ : ∃ S, S = 2 ^ es.length := ⟨_, rfl⟩
  have hS2 : S ≤ 2048 := by
    rw [hS]; exact Nat.pow_le_pow_right (n := 2) (by omega) h11
  have hS1 : 0 < S := by rw [hS]; exact Nat.pow_pos (by omega)
  have hshl := b_shl1 es.length (by omega)
  rw [← hS] at hshl
  have hroom : room S 24 = true := room_ok (by omega)
  have hroomN : room N 8 = true := room_ok (by omega)
  have hm1 : (S ≤ S) = True := eq_true (Nat.le_refl S)
  have hm2 : (N ≤ N) = True := eq_true (Nat.le_refl N)
  have hflat : (List.replicate S [AV.slice none [] true]).flatten = (List.range S).map fun s => if S ≤ s then AV.oslice (83 + (S - 1 - s)) 0 none 0 N (some N) else .slice none [] true := by
    rw [flat_rep]
    apply List.map_congr_left
    intro s hs
    rw [if_neg (by have := List.mem_range.1 hs; omega)]
  have hnS : asNat (.int .i64 ((S : Int) - 1 + 1)) = some S := by
    rw [show (S : Int) - 1 + 1 = ((S : Nat) : Int) by omega]; exact asNat_nat _ _
  rw [bkN_A]
  simp (disch := first | assumption | omega) only [c60, go_sem, ↓reduceIte, hshl, hroom, hm1, hflat, hnS, List.length_map]
  refine m_loop (fun M st => ∃ u : Nat, M = u ∧ u ≤ S ∧ At st.env [(1, .optr 1 0 0), (3, .int .i64 ((S : Int) - 1)), (4, .oslice 82 0 none 0 S (some S)), (5, .int .i64 ((u : Int) - 1))] ∧
      getH st.heap 1 = .cells 0 [.int .i64 N, eds es] ∧ WayT N es S st.heap u ∧ st.heap.length = 83 + (S - u)) S (by omega)
    ⟨S, by omega, by omega, by simp only [go_sem, ↓reduceIte], by simp only [go_sem, ↓reduceIte], ⟨by simp only [go_sem, ↓reduceIte], fun s h1 h2 => by omega⟩, by simp only [length_setH, List.length_replicate]; omega⟩ ?_
  rintro M e h hM ⟨u, hMu, hu, hE, g1, hW, hl⟩ P hP
  simp only [At_cons, At_nil] at hE g1 hl
  obtain ⟨f1, f3, f4, f5, -⟩ := hE
  by_cases hu0 : u = 0
  · subst hu0
    have hd : decide ((0 : Int) - 1 ≥ 0) = false := by decide
    simp (disch := first | assumption | omega) only [go_sem, ↓reduceIte, f1, f3, f4, f5, hd, Bool.false_eq_true]
    refine hV _ _ ?_
    exact frz_tab hS (hW.tab.trans (by simp)) (fun s hs => hW.row s (by omega) hs)
  · obtain ⟨s, rfl⟩ : ∃ s, u = s + 1 := ⟨u - 1, by omega⟩
    have hd : decide ((s : Int) ≥ 0) = true := by simp
    have hs1 : ((s + 1 : Nat) : Int) - 1 = (s : Int) := by omega
    rw [hs1] at f5
    obtain ⟨R, hR⟩ : ∃ R, R = 83 + (S - (s + 1)) := ⟨_, rfl⟩
    rw [← hR] at hl
    have hnR : getH h R = .none := getH_ge _ _ (by omega)
    have hflN : (List.replicate N [AV.int IntKind.i64 0]).flatten = rwI N (fun a => wP es s a 0) := by
      rw [flat_rep, rwI, srN, List.map_map]; rfl
    simp (disch := first | assumption | omega) only [go_sem, ↓reduceIte, f1, f3, f4, f5, hd, g1, hroomN, hm2, hl, hnR, next_none, hflN]
    have hH1 : ∀ j, j < 83 + (S - (s + 1)) → ∀ c, getH (setH h R c) j = getH h j := fun j hj c => getH_setH_ne _ _ _ _ (by omega)
    have hsS : s < S := by omega
    have hs62 : s < 4611686018427387904 := by omega
    refine m_loop (fun M st => ∃ i : Nat, M = es.length - i ∧ i ≤ es.length ∧ At st.env [(1, .optr 1 0 0), (3, .int .i64 ((S : Int) - 1)), (4, .oslice 82 0 none 0 S (some S)), (5, .int .i64 s), (6, .oslice R 0 none 0 N (some N)), (7, .int .i64 i)] ∧
        getH st.heap 1 = .cells 0 [.int .i64 N, eds es] ∧ WayT N es S st.heap (s + 1) ∧ getH st.heap R = .cells 0 (rwI N (fun a => wP es s a i)) ∧ st.heap.length = R + 1) es.length (by omega)
      ⟨0, by omega, by omega, by simp only [go_sem, ↓reduceIte, f1, f3, f4, f5], by rw [getH_setH_ne _ _ _ _ (by omega)]; exact g1, hW.other (by omega) fun j hj => getH_setH_ne _ _ _ _ (by omega), getH_setH_self _ _ _, by rw [length_setH]; omega⟩ ?_
    rintro M e2 h2 hM2 ⟨i, rfl, hi, hE2, g1, hW, gR, hl2⟩ P2 hP2
    simp only [At_cons, At_nil] at hE2 g1 gR hl2
    obtain ⟨f1, f3, f4, f5, f6, f7, -⟩ := hE2
    by_cases hlt : i < es.length
    · have hq := hk.lt _ (List.getElem_mem hlt)
      have hg := ed_get hlt
      have hge := gE_get hlt
      have hshr := b_shr_nat s i (by omega) hs62
      have hand := b_and1 (s / 2 ^ i) (by have := Nat.div_le_self s (2 ^ i); omega)
      have hbt : ((((s / 2 ^ i % 2 : Nat) : Int)) == 0) = bitK s i := by
        rw [bitK_div, Bool.eq_iff_iff]
        simp only [beq_iff_eq, decide_eq_true_eq]
        generalize s / 2 ^ i % 2 = q
        omega
      have hsu := fun a => wP_succ es s a i
      generalize hqd : es[i] = q at *
      obtain ⟨qa, qb⟩ := q
      simp only at hq
      rw [hge] at hsu
      simp only [edA] at hg
      obtain ⟨hq1, hq2⟩ := hq
      have hq1' : qa + 1 ≤ N := hq1
      have hq2' : qb + 1 ≤ N := hq2
      cases hb : bitK s i with
      | true =>
        rw [hb] at hbt
        simp only [hb, if_true] at hsu
        have hsh1 := b_shl1 i (by omega)
        have h2i : 2 ^ i < 4611686018427387904 := Nat.lt_of_le_of_lt (Nat.pow_le_pow_right (by omega) (show i ≤ 11 by omega)) (by decide)
        have hlt2 : s ||| 2 ^ i < S := by rw [hS]; exact or_lt (by omega) hlt
        have hgt2 := or_gt hb
        have hor := b_or_nat s (2 ^ i) (by omega) hs62 h2i
        generalize s ||| 2 ^ i = s' at *
        have gT := hW.tab
        have hgT : ((List.range S).map fun x => if s + 1 ≤ x then AV.oslice (83 + (S - 1 - x)) 0 none 0 N (some N) else .slice none [] true)[s']? = some (.oslice (83 + (S - 1 - s')) 0 none 0 N (some N)) := by
          rw [range_get S s' _ hlt2, if_pos (by omega)]
        have gW := hW.row s' (by omega) hlt2
        have hlr := rwI_len N (wB es s')
        have hlr2 := rwI_len N (fun a => wP es s a i)
        have r1 : (rwI N (fun a => wP es s a i))[qa]? = some (.int .i64 (wP es s qa i)) := srN_get _ hq1
        have r2 : (rwI N (wB es s'))[qb]? = some (.int .i64 (wB es s' qb)) := srN_get _ hq2
        have bx1 := wP_box (es := es) (s := s) (a := qa) (i := i) (by omega)
        have bx2 := wB_box es s' qb
        have bf := fct11 h11
        have hset : (rwI N (fun a => wP es s a i)).set qa (.int .i64 (wP es s qa i + wB es s' qb)) = rwI N (fun a => wP es s a (i + 1)) := by
          rw [srN_set _ hq1]
          congr 2
          funext a
          rw [hsu]
          by_cases ha : a = qa
          · subst ha; rw [if_pos rfl, if_pos rfl]
          · rw [if_neg ha, if_neg fun e => ha e.symm, Int.add_zero]
        simp (disch := first | assumption | omega) only [go_sem, ↓reduceIte, f1, f3, f4, f5, f6, f7, hlt, hg, g1, hshr, hand, hbt, hq1, hq2, hq1', hq2', hlr, hlr2, gR, r1, r2, gT, hgT, gW, hsh1, hor, hlt2, hset, List.length_map, List.length_range]
        exact hP2 (es.length - (i + 1)) _ (by omega) ⟨i + 1, rfl, by omega, by simp only [go_sem, ↓reduceIte, f1, f3, f4, f5, f6], by rw [getH_setH_ne _ _ _ _ (by omega)]; exact g1, hW.other (by omega) fun j hj => getH_setH_ne _ _ _ _ (by omega), getH_setH_self _ _ _, by rw [length_setH]; omega⟩
      | false =>
        rw [hb] at hbt
        simp only [hb, Bool.false_eq_true, if_false, Int.add_zero] at hsu
        simp (disch := first | assumption | omega) only [go_sem, ↓reduceIte, f1, f3, f4, f5, f6, f7, hlt, hg, g1, hshr, hand, hbt, Bool.false_eq_true, List.length_map]
        exact hP2 (es.length - (i + 1)) _ (by omega) ⟨i + 1, rfl, by omega, by simp only [go_sem, ↓reduceIte, f1, f3, f4, f5, f6], g1, hW, by rw [gR]; congr 3; funext a; exact (hsu a).symm, hl2⟩
    · obtain rfl : i = es.length := by omega
      simp (disch := first | assumption | omega) only [go_sem, ↓reduceIte, f1, f3, f4, f5, f6, f7, hlt, g1, List.length_map]
      clear hP2 hlt f7
      have hfinW : ∀ h3 : Heap, WayT N es S h3 (s + 1) → getH h3 R = .cells 0 (rwI N (wB es s)) → WayT N es S (setH h3 82 (.cells 0 (((List.range S).map fun x => if s + 1 ≤ x then AV.oslice (83 + (S - 1 - x)) 0 none 0 N (some N) else .slice none [] true).set s (.oslice R 0 none 0 N (some N))))) s := fun h3 hW3 hR3 => by
        refine ⟨?_, fun x h1 h2 => ?_⟩
        · rw [getH_setH_self, set_range]
          congr 1
          apply List.map_congr_left
          intro x hx
          have := List.mem_range.1 hx
          by_cases hxs : x = s
          · subst hxs
            rw [if_pos rfl, if_pos (Nat.le_refl _), hR]
            congr 1; omega
          · rw [if_neg hxs]
            by_cases hlt : s + 1 ≤ x
            · rw [if_pos hlt, if_pos (by omega)]
            · rw [if_neg hlt, if_neg (by omega)]
        · rw [getH_setH_ne _ _ _ _ (by omega)]
          by_cases hxs : x = s
          · subst hxs
            rw [show 83 + (S - 1 - x) = R by omega]; exact hR3
          · exact hW3.row x (by omega) h2
      have hltl : ((List.range S).map fun x => if s + 1 ≤ x then AV.oslice (83 + (S - 1 - x)) 0 none 0 N (some N) else .slice none [] true).length = S := by simp
      by_cases hse : s + 1 = S
      · have hnb : ∀ i, i < es.length → bitK s i = false := fun i hi => by
          rw [show s = 2 ^ es.length - 1 by omega]; exact bit_full i hi
        have hb0 : ((s : Int) == (S : Int) - 1) = true := by simp; omega
        refine m_loop (fun M st => ∃ v : Nat, M = N - v ∧ v ≤ N ∧ At st.env [(1, .optr 1 0 0), (3, .int .i64 ((S : Int) - 1)), (4, .oslice 82 0 none 0 S (some S)), (5, .int .i64 s), (6, .oslice R 0 none 0 N (some N)), (8, .int .i64 v)] ∧
            getH st.heap 1 = .cells 0 [.int .i64 N, eds es] ∧ WayT N es S st.heap (s + 1) ∧ getH st.heap R = .cells 0 (rwI N (fun a => if a < v then 1 else 0)) ∧ st.heap.length = R + 1) N (by omega)
          ⟨0, by omega, by omega, by simp only [go_sem, ↓reduceIte, f1, f3, f4, f5, f6], g1, hW, by
            rw [gR]; congr 3; funext a; rw [wP_none hnb, if_neg (by omega)], hl2⟩ ?_
        rintro M e3 h3 hM3 ⟨v, rfl, hv, hE3, g1, hW, gR, hl3⟩ P3 hP3
        simp only [At_cons, At_nil] at hE3 g1 gR hl3
        obtain ⟨f1, f3, f4, f5, f6, f8, -⟩ := hE3
        by_cases hvN : v < N
        · have hd3 : decide ((v : Int) < (N : Int)) = true := by simp; omega
          have hv1 : v + 1 ≤ N := hvN
          have hset : (rwI N (fun a => if a < v then 1 else 0)).set v (.int .i64 1) = rwI N (fun a => if a < v + 1 then 1 else 0) := by
            rw [srN_set _ hvN]
            congr 2
            funext a
            by_cases ha : a = v
            · subst ha; rw [if_pos rfl, if_pos (by omega)]
            · rw [if_neg ha]
              by_cases hav : a < v
              · rw [if_pos hav, if_pos (by omega)]
              · rw [if_neg hav, if_neg (by omega)]
          have hrl := rwI_len N (fun a => if a < v then 1 else 0)
          simp (disch := first | assumption | omega) only [go_sem, ↓reduceIte, f1, f3, f4, f5, f6, f8, g1, gR, hd3, hb0, hv1, hvN, hrl, hset]
          exact hP3 (N - (v + 1)) _ (by omega) ⟨v + 1, rfl, by omega, by simp only [go_sem, ↓reduceIte, f1, f3, f4, f5, f6], by rw [getH_setH_ne _ _ _ _ (by omega)]; exact g1, hW.other (by omega) fun j hj => getH_setH_ne _ _ _ _ (by omega), getH_setH_self _ _ _, by rw [length_setH]; omega⟩
        · have hd3 : decide ((v : Int) < (N : Int)) = false := by simp; omega
          have gT := hW.tab
          have hsr : srN N (fun a => if a < v then 1 else 0) = srN N (wB es s) := by
            unfold srN
            apply List.map_congr_left
            intro a ha
            have := List.mem_range.1 ha
            rw [if_pos (by omega), wB_full a hnb]
          have hRB : getH h3 R = .cells 0 (rwI N (wB es s)) := by
            rw [gR]
            show AObj.cells 0 ((srN N _).map _) = _
            rw [hsr]
          have hs1' : s + 1 ≤ S := by omega
          simp (disch := first | assumption | omega) only [go_sem, ↓reduceIte, f1, f3, f4, f5, f6, f8, g1, hvN, gT, hsS, hs1', hltl, Bool.false_eq_true]
          exact hP s _ (by omega) ⟨s, rfl, by omega, by simp only [go_sem, ↓reduceIte, f1, f3, f4], by rw [getH_setH_ne _ _ _ _ (by omega)]; exact g1, hfinW h3 hW hRB, by rw [length_setH]; omega⟩
      · have hbs : ∃ i, i < es.length ∧ bitK s i = true := bit_some (by omega)
        have hb0 : ((s : Int) == (S : Int) - 1) = false := by simp; omega
        have hd3 : decide ((0 : Int) < (N : Int)) = true := by simp; omega
        have gT := hW.tab
        have hRB : getH h2 R = .cells 0 (rwI N (wB es s)) := by
          rw [gR]
          congr 3
          funext a
          exact wP_end hbs
        have hs1' : s + 1 ≤ S := by omega
        refine m_loop1 fun P3 => ?_
        simp (disch := first | assumption | omega) only [go_sem, ↓reduceIte, f1, f3, f4, f5, f6, g1, hd3, hb0, gT, hsS, hs1', hltl, Bool.false_eq_true]
        exact hP s _ (by omega) ⟨s, rfl, by omega, by simp only [go_sem, ↓reduceIte, f1, f3, f4], by rw [getH_setH_ne _ _ _ _ (by omega)]; exact g1, hfinW h2 hW hRB, by rw [length_setH]; omega⟩
end Go.Ev.YtjcabpldgdafeaaC

namespace Go.Ev.YtjcabpldgdafeaaC
open Go Go.Proofs Go.Ev

attribute [local irreducible] Res.all evC evLoop evOps evOper evOp evFn evCall freeze G GO GV GP GC R
set_option maxRecDepth 100000

section
variable {n base : Nat} {Q : EX × St → Prop} {d : Option Nat} {L : List IOper} {ks : List Kont} {e : Env} {h : Heap}
theorem cs_Ways {N : Nat} {es : List Ed} {x : Bool} (hn : 1 ≤ n) (hk : OkB N es) (h11 : es.length ≤ 11) : GP (evCall T n) base Q d L ks e (evCall T n false (.fn 60) [.agg [.int .i64 N, .slice (some 2) (es.map edA) x]] h) = GO (evCall T n) base Q L ks ⟨setDst e d (wayA N es), h⟩ := by
  have := con_Ways N es hk h11
  rw [bkN_A] at this
  exact gp_eq this hn (fz_cons (frz_agg (mz_cons (frz_int _ _ _ _) (mz_cons (frz_slice _ _ _ _ _) (mz_nil _ _)))) (fz_nil _)) rfl
end
theorem way_get (N : Nat) (es : List Ed) {s : Nat} (h : s < 2 ^ es.length) : ((List.range (2 ^ es.length)).map fun s => ints (srN N (wB es s)))[s]? = some (ints (srN N (wB es s))) := range_get _ s _ h
theorem wB0 (es : List Ed) : wB es 0 = tw es.length es := funext fun a => wB_zero es a
def pS (es : List Ed) (i : Nat) : Int := sumC (List.range i) (tw es.length es)
theorem pS_succ (es : List Ed) (i : Nat) : pS es (i + 1) = pS es i + tw es.length es i := by
  unfold pS
  rw [List.range_succ]
  have happ : ∀ (f : Nat → Int) (l k : List Nat), sumC (l ++ k) f = sumC l f + sumC k f := fun f l k => by
    induction l with
    | nil => simp [sumC]
    | cons a r ih => simp only [List.cons_append, sumC]; rw [ih]; omega
  rw [happ]; simp [sumC]
theorem pS_box {es : List Ed} (h11 : es.length ≤ 11) : ∀ i, 0 ≤ pS es i ∧ pS es i ≤ i * 39916800
  | 0 => by simp [pS, sumC]
  | i + 1 => by
    have h1 := pS_box h11 i
    have h2 := tw_box es.length (R := es) i rfl
    have h3 := fct11 h11
    rw [pS_succ]
    omega

theorem con_CountOf (N : Nat) (es : List Ed) (hk : OkB N es) (h11 : es.length ≤ 11) : Con T 2 61 [bkA (bkN N es)] (.tuple [.int .i64 (cntT es), ints (srN N (tw es.length es))]) := by
  refine con_intro t61 fun n hn V hV => ?_
  have h8 := hk.n8
  have hpos : 0 < 2 ^ es.length := Nat.pow_pos (by omega)
  have hg := way_get N es hpos
  rw [wB0] at hg
  rw [bkN_A]
  have hwl : ((List.range (2 ^ es.length)).map fun s => ints (srN N (wB es s))).length = 2 ^ es.length := by simp
  simp (disch := first | assumption | omega) only [c61, go_sem, ↓reduceIte, cs_Ways, wayA, hg]
  have hlen : (srN N (tw es.length es)).length = N := by simp [srN]
  refine m_loop (fun M st => ∃ i : Nat, M = N - i ∧ i ≤ N ∧ At st.env [(4, ints (srN N (tw es.length es))), (5, .int .i64 (pS es i)), (6, .int .i64 i)]) N (by omega)
    ⟨0, by omega, by omega, by simp only [go_sem, ↓reduceIte]; rfl⟩ ?_
  rintro M e h hM ⟨i, rfl, hi, hE⟩ P hP
  simp only [At_cons, At_nil] at hE
  obtain ⟨f4, f5, f6, -⟩ := hE
  by_cases hlt : i < N
  · have hb := pS_box h11 i
    have hb2 := pS_box h11 (i + 1)
    have hgi : ((srN N (tw es.length es)).map (AV.int .i64))[i]? = some (.int .i64 (tw es.length es i)) := srN_get _ hlt
    have hps := pS_succ es i
    simp (disch := first | assumption | omega) only [go_sem, ↓reduceIte, f4, f5, f6, hlt, hlen, hgi, List.length_map]
    exact hP (N - (i + 1)) _ (by omega) ⟨i + 1, rfl, by omega, by simp only [go_sem, ↓reduceIte, f4, hps]⟩
  · obtain rfl : i = N := by omega
    simp (disch := first | assumption | omega) only [go_sem, ↓reduceIte, f4, f5, f6, hlt, hlen, List.length_map]
    exact hV _ _ (by rw [cnt_N hk]; exact frz_two (frz_int _ _ _ _) (frz_slice _ _ _ _ _))
section
variable {n base : Nat} {Q : EX × St → Prop} {d : Option Nat} {L : List IOper} {ks : List Kont} {e : Env} {h : Heap}
theorem cs_CountOf {N : Nat} {es : List Ed} {x : Bool} (hn : 2 ≤ n) (hk : OkB N es) (h11 : es.length ≤ 11) : GP (evCall T n) base Q d L ks e (evCall T n false (.fn 61) [.agg [.int .i64 N, .slice (some 2) (es.map edA) x]] h) = GO (evCall T n) base Q L ks ⟨setDst e d (.tuple [.int .i64 (cntT es), ints (srN N (tw es.length es))]), h⟩ := by
  have := con_CountOf N es hk h11
  rw [bkN_A] at this
  exact gp_eq this hn (fz_cons (frz_agg (mz_cons (frz_int _ _ _ _) (mz_cons (frz_slice _ _ _ _ _) (mz_nil _ _)))) (fz_nil _)) rfl
end

theorem con_refCount_no (b : Bk) (hl : b.slurs.length ≤ 20) (hc : chkB b ≠ 0) : Con T 3 27 [bkA b] (.tuple [.int .i64 0, .int .i64 (chkB b)]) := by
  refine con_intro t27 fun n hn V hV => ?_
  have b0 : (chkB b != 0) = true := by simpa using hc
  simp (disch := first | assumption | omega) only [c27, go_sem, ↓reduceIte, cs_refCheck, b0]
  exact hV _ _ (frz_two (frz_int _ _ _ _) (frz_int _ _ _ _))
theorem con_refCount (N : Nat) (es : List Ed) (hk : OkB N es) (h11 : es.length ≤ 11) : Con T 3 27 [bkA (bkN N es)] (.tuple [.int .i64 (cntT es), .int .i64 0]) := by
  refine con_intro t27 fun n hn V hV => ?_
  have b0 : ((0 : Int) != 0) = false := rfl
  rw [bkN_A]
  simp (disch := first | assumption | omega) only [c27, go_sem, ↓reduceIte, cs_refOk, b0, cs_CountOf, Bool.false_eq_true]
  exact hV _ _ (frz_two (frz_int _ _ _ _) (frz_int _ _ _ _))

theorem con_refStarts_no (b : Bk) (hl : b.slurs.length ≤ 20) (hc : chkB b ≠ 0) : Con T 3 25 [bkA b] (.tuple [ints [], .int .i64 (chkB b)]) := by
  refine con_intro t25 fun n hn V hV => ?_
  have b0 : (chkB b != 0) = true := by simpa using hc
  simp (disch := first | assumption | omega) only [c25, go_sem, ↓reduceIte, cs_refCheck, b0]
  exact hV _ _ (frz_two (frz_slice _ _ _ _ _) (frz_int _ _ _ _))
theorem con_refStarts (N : Nat) (es : List Ed) (hk : OkB N es) (h11 : es.length ≤ 11) : Con T 3 25 [bkA (bkN N es)] (.tuple [ints (nI4 (strL N es)), .int .i64 0]) := by
  refine con_intro t25 fun n hn V hV => ?_
  have b0 : ((0 : Int) != 0) = false := rfl
  have h8 := hk.n8
  have hsf := str_filter hk
  rw [bkN_A]
  simp (disch := first | assumption | omega) only [c25, go_sem, ↓reduceIte, cs_refOk, b0, cs_CountOf, Bool.false_eq_true]
  have hlen : (srN N (tw es.length es)).length = N := by simp [srN]
  refine m_loop (fun M st => ∃ (i : Nat) (x : AV), M = N - i ∧ i ≤ N ∧ At st.env [(5, ints (srN N (tw es.length es))), (6, x), (7, .int .i64 i)] ∧ Own 0 st.heap x .i64 (nI4 ((List.range i).filter fun a => decide (0 < tw es.length es a)))) N (by omega)
    ⟨0, .slice none [] true, by omega, by omega, by simp only [go_sem, ↓reduceIte], own_nil ..⟩ ?_
  rintro M e h hM ⟨i, x, rfl, hi, hE, hO⟩ P hP
  simp only [At_cons, At_nil] at hE hO
  obtain ⟨f5, f6, f7, -⟩ := hE
  by_cases hlt : i < N
  · have hgi : ((srN N (tw es.length es)).map (AV.int .i64))[i]? = some (.int .i64 (tw es.length es i)) := srN_get _ hlt
    have hfl : ((List.range i).filter fun a => decide (0 < tw es.length es a)).length ≤ 8 := by
      have := List.length_filter_le (fun a => decide (0 < tw es.length es a)) (List.range i)
      simp at this; omega
    have hrs : (List.range (i + 1)).filter (fun a => decide (0 < tw es.length es a)) = (List.range i).filter (fun a => decide (0 < tw es.length es a)) ++ if 0 < tw es.length es i then [i] else [] := by
      rw [List.range_succ, List.filter_append]
      congr 1
      by_cases hf : 0 < tw es.length es i
      · rw [if_pos hf, List.filter_cons, if_pos (by simpa using hf)]; rfl
      · rw [if_neg hf, List.filter_cons, if_neg (by simpa using hf)]; rfl
    by_cases hp : 0 < tw es.length es i
    · have hd : decide (tw es.length es i > 0) = true := by simpa using hp
      rw [if_pos hp] at hrs
      simp (disch := first | assumption | omega) only [go_sem, ↓reduceIte, f5, f6, f7, hlt, hlen, hgi, hd, List.length_map]
      refine gp_append1 (lo := 0) (b := 8) rfl hO (by omega) (by rw [nI4_len]; omega) fun x' h' hO' hF hL' _ _ => ?_
      simp (disch := first | assumption | omega) only [go_sem, ↓reduceIte, f5, f6, f7]
      exact hP (N - (i + 1)) _ (by omega) ⟨i + 1, x', rfl, by omega, by simp only [go_sem, ↓reduceIte, f5], by rw [hrs]; simpa [nI4] using hO'⟩
    · have hd : decide (tw es.length es i > 0) = false := by simpa using hp
      rw [if_neg hp, List.append_nil] at hrs
      simp (disch := first | assumption | omega) only [go_sem, ↓reduceIte, f5, f6, f7, hlt, hlen, hgi, hd, List.length_map, Bool.false_eq_true]
      exact hP (N - (i + 1)) _ (by omega) ⟨i + 1, x, rfl, by omega, by simp only [go_sem, ↓reduceIte, f5, f6], by rw [hrs]; exact hO⟩
  · obtain rfl : i = N := by omega
    simp (disch := first | assumption | omega) only [go_sem, ↓reduceIte, f5, f6, f7, hlt, hlen, List.length_map]
    exact hV _ _ (by rw [hsf]; exact frz_two (frz_Own hO) (frz_int _ _ _ _))
end Go.Ev.YtjcabpldgdafeaaC

namespace Go.Ev.YtjcabpldgdafeaaC
open Go Go.Proofs Go.Ev

attribute [local irreducible] Res.all evC evLoop evOps evOper evOp evFn evCall freeze G GO GV GP GC R
set_option maxRecDepth 100000

def gdR (es : List Ed) (s : Nat) (a : Int) (i : Nat) : Bool := bitK s i && ((decide (a < 0) || decide (((gE es i).1 : Int) = a)) && decide (wB es (s ||| 2 ^ i) (gE es i).2 ≠ 0))
def tuR (es : List Ed) : Nat → Nat → Int → List Nat → Option (List Nat)
  | 0, _, _, out => some out
  | k + 1, s, a, out =>
    match (List.range es.length).find? (gdR es s a) with
    | none => none
    | some i => tuR es k (s ||| 2 ^ i) (gE es i).2 (out ++ [i])
theorem find_some {p : Nat → Bool} {m i : Nat} (hi : i < m) (hp : p i = true) (hn : ∀ j, j < i → p j = false) : (List.range m).find? p = some i := by
  rw [List.find?_range_eq_some]
  exact ⟨hp, List.mem_range.2 hi, fun j hj => by simp [hn j hj]⟩
theorem find_none {p : Nat → Bool} {m : Nat} (hn : ∀ j, j < m → p j = false) : (List.range m).find? p = none := by
  rw [List.find?_range_eq_none]
  exact fun j hj => by simp [hn j hj]
def tuA (r : Option (List Nat)) : AV := match r with
  | none => .tuple [ints [], .int .i64 19]
  | some l => .tuple [ints (nI4 l), .int .i64 0]

theorem con_refFirst_no (b : Bk) (hl : b.slurs.length ≤ 20) (hc : chkB b ≠ 0) : Con T 3 23 [bkA b] (.tuple [ints [], .int .i64 (chkB b)]) := by
  refine con_intro t23 fun n hn V hV => ?_
  have b0 : (chkB b != 0) = true := by simpa using hc
  simp (disch := first | assumption | omega) only [c23, go_sem, ↓reduceIte, cs_refCheck, b0]
  exact hV _ _ (frz_two (frz_slice _ _ _ _ _) (frz_int _ _ _ _))

set_option maxHeartbeats 4000000 in
theorem con_refFirst (N : Nat) (es : List Ed) (hk : OkB N es) (h11 : es.length ≤ 11) : Con T 3 23 [bkA (bkN N es)] (tuA (tuR es es.length 0 (-1) [])) := by
  refine con_intro t23 fun n hn V hV => ?_
  have b0 : ((0 : Int) != 0) = false := rfl
  have h8 := hk.n8
  have hp11 : 2 ^ es.length ≤ 2048 := Nat.pow_le_pow_right (n := 2) (by omega) h11
  rw [bkN_A]
  simp (disch := first | assumption | omega) only [c23, go_sem, ↓reduceIte, cs_refOk, b0, cs_Ways, wayA, Bool.false_eq_true]
  refine m_loop (fun M st => ∃ (k s : Nat) (a : Int) (out : List Nat) (x : AV), M = es.length - k ∧ k ≤ es.length ∧ s < 2 ^ es.length ∧ At st.env [(1, .optr 1 0 0), (4, wayA N es), (5, .int .i64 s), (6, .int .i64 a), (7, x)] ∧ getH st.heap 1 = .cells 0 [.int .i64 N, eds es] ∧ Own 88 st.heap x .i64 (nI4 out) ∧ 88 ≤ st.heap.length ∧ out.length = k ∧ tuR es es.length 0 (-1) [] = tuR es (es.length - k) s a out) es.length (by omega)
    ⟨0, 0, -1, [], .slice none [] true, by omega, by omega, Nat.pow_pos (by omega), by simp only [go_sem, ↓reduceIte, wayA], by simp only [go_sem, ↓reduceIte], own_nil .., by simp [length_setH], rfl, rfl⟩ ?_
  rintro M e h hM ⟨k, s, a, out, x, rfl, hkl, hs, hE, g1, hO, hl88, hol, hA⟩ P hP
  simp only [At_cons, At_nil] at hE g1 hO hl88
  obtain ⟨f1, f4, f5, f6, f7, -⟩ := hE
  have hlA := hO.lenA
  rw [nI4_len, hol] at hlA
  have hs62 : s < 4611686018427387904 := by omega
  by_cases hlt : k < es.length
  · simp (disch := first | assumption | omega) only [go_sem, ↓reduceIte, f1, f4, f5, f6, f7, hlt, g1, hlA, List.length_map]
    refine m_loop (fun M st => ∃ i : Nat, M = es.length - i ∧ i ≤ es.length ∧ At st.env [(1, .optr 1 0 0), (4, wayA N es), (5, .int .i64 s), (6, .int .i64 a), (7, x), (8, .int .i64 i)] ∧ st.heap = h ∧ ∀ j, j < i → gdR es s a j = false) es.length (by omega)
      ⟨0, by omega, by omega, by simp only [go_sem, ↓reduceIte, f1, f4, f5, f6, f7], rfl, fun j hj => by omega⟩ ?_
    rintro M e2 h2 hM2 ⟨i, rfl, hi, hE2, rfl, hno⟩ P2 hP2
    simp only [At_cons, At_nil] at hE2 g1 hO hl88
    obtain ⟨f1, f4, f5, f6, f7, f8, -⟩ := hE2
    by_cases hil : i < es.length
    · have hq := hk.lt _ (List.getElem_mem hil)
      have hg := ed_get hil
      have hge := gE_get hil
      have hgd : gdR es s a i = (bitK s i && ((decide (a < 0) || decide ((es[i].1 : Int) = a)) && decide (wB es (s ||| 2 ^ i) es[i].2 ≠ 0))) := by rw [gdR, hge]
      have hshr := b_shr_nat s i (by omega) hs62
      have hand := b_and1 (s / 2 ^ i) (by have := Nat.div_le_self s (2 ^ i); omega)
      have hbt : ((((s / 2 ^ i % 2 : Nat) : Int)) == 1) = !bitK s i := by
        rw [bitK_div, Bool.eq_iff_iff]
        simp only [beq_iff_eq, Bool.not_eq_true', decide_eq_false_iff_not]
        generalize s / 2 ^ i = q
        omega
      have hsh1 := b_shl1 i (by omega)
      have h2i : 2 ^ i < 4611686018427387904 := Nat.lt_of_le_of_lt (Nat.pow_le_pow_right (by omega) (show i ≤ 11 by omega)) (by decide)
      have hlt2 : s ||| 2 ^ i < 2 ^ es.length := or_lt hs hil
      have hor := b_or_nat s (2 ^ i) (by omega) hs62 h2i
      have hgw := way_get N es hlt2
      have hgo : gdR es s a i = true → tuR es es.length 0 (-1) [] = tuR es (es.length - (k + 1)) (s ||| 2 ^ i) (es[i].2 : Nat) (out ++ [i]) := fun hb => by
        rw [hA, show es.length - k = es.length - (k + 1) + 1 by omega]
        show (match (List.range es.length).find? (gdR es s a) with | none => none | some i => tuR es (es.length - (k + 1)) (s ||| 2 ^ i) (gE es i).2 (out ++ [i])) = _
        rw [find_some hil hb hno]
        simp only [hge]
      have hstep : gdR es s a i = false → ∀ j, j < i + 1 → gdR es s a j = false := fun hb j hj => by
        by_cases hji : j < i
        · exact hno j hji
        · obtain rfl : j = i := by omega
          exact hb
      generalize hqd : es[i] = q at *
      obtain ⟨qa, qb⟩ := q
      simp only at hq hgd hgo
      simp only [edA] at hg
      obtain ⟨hq1, hq2⟩ := hq
      have hgb : ((srN N (wB es (s ||| 2 ^ i))).map (AV.int .i64))[qb]? = some (.int .i64 (wB es (s ||| 2 ^ i) qb)) := srN_get _ hq2
      have hne : ((i : Int) == (es.length : Int)) = false := by simp; omega
      cases hb : bitK s i with
      | false =>
        rw [hb, Bool.false_and] at hgd
        rw [hb] at hbt
        simp (disch := first | assumption | omega) only [go_sem, ↓reduceIte, f1, f4, f5, f6, f7, f8, hil, g1, hg, hshr, hand, hbt, Bool.not_false, Bool.not_true, Bool.false_eq_true, List.length_map]
        exact hP2 (es.length - (i + 1)) _ (by omega) ⟨i + 1, rfl, by omega, by simp only [go_sem, ↓reduceIte, f1, f4, f5, f6, f7], rfl, hstep hgd⟩
      | true =>
        rw [hb, Bool.true_and] at hgd
        rw [hb] at hbt
        by_cases ha : a < 0
        · have hda : decide (a ≥ 0) = false := by simp; omega
          have hda' : decide (a < 0) = true := by simpa using ha
          rw [hda', Bool.true_or, Bool.true_and] at hgd
          by_cases hw : wB es (s ||| 2 ^ i) qb = 0
          · have hdw : (wB es (s ||| 2 ^ i) qb == 0) = true := by simpa using hw
            have hgd' : gdR es s a i = false := by rw [hgd]; simpa using hw
            simp (disch := first | assumption | omega) only [go_sem, ↓reduceIte, f1, f4, f5, f6, f7, f8, hil, g1, hg, hshr, hand, hbt, hda, hsh1, hor, wayA, hgw, hgb, hdw, Bool.not_false, Bool.not_true, Bool.false_eq_true, List.length_map]
            exact hP2 (es.length - (i + 1)) _ (by omega) ⟨i + 1, rfl, by omega, by simp only [go_sem, ↓reduceIte, f1, f4, f5, f6, f7, wayA], rfl, hstep hgd'⟩
          · have hdw : (wB es (s ||| 2 ^ i) qb == 0) = false := by simpa using hw
            have hgd' : gdR es s a i = true := by rw [hgd]; simpa using hw
            simp (disch := first | assumption | omega) only [go_sem, ↓reduceIte, f1, f4, f5, f6, f7, f8, hil, g1, hg, hshr, hand, hbt, hda, hsh1, hor, wayA, hgw, hgb, hdw, hne, Bool.not_false, Bool.not_true, Bool.false_eq_true, List.length_map]
            refine gp_append1 (lo := 88) rfl hO hl88 (by rw [nI4_len]; omega) fun x' h3 hO' hF hL _ _ => ?_
            simp (disch := first | assumption | omega) only [go_sem, ↓reduceIte, f1, f4, f5, f6, f7, f8]
            refine hP (es.length - (k + 1)) _ (by omega) ⟨k + 1, s ||| 2 ^ i, qb, out ++ [i], x', rfl, by omega, hlt2, by simp only [go_sem, ↓reduceIte, f1, f4, wayA], by rw [hF 1 (by omega), g1], by simpa [nI4] using hO', by simp only; omega, by simp [hol], hgo hgd'⟩
        · have hda : decide (a ≥ 0) = true := by simp; omega
          have hda' : decide (a < 0) = false := by simpa using ha
          rw [hda', Bool.false_or] at hgd
          by_cases hqa : (qa : Int) = a
          · have hnq : ((qa : Int) != a) = false := by simpa using hqa
            have hdq : decide ((qa : Int) = a) = true := by simpa using hqa
            rw [hdq, Bool.true_and] at hgd
            by_cases hw : wB es (s ||| 2 ^ i) qb = 0
            · have hdw : (wB es (s ||| 2 ^ i) qb == 0) = true := by simpa using hw
              have hgd' : gdR es s a i = false := by rw [hgd]; simpa using hw
              simp (disch := first | assumption | omega) only [go_sem, ↓reduceIte, f1, f4, f5, f6, f7, f8, hil, g1, hg, hshr, hand, hbt, hda, hnq, hsh1, hor, wayA, hgw, hgb, hdw, Bool.not_false, Bool.not_true, Bool.false_eq_true, List.length_map]
              exact hP2 (es.length - (i + 1)) _ (by omega) ⟨i + 1, rfl, by omega, by simp only [go_sem, ↓reduceIte, f1, f4, f5, f6, f7, wayA], rfl, hstep hgd'⟩
            · have hdw : (wB es (s ||| 2 ^ i) qb == 0) = false := by simpa using hw
              have hgd' : gdR es s a i = true := by rw [hgd]; simpa using hw
              simp (disch := first | assumption | omega) only [go_sem, ↓reduceIte, f1, f4, f5, f6, f7, f8, hil, g1, hg, hshr, hand, hbt, hda, hnq, hsh1, hor, wayA, hgw, hgb, hdw, hne, Bool.not_false, Bool.not_true, Bool.false_eq_true, List.length_map]
              refine gp_append1 (lo := 88) rfl hO hl88 (by rw [nI4_len]; omega) fun x' h3 hO' hF hL _ _ => ?_
              simp (disch := first | assumption | omega) only [go_sem, ↓reduceIte, f1, f4, f5, f6, f7, f8]
              refine hP (es.length - (k + 1)) _ (by omega) ⟨k + 1, s ||| 2 ^ i, qb, out ++ [i], x', rfl, by omega, hlt2, by simp only [go_sem, ↓reduceIte, f1, f4, wayA], by rw [hF 1 (by omega), g1], by simpa [nI4] using hO', by simp only; omega, by simp [hol], hgo hgd'⟩
          · have hnq : ((qa : Int) != a) = true := by simpa using hqa
            have hdq : decide ((qa : Int) = a) = false := by simpa using hqa
            rw [hdq, Bool.false_and] at hgd
            simp (disch := first | assumption | omega) only [go_sem, ↓reduceIte, f1, f4, f5, f6, f7, f8, hil, g1, hg, hshr, hand, hbt, hda, hnq, Bool.not_false, Bool.not_true, Bool.false_eq_true, List.length_map]
            exact hP2 (es.length - (i + 1)) _ (by omega) ⟨i + 1, rfl, by omega, by simp only [go_sem, ↓reduceIte, f1, f4, f5, f6, f7], rfl, hstep hgd⟩
    · obtain rfl : i = es.length := by omega
      have hne : ((es.length : Int) == (es.length : Int)) = true := by simp
      have hf := find_none hno
      simp (disch := first | assumption | omega) only [go_sem, ↓reduceIte, f1, f4, f5, f6, f7, f8, hil, g1, hne, Bool.not_false, Bool.not_true, Bool.false_eq_true, List.length_map]
      refine hV _ _ ?_
      rw [hA, show es.length - k = es.length - (k + 1) + 1 by omega]
      show _ = Res.ret (tuA (match (List.range es.length).find? (gdR es s a) with | none => none | some i => tuR es (es.length - (k + 1)) (s ||| 2 ^ i) (gE es i).2 (out ++ [i])))
      rw [hf]
      exact frz_two (frz_slice _ _ _ _ _) (frz_int _ _ _ _)
  · obtain rfl : k = es.length := by omega
    simp (disch := first | assumption | omega) only [go_sem, ↓reduceIte, f1, f4, f5, f6, f7, hlt, g1, hlA, List.length_map]
    exact hV _ _ (by rw [hA, Nat.sub_self]; exact frz_two (frz_Own hO) (frz_int _ _ _ _))
end Go.Ev.YtjcabpldgdafeaaC
