/- The slurs that lead from a note and are left, as the program yields them; and collected. The first tune that the program finds is the reference's. No condition but those that stand in each. -/
import Derived.Test.YtjcabpldgdafeaaEL4Prf
import Derived.Test.YtjcabpldgdafeaaEL4Rft
set_option linter.unusedSimpArgs false
set_option linter.unusedVariables false
namespace Go.Ev.YtjcabpldgdafeaaC
open Go Go.Proofs Go.Ev
attribute [local irreducible] Res.all evC evLoop evOps evOper evOp evFn evCall freeze G GO GV GP GC R
set_option maxRecDepth 100000
def ldB (es : List Ed) (a : Int) (wo : List Int) (i : Nat) : Bool := (decide (a < 0) || decide (((es.getD i (0, 0)).1 : Int) = a)) && !wo.contains (i : Int)
def ldL (es : List Ed) (a : Int) (wo : List Int) (i : Nat) : List Nat := (List.range i).filter (ldB es a wo)
theorem ldL_succ (es : List Ed) (a : Int) (wo : List Int) (i : Nat) : ldL es a wo (i + 1) = ldL es a wo i ++ if ldB es a wo i = true then [i] else [] := by
 unfold ldL
 rw [List.range_succ, List.filter_append]
 congr 1
 by_cases hf : ldB es a wo i = true
 ·rw [if_pos hf, List.filter_cons, if_pos hf]; rfl
 ·rw [if_neg hf, List.filter_cons, if_neg hf]; rfl
theorem ldL_len (es : List Ed) (a : Int) (wo : List Int) (i : Nat) : (ldL es a wo i).length ≤ i := by
 have := List.length_filter_le (ldB es a wo) (List.range i)
 simpa [ldL] using this
abbrev ldC (N : Int) (es : List Ed) (s : Nat → Int) (p : AV) (a : Int) (wo : List Int) : List AV := [.ptr [stA N es s p] 0, .ptr [.int .i64 a] 0, .ptr [ints wo] 0]
theorem con_leading (N : Int) (es : List Ed) (s : Nat → Int) (p : AV) (a : Int) (wo : List Int) : Con T 1 84 [stA N es s p, .int .i64 a, ints wo] (.clo 94 [] (ldC N es s p a wo)) := by
 refine con_intro t84 fun n hn V hV => ?_
 simp (disch := first | assumption | omega) only [c84, go_sem, ↓reduceIte]
 exact hV _ _ (frz_clo (mz_nil _ _) (mz_cons (frz_optr (cs := [stA N es s p]) (by simp only [go_sem, ↓reduceIte]) (mz_cons (frz_stA _ _ _ _ _ _) (mz_nil _ _))) (mz_cons (frz_optr (cs := [.int .i64 a]) (by simp only [go_sem, ↓reduceIte]) (mz_cons (frz_int _ _ _ _) (mz_nil _ _))) (mz_cons (frz_optr (cs := [ints wo]) (by simp only [go_sem, ↓reduceIte]) (mz_cons (frz_slice _ _ _ _ _) (mz_nil _ _))) (mz_nil _ _)))))
set_option maxHeartbeats 1000000 in
theorem raw_leading (N : Int) (es : List Ed) (s : Nat → Int) (p : AV) (a : Int) (wo : List Int) (hl : es.length ≤ 20) (hwo : wo.length ≤ 1000) (key ver B : Nat) (J : Nat → Heap → Prop)
  (hset : ∀ i h o, J i h → J i (setH h (B + 6) o)) {n : Nat} (hn : 4 ≤ n)
  (hskip : ∀ i h, i < es.length → ldB es a wo i = false → J i h → J (i + 1) h)
  (hy : ∀ i h, i < es.length → ldB es a wo i = true → J i h → (evCall T (n - 1) true (.yld key ver) [.int .i64 (i : Int)] h).all fun p => p.1 = .bool true ∧ J (i + 1) p.2) (h : Heap) (hB : h.length = B) (h0 : J 0 (h ++ List.replicate 39 .none)) (V : AV × Heap → Prop) (hV : ∀ v h', J es.length h' → V (v, h')) :
  (evCall T n true (.fn 94) [.yld key ver, .ptr [stA N es s p] 0, .ptr [.int .i64 a] 0, .ptr [ints wo] 0] h).all V := by
 obtain ⟨q, rfl⟩ : ∃ q, n = q + 1 := ⟨n - 1, by omega⟩
 rw [raw_enter t94, hB]
 simp (disch := first | assumption | omega) only [c94, go_sem, ↓reduceIte, stA, stC_1, List.length_map]
 refine m_loop (fun M st => ∃ i : Nat, M = es.length - i ∧ i ≤ es.length ∧ At st.env [(0, .yld key ver), (2, .ptr [.int .i64 a] 0), (3, .ptr [ints wo] 0), (11, eds es), (12, .int .i64 es.length), (13, .int .i64 i)] ∧ J i st.heap) es.length (by omega)
  ⟨0, by omega, by omega, by simp only [go_sem, ↓reduceIte], h0⟩ ?_
 rintro M e h hM ⟨i, rfl, hi, hE, hJ⟩ P hP
 simp only [At_cons, At_nil] at hE hJ
 obtain ⟨f0, f2, f3, f11, f12, f13, -⟩ := hE
 by_cases hlt : i < es.length
 ·have hg := ed_get hlt
  have hge : es.getD i (0, 0) = es[i] := by simp [List.getD, hlt]
  have hld : ldB es a wo i = ((decide (a < 0) || decide ((es[i].1 : Int) = a)) && !wo.contains (i : Int)) := by rw [ldB, hge]
  have hJ2 : ∀ o o', J i (setH (setH h (B + 6) o) (B + 6) o') := fun o o' => hset _ _ _ (hset _ _ _ hJ)
  have hnext : ldB es a wo i = false → ∀ o o', J (i + 1) (setH (setH h (B + 6) o) (B + 6) o') := fun hb o o' => hskip i _ hlt hb (hJ2 o o')
  have hyy : ldB es a wo i = true → ∀ o o', (evCall T q true (.yld key ver) [.int .i64 (i : Int)] (setH (setH h (B + 6) o) (B + 6) o')).all fun p => p.1 = .bool true ∧ J (i + 1) p.2 := fun hb o o' => hy i _ hlt hb (hJ2 o o')
  generalize hqd : es[i] = q0 at *
  obtain ⟨qa, qb⟩ := q0
  simp only [edA] at hg
  simp only at hld
  by_cases ha : a < 0
  ·have hda : decide (a < 0) = true := by simpa using ha
   cases hc : wo.contains (i : Int) with
   | true =>
    have hb : ldB es a wo i = false := by rw [hld, hc]; simp
    simp (disch := first | assumption | omega) only [go_sem, ↓reduceIte, f0, f2, f3, f11, f12, f13, hlt, hg, hda, cs_has, hc, Bool.not_true, Bool.false_eq_true]
    exact hP (es.length - (i + 1)) _ (by omega) ⟨i + 1, rfl, by omega, by simp only [go_sem, ↓reduceIte, f0, f2, f3, f11, f12], hnext hb _ _⟩
   | false =>
    have hb : ldB es a wo i = true := by rw [hld, hc, hda]; rfl
    simp (disch := first | assumption | omega) only [go_sem, ↓reduceIte, f0, f2, f3, f11, f12, f13, hlt, hg, hda, cs_has, hc, Bool.not_false, Bool.false_eq_true]
    refine gp_of (Res.all_mono _ (hyy hb _ _) ?_)
    rintro ⟨v, h'⟩ ⟨hv, hJ'⟩
    simp only at hv hJ'
    subst hv
    simp (disch := first | assumption | omega) only [go_sem, ↓reduceIte, f0, f2, f3, f11, f12, f13, Bool.not_true, Bool.false_eq_true]
    exact hP (es.length - (i + 1)) _ (by omega) ⟨i + 1, rfl, by omega, by simp only [go_sem, ↓reduceIte, f0, f2, f3, f11, f12], hJ'⟩
  ·have hda : decide (a < 0) = false := by simpa using ha
   by_cases hqa : (qa : Int) = a
   ·have hde : ((qa : Int) == a) = true := by simpa using hqa
    have hdd : decide ((qa : Int) = a) = true := by simpa using hqa
    cases hc : wo.contains (i : Int) with
    | true =>
     have hb : ldB es a wo i = false := by rw [hld, hc]; simp
     simp (disch := first | assumption | omega) only [go_sem, ↓reduceIte, f0, f2, f3, f11, f12, f13, hlt, hg, hda, hde, cs_has, hc, Bool.not_true, Bool.false_eq_true]
     exact hP (es.length - (i + 1)) _ (by omega) ⟨i + 1, rfl, by omega, by simp only [go_sem, ↓reduceIte, f0, f2, f3, f11, f12], hnext hb _ _⟩
    | false =>
     have hb : ldB es a wo i = true := by rw [hld, hc, hdd]; simp
     simp (disch := first | assumption | omega) only [go_sem, ↓reduceIte, f0, f2, f3, f11, f12, f13, hlt, hg, hda, hde, cs_has, hc, Bool.not_false, Bool.false_eq_true]
     refine gp_of (Res.all_mono _ (hyy hb _ _) ?_)
     rintro ⟨v, h'⟩ ⟨hv, hJ'⟩
     simp only at hv hJ'
     subst hv
     simp (disch := first | assumption | omega) only [go_sem, ↓reduceIte, f0, f2, f3, f11, f12, f13, Bool.not_true, Bool.false_eq_true]
     exact hP (es.length - (i + 1)) _ (by omega) ⟨i + 1, rfl, by omega, by simp only [go_sem, ↓reduceIte, f0, f2, f3, f11, f12], hJ'⟩
   ·have hde : ((qa : Int) == a) = false := by simpa using hqa
    have hdd : decide ((qa : Int) = a) = false := by simpa using hqa
    have hb : ldB es a wo i = false := by rw [hld, hda, hdd]; rfl
    simp (disch := first | assumption | omega) only [go_sem, ↓reduceIte, f0, f2, f3, f11, f12, f13, hlt, hg, hda, hde, Bool.not_true, Bool.false_eq_true]
    exact hP (es.length - (i + 1)) _ (by omega) ⟨i + 1, rfl, by omega, by simp only [go_sem, ↓reduceIte, f0, f2, f3, f11, f12], hnext hb _ _⟩
 ·obtain rfl : i = es.length := by omega
  simp (disch := first | assumption | omega) only [go_sem, ↓reduceIte, f0, f2, f3, f11, f12, f13, hlt]
  exact hV _ _ hJ
set_option maxHeartbeats 1000000 in
theorem con_collect (N : Int) (es : List Ed) (s : Nat → Int) (p : AV) (a : Int) (wo : List Int) (hl : es.length ≤ 20) (hwo : wo.length ≤ 1000) : ConF T 10 83 [.clo 94 [] (ldC N es s p a wo)] (ints (nI4 (ldL es a wo es.length))) := by
 refine conF_intro t83 fun n hn V hV => ?_
 simp (disch := first | assumption | omega) only [c83, go_sem, ↓reduceIte]
 refine gp_of ?_
 obtain ⟨n, rfl⟩ : ∃ n', n = n' + 1 := ⟨n - 1, by omega⟩
 rw [raw_enter t93]
 have hrep : List.replicate 5 AObj.none ++ List.replicate 13 AObj.none = List.replicate 18 AObj.none := by rw [List.replicate_append_replicate]
 simp (disch := first | assumption | omega) only [c93, go_sem, ↓reduceIte, hrep]
 refine g_cut (fun st => At st.env [(2, .optr 7 0 0), (6, .clo 94 [] (ldC N es s p a wo))] ∧ st.heap.length = 18 ∧ getH st.heap 7 = .cells 0 [.slice none [] true])
  ⟨by simp only [go_sem, ↓reduceIte], by simp [length_setH], by simp only [go_sem, ↓reduceIte]⟩ ?_
 rintro e h ⟨hE, hlen, g7⟩
 simp only [At_cons, At_nil] at hE hlen g7
 obtain ⟨f2, f6, -⟩ := hE
 refine m_rangeF' (g := 94) (first := []) (captured := ldC N es s p a wo) (by simp only [go_sem, ↓reduceIte, f6]) hlen fun lf l1 l2 l3 l4 l5 => ?_
 refine raw_leading N es s p a wo hl hwo 18 0 19 (fun i h' => getH h' 18 = .loop 0 .ready none lf ∧ 58 ≤ h'.length ∧ ∃ x, getH h' 7 = .cells 0 [x] ∧ Own 58 h' x .i64 (nI4 (ldL es a wo i))) (fun i h' o hJ => ?_) (by omega) (fun i h' hi hb hJ => ?_) (fun i h' hi hb hJ => ?_) _ (by rw [length_setH, hlen]; rfl) ?_ _ (fun v h' hJ => ?_)
 ·obtain ⟨a1, a2, x, a3, a4⟩ := hJ
  exact ⟨by rw [getH_setH_ne _ _ _ _ (by omega), a1], by rw [length_setH]; omega, x, by rw [getH_setH_ne _ _ _ _ (by omega), a3], a4.setH (by omega)⟩
 ·obtain ⟨a1, a2, x, a3, a4⟩ := hJ
  exact ⟨a1, a2, x, a3, by rw [ldL_succ, hb]; simpa using a4⟩
 ·obtain ⟨a1, a2, x, a3, a4⟩ := hJ
  obtain ⟨q, rfl⟩ : ∃ q, n = q + 2 := ⟨n - 2, by omega⟩
  have hll := ldL_len es a wo i
  refine m_round a1 (by rw [l3]; rfl) ?_
  rw [l4]
  simp (disch := first | assumption | omega) only [go_sem, ↓reduceIte, l1, l2, l3, setPs]
  refine ⟨none, lf, a1, ?_⟩
  rw [l5]
  simp (disch := first | assumption | omega) only [go_sem, ↓reduceIte, f2, f6, a1, a3]
  refine gp_append1 (lo := 58) (by rw [length_setH]; omega) (a4.setH (by omega)) (by rw [length_setH]; omega) (by rw [nI4_len]; omega) fun x' h2 hO' hF hL _ _ => ?_
  rw [length_setH] at hL
  have g7' : getH h2 7 = .cells 0 [x] := by rw [hF 7 (by omega), getH_setH_ne _ _ _ _ (by omega), a3]
  have g18 : getH h2 18 = .loop 0 .busy none lf := by rw [hF 18 (by omega), getH_setH_self]
  have hls : nI4 (ldL es a wo (i + 1)) = nI4 (ldL es a wo i) ++ [(i : Int)] := by rw [ldL_succ, hb]; simp [nI4]
  have hcx := hO'.cells
  have hox := hO'.oneB
  simp (disch := first | assumption | omega) only [go_sem, ↓reduceIte, f2, f6, g7', g18, hcx, hox]
  refine ⟨.busy, none, lf, rfl, rfl, by omega, x', rfl, ?_⟩
  rw [hls]
  exact (hO'.setH (by omega)).setH (by omega)
 ·refine ⟨by rw [getH_append_none, getH_setH_self], by rw [List.length_append, length_setH, List.length_replicate]; omega, _, by rw [getH_append_none, getH_setH_ne _ _ _ _ (by omega), g7], own_nil ..⟩
 ·obtain ⟨a1, a2, x, a3, a4⟩ := hJ
  refine ⟨.ready, none, lf, a1, by simp, ?_⟩
  simp (disch := first | assumption | omega) only [go_sem, ↓reduceIte, f2, f6, a3]
  exact hV _ _ (frz_Own (a4.setH (by omega))) (fresh_Own (a4.setH (by omega)))
section
variable {n base : Nat} {Q : EX × St → Prop} {d : Option Nat} {L : List IOper} {ks : List Kont} {e : Env} {h : Heap}
theorem cs_leading {N : Int} {es : List Ed} {s : Nat → Int} {p : AV} {a : Int} {wo : List Int} {x : Bool} (hn : 1 ≤ n) : GP (evCall T n) base Q d L ks e (evCall T n false (.fn 84) [stA N es s p, .int .i64 a, .slice none (wo.map (.int .i64)) x] h) = GO (evCall T n) base Q L ks ⟨setDst e d (.clo 94 [] (ldC N es s p a wo)), h⟩ :=
 gp_eq (con_leading N es s p a wo) hn (fz_cons (frz_stA _ _ _ _ _ _) (fz_int _ _ _ (fz_slice _ _ _ _ (fz_nil _)))) rfl
end
def rsL (es : List Ed) (wo : List Int) (i : Nat) : List Ed := (ldL es (-1) wo i).map fun j => es.getD j (0, 0)
theorem rsL_succ (es : List Ed) (wo : List Int) (i : Nat) : rsL es wo (i + 1) = rsL es wo i ++ if ldB es (-1) wo i = true then [es.getD i (0, 0)] else [] := by
 unfold rsL
 rw [ldL_succ, List.map_append]
 congr 1
 split <;> rfl
theorem rsL_len (es : List Ed) (wo : List Int) (i : Nat) : (rsL es wo i).length ≤ i := by
 unfold rsL
 rw [List.length_map]; exact ldL_len es (-1) wo i
theorem edCs_app (l k : List Ed) : edCs (l ++ k) = edCs l ++ edCs k := by simp [edCs]
theorem grp_ed (l : List Ed) : grouped (some 2) l.length (edCs l) = l.map edA := by
 apply List.ext_getElem?
 intro i
 simp only [grouped]
 rw [List.getElem?_map, List.getElem?_map]
 by_cases hi : i < l.length
 ·rw [List.getElem?_range hi, List.getElem?_eq_getElem hi]
  simp only [Option.map_some]
  obtain ⟨g1, g2⟩ := edCs_get hi
  congr 2
  apply List.ext_getElem?
  intro j
  rw [List.getElem?_take]
  by_cases hj : j < 2
  ·rw [if_pos hj, List.getElem?_drop]
   have : j = 0 ∨ j = 1 := by omega
   rcases this with rfl | rfl
   ·simpa using g1
   ·simpa using g2
  ·rw [if_neg hj, List.getElem?_eq_none (by simp; omega)]
 ·rw [List.getElem?_eq_none (by simp; omega), List.getElem?_eq_none (by omega)]; rfl
theorem frz_edCs (h : Heap) (n : Nat) : ∀ l : List Ed, mapR (freeze h (n + 1)) (edCs l) = .ret (edCs l)
 | [] => rfl
 | q :: r => mz_cons (frz_int _ _ _ _) (mz_cons (frz_int _ _ _ _) (frz_edCs h n r))
theorem ownG_slP {lo : Nat} {h : Heap} {x : AV} {l : List Ed} (ho : OwnG lo h x (some 2) l.length (edCs l)) : SlP h x l := by
 rcases ho with ⟨h1, _, rfl⟩ | ⟨key, ver, _, rfl, hH, _⟩
 ·have : l = [] := List.length_eq_zero_iff.1 h1
  subst this
  exact .inl ⟨true, rfl⟩
 ·exact .inr ⟨key, ver, none, rfl, hH⟩
theorem ownG_frz {lo : Nat} {h : Heap} {x : AV} {l : List Ed} {n : Nat} (ho : OwnG lo h x (some 2) l.length (edCs l)) : freeze h (n + 2) x = .ret (eds l) := by
 rw [frz_OwnG ho (frz_edCs h n l), grp_ed]
theorem ownG_keyLt {lo : Nat} {h : Heap} {v : AV} {g : Option Nat} {n : Nat} {cs : List AV} (ho : OwnG lo h v g n cs) : ∀ j, keyOf v = some j → j < h.length := by
 rcases ho with ⟨_, _, rfl⟩ | ⟨key, ver, _, rfl, hH, _⟩
 ·intro j hj; simp [keyOf] at hj
 ·intro j hj
  have := getH_lt hH (by simp)
  simp [keyOf] at hj; omega
theorem frz_newG {N : Nat} {es : List Ed} {h h' : Heap} {v sv : AV} {n : Nat} (hp : PNew N sv es h v h') (hs : freeze h' (n + 2) sv = .ret (eds es)) : freeze h' (n + 3) v = .ret (stN N es) := by
 obtain ⟨rfl, h1, h2, -, -⟩ := hp
 rw [zer_map] at h2
 exact frz_optr h1 (frz_stC _ hs (frz_own h2 (by simp)))
theorem strL_nodup (N : Nat) (es : List Ed) : (strL N es).Nodup := by
 unfold strL
 split
 ·exact List.nodup_nil
 ·split
  ·exact List.Nodup.sublist List.filter_sublist List.nodup_range
  ·split
   ·simp
   ·exact List.nodup_nil
theorem atU_lt (s : Nat → Int) : ∀ v, atU s v < v ∨ atU s v = 0
 | 0 => .inr rfl
 | v + 1 => by
  simp only [atU]
  split
  ·exact .inl (by omega)
  ·rcases atU_lt s v with h | h
   ·exact .inl (by omega)
   ·exact .inr h
theorem strL_lt {N : Nat} {es : List Ed} (hn8 : ∀ q ∈ es, q.1 < 8 ∧ q.2 < 8) (hN : N ≤ 8) {x : Nat} (hx : x ∈ strL N es) : x < 8 := by
 unfold strL at hx
 split at hx
 ·cases hx
 ·split at hx
  ·have := List.mem_range.1 (List.mem_filter.1 hx).1; omega
  ·split at hx
   ·obtain rfl := List.mem_singleton.1 hx
    rcases atU_lt (sur es) 8 with h | h <;> omega
   ·cases hx
set_option maxHeartbeats 1000000 in
theorem con_playable (N : Nat) (es : List Ed) (s : Nat → Int) (p : AV) (a : Int) (wo : List Int) (hl : es.length ≤ 20) (hwo : wo.length ≤ 1000) (hN : N ≤ 8) (hn8 : ∀ q ∈ es, q.1 < 8 ∧ q.2 < 8) : Con T 14 86 [stA N es s p, .int .i64 a, ints wo] (.bool (decide (rsL es wo es.length = []) || (nI4 (strL N (rsL es wo es.length))).contains a)) := by
 refine con_intro t86 fun n hn V hV => ?_
 simp (disch := first | assumption | omega) only [c86, go_sem, ↓reduceIte, stA, stC_0, cs_leading]
 refine g_cut (fun st => At st.env [(1, .int .i64 a), (3, .optr 3 0 0), (7, .optr 7 0 0), (17, .clo 94 [] (ldC N es s p (-1) wo))] ∧ st.heap.length = 43 ∧ getH st.heap 3 = .cells 0 [stA N es s p] ∧ getH st.heap 7 = .cells 0 [.int .i64 N, .slice (some 2) [] true])
  ⟨by simp only [go_sem, ↓reduceIte, stA], by simp [length_setH], by simp only [go_sem, ↓reduceIte, stA], by simp only [go_sem, ↓reduceIte]⟩ ?_
 rintro e h ⟨hE, hlen, g3, g7⟩
 simp only [At_cons, At_nil] at hE hlen g3 g7
 obtain ⟨f1, f3, f7, f17, -⟩ := hE
 refine m_rangeF' (g := 94) (first := []) (captured := ldC N es s p (-1) wo) (by simp only [go_sem, ↓reduceIte, f17]) hlen fun lf l1 l2 l3 l4 l5 => ?_
 refine raw_leading N es s p (-1) wo hl hwo 43 0 44 (fun i h' => getH h' 43 = .loop 0 .ready none lf ∧ 83 ≤ h'.length ∧ getH h' 3 = .cells 0 [stA N es s p] ∧ ∃ x, getH h' 7 = .cells 0 [.int .i64 N, x] ∧ OwnG 83 h' x (some 2) (rsL es wo i).length (edCs (rsL es wo i))) (fun i h' o hJ => ?_) (by omega) (fun i h' hi hb hJ => ?_) (fun i h' hi hb hJ => ?_) _ (by rw [length_setH, hlen]; rfl) ?_ _ (fun v h' hJ => ?_)
 ·obtain ⟨a1, a2, b3, x, a3, a4⟩ := hJ
  exact ⟨by rw [getH_setH_ne _ _ _ _ (by omega), a1], by rw [length_setH]; omega, by rw [getH_setH_ne _ _ _ _ (by omega), b3], x, by rw [getH_setH_ne _ _ _ _ (by omega), a3], a4.setH (by omega)⟩
 ·obtain ⟨a1, a2, b3, x, a3, a4⟩ := hJ
  exact ⟨a1, a2, b3, x, a3, by rw [rsL_succ, hb]; simpa using a4⟩
 ·obtain ⟨a1, a2, b3, x, a3, a4⟩ := hJ
  obtain ⟨q, rfl⟩ : ∃ q, n = q + 2 := ⟨n - 2, by omega⟩
  have hll := rsL_len es wo i
  have hg := ed_get hi
  have hge : es.getD i (0, 0) = es[i] := by simp [List.getD, hi]
  have hls : rsL es wo (i + 1) = rsL es wo i ++ [es[i]] := by rw [rsL_succ, hb, hge]; rfl
  generalize hqd : es[i] = q0 at *
  obtain ⟨qa, qb⟩ := q0
  simp only [edA] at hg
  refine m_round a1 (by rw [l3]; rfl) ?_
  rw [l4]
  simp (disch := first | assumption | omega) only [go_sem, ↓reduceIte, l1, l2, l3, setPs]
  refine ⟨none, lf, a1, ?_⟩
  rw [l5]
  simp (disch := first | assumption | omega) only [go_sem, ↓reduceIte, f1, f3, f7, f17, a1, a3, b3, stA, stC_1, hi, hg]
  refine gp_appendG (lo := 83) (m := 1) (c2 := [.int .i64 qa, .int .i64 qb]) (by rw [length_setH]; omega) (a4.setH (by omega)) (by simp [gsize]) (by rw [length_setH]; omega) rfl rfl (by omega) (by omega) fun x' h2 hO' hF hL _ _ => ?_
  rw [length_setH] at hL
  have g7' : getH h2 7 = .cells 0 [.int .i64 N, x] := by rw [hF 7 (by omega), getH_setH_ne _ _ _ _ (by omega), a3]
  have g3' : getH h2 3 = .cells 0 [stA N es s p] := by rw [hF 3 (by omega), getH_setH_ne _ _ _ _ (by omega), b3]
  have g43 : getH h2 43 = .loop 0 .busy none lf := by rw [hF 43 (by omega), getH_setH_self]
  have hO2 : OwnG 83 h2 x' (some 2) (rsL es wo (i + 1)).length (edCs (rsL es wo (i + 1))) := by
   rw [hls, edCs_app, List.length_append]; exact hO'
  have hcx := (ownG_slP hO2).cells
  have hox := (ownG_slP hO2).one
  simp (disch := first | assumption | omega) only [go_sem, ↓reduceIte, f1, f3, f7, f17, g7', g43, hcx, hox]
  refine ⟨.busy, none, lf, rfl, rfl, by omega, g3', x', rfl, ?_⟩
  exact (hO2.setH (by omega)).setH (by omega)
 ·exact ⟨by rw [getH_append_none, getH_setH_self], by rw [List.length_append, length_setH, List.length_replicate]; omega, by rw [getH_append_none, getH_setH_ne _ _ _ _ (by omega), g3], _, by rw [getH_append_none, getH_setH_ne _ _ _ _ (by omega), g7], .inl ⟨rfl, rfl, rfl⟩⟩
 ·obtain ⟨a1, a2, b3, x, a3, a4⟩ := hJ
  refine ⟨.ready, none, lf, a1, by simp, ?_⟩
  have hll := rsL_len es wo es.length
  have hrn8 : ∀ q ∈ rsL es wo es.length, q.1 < 8 ∧ q.2 < 8 := fun q hq => by
   obtain ⟨j, hj, rfl⟩ := List.mem_map.1 hq
   have hj2 := List.mem_range.1 (List.mem_filter.1 hj).1
   have : es.getD j (0, 0) = es[j] := by simp [List.getD, hj2]
   rw [this]
   exact hn8 _ (List.getElem_mem hj2)
  generalize rsL es wo es.length = rs at *
  have hlx := (ownG_slP a4).len
  have hcx := (ownG_slP a4).cells
  by_cases hr : rs = []
  ·have hb : ((rs.length : Int) == 0) = true := by rw [hr]; rfl
   have hdr : decide (rs = []) = true := by simpa using hr
   simp (disch := first | assumption | omega) only [go_sem, ↓reduceIte, f1, f3, f7, f17, a3, hlx, hb]
   exact hV _ _ (by rw [frz_bool, hdr, Bool.true_or])
  ·have hb : ((rs.length : Int) == 0) = false := by simpa using hr
   have hdr : decide (rs = []) = false := by simpa using hr
   simp (disch := first | assumption | omega) only [go_sem, ↓reduceIte, f1, f3, f7, f17, a3, hlx, hb, Bool.false_eq_true]
   have a5 : OwnG 83 (setH h' 43 (.loop 0 .exhausted none lf)) x (some 2) rs.length (edCs rs) := a4.setH (by omega)
   refine gp_of (raw_new N rs (by omega) hrn8 x _ (ownG_slP a5) (ownG_keyLt a5) n (by omega) fun v h2 hp => ?_)
   simp (disch := first | assumption | omega) only [go_sem, ↓reduceIte, f1]
   have a6 : OwnG 83 h2 x (some 2) rs.length (edCs rs) := a5.other fun j hj => hp.2.2.2.1 j (ownG_keyLt a5 j hj)
   refine gpF_con (conF_starts N rs (zS rs) hr hN (by omega) hrn8) (by omega) (fz_cons (frz_newG hp (ownG_frz a6)) (fz_nil _)) ?_
   have hsl : (nI4 (strL N rs)).length ≤ 1000 := by
    rw [nI4_len]
    have := List.Nodup.length_le_of_subset (l₂ := List.range 8) (strL_nodup N rs) fun x hx => List.mem_range.2 (strL_lt hrn8 hN hx)
    simp at this; omega
   simp (disch := first | assumption | omega) only [go_sem, ↓reduceIte, f1, cs_has]
   exact hV _ _ (by rw [frz_bool, hdr, Bool.false_or])
end Go.Ev.YtjcabpldgdafeaaC
namespace Go.Ev.YtjcabpldgdafeaaC
open Go Go.Proofs Go.Ev
attribute [local irreducible] Res.all evC evLoop evOps evOper evOp evFn evCall freeze G GO GV GP GC R
set_option maxRecDepth 100000
noncomputable def plB (N : Nat) (es : List Ed) (a : Int) (wo : List Int) : Bool := decide (rsL es wo es.length = []) || (nI4 (strL N (rsL es wo es.length))).contains a
theorem slA_fullF {l : List Int} {ex : Bool} {e : Env} {hi mx : IX} {k1 k2 : IntKind} (h1 : hi.ev e = .int k1 l.length) (h2 : mx.ev e = .int k2 l.length) : slA none e none (some hi) (some mx) (.slice none (l.map (.int .i64)) ex) = .ret (.slice none (l.map (.int .i64)) true) := by
 have : (l.map (AV.int IntKind.i64)).take l.length = l.map (.int .i64) := List.take_of_length_le (by simp)
 simp [slA, sliceB, h1, h2, boundOf, Res.bind, this]
theorem gp_appendF {call : Caller} {base : Nat} {Q : EX × St → Prop} {d : Option Nat} {L : List IOper} {ks : List Kont} {e : Env} {h : Heap} {b kk : Nat} {k : IntKind} {l : List Int} {a : Int} {ex : Bool} (hr : (l.length + 1) * b ≤ 1099511627776) : GP call base Q d L ks e (evAppend kk none b (.slice none (l.map (.int k)) true) (.slice none [.int k a] ex) h) = GO call base Q L ks ⟨setDst e d (.oslice kk (getH h kk).next none 0 (l ++ [a]).length none), setH h kk (.cells (getH h kk).next ((l ++ [a]).map (.int k)))⟩ := by
 have hroom := room_ok hr
 have : evAppend kk none b (.slice none (l.map (.int k)) true) (.slice none [.int k a] ex) h = .ret (.oslice kk (getH h kk).next none 0 (l ++ [a]).length none, setH h kk (.cells (getH h kk).next ((l ++ [a]).map (.int k)))) := by
  simp [evAppend, cellsOfSlice, flat, hroom]
 rw [this, gp_ret]
set_option maxHeartbeats 1000000 in
theorem con_first1 (N : Nat) (es : List Ed) (s : Nat → Int) (p : AV) (i : Nat) (out : List Int) (hi : i < es.length) (hl : es.length ≤ 20) (ho : out.length ≤ 20) (hN : N ≤ 8) (hn8 : ∀ q ∈ es, q.1 < 8 ∧ q.2 < 8) : Con T 15 85 ([] ++ [.int .i64 (i : Nat)] ++ [.ptr [stA N es s p] 0, .ptr [ints out] 0]) (.bool (plB N es (es.getD i (0, 0)).2 (out ++ [(i : Int)]))) := by
 refine con_intro t85 fun n hn V hV => ?_
 have hg := ed_get hi
 have hge : es.getD i (0, 0) = es[i] := by simp [List.getD, hi]
 rw [hge] at hV
 have hc := con_playable N es s p (es[i].2 : Nat) (out ++ [(i : Int)]) hl (by simp; omega) hN hn8
 generalize hqd : es[i] = q0 at *
 obtain ⟨qa, qb⟩ := q0
 simp only [edA] at hg
 simp (disch := first | assumption | omega) only [c85, go_sem, ↓reduceIte, List.cons_append, List.nil_append, stA, stC_1, hi, hg, List.length_map]
 rw [slA_fullF (k1 := .i64) (k2 := .i64) (by simp only [go_sem, ↓reduceIte]) (by simp only [go_sem, ↓reduceIte])]
 simp (disch := first | assumption | omega) only [go_sem, ↓reduceIte, lateB, frozenB, gp_appendF, List.length_replicate, decide_true, Bool.and_true]
 refine gp_con hc hn (fz_cons (frz_stA _ _ _ _ _ _) (fz_int _ _ _ (fz_cons (frz_own (l := out ++ [(i : Int)]) (by simp only [go_sem, ↓reduceIte]) (by simp)) (fz_nil _)))) (or_pb _ _) ?_
 simp (disch := first | assumption | omega) only [go_sem, ↓reduceIte]
 exact hV _ _ (frz_bool _ _ _)
noncomputable def gdP (N : Nat) (es : List Ed) (a : Int) (out : List Nat) (i : Nat) : Bool := ldB es a (nI4 out) i && plB N es (es.getD i (0, 0)).2 (nI4 out ++ [(i : Int)])
noncomputable def frT (N : Nat) (es : List Ed) : Nat → Int → List Nat → List Nat
 | 0, _, out => out
 | k + 1, a, out => frT N es k (es.getD (((List.range es.length).find? (gdP N es a out)).getD 0) (0, 0)).2 (out ++ [((List.range es.length).find? (gdP N es a out)).getD 0])
theorem con_find {k f : Nat} {first cap : List AV} {p : Int → Bool} (xs : List Int) (hl : xs.length ≤ 1000) (hc : ∀ x ∈ xs, Con T k f (first ++ [.int .i64 x] ++ cap) (.bool (p x))) (hz : ∀ h x, fz h (first ++ [.int .i64 x] ++ cap) = .ret (first ++ [.int .i64 x] ++ cap)) :
  Con T (k + 1) 82 [ints xs, .clo f first cap] (.tuple [.int .i64 ((xs.find? p).getD 0), .bool (xs.find? p).isSome]) := by
 refine con_intro t82 fun n hn V hV => ?_
 simp (disch := first | assumption | omega) only [c82, go_sem, ↓reduceIte, List.length_map]
 refine m_loop (fun M s => ∃ k : Nat, M = xs.length - k ∧ k ≤ xs.length ∧ At s.env [(1, .clo f first cap), (9, ints xs), (10, .int .i64 xs.length), (11, .int .i64 k)] ∧ xs.find? p = (xs.drop k).find? p) xs.length (by omega) ⟨0, by simp, by omega, by simp only [go_sem, ↓reduceIte], rfl⟩ ?_
 rintro M e h hM ⟨k, rfl, hk, hE, hA⟩ P hP
 simp only [At_cons, At_nil] at hE
 obtain ⟨h1, h9, h10, h11, -⟩ := hE
 by_cases hlt : k < xs.length
 ·obtain ⟨y, hy⟩ := get_ex hlt
  rw [drop_cons hy, List.find?_cons] at hA
  simp (disch := first | assumption | omega) only [go_sem, ↓reduceIte, h1, h9, h10, h11, hlt, hy]
  refine gp_con (hc y (List.mem_of_getElem? hy)) hn (hz _ _) (or_pb _ _) ?_
  by_cases hp : p y = true
  ·rw [hp] at hA
   simp (disch := first | assumption | omega) only [go_sem, ↓reduceIte, h1, h9, h10, h11, hp]
   exact hV _ _ (by rw [hA]; exact frz_two (frz_int _ _ _ _) (frz_bool _ _ _))
  ·have hp' : p y = false := by simpa using hp
   rw [hp'] at hA
   simp (disch := first | assumption | omega) only [go_sem, ↓reduceIte, h1, h9, h10, h11, hp', Bool.false_eq_true]
   exact hP (xs.length - (k + 1)) _ (by omega) ⟨k + 1, rfl, by omega, by simp only [go_sem, ↓reduceIte, h1, h9, h10], hA⟩
 ·simp (disch := first | assumption | omega) only [go_sem, ↓reduceIte, h1, h9, h10, h11, hlt]
  exact hV _ _ (by rw [hA, List.drop_eq_nil_of_le (by omega)]; exact frz_two (frz_int _ _ _ _) (frz_bool _ _ _))
theorem find_gd (N : Nat) (es : List Ed) (a : Int) (out : List Nat) : ((nI4 (ldL es a (nI4 out) es.length)).find? fun x => plB N es (es.getD x.toNat (0, 0)).2 (nI4 out ++ [x])).getD 0 = ((((List.range es.length).find? (gdP N es a out)).getD 0 : Nat) : Int) := by
 have e : nI4 (ldL es a (nI4 out) es.length) = ((List.range es.length).filter (ldB es a (nI4 out))).map fun n : Nat => (n : Int) := rfl
 rw [e, List.find?_map, List.find?_filter]
 have : (fun i => decide (ldB es a (nI4 out) i = true ∧ ((fun x : Int => plB N es (es.getD x.toNat (0, 0)).2 (nI4 out ++ [x])) ∘ fun n : Nat => (n : Int)) i = true)) = gdP N es a out := by
  funext i
  simp [gdP]
 rw [this]
 cases (List.range es.length).find? (gdP N es a out) <;> rfl
set_option maxHeartbeats 2000000 in
theorem first_walk (N : Nat) (es : List Ed) (s : Nat → Int) (p : AV) (hl : es.length ≤ 20) (hN : N ≤ 8) (hn8 : ∀ q ∈ es, q.1 < 8 ∧ q.2 < 8) (n : Nat) (hn : 17 ≤ n) (h0 : Heap) {V : AV × Heap → Prop} (hV : ∀ v h', Own (h0.length + 40) h' v .i64 (nI4 (frT N es es.length (-1) [])) → (∀ j, j < h0.length → getH h' j = getH h0 j) → V (v, h')) :
  G (evCall T n) h0.length (Fin c59.results V) c59.body [] ⟨[stA N es s p], h0 ++ List.replicate 40 .none⟩ := by
 have hb1 : getH (h0 ++ List.replicate 40 AObj.none) (h0.length + 1) = .none := by rw [getH_append_none]; exact getH_ge _ _ (by omega)
 have hb3 : getH (h0 ++ List.replicate 40 AObj.none) (h0.length + 3) = .none := by rw [getH_append_none]; exact getH_ge _ _ (by omega)
 simp (disch := first | assumption | omega) only [c59, go_sem, ↓reduceIte, stA, stC_1, List.length_map, hb1, hb3]
 refine m_loop (fun M st => ∃ (k : Nat) (out : List Nat) (a : Int) (x : AV), M = es.length - k ∧ k ≤ es.length ∧ At st.env [(1, .optr (h0.length + 1) 0 0), (3, .optr (h0.length + 3) 0 0), (4, .int .i64 a), (12, .int .i64 es.length), (13, .int .i64 k)] ∧ getH st.heap (h0.length + 1) = .cells 0 [stA N es s p] ∧ getH st.heap (h0.length + 3) = .cells 0 [x] ∧ Own (h0.length + 40) st.heap x .i64 (nI4 out) ∧ h0.length + 40 ≤ st.heap.length ∧ (∀ j, j < h0.length → getH st.heap j = getH h0 j) ∧ out.length = k ∧ frT N es es.length (-1) [] = frT N es (es.length - k) a out) es.length (by omega)
  ⟨0, [], -1, _, by omega, by omega, by simp only [go_sem, ↓reduceIte], by simp only [go_sem, ↓reduceIte, stA], by simp only [go_sem, ↓reduceIte], own_nil .., by simp only [length_setH, List.length_append, List.length_replicate]; omega, fun j hj => by rw [getH_setH_ne _ _ _ _ (by omega), getH_setH_ne _ _ _ _ (by omega), getH_append_none], rfl, rfl⟩ ?_
 rintro M e h hM ⟨k, out, a, x, rfl, hk, hE, g1, g3, hO, hl40, hF0, hol, hA⟩ P hP
 simp only [At_cons, At_nil] at hE g1 g3 hO hl40 hF0
 obtain ⟨f1, f3, f4, f12, f13, -⟩ := hE
 by_cases hlt : k < es.length
 ·simp (disch := first | assumption | omega) only [go_sem, ↓reduceIte, f1, f3, f4, f12, f13, hlt, g1, g3]
  obtain ⟨n, rfl⟩ : ∃ n', n = n' + 1 := ⟨n - 1, by omega⟩
  refine gp_of ?_
  rw [raw_enter t84]
  have hn3 : getH (h ++ List.replicate 8 AObj.none) (h.length + 3) = .none := getH_new h 8 3
  have hn4 : getH (h ++ List.replicate 8 AObj.none) (h.length + 4) = .none := getH_new h 8 4
  have hn5 : getH (h ++ List.replicate 8 AObj.none) (h.length + 5) = .none := getH_new h 8 5
  simp (disch := first | assumption | omega) only [c84, go_sem, ↓reduceIte, hn3, hn4, hn5, next_none]
  have hxc := hO.cells
  rw [hxc]
  have hm := find_gd N es a out
  have hjm : ((List.range es.length).find? (gdP N es a out)).getD 0 < es.length := by
   cases hf : (List.range es.length).find? (gdP N es a out) with
   | none => simp only [Option.getD_none]; omega
   | some j => exact List.mem_range.1 (List.mem_of_find?_eq_some hf)
  have hfr : frT N es (es.length - k) a out = frT N es (es.length - (k + 1)) (es.getD (((List.range es.length).find? (gdP N es a out)).getD 0) (0, 0)).2 (out ++ [((List.range es.length).find? (gdP N es a out)).getD 0]) := by
   rw [show es.length - k = es.length - (k + 1) + 1 by omega]; rfl
  generalize ((List.range es.length).find? (gdP N es a out)).getD 0 = j at *
  have k3 : getH (setH (setH (setH (h ++ List.replicate 8 AObj.none) (h.length + 3) (AObj.cells 0 [AV.ptr (stC (↑N) (eds es) s p) 0])) (h.length + 4) (AObj.cells 0 [AV.int IntKind.i64 a])) (h.length + 5) (AObj.cells 0 [x])) (h.length + 3) = .cells 0 [stA N es s p] := by
   rw [getH_setH_ne _ _ _ _ (by omega), getH_setH_ne _ _ _ _ (by omega), getH_setH_self]
  have k4 : getH (setH (setH (setH (h ++ List.replicate 8 AObj.none) (h.length + 3) (AObj.cells 0 [AV.ptr (stC (↑N) (eds es) s p) 0])) (h.length + 4) (AObj.cells 0 [AV.int IntKind.i64 a])) (h.length + 5) (AObj.cells 0 [x])) (h.length + 4) = .cells 0 [.int .i64 a] := by
   rw [getH_setH_ne _ _ _ _ (by omega), getH_setH_self]
  have k5 : getH (setH (setH (setH (h ++ List.replicate 8 AObj.none) (h.length + 3) (AObj.cells 0 [AV.ptr (stC (↑N) (eds es) s p) 0])) (h.length + 4) (AObj.cells 0 [AV.int IntKind.i64 a])) (h.length + 5) (AObj.cells 0 [x])) (h.length + 5) = .cells 0 [x] := getH_setH_self _ _ _
  have kF : ∀ i, i < h.length → getH (setH (setH (setH (h ++ List.replicate 8 AObj.none) (h.length + 3) (AObj.cells 0 [AV.ptr (stC (↑N) (eds es) s p) 0])) (h.length + 4) (AObj.cells 0 [AV.int IntKind.i64 a])) (h.length + 5) (AObj.cells 0 [x])) i = getH h i := fun i hi => by
   rw [getH_setH_ne _ _ _ _ (by omega), getH_setH_ne _ _ _ _ (by omega), getH_setH_ne _ _ _ _ (by omega), getH_append_none]
  have kL : h.length ≤ (setH (setH (setH (h ++ List.replicate 8 AObj.none) (h.length + 3) (AObj.cells 0 [AV.ptr (stC (↑N) (eds es) s p) 0])) (h.length + 4) (AObj.cells 0 [AV.int IntKind.i64 a])) (h.length + 5) (AObj.cells 0 [x])).length := by
   simp only [length_setH, List.length_append, List.length_replicate]; omega
  generalize setH (setH (setH (h ++ List.replicate 8 AObj.none) (h.length + 3) (AObj.cells 0 [AV.ptr (stC (↑N) (eds es) s p) 0])) (h.length + 4) (AObj.cells 0 [AV.int IntKind.i64 a])) (h.length + 5) (AObj.cells 0 [x]) = hh at *
  have hO2 : Own (h0.length + 40) hh x .i64 (nI4 out) := hO.other fun i hi => kF i (hO.keyLt i hi)
  have g1' : getH hh (h0.length + 1) = .cells 0 [stA N es s p] := by rw [kF _ (by omega), g1]
  have g3' : getH hh (h0.length + 3) = .cells 0 [x] := by rw [kF _ (by omega), g3]
  have hF0' : ∀ j, j < h0.length → getH hh j = getH h0 j := fun j hj => by rw [kF j (by omega)]; exact hF0 j hj
  have hol2 : (nI4 out).length ≤ 1000 := by rw [nI4_len]; omega
  refine ⟨by simp [hO.oneB], ?_⟩
  refine gpF_con (n := n + 1) (con_collect N es s p a (nI4 out) hl hol2) (by omega) (fz_cons (frz_clo (mz_nil _ _) (mz_cons (frz_optr k3 (mz_cons (frz_stA _ _ _ _ _ _) (mz_nil _ _))) (mz_cons (frz_optr k4 (mz_cons (frz_int _ _ _ _) (mz_nil _ _))) (mz_cons (frz_optr k5 (mz_cons (frz_Own hO2) (mz_nil _ _))) (mz_nil _ _))))) (fz_nil _)) ?_
  simp (disch := first | assumption | omega) only [go_sem, ↓reduceIte, f1, f3, f4, f12, f13, stA, stC_1]
  have hll := ldL_len es a (nI4 out) es.length
  refine gp_con (con_find (k := 15) (f := 85) (first := []) (cap := [.ptr [stA N es s p] 0, .ptr [ints (nI4 out)] 0]) (p := fun x => plB N es (es.getD x.toNat (0, 0)).2 (nI4 out ++ [x])) (nI4 (ldL es a (nI4 out) es.length)) (by rw [nI4_len]; omega) (fun y hy => ?_) (fun h y => fz_int _ _ _ (fz_cons (frz_ptr _ _ _ _) (fz_cons (frz_ptr _ _ _ _) (fz_nil _))))) (by omega) (fz_slice _ _ _ _ (fz_cons (frz_clo (mz_nil _ _) (mz_cons (frz_optr g1' (mz_cons (frz_stA _ _ _ _ _ _) (mz_nil _ _))) (mz_cons (frz_optr g3' (mz_cons (frz_Own hO2) (mz_nil _ _))) (mz_nil _ _)))) (fz_nil _))) (or_plain rfl) ?_
  ·obtain ⟨i, hi, rfl⟩ := List.mem_map.1 hy
   have hi2 := List.mem_range.1 (List.mem_filter.1 hi).1
   exact con_first1 N es s p i (nI4 out) hi2 hl (by rw [nI4_len]; omega) hN hn8
  rw [hm]
  have hg := ed_get hjm
  have hgj : es.getD j (0, 0) = es[j] := by simp [List.getD, hjm]
  rw [hgj] at hfr
  simp (disch := first | assumption | omega) only [go_sem, ↓reduceIte, f1, f3, f4, f12, f13, stA, stC_1, g3']
  refine gp_append1 (lo := h0.length + 40) rfl hO2 (by omega) (by rw [nI4_len]; omega) fun x' h2 hO' hF hL _ _ => ?_
  have g1'' : getH h2 (h0.length + 1) = .cells 0 [stA N es s p] := by rw [hF _ (by omega), g1']
  have g3'' : getH h2 (h0.length + 3) = .cells 0 [x] := by rw [hF _ (by omega), g3']
  have hcx := hO'.cells
  have hox := hO'.oneB
  generalize hqd : es[j] = q0 at *
  obtain ⟨qa, qb⟩ := q0
  simp only [edA] at hg
  simp (disch := first | assumption | omega) only [go_sem, ↓reduceIte, f1, f3, f4, f12, f13, stA, stC_1, g3'', g1'', hcx, hox, hjm, hg]
  exact hP (es.length - (k + 1)) _ (by omega) ⟨k + 1, out ++ [j], qb, x', rfl, by omega, by simp only [go_sem, ↓reduceIte, f1, f3, f12], by rw [getH_setH_ne _ _ _ _ (by omega), g1''], by rw [getH_setH_self], by simpa [nI4] using hO'.setH (by omega), by rw [length_setH]; omega, fun j hj => by simp only; rw [getH_setH_ne _ _ _ _ (by omega), hF j (by omega)]; exact hF0' j hj, by simp [hol], by rw [hA, hfr]⟩
 ·obtain rfl : k = es.length := by omega
  simp (disch := first | assumption | omega) only [go_sem, ↓reduceIte, f1, f3, f4, f12, f13, hlt, g3]
  refine hV _ _ ?_ hF0
  rw [hA, Nat.sub_self]
  exact hO
theorem raw_first (N : Nat) (es : List Ed) (s : Nat → Int) (p : AV) (hl : es.length ≤ 20) (hN : N ≤ 8) (hn8 : ∀ q ∈ es, q.1 < 8 ∧ q.2 < 8) (n : Nat) (hn : 18 ≤ n) (h0 : Heap) {V : AV × Heap → Prop} (hV : ∀ v h', Own (h0.length + 40) h' v .i64 (nI4 (frT N es es.length (-1) [])) → (∀ j, j < h0.length → getH h' j = getH h0 j) → V (v, h')) : (evCall T n true (.fn 59) [stA N es s p] h0).all V := by
 obtain ⟨n, rfl⟩ : ∃ n', n = n' + 1 := ⟨n - 1, by omega⟩
 rw [raw_enter t59]
 exact first_walk N es s p hl hN hn8 n (by omega) h0 hV
end Go.Ev.YtjcabpldgdafeaaC
set_option linter.unusedSimpArgs false
set_option linter.unusedVariables false
namespace Go.Ev.YtjcabpldgdafeaaC
open Go Go.Ev
theorem rsL_rst (es : List Ed) (wo : List Int) : rsL es wo es.length = rst es (ldB es (-1) wo) := rfl
theorem ldB_all (es : List Ed) (wo : List Int) (i : Nat) : ldB es (-1) wo i = !wo.contains (i : Int) := rfl
theorem rst_lt {N : Nat} {es : List Ed} (hn : ∀ q ∈ es, q.1 < N ∧ q.2 < N) (K : Nat → Bool) : ∀ q ∈ rst es K, q.1 < N ∧ q.2 < N := fun q hq => by
 obtain ⟨j, hj, rfl⟩ := List.mem_map.1 hq
 have hj2 := List.mem_range.1 (List.mem_filter.1 hj).1
 rw [gE_get hj2]
 exact hn _ (List.getElem_mem hj2)
theorem plB_tw {N : Nat} {es : List Ed} (hk : OkB N es) {a : Nat} (ha : a < 8) (wo : List Int) : plB N es a wo = decide (0 < tw (rst es (ldB es (-1) wo)).length (rst es (ldB es (-1) wo)) a) := by
 unfold plB
 rw [rsL_rst]
 have hlt := rst_lt hk.lt (ldB es (-1) wo)
 generalize rst es (ldB es (-1) wo) = rs at *
 by_cases hr : rs = []
 ·subst hr
  simp [tw]
 ·rw [show decide (rs = []) = false by simpa using hr, Bool.false_or]
  have h1 : (nI4 (strL N rs)).contains (a : Int) = decide (a ∈ strL N rs) := hasE_mem
  rw [h1, Bool.eq_iff_iff, decide_eq_true_eq, decide_eq_true_eq, mem_strL hr hk.n8 hlt]
  exact ⟨fun h => h.2, fun h => ⟨ha, h⟩⟩
def SetOut (m s : Nat) (out : List Nat) : Prop := ∀ i, i < m → bitK s i = !(nI4 out).contains (i : Int)
theorem setOut_push {m s : Nat} {out : List Nat} (h : SetOut m s out) (i : Nat) : SetOut m (s ||| 2 ^ i) (out ++ [i]) := fun j hj => by
 rw [bitK_or, h j hj, Bool.eq_iff_iff]
 simp [nI4]
 omega
theorem gd_same {N : Nat} {es : List Ed} (hk : OkB N es) {s : Nat} {out : List Nat} (h : SetOut es.length s out) (a : Int) {i : Nat} (hi : i < es.length) : gdP N es a out i = gdR es s a i := by
 have hq := hk.lt8 _ (List.getElem_mem hi)
 have e1 : nI4 out ++ [(i : Int)] = nI4 (out ++ [i]) := by simp [nI4]
 unfold gdP gdR
 have e2 : es.getD i (0, 0) = gE es i := rfl
 rw [e2, e1, plB_tw hk (by rw [gE_get hi]; exact hq.2)]
 have e3 : rst es (ldB es (-1) (nI4 (out ++ [i]))) = rst es (bitK (s ||| 2 ^ i)) := rst_congr fun j hj => by
  rw [setOut_push h i j hj]; exact ldB_all es _ j
 rw [e3]
 have e4 : tw (rst es (bitK (s ||| 2 ^ i))).length (rst es (bitK (s ||| 2 ^ i))) (gE es i).2 = wB es (s ||| 2 ^ i) (gE es i).2 := rfl
 rw [e4]
 have h0 := (wB_box es (s ||| 2 ^ i) (gE es i).2).1
 have e5 : decide (0 < wB es (s ||| 2 ^ i) (gE es i).2) = decide (wB es (s ||| 2 ^ i) (gE es i).2 ≠ 0) := by
  rw [Bool.eq_iff_iff, decide_eq_true_eq, decide_eq_true_eq]; omega
 rw [e5]
 unfold ldB
 rw [h i hi, e2]
 cases (nI4 out).contains (i : Int) <;> cases decide (a < 0) <;> simp
theorem find_congr {p q : Nat → Bool} {m : Nat} (h : ∀ i, i < m → p i = q i) : (List.range m).find? p = (List.range m).find? q := by
 cases hq : (List.range m).find? q with
 | none =>
  rw [List.find?_range_eq_none] at hq ⊢
  exact fun i hi => by rw [h i hi]; exact hq i hi
 | some i =>
  rw [List.find?_range_eq_some] at hq ⊢
  have hi := List.mem_range.1 hq.2.1
  exact ⟨by rw [h i hi]; exact hq.1, hq.2.1, fun j hj => by rw [h j (by omega)]; exact hq.2.2 j hj⟩
def GoOn (es : List Ed) (s : Nat) (a : Int) : Prop := ∃ x : Nat, (a < 0 ∨ a = (x : Int)) ∧ 0 < wB es s x
theorem wB_some {es : List Ed} {s a : Nat} (hne : rst es (bitK s) ≠ []) (h : 0 < wB es s a) : ∃ i, i < es.length ∧ bitK s i = true ∧ (gE es i).1 = a ∧ wB es (s ||| 2 ^ i) (gE es i).2 ≠ 0 := by
 rw [wB_step a hne] at h
 obtain ⟨i, hi, hw⟩ := sumC_some (f := fun i => if (gE es i).1 = a then wB es (s ||| 2 ^ i) (gE es i).2 else 0) (V := (List.range es.length).filter (bitK s)) (fun e => by rw [e] at h; omega)
 obtain ⟨h1, h2⟩ := List.mem_filter.1 hi
 by_cases hg : (gE es i).1 = a
 ·rw [if_pos hg] at hw
  exact ⟨i, List.mem_range.1 h1, h2, hg, hw⟩
 ·exact absurd (if_neg hg) hw
theorem wB_ge {es : List Ed} {s i : Nat} (hi : i < es.length) (hb : bitK s i = true) : wB es (s ||| 2 ^ i) (gE es i).2 ≤ wB es s (gE es i).1 := by
 have hm : i ∈ (List.range es.length).filter (bitK s) := List.mem_filter.2 ⟨List.mem_range.2 hi, hb⟩
 have hne : rst es (bitK s) ≠ [] := fun h0 => by
  have := List.map_eq_nil_iff.1 h0
  rw [this] at hm; cases hm
 rw [wB_step _ hne]
 have := (sumC_nonneg (f := fun j => if (gE es j).1 = (gE es i).1 then wB es (s ||| 2 ^ j) (gE es j).2 else 0) (V := (List.range es.length).filter (bitK s)) fun j _ => by
  have := (wB_box es (s ||| 2 ^ j) (gE es j).2).1
  split <;> omega).2 i hm
 simpa using this
theorem rst_less {es : List Ed} {s i : Nat} (hi : i < es.length) (hb : bitK s i = true) : (rst es (bitK (s ||| 2 ^ i))).length + 1 = (rst es (bitK s)).length := by
 have hnd : ((List.range es.length).filter (bitK s)).Nodup := List.Nodup.sublist List.filter_sublist List.nodup_range
 have hm : i ∈ (List.range es.length).filter (bitK s) := List.mem_filter.2 ⟨List.mem_range.2 hi, hb⟩
 have h1 : (List.range es.length).filter (bitK (s ||| 2 ^ i)) = ((List.range es.length).filter (bitK s)).erase i := by
  rw [List.Nodup.erase_eq_filter hnd, List.filter_filter]
  apply List.filter_congr
  intro j _
  rw [bitK_or, Bool.eq_iff_iff]
  simp [Bool.and_comm]
 unfold rst
 rw [List.length_map, List.length_map, h1, List.length_erase_of_mem hm]
 have := List.length_pos_of_mem hm
 omega
theorem tu_same {N : Nat} {es : List Ed} (hk : OkB N es) : ∀ (k s : Nat) (a : Int) (out : List Nat), SetOut es.length s out → (rst es (bitK s)).length = k → GoOn es s a → tuR es k s a out = some (frT N es k a out)
 | 0, _, _, _, _, _, _ => rfl
 | k + 1, s, a, out, hs, hl, ⟨x, hx, hw⟩ => by
  have hne : rst es (bitK s) ≠ [] := fun h0 => by rw [h0] at hl; simp at hl
  obtain ⟨i, hi, hb, hg, hwi⟩ := wB_some hne hw
  have hgi : gdR es s a i = true := by
   unfold gdR
   rw [hb, hg]
   simp only [Bool.true_and, Bool.and_eq_true, Bool.or_eq_true, decide_eq_true_eq]
   exact ⟨by omega, hwi⟩
  have hf : (List.range es.length).find? (gdP N es a out) = (List.range es.length).find? (gdR es s a) := find_congr fun j hj => gd_same hk hs a hj
  cases hfr : (List.range es.length).find? (gdR es s a) with
  | none =>
   rw [List.find?_range_eq_none] at hfr
   have := hfr i hi
   rw [hgi] at this; simp at this
  | some j =>
   rw [hfr] at hf
   rw [List.find?_range_eq_some] at hfr
   have hj := List.mem_range.1 hfr.2.1
   have hgj := hfr.1
   simp only [gdR, Bool.and_eq_true, decide_eq_true_eq] at hgj
   have hfr2 : (List.range es.length).find? (gdR es s a) = some j := by rw [List.find?_range_eq_some]; exact hfr
   show (match (List.range es.length).find? (gdR es s a) with | none => none | some i => tuR es k (s ||| 2 ^ i) (gE es i).2 (out ++ [i])) = some (frT N es k (es.getD (((List.range es.length).find? (gdP N es a out)).getD 0) (0, 0)).2 (out ++ [((List.range es.length).find? (gdP N es a out)).getD 0]))
   rw [hfr2, hf]
   simp only [Option.getD_some]
   refine tu_same hk k _ _ _ (setOut_push hs j) ?_ ?_
   ·have := rst_less hj hgj.1; omega
   ·have := (wB_box es (s ||| 2 ^ j) (gE es j).2).1
    exact ⟨(gE es j).2, .inr rfl, by have := hgj.2.2; omega⟩
theorem tu_some {N : Nat} {es : List Ed} (hk : OkB N es) (h : strL N es ≠ []) : tuR es es.length 0 (-1) [] = some (frT N es es.length (-1) []) := by
 have h0 : rst es (bitK 0) = es := rst_all es fun i _ => by simp [bitK]
 refine tu_same hk es.length 0 (-1) [] (fun i _ => by simp [bitK, nI4]) (by rw [h0]) ?_
 obtain ⟨x, hx⟩ := List.exists_mem_of_ne_nil _ h
 obtain ⟨h1, h2⟩ := (mem_strL hk.ne hk.n8 hk.lt).1 hx
 exact ⟨x, .inl (by omega), by rw [wB_zero]; exact h2⟩
theorem tu_none {N : Nat} {es : List Ed} (hk : OkB N es) (h : strL N es = []) : tuR es es.length 0 (-1) [] = none := by
 obtain ⟨m, hm⟩ : ∃ m, es.length = m + 1 := ⟨es.length - 1, by have := List.length_pos_iff.2 hk.ne; omega⟩
 have hn : ∀ i, i < es.length → gdR es 0 (-1) i = false := fun i hi => by
  have hq := hk.lt8 _ (List.getElem_mem hi)
  have h1 := wB_ge (es := es) (s := 0) hi (by simp [bitK])
  rw [wB_zero, tw_none hk (by rw [gE_get hi]; exact hq.1) (by rw [h]; simp)] at h1
  have h2 := (wB_box es (0 ||| 2 ^ i) (gE es i).2).1
  have : wB es (0 ||| 2 ^ i) (gE es i).2 = 0 := by omega
  unfold gdR
  rw [this]; simp
 have hf := find_none hn
 rw [hm]
 show (match (List.range es.length).find? (gdR es 0 (-1)) with | none => none | some i => tuR es m (0 ||| 2 ^ i) (gE es i).2 ([] ++ [i])) = none
 rw [hf]
end Go.Ev.YtjcabpldgdafeaaC
