/- What small functions answer: within, Contains, CheckBook, the program's and the reference's. CheckTune, the program's and the reference's. No condition but those that stand in each. -/
import Derived.Test.YtjcabpldgdafeaaEL4Open
import Derived.Test.YtjcabpldgdafeaaEEvRem
set_option linter.unusedSimpArgs false
set_option linter.unusedVariables false
namespace Go.Ev.YtjcabpldgdafeaaC
open Go Go.Proofs
def slAll (g : Option Nat) (n : Nat) (h : Heap) : AV → Res AV
 | .optr k ver off =>
  match getH h k with
  | .cells v cs => if v = ver ∧ off + n * gsize g ≤ cs.length then .ret (.oslice k ver g off n (some n)) else .fail
  | _ => .fail
 | .ptr cells off => if off + n * gsize g ≤ cells.length then .ret (.slice g (grouped g n ((cells.drop off).take (n * gsize g))) false) else .fail
 | _ => .fail
theorem m_sliceAll {call : Caller} {base : Nat} {Q : EX × St → Prop} {ks : List Kont} {e : Env} {h : Heap} {l : List IOper} {d : Option Nat} (g : Option Nat) (n : Nat) (x : IX) : GO call base Q (⟨d, .sliceA g n x none none none, none⟩ :: l) ks ⟨e, h⟩ = GV call base Q d l ks e h (slAll g n h (x.ev e)) := by
 rw [go_op]
 simp only [evOp, GV, slAll]
 cases x.ev e with
 | optr k ver off =>
  simp only
  cases getH h k with
  | cells v cs =>
   simp only
   split
   ·simp [sliceB, Res.bind, Res.all]
   ·rfl
  | _ => rfl
 | ptr cells off =>
  simp only
  split
  ·simp [sliceB, Res.bind, Res.all]
  ·rfl
 | _ => rfl
attribute [go_sem] m_sliceAll
attribute [local irreducible] Res.all evC evLoop evOps evOper evOp evFn evCall freeze G GO GV GP GC R
set_option maxRecDepth 100000
theorem con_idxF {k f : Nat} {first cap : List AV} {p : Int → Bool} (xs : List Int) (hl : xs.length ≤ 1000) (hc : ∀ x ∈ xs, Con T k f (first ++ [.int .i64 x] ++ cap) (.bool (p x))) (hz : ∀ h x, fz h (first ++ [.int .i64 x] ++ cap) = .ret (first ++ [.int .i64 x] ++ cap)) :
  Con T (k + 1) 92 [ints xs, .clo f first cap] (.int .i64 (idxB p xs 0)) := by
 refine con_intro t92 fun n hn V hV => ?_
 simp (disch := first | assumption | omega) only [c92, go_sem, ↓reduceIte]
 refine m_loop (fun M s => ∃ k : Nat, M = xs.length - k ∧ k ≤ xs.length ∧ At s.env [(0, ints xs), (1, .clo f first cap), (7, .int .i64 xs.length), (8, .int .i64 k)] ∧ idxB p xs 0 = idxB p (xs.drop k) k) xs.length (by omega) ⟨0, by simp, by omega, by simp [go_sem, ↓reduceIte], rfl⟩ ?_
 rintro M e h hM ⟨k, rfl, hk, hE, hA⟩ P hP
 simp only [At_cons, At_nil] at hE
 obtain ⟨h0, h1, h7, h8, -⟩ := hE
 by_cases hlt : k < xs.length
 ·obtain ⟨y, hy⟩ := get_ex hlt
  rw [drop_cons hy, idxB] at hA
  simp (disch := first | assumption | omega) only [go_sem, ↓reduceIte, h0, h1, h7, h8, hlt, hy]
  refine gp_con (hc y (List.mem_of_getElem? hy)) hn (hz _ _) (or_pb _ _) ?_
  by_cases hp : p y = true
  ·simp (disch := first | assumption | omega) only [go_sem, ↓reduceIte, h0, h1, h7, h8, hp]
   exact hV _ _ (by rw [frz_int, hA, if_pos hp])
  ·simp (disch := first | assumption | omega) only [go_sem, ↓reduceIte, h0, h1, h7, h8, hp]
   exact hP (xs.length - (k + 1)) _ (by omega) ⟨k + 1, rfl, by omega, by simp only [go_sem, ↓reduceIte, h0, h1, h7], by rw [hA, if_neg hp]; rfl⟩
 ·simp (disch := first | assumption | omega) only [go_sem, ↓reduceIte, h0, h1, h7, h8, hlt]
  exact hV _ _ (by rw [frz_int, hA, List.drop_eq_nil_of_le (by omega)]; rfl)
theorem con_conF {k f : Nat} {first cap : List AV} {p : Int → Bool} (xs : List Int) (hl : xs.length ≤ 1000) (hc : ∀ x ∈ xs, Con T k f (first ++ [.int .i64 x] ++ cap) (.bool (p x))) (hz : ∀ h x, fz h (first ++ [.int .i64 x] ++ cap) = .ret (first ++ [.int .i64 x] ++ cap))
  (hf : ∀ h, freeze h 8 (.clo f first cap) = .ret (.clo f first cap)) : Con T (k + 2) 78 [ints xs, .clo f first cap] (.bool (xs.any p)) := by
 refine con_intro t78 fun n hn V hV => ?_
 simp (disch := first | assumption | omega) only [c78, go_sem, ↓reduceIte]
 refine gp_con (con_idxF xs hl hc hz) hn (fz_slice _ _ _ _ (fz_cons (hf _) (fz_nil _))) (or_pi _ _ _) ?_
 simp (disch := first | assumption | omega) only [go_sem, ↓reduceIte, idxB_any]
 exact hV _ _ (frz_bool _ _ _)
theorem con_within1 (x lo hi : Int) : Con T 1 79 ([] ++ [.int .i64 x] ++ [.ptr [.int .i64 lo] 0, .ptr [.int .i64 hi] 0]) (.bool (decide (x < lo) || decide (x > hi))) := by
 refine con_intro t79 fun n hn V hV => ?_
 by_cases g1 : x < lo
 ·simp (disch := first | assumption | omega) only [c79, go_sem, ↓reduceIte, g1, List.cons_append]
  refine hV _ _ ?_
  simp [g1, frz_bool]
 ·simp (disch := first | assumption | omega) only [c79, go_sem, ↓reduceIte, g1, List.cons_append]
  refine hV _ _ ?_
  simp [g1, frz_bool]
def withinB (lo hi : Int) (xs : List Int) : Bool := !xs.any fun x => decide (x < lo) || decide (x > hi)
theorem con_within (lo hi : Int) (xs : List Int) (hl : xs.length ≤ 1000) : Con T 4 52 [.int .i64 lo, .int .i64 hi, ints xs] (.bool (withinB lo hi xs)) := by
 refine con_intro t52 fun n hn V hV => ?_
 simp (disch := first | assumption | omega) only [c52, go_sem, ↓reduceIte]
 refine gp_con (con_conF (p := fun x => decide (x < lo) || decide (x > hi)) xs hl (fun x _ => con_within1 x lo hi) (fun h x => ?_) (fun h => ?_)) hn (fz_slice _ _ _ _ (fz_cons (frz_clo (mz_nil _ _) (mz_cons (frz_optr (cs := [.int .i64 lo]) (by simp [go_sem, ↓reduceIte]) (mz_cons (frz_int _ _ _ _) (mz_nil _ _))) (mz_cons (frz_optr (cs := [.int .i64 hi]) (by simp [go_sem, ↓reduceIte]) (mz_cons (frz_int _ _ _ _) (mz_nil _ _))) (mz_nil _ _)))) (fz_nil _))) (or_pb _ _) ?_
 ·exact fz_int _ _ _ (fz_cons (frz_ptr _ _ _ _) (fz_cons (frz_ptr _ _ _ _) (fz_nil _)))
 ·exact frz_clo (mz_nil _ _) (mz_cons (frz_ptr _ _ _ _) (mz_cons (frz_ptr _ _ _ _) (mz_nil _ _)))
 simp (disch := first | assumption | omega) only [go_sem, ↓reduceIte]
 exact hV _ _ (frz_bool _ _ _)
section
variable {n base : Nat} {Q : EX × St → Prop} {d : Option Nat} {L : List IOper} {ks : List Kont} {e : Env} {h : Heap}
theorem cs_within {lo hi : Int} {xs : List Int} {x : Bool} (hn : 4 ≤ n) (hl : xs.length ≤ 1000) :
  GP (evCall T n) base Q d L ks e (evCall T n false (.fn 52) [.int .i64 lo, .int .i64 hi, .slice none (xs.map (.int .i64)) x] h) = GO (evCall T n) base Q L ks ⟨setDst e d (.bool (withinB lo hi xs)), h⟩ :=
 gp_eq (con_within lo hi xs hl) hn (by repeat (first | exact fz_nil _ | refine fz_slice _ _ _ _ ?_ | refine fz_int _ _ _ ?_)) rfl
theorem cs_within1 {lo hi a : Int} {x : Bool} (hn : 4 ≤ n) :
  GP (evCall T n) base Q d L ks e (evCall T n false (.fn 52) [.int .i64 lo, .int .i64 hi, .slice none [.int .i64 a] x] h) = GO (evCall T n) base Q L ks ⟨setDst e d (.bool (!(decide (a < lo) || decide (a > hi)))), h⟩ := by
 have := cs_within (base := base) (Q := Q) (d := d) (L := L) (ks := ks) (e := e) (h := h) (lo := lo) (hi := hi) (xs := [a]) (x := x) hn (by simp)
 rw [show withinB lo hi [a] = (!(decide (a < lo) || decide (a > hi))) by simp [withinB]] at this
 exact this
end
def placeFrom (x : Int) : List Int → Int → Int
 | [], _ => -1
 | y :: r, i => if y = x then i else placeFrom x r (i + 1)
def place (l : List Int) (x : Int) : Int := placeFrom x l 0
theorem placeFrom_mem (x : Int) : ∀ (l : List Int) (i : Int), 0 ≤ i → (placeFrom x l i ≥ 0 ↔ x ∈ l)
 | [], i, _ => by simp [placeFrom]
 | y :: r, i, hi => by
  unfold placeFrom
  split
  ·next h => simp [h, hi]
  ·next h => rw [placeFrom_mem x r (i + 1) (by omega), List.mem_cons]; exact ⟨.inr, fun h' => h'.resolve_left fun e => h e.symm⟩
theorem con_idx (l : List Int) (x : Int) (hl : l.length ≤ 1000) : Con T 1 63 [ints l, .int .i64 x] (.int .i64 (place l x)) := by
 refine con_intro t63 fun n hn V hV => ?_
 simp (disch := first | assumption | omega) only [c63, go_sem, ↓reduceIte]
 refine m_loop (fun M s => ∃ k : Nat, M = l.length - k ∧ k ≤ l.length ∧ At s.env [(0, ints l), (1, .int .i64 x), (7, .int .i64 l.length), (8, .int .i64 k)] ∧ place l x = placeFrom x (l.drop k) k) l.length (by omega) ⟨0, by simp, by omega, by simp [go_sem, ↓reduceIte], rfl⟩ ?_
 rintro M e h hM ⟨k, rfl, hk, hE, hA⟩ P hP
 simp only [At_cons, At_nil] at hE
 obtain ⟨h0, h1, h7, h8, -⟩ := hE
 by_cases hlt : k < l.length
 ·obtain ⟨y, hy⟩ := get_ex hlt
  rw [drop_cons hy, placeFrom] at hA
  by_cases hxy : y = x
  ·subst hxy
   simp (disch := first | assumption | omega) only [go_sem, ↓reduceIte, h0, h1, h7, h8, hlt, hy, beq_self_eq_true]
   exact hV _ _ (by rw [frz_int, hA, if_pos rfl])
  ·have hb : (x == y) = false := by simpa using fun h => hxy h.symm
   simp (disch := first | assumption | omega) only [go_sem, ↓reduceIte, h0, h1, h7, h8, hlt, hy, hb]
   exact hP (l.length - (k + 1)) _ (by omega) ⟨k + 1, rfl, by omega, by simp only [go_sem, ↓reduceIte, h0, h1, h7], by rw [hA, if_neg hxy]; rfl⟩
 ·simp (disch := first | assumption | omega) only [go_sem, ↓reduceIte, h0, h1, h7, h8, hlt]
  exact hV _ _ (by rw [frz_int, hA, List.drop_eq_nil_of_le (by omega)]; rfl)
theorem con_has (l : List Int) (x : Int) (hl : l.length ≤ 1000) : Con T 2 53 [ints l, .int .i64 x] (.bool (l.contains x)) := by
 refine con_intro t53 fun n hn V hV => ?_
 simp (disch := first | assumption | omega) only [c53, go_sem, ↓reduceIte]
 refine gp_con (con_idx l x hl) hn (by repeat (first | exact fz_nil _ | refine fz_slice _ _ _ _ ?_ | refine fz_int _ _ _ ?_)) (or_pi _ _ _) ?_
 have hp : decide (place l x ≥ 0) = l.contains x := by
  rw [Bool.eq_iff_iff]
  simp [place, placeFrom_mem]
 simp (disch := first | assumption | omega) only [go_sem, ↓reduceIte, hp]
 exact hV _ _ (frz_bool _ _ _)
theorem cs_has {n base : Nat} {Q : EX × St → Prop} {d : Option Nat} {L : List IOper} {ks : List Kont} {e : Env} {h : Heap} {l : List Int} {x : Bool} {y : Int} (hn : 2 ≤ n) (hl : l.length ≤ 1000) : GP (evCall T n) base Q d L ks e (evCall T n false (.fn 53) [.slice none (l.map (.int .i64)) x, .int .i64 y] h) = GO (evCall T n) base Q L ks ⟨setDst e d (.bool (l.contains y)), h⟩ :=
 gp_eq (con_has l y hl) hn (by repeat (first | exact fz_nil _ | refine fz_slice _ _ _ _ ?_ | refine fz_int _ _ _ ?_)) rfl
theorem con_idxP {k f : Nat} {first cap : List AV} {p : Int × Int → Bool} (xs : List (Int × Int)) (hl : xs.length ≤ 1000) (hc : ∀ x ∈ xs, Con T k f (first ++ [pA x] ++ cap) (.bool (p x))) (hz : ∀ h x, fz h (first ++ [pA x] ++ cap) = .ret (first ++ [pA x] ++ cap)) :
  Con T (k + 1) 80 [prs xs, .clo f first cap] (.int .i64 (idxB p xs 0)) := by
 refine con_intro t80 fun n hn V hV => ?_
 simp (disch := first | assumption | omega) only [c80, go_sem, ↓reduceIte]
 refine m_loop (fun M s => ∃ k : Nat, M = xs.length - k ∧ k ≤ xs.length ∧ At s.env [(0, prs xs), (1, .clo f first cap), (7, .int .i64 xs.length), (8, .int .i64 k)] ∧ idxB p xs 0 = idxB p (xs.drop k) k) xs.length (by omega) ⟨0, by simp, by omega, by simp [go_sem, ↓reduceIte], rfl⟩ ?_
 rintro M e h hM ⟨k, rfl, hk, hE, hA⟩ P hP
 simp only [At_cons, At_nil] at hE
 obtain ⟨h0, h1, h7, h8, -⟩ := hE
 by_cases hlt : k < xs.length
 ·obtain ⟨y, hy⟩ := get_ex hlt
  rw [drop_cons hy, idxB] at hA
  simp (disch := first | assumption | omega) only [go_sem, ↓reduceIte, h0, h1, h7, h8, hlt, hy, pA]
  refine gp_con (hc y (List.mem_of_getElem? hy)) hn (hz _ _) (or_pb _ _) ?_
  by_cases hp : p y = true
  ·simp (disch := first | assumption | omega) only [go_sem, ↓reduceIte, h0, h1, h7, h8, hp]
   exact hV _ _ (by rw [frz_int, hA, if_pos hp])
  ·simp (disch := first | assumption | omega) only [go_sem, ↓reduceIte, h0, h1, h7, h8, hp]
   exact hP (xs.length - (k + 1)) _ (by omega) ⟨k + 1, rfl, by omega, by simp only [go_sem, ↓reduceIte, h0, h1, h7], by rw [hA, if_neg hp]; rfl⟩
 ·simp (disch := first | assumption | omega) only [go_sem, ↓reduceIte, h0, h1, h7, h8, hlt]
  exact hV _ _ (by rw [frz_int, hA, List.drop_eq_nil_of_le (by omega)]; rfl)
theorem con_conP {k f : Nat} {first cap : List AV} {p : Int × Int → Bool} (xs : List (Int × Int)) (hl : xs.length ≤ 1000) (hc : ∀ x ∈ xs, Con T k f (first ++ [pA x] ++ cap) (.bool (p x))) (hz : ∀ h x, fz h (first ++ [pA x] ++ cap) = .ret (first ++ [pA x] ++ cap))
  (hf : ∀ h, freeze h 8 (.clo f first cap) = .ret (.clo f first cap)) : Con T (k + 2) 55 [prs xs, .clo f first cap] (.bool (xs.any p)) := by
 refine con_intro t55 fun n hn V hV => ?_
 simp (disch := first | assumption | omega) only [c55, go_sem, ↓reduceIte]
 refine gp_con (con_idxP xs hl hc hz) hn (fz_slice _ _ _ _ (fz_cons (hf _) (fz_nil _))) (or_pi _ _ _) ?_
 simp (disch := first | assumption | omega) only [go_sem, ↓reduceIte, idxB_any]
 exact hV _ _ (frz_bool _ _ _)
theorem frz_pA (h : Heap) (p : Int × Int) (n : Nat) : freeze h (n + 2) (pA p) = .ret (pA p) := frz_agg (mz_cons (frz_int _ _ _ _) (mz_cons (frz_int _ _ _ _) (mz_nil _ _)))
theorem frz_bkA (h : Heap) (b : Bk) (n : Nat) : freeze h (n + 2) (bkA b) = .ret (bkA b) := frz_agg (mz_cons (frz_int _ _ _ _) (mz_cons (frz_slice _ _ _ _ _) (mz_nil _ _)))
theorem fz_bkA (h : Heap) (b : Bk) {us vs : List AV} (hs : fz h us = .ret vs) : fz h (bkA b :: us) = .ret (bkA b :: vs) := fz_cons (frz_bkA _ _ _) hs
def noteB (N : Int) (x : Int) : Bool := decide (0 ≤ x) && decide (x < N)
def strayB (N : Int) (p : Int × Int) : Bool := !(noteB N p.1 && noteB N p.2)
def chkB (b : Bk) : Int :=
 if b.notes < 1 ∨ b.notes > 8 ∨ b.slurs.length < 1 ∨ b.slurs.length > 14 then 6 else if b.slurs.any (strayB b.notes) then 2 else 0
theorem con_stray (N : Int) (l : List (Int × Int)) (p : Int × Int) (h1 : 1 ≤ N) (h8 : N ≤ 8) : Con T 5 54 ([] ++ [pA p] ++ [.ptr [.int .i64 N, prs l] 0]) (.bool (strayB N p)) := by
 refine con_intro t54 fun n hn V hV => ?_
 simp (disch := first | assumption | omega) only [c54, go_sem, ↓reduceIte, pA, List.cons_append, List.nil_append, slAll, gsize, List.length_cons, List.length_nil, Nat.zero_add, Nat.le_refl, and_self]
 refine gp_con (con_within 0 (N - 1) [p.1, p.2] (by simp)) hn (fz_int _ _ _ (fz_int _ _ _ (fz_cons (frz_own (l := [p.1, p.2]) (by simp only [go_sem, ↓reduceIte]) rfl) (fz_nil _)))) (or_pb _ _) ?_
 simp (disch := first | assumption | omega) only [go_sem, ↓reduceIte]
 refine hV _ _ ?_
 rw [frz_bool]
 congr 2
 rw [Bool.eq_iff_iff]
 simp [withinB, strayB, noteB]
 omega
theorem con_CheckBook (b : Bk) (hl : b.slurs.length ≤ 20) : Con T 9 19 [bkA b] (.int .i64 (chkB b)) := by
 refine con_intro t19 fun n hn V hV => ?_
 by_cases g1 : b.notes < 1 ∨ b.notes > 8
 ·have hb : (!(decide (b.notes < 1) || decide (b.notes > 8))) = false := by
   rcases g1 with g | g <;> simp [g]
  simp (disch := first | assumption | omega) only [c19, go_sem, ↓reduceIte, cs_within1, hb, Bool.not_false]
  refine hV _ _ ?_
  rw [frz_int, chkB, if_pos (by omega)]
 ·have hb : (!(decide (b.notes < 1) || decide (b.notes > 8))) = true := by simp; omega
  by_cases g2 : b.slurs.length < 1 ∨ b.slurs.length > 14
  ·have hb2 : (!(decide ((b.slurs.length : Int) < 1) || decide ((b.slurs.length : Int) > 14))) = false := by
    rw [Bool.not_eq_false']
    simp
    omega
   simp (disch := first | assumption | omega) only [c19, go_sem, ↓reduceIte, cs_within1, hb, hb2, Bool.not_false, Bool.not_true]
   refine hV _ _ ?_
   rw [frz_int, chkB, if_pos (by omega)]
  ·have hb2 : (!(decide ((b.slurs.length : Int) < 1) || decide ((b.slurs.length : Int) > 14))) = true := by simp; omega
   simp (disch := first | assumption | omega) only [c19, go_sem, ↓reduceIte, cs_within1, hb, hb2, Bool.not_false, Bool.not_true]
   have hfz : ∀ h : Heap, getH h 1 = .cells 0 [.int .i64 b.notes, prs b.slurs] → freeze h 8 (.clo 54 [] [.optr 1 0 0]) = .ret (.clo 54 [] [.ptr [.int .i64 b.notes, prs b.slurs] 0]) := fun h hh =>
    frz_clo (mz_nil _ _) (mz_cons (frz_optr hh (mz_cons (frz_int _ _ _ _) (mz_cons (frz_slice _ _ _ _ _) (mz_nil _ _)))) (mz_nil _ _))
   refine gp_con (con_conP (p := strayB b.notes) b.slurs (by omega) (fun x _ => con_stray b.notes b.slurs x (by omega) (by omega)) (fun h x => fz_cons (frz_pA _ _ _) (fz_cons (frz_ptr _ _ _ _) (fz_nil _))) (fun h => frz_clo (mz_nil _ _) (mz_cons (frz_ptr _ _ _ _) (mz_nil _ _)))) (by omega) (fz_slice _ _ _ _ (fz_cons (hfz _ (by simp only [go_sem, ↓reduceIte])) (fz_nil _))) (or_pb _ _) ?_
   by_cases ha : b.slurs.any (strayB b.notes) = true
   ·simp (disch := first | assumption | omega) only [go_sem, ↓reduceIte, ha]
    refine hV _ _ ?_
    rw [frz_int, chkB, if_neg (by omega), if_pos ha]
   ·have ha' : b.slurs.any (strayB b.notes) = false := by simpa using ha
    simp (disch := first | assumption | omega) only [go_sem, ↓reduceIte, ha', Bool.false_eq_true]
    refine hV _ _ ?_
    rw [frz_int, chkB, if_neg (by omega), if_neg ha]
theorem cs_CheckBook {n base : Nat} {Q : EX × St → Prop} {d : Option Nat} {L : List IOper} {ks : List Kont} {e : Env} {h : Heap} {b : Bk} {x : Bool} (hn : 9 ≤ n) (hl : b.slurs.length ≤ 20) : GP (evCall T n) base Q d L ks e (evCall T n false (.fn 19) [.agg [.int .i64 b.notes, .slice (some 2) (b.slurs.map pA) x]] h) = GO (evCall T n) base Q L ks ⟨setDst e d (.int .i64 (chkB b)), h⟩ :=
 gp_eq (con_CheckBook b hl) hn (fz_cons (frz_agg (mz_cons (frz_int _ _ _ _) (mz_cons (frz_slice _ _ _ _ _) (mz_nil _ _)))) (fz_nil _)) (or_pi _ _ _)
theorem con_isNote (b : Bk) (x : Int) : Con T 1 56 [bkA b, .int .i64 x] (.bool (noteB b.notes x)) := by
 refine con_intro t56 fun n hn V hV => ?_
 by_cases h0 : 0 ≤ x
 ·have hb : decide (x ≥ 0) = true := by simpa using h0
  simp (disch := first | assumption | omega) only [c56, go_sem, ↓reduceIte, hb]
  refine hV _ _ ?_
  rw [frz_bool]
  simp [noteB, h0]
 ·have hb : decide (x ≥ 0) = false := by simp; omega
  simp (disch := first | assumption | omega) only [c56, go_sem, ↓reduceIte, hb, Bool.false_eq_true]
  refine hV _ _ ?_
  rw [frz_bool]
  simp [noteB, h0]
theorem cs_isNote {n base : Nat} {Q : EX × St → Prop} {d : Option Nat} {L : List IOper} {ks : List Kont} {e : Env} {h : Heap} {b : Bk} {x : Bool} {y : Int} (hn : 1 ≤ n) : GP (evCall T n) base Q d L ks e (evCall T n false (.fn 56) [.agg [.int .i64 b.notes, .slice (some 2) (b.slurs.map pA) x], .int .i64 y] h) = GO (evCall T n) base Q L ks ⟨setDst e d (.bool (noteB b.notes y)), h⟩ :=
 gp_eq (con_isNote b y) hn (fz_cons (frz_agg (mz_cons (frz_int _ _ _ _) (mz_cons (frz_slice _ _ _ _ _) (mz_nil _ _)))) (fz_int _ _ _ (fz_nil _))) (or_pb _ _)
theorem con_refCheck (b : Bk) (hl : b.slurs.length ≤ 20) : Con T 2 20 [bkA b] (.int .i64 (chkB b)) := by
 refine con_intro t20 fun n hn V hV => ?_
 have hV6 : (b.notes < 1 ∨ b.notes > 8 ∨ b.slurs.length < 1 ∨ b.slurs.length > 14) → ∀ h, V (.int .i64 6, h) := fun g h => hV _ _ (by rw [frz_int, chkB, if_pos g])
 by_cases g1 : b.notes < 1
 ·have b1 : decide (b.notes < 1) = true := by simpa using g1
  simp (disch := first | assumption | omega) only [c20, go_sem, ↓reduceIte, b1]
  exact hV6 (.inl g1) _
 have b1 : decide (b.notes < 1) = false := by simpa using g1
 by_cases g2 : b.notes > 8
 ·have b2 : decide (b.notes > 8) = true := by simpa using g2
  simp (disch := first | assumption | omega) only [c20, go_sem, ↓reduceIte, b1, b2]
  exact hV6 (.inr (.inl g2)) _
 have b2 : decide (b.notes > 8) = false := by simpa using g2
 by_cases g3 : b.slurs.length < 1
 ·have b3 : decide ((b.slurs.length : Int) < 1) = true := by simp; omega
  simp (disch := first | assumption | omega) only [c20, go_sem, ↓reduceIte, b1, b2, b3]
  exact hV6 (.inr (.inr (.inl g3))) _
 have b3 : decide ((b.slurs.length : Int) < 1) = false := by simp; omega
 by_cases g4 : b.slurs.length > 14
 ·have b4 : decide ((b.slurs.length : Int) > 14) = true := by simp; omega
  simp (disch := first | assumption | omega) only [c20, go_sem, ↓reduceIte, b1, b2, b3, b4]
  exact hV6 (.inr (.inr (.inr g4))) _
 have b4 : decide ((b.slurs.length : Int) > 14) = false := by simp; omega
 have hck : chkB b = if b.slurs.any (strayB b.notes) then 2 else 0 := by rw [chkB, if_neg (by omega)]
 simp (disch := first | assumption | omega) only [c20, go_sem, ↓reduceIte, b1, b2, b3, b4, Bool.false_eq_true]
 refine m_loop (fun M st => ∃ i : Nat, M = b.slurs.length - i ∧ i ≤ b.slurs.length ∧ At st.env [(1, .optr 1 0 0), (3, .int .i64 i)] ∧ getH st.heap 1 = .cells 0 [.int .i64 b.notes, prs b.slurs] ∧ b.slurs.any (strayB b.notes) = (b.slurs.drop i).any (strayB b.notes)) b.slurs.length (by omega)
  ⟨0, by omega, by omega, by simp only [go_sem, ↓reduceIte], by simp only [go_sem, ↓reduceIte], rfl⟩ ?_
 rintro M e h hM ⟨i, rfl, hi, hE, hH, hA⟩ P hP
 simp only [At_cons, At_nil] at hE hH hA
 obtain ⟨f1, f3, -⟩ := hE
 by_cases hlt : i < b.slurs.length
 ·obtain ⟨y, hy⟩ := get_ex hlt
  rw [drop_cons hy, List.any_cons] at hA
  by_cases n1 : noteB b.notes y.1 = true
  ·by_cases n2 : noteB b.notes y.2 = true
   ·have hs : strayB b.notes y = false := by simp [strayB, n1, n2]
    simp (disch := first | assumption | omega) only [go_sem, ↓reduceIte, f1, f3, hH, hlt, hy, pA, cs_isNote, n1, n2, Bool.not_true, Bool.false_eq_true]
    exact hP (b.slurs.length - (i + 1)) _ (by omega) ⟨i + 1, rfl, by omega, by simp only [go_sem, ↓reduceIte, f1], hH, by rw [hA, hs, Bool.false_or]⟩
   ·have n2' : noteB b.notes y.2 = false := by simpa using n2
    have hs : strayB b.notes y = true := by simp [strayB, n1, n2']
    simp (disch := first | assumption | omega) only [go_sem, ↓reduceIte, f1, f3, hH, hlt, hy, pA, cs_isNote, n1, n2', Bool.not_true, Bool.not_false, Bool.false_eq_true]
    exact hV _ _ (by rw [frz_int, hck, hA, hs, Bool.true_or, if_pos rfl])
  ·have n1' : noteB b.notes y.1 = false := by simpa using n1
   have hs : strayB b.notes y = true := by simp [strayB, n1']
   simp (disch := first | assumption | omega) only [go_sem, ↓reduceIte, f1, f3, hH, hlt, hy, pA, cs_isNote, n1', Bool.not_true, Bool.not_false, Bool.false_eq_true]
   exact hV _ _ (by rw [frz_int, hck, hA, hs, Bool.true_or, if_pos rfl])
 ·simp (disch := first | assumption | omega) only [go_sem, ↓reduceIte, f1, f3, hH, hlt]
  exact hV _ _ (by rw [frz_int, hck, hA, List.drop_eq_nil_of_le (by omega)]; rfl)
theorem cs_refCheck {n base : Nat} {Q : EX × St → Prop} {d : Option Nat} {L : List IOper} {ks : List Kont} {e : Env} {h : Heap} {b : Bk} {x : Bool} (hn : 2 ≤ n) (hl : b.slurs.length ≤ 20) : GP (evCall T n) base Q d L ks e (evCall T n false (.fn 20) [.agg [.int .i64 b.notes, .slice (some 2) (b.slurs.map pA) x]] h) = GO (evCall T n) base Q L ks ⟨setDst e d (.int .i64 (chkB b)), h⟩ :=
 gp_eq (con_refCheck b hl) hn (fz_cons (frz_agg (mz_cons (frz_int _ _ _ _) (mz_cons (frz_slice _ _ _ _ _) (mz_nil _ _)))) (fz_nil _)) (or_pi _ _ _)
theorem con_great (b : Bk) : Con T 1 15 [bkA b] (.bool (decide (20 < b.slurs.length))) := by
 refine con_intro t15 fun n hn V hV => ?_
 simp (disch := first | assumption | omega) only [c15, go_sem, ↓reduceIte]
 refine hV _ _ ?_
 rw [frz_bool]
 congr 2
 rw [Bool.eq_iff_iff]
 simp
 omega
theorem cs_great {n base : Nat} {Q : EX × St → Prop} {d : Option Nat} {L : List IOper} {ks : List Kont} {e : Env} {h : Heap} {b : Bk} {x : Bool} (hn : 1 ≤ n) : GP (evCall T n) base Q d L ks e (evCall T n false (.fn 15) [.agg [.int .i64 b.notes, .slice (some 2) (b.slurs.map pA) x]] h) = GO (evCall T n) base Q L ks ⟨setDst e d (.bool (decide (20 < b.slurs.length))), h⟩ :=
 gp_eq (con_great b) hn (fz_cons (frz_agg (mz_cons (frz_int _ _ _ _) (mz_cons (frz_slice _ _ _ _ _) (mz_nil _ _)))) (fz_nil _)) (or_pb _ _)
end Go.Ev.YtjcabpldgdafeaaC
set_option linter.unusedSimpArgs false
set_option linter.unusedVariables false
namespace Go.Ev.YtjcabpldgdafeaaC
open Go Go.Proofs
attribute [local irreducible] Res.all evC evLoop evOps evOper evOp evFn evCall freeze G GO GV GP GC R
set_option maxRecDepth 100000
def frI (l : List (Int × Int)) (x : Int) : Int := (l.getD x.toNat (0, 0)).1
def toI (l : List (Int × Int)) (x : Int) : Int := (l.getD x.toNat (0, 0)).2
def chainB (l : List (Int × Int)) : Int → List Int → Bool
 | _, [] => true
 | at', s :: r => decide (frI l s = at') && chainB l (toI l s) r
def endI (l : List (Int × Int)) : Int → List Int → Int
 | a, [] => a
 | _, s :: r => endI l (toI l s) r
def inB (l : List (Int × Int)) (t : List Int) : Bool := t.all fun x => decide (0 ≤ x) && decide (x < l.length)
def ckT (b : Bk) (t : List Int) : Int × Int × Int :=
 if chkB b ≠ 0 then (0, 0, chkB b)
 else if t.length ≠ b.slurs.length then (0, 0, 15)
 else if inB b.slurs t = false then (0, 0, 3)
 else if ¬ t.Nodup then (0, 0, 11)
 else if chainB b.slurs (frI b.slurs (t.getD 0 0)) t = false then (0, 0, 19)
 else (frI b.slurs (t.getD 0 0), endI b.slurs (frI b.slurs (t.getD 0 0)) t, 0)
def ckA (b : Bk) (t : List Int) : AV := .tuple [.int .i64 (ckT b t).1, .int .i64 (ckT b t).2.1, .int .i64 (ckT b t).2.2]
theorem inB_within (l : List (Int × Int)) (t : List Int) : withinB 0 ((l.length : Int) - 1) t = inB l t := by
 unfold withinB inB
 induction t with
 | nil => rfl
 | cons a r ih =>
  rw [List.any_cons, List.all_cons, ← ih, Bool.not_or]
  congr 1
  rw [Bool.eq_iff_iff]
  simp
  omega
theorem in_get {l : List (Int × Int)} {t : List Int} (h : inB l t = true) {i : Nat} {y : Int} (hy : t[i]? = some y) : 0 ≤ y ∧ y < l.length ∧ l[y.toNat]? = some (frI l y, toI l y) := by
 have h1 := List.all_eq_true.1 h y (List.mem_of_getElem? hy)
 simp only [Bool.and_eq_true, decide_eq_true_eq] at h1
 refine ⟨h1.1, h1.2, ?_⟩
 have : y.toNat < l.length := by omega
 simp only [frI, toI, List.getD_eq_getElem?_getD, List.getElem?_eq_getElem this, Option.getD_some]
theorem nodup_take_succ {t : List Int} {i : Nat} {y : Int} (hy : t[i]? = some y) : (t.take (i + 1)).Nodup ↔ (t.take i).Nodup ∧ y ∉ t.take i := by
 have hi : i < t.length := (List.getElem?_eq_some_iff.1 hy).1
 have hy' : t[i] = y := (List.getElem?_eq_some_iff.1 hy).2
 rw [List.take_succ_eq_append_getElem hi, List.nodup_append, hy']
 constructor
 ·rintro ⟨h1, _, h3⟩
  exact ⟨h1, fun hm => h3 _ hm _ (List.mem_singleton.2 rfl) rfl⟩
 ·rintro ⟨h1, h2⟩
  refine ⟨h1, by simp, fun a ha b hb => ?_⟩
  obtain rfl : b = y := by simpa using hb
  exact fun e => h2 (e ▸ ha)
theorem not_nodup_take {t : List Int} {i : Nat} (h : ¬ (t.take i).Nodup) : ¬ t.Nodup := fun hn => h (List.Nodup.sublist (List.take_sublist _ _) hn)
set_option maxHeartbeats 1000000 in
theorem con_CheckTune (b : Bk) (t : List Int) (hl : b.slurs.length ≤ 20) (ht : t.length ≤ 30) : Con T 10 17 [bkA b, ints t] (ckA b t) := by
 refine con_intro t17 fun n hn V hV => ?_
 replace hV : ∀ a c e h, ckT b t = (a, c, e) → V (.tuple [.int .i64 a, .int .i64 c, .int .i64 e], h) := fun a c e h e1 => hV _ _ (by rw [ckA, e1]; exact frz_three (frz_int _ _ _ _) (frz_int _ _ _ _) (frz_int _ _ _ _))
 by_cases g0 : chkB b = 0
 ·have b0 : (chkB b != 0) = false := by simp [g0]
  by_cases g1 : t.length = b.slurs.length
  ·have b1 : ((t.length : Int) != (b.slurs.length : Int)) = false := by simp [g1]
   by_cases g2 : inB b.slurs t = true
   ·have hbs : 1 ≤ b.slurs.length := by
     unfold chkB at g0
     split at g0
     ·omega
     ·omega
    have hw := inB_within b.slurs t
    rw [g2] at hw
    simp (disch := first | assumption | omega) only [c17, go_sem, ↓reduceIte, cs_CheckBook, b0, b1, cs_within, hw, Bool.not_true, Bool.false_eq_true]
    refine m_loop (fun M st => ∃ i : Nat, M = t.length - i ∧ i ≤ t.length ∧ At st.env [(1, ints t), (2, .optr 2 0 0), (34, ints t), (35, .int .i64 t.length), (36, .int .i64 i)] ∧ getH st.heap 2 = .cells 0 [.int .i64 b.notes, prs b.slurs] ∧ (t.take i).Nodup) t.length (by omega)
     ⟨0, by omega, by omega, by simp only [go_sem, ↓reduceIte], by simp only [go_sem, ↓reduceIte], by simp⟩ ?_
    rintro M e h hM ⟨i, rfl, hi, hE, hH, hA⟩ P hP
    simp only [At_cons, At_nil] at hE hH hA
    obtain ⟨f1, f2, f34, f35, f36, -⟩ := hE
    by_cases hlt : i < t.length
    ·obtain ⟨y, hy⟩ := get_ex hlt
     have hii : (0 : Int) ≤ i ∧ (i : Int) ≤ t.length := by omega
     have hl30 : (t.take i).length ≤ 1000 := by rw [List.length_take]; omega
     by_cases hin : y ∈ t.take i
     ·have hc : (t.take i).contains y = true := by simpa using hin
      simp (disch := first | assumption | omega) only [go_sem, ↓reduceIte, f1, f2, f34, f35, f36, hH, hlt, hy, hii, Int.toNat_natCast, List.drop_zero, ← List.map_take, cs_has, hc]
      refine hV _ _ _ _ ?_
      have hnd : ¬ t.Nodup := not_nodup_take (i := i + 1) fun hn => ((nodup_take_succ hy).1 hn).2 hin
      rw [ckT, if_neg (by omega), if_neg (by omega), if_neg (by simp [g2]), if_pos hnd]
     ·have hc : (t.take i).contains y = false := by simpa using hin
      simp (disch := first | assumption | omega) only [go_sem, ↓reduceIte, f1, f2, f34, f35, f36, hH, hlt, hy, hii, Int.toNat_natCast, List.drop_zero, ← List.map_take, cs_has, hc, Bool.false_eq_true]
      exact hP (t.length - (i + 1)) _ (by omega) ⟨i + 1, rfl, by omega, by simp only [go_sem, ↓reduceIte, f1, f2, f34, f35], hH, (nodup_take_succ hy).2 ⟨hA, hin⟩⟩
    ·obtain rfl : i = t.length := by omega
     rw [List.take_length] at hA
     have htl : 0 < t.length := by omega
     obtain ⟨t0, ht0⟩ := get_ex htl
     obtain ⟨q1, q2, q3⟩ := in_get g2 ht0
     have hn0 : asNat (.int .i64 t0) = some t0.toNat := by simp [asNat, q1]
     have ht0' : t.getD 0 0 = t0 := by rw [List.getD_eq_getElem?_getD, ht0]; rfl
     simp (disch := first | assumption | omega) only [go_sem, ↓reduceIte, f1, f2, f34, f35, f36, hH, hlt, ht0, hn0, q3, pA]
     refine m_loop (fun M st => ∃ i : Nat, M = t.length - i ∧ i ≤ t.length ∧ ∃ a : Int, At st.env [(1, ints t), (2, .optr 2 0 0), (10, .int .i64 a), (55, ints t), (56, .int .i64 t.length), (57, .int .i64 i)] ∧ getH st.heap 2 = .cells 0 [.int .i64 b.notes, prs b.slurs] ∧
       chainB b.slurs (frI b.slurs t0) t = chainB b.slurs a (t.drop i) ∧ endI b.slurs (frI b.slurs t0) t = endI b.slurs a (t.drop i)) t.length (by omega)
      ⟨0, by omega, by omega, frI b.slurs t0, by simp only [go_sem, ↓reduceIte, f1, f2], hH, rfl, rfl⟩ ?_
     rintro M e2 h2 hM2 ⟨i, rfl, hi2, a, hE2, hH2, hB, hC⟩ P2 hP2
     simp only [At_cons, At_nil] at hE2 hH2 hB hC
     obtain ⟨f1, f2, f10, f55, f56, f57, -⟩ := hE2
     by_cases hlt2 : i < t.length
     ·obtain ⟨y, hy⟩ := get_ex hlt2
      obtain ⟨r1, r2, r3⟩ := in_get g2 hy
      have hny : asNat (.int .i64 y) = some y.toNat := by simp [asNat, r1]
      rw [drop_cons hy, chainB] at hB
      rw [drop_cons hy, endI] at hC
      by_cases hfa : frI b.slurs y = a
      ·have hb : (frI b.slurs y != a) = false := by simp [hfa]
       simp (disch := first | assumption | omega) only [go_sem, ↓reduceIte, f1, f2, f10, f55, f56, f57, hH2, hlt2, hy, hny, r3, pA, hb, Bool.false_eq_true]
       exact hP2 (t.length - (i + 1)) _ (by omega) ⟨i + 1, rfl, by omega, toI b.slurs y, by simp only [go_sem, ↓reduceIte, f1, f2, f55, f56], hH2, by rw [hB]; simp [hfa], hC⟩
      ·have hb : (frI b.slurs y != a) = true := by simpa using hfa
       simp (disch := first | assumption | omega) only [go_sem, ↓reduceIte, f1, f2, f10, f55, f56, f57, hH2, hlt2, hy, hny, r3, pA, hb]
       refine hV _ _ _ _ ?_
       rw [ckT, if_neg (by omega), if_neg (by omega), if_neg (by simp [g2]), if_neg (fun h => h hA), ht0', if_pos (by rw [hB]; simp [hfa])]
     ·rw [List.drop_eq_nil_of_le (by omega)] at hB hC
      simp (disch := first | assumption | omega) only [go_sem, ↓reduceIte, f1, f2, f10, f55, f56, f57, hH2, hlt2, ht0, hn0, q3, pA]
      refine hV _ _ _ _ ?_
      rw [ckT, if_neg (by omega), if_neg (by omega), if_neg (by simp [g2]), if_neg (fun h => h hA), ht0', if_neg (by rw [hB]; simp [chainB]), hC]
      rfl
   ·have hw := inB_within b.slurs t
    have g2' : inB b.slurs t = false := by simpa using g2
    rw [g2'] at hw
    simp (disch := first | assumption | omega) only [c17, go_sem, ↓reduceIte, cs_CheckBook, b0, b1, cs_within, hw, Bool.not_false, Bool.false_eq_true]
    refine hV _ _ _ _ ?_
    rw [ckT, if_neg (by omega), if_neg (by omega), if_pos g2']
  ·have b1 : ((t.length : Int) != (b.slurs.length : Int)) = true := by simp; omega
   simp (disch := first | assumption | omega) only [c17, go_sem, ↓reduceIte, cs_CheckBook, b0, b1, Bool.false_eq_true]
   refine hV _ _ _ _ ?_
   rw [ckT, if_neg (by omega), if_pos g1]
 ·have b0 : (chkB b != 0) = true := by simp [g0]
  simp (disch := first | assumption | omega) only [c17, go_sem, ↓reduceIte, cs_CheckBook, b0]
  refine hV _ _ _ _ ?_
  rw [ckT, if_pos g0]
theorem inB_drop {l : List (Int × Int)} {t : List Int} {i : Nat} {y : Int} (hy : t[i]? = some y) : inB l (t.drop i) = ((decide (0 ≤ y) && decide (y < l.length)) && inB l (t.drop (i + 1))) := by
 rw [drop_cons hy]; rfl
set_option maxHeartbeats 1000000 in
theorem con_refTune (b : Bk) (t : List Int) (hl : b.slurs.length ≤ 20) (ht : t.length ≤ 30) : Con T 3 18 [bkA b, ints t] (ckA b t) := by
 refine con_intro t18 fun n hn V hV => ?_
 replace hV : ∀ a c e h, ckT b t = (a, c, e) → V (.tuple [.int .i64 a, .int .i64 c, .int .i64 e], h) := fun a c e h e1 => hV _ _ (by rw [ckA, e1]; exact frz_three (frz_int _ _ _ _) (frz_int _ _ _ _) (frz_int _ _ _ _))
 by_cases g0 : chkB b = 0
 ·have b0 : (chkB b != 0) = false := by simp [g0]
  by_cases g1 : t.length = b.slurs.length
  ·have b1 : ((t.length : Int) != (b.slurs.length : Int)) = false := by simp [g1]
   have hbs : 1 ≤ b.slurs.length := by
    unfold chkB at g0
    split at g0
    ·omega
    ·omega
   simp (disch := first | assumption | omega) only [c18, go_sem, ↓reduceIte, cs_refCheck, b0, b1, Bool.false_eq_true]
   refine m_loop (fun M st => ∃ i : Nat, M = t.length - i ∧ i ≤ t.length ∧ At st.env [(1, ints t), (2, .optr 2 0 0), (7, .int .i64 i)] ∧ getH st.heap 2 = .cells 0 [.int .i64 b.notes, prs b.slurs] ∧ inB b.slurs t = inB b.slurs (t.drop i)) t.length (by omega)
    ⟨0, by omega, by omega, by simp only [go_sem, ↓reduceIte], by simp only [go_sem, ↓reduceIte], rfl⟩ ?_
   rintro M e h hM ⟨i, rfl, hi, hE, hH, hA⟩ P hP
   simp only [At_cons, At_nil] at hE hH hA
   obtain ⟨f1, f2, f7, -⟩ := hE
   by_cases hlt : i < t.length
   ·obtain ⟨y, hy⟩ := get_ex hlt
    rw [inB_drop hy] at hA
    by_cases c1 : y < 0
    ·have d1 : decide (y < 0) = true := by simpa using c1
     have hin : inB b.slurs t = false := by rw [hA]; simp; omega
     simp (disch := first | assumption | omega) only [go_sem, ↓reduceIte, f1, f2, f7, hH, hlt, hy, d1]
     refine hV _ _ _ _ ?_
     rw [ckT, if_neg (by omega), if_neg (by omega), if_pos hin]
    ·have d1 : decide (y < 0) = false := by simpa using c1
     by_cases c2 : y ≥ b.slurs.length
     ·have d2 : decide (y ≥ (b.slurs.length : Int)) = true := by simpa using c2
      have hin : inB b.slurs t = false := by rw [hA]; simp; omega
      simp (disch := first | assumption | omega) only [go_sem, ↓reduceIte, f1, f2, f7, hH, hlt, hy, d1, d2, Bool.false_eq_true]
      refine hV _ _ _ _ ?_
      rw [ckT, if_neg (by omega), if_neg (by omega), if_pos hin]
     ·have d2 : decide (y ≥ (b.slurs.length : Int)) = false := by simpa using c2
      simp (disch := first | assumption | omega) only [go_sem, ↓reduceIte, f1, f2, f7, hH, hlt, hy, d1, d2, Bool.false_eq_true]
      exact hP (t.length - (i + 1)) _ (by omega) ⟨i + 1, rfl, by omega, by simp only [go_sem, ↓reduceIte, f1, f2], hH, by rw [hA]; simp [show 0 ≤ y by omega, show y < b.slurs.length by omega]⟩
   ·have g2 : inB b.slurs t = true := by rw [hA, List.drop_eq_nil_of_le (by omega)]; rfl
    simp (disch := first | assumption | omega) only [go_sem, ↓reduceIte, f1, f2, f7, hH, hlt]
    clear hP hA f7 hlt hM
    refine m_loop (fun M st => ∃ i : Nat, M = t.length - i ∧ i ≤ t.length ∧ At st.env [(1, ints t), (2, .optr 2 0 0), (8, .int .i64 i)] ∧ getH st.heap 2 = .cells 0 [.int .i64 b.notes, prs b.slurs] ∧ (t.take i).Nodup) t.length (by omega)
     ⟨0, by omega, by omega, by simp only [go_sem, ↓reduceIte, f1, f2], hH, by simp⟩ ?_
    rintro M e h hM ⟨i, rfl, hi, hE, hH, hA⟩ P hP
    simp only [At_cons, At_nil] at hE hH hA
    obtain ⟨f1, f2, f8, -⟩ := hE
    by_cases hlt : i < t.length
    ·obtain ⟨y, hy⟩ := get_ex hlt
     simp (disch := first | assumption | omega) only [go_sem, ↓reduceIte, f1, f2, f8, hH, hlt]
     refine m_loop (fun M st => ∃ k : Nat, M = i - k ∧ k ≤ i ∧ At st.env [(1, ints t), (2, .optr 2 0 0), (8, .int .i64 i), (9, .int .i64 k)] ∧ getH st.heap 2 = .cells 0 [.int .i64 b.notes, prs b.slurs] ∧ y ∉ t.take k) i (by omega)
      ⟨0, by omega, by omega, by simp only [go_sem, ↓reduceIte, f1, f2, f8], hH, by simp⟩ ?_
     rintro M e2 h2 hM2 ⟨k, rfl, hk, hE2, hH2, hB⟩ P2 hP2
     simp only [At_cons, At_nil] at hE2 hH2 hB
     obtain ⟨f1, f2, f8, f9, -⟩ := hE2
     by_cases hlt2 : k < i
     ·obtain ⟨z, hz⟩ := get_ex (show k < t.length by omega)
      by_cases hzy : z = y
      ·have hb : (z == y) = true := by simpa using hzy
       simp (disch := first | assumption | omega) only [go_sem, ↓reduceIte, f1, f2, f8, f9, hH2, hlt2, hlt, hz, hy, hb]
       refine hV _ _ _ _ ?_
       have hnd : ¬ t.Nodup := not_nodup_take (i := i + 1) fun hn => ((nodup_take_succ hy).1 hn).2 (by
        rw [← hzy]
        exact List.mem_take_iff_getElem.2 ⟨k, by omega, (List.getElem?_eq_some_iff.1 hz).2⟩)
       rw [ckT, if_neg (by omega), if_neg (by omega), if_neg (by simp [g2]), if_pos hnd]
      ·have hb : (z == y) = false := by simpa using hzy
       simp (disch := first | assumption | omega) only [go_sem, ↓reduceIte, f1, f2, f8, f9, hH2, hlt2, hlt, hz, hy, hb, Bool.false_eq_true]
       exact hP2 (i - (k + 1)) _ (by omega) ⟨k + 1, rfl, by omega, by simp only [go_sem, ↓reduceIte, f1, f2, f8], hH2, by
        rw [List.take_succ_eq_append_getElem (show k < t.length by omega), (List.getElem?_eq_some_iff.1 hz).2]
        simp only [List.mem_append, List.mem_singleton, not_or]
        exact ⟨hB, fun e => hzy e.symm⟩⟩
     ·obtain rfl : k = i := by omega
      simp (disch := first | assumption | omega) only [go_sem, ↓reduceIte, f1, f2, f8, f9, hH2, hlt2]
      exact hP (t.length - (k + 1)) _ (by omega) ⟨k + 1, rfl, by omega, by simp only [go_sem, ↓reduceIte, f1, f2], hH2, (nodup_take_succ hy).2 ⟨hA, hB⟩⟩
    ·obtain rfl : i = t.length := by omega
     rw [List.take_length] at hA
     have htl : 0 < t.length := by omega
     obtain ⟨t0, ht0⟩ := get_ex htl
     obtain ⟨q1, q2, q3⟩ := in_get g2 ht0
     have hn0 : asNat (.int .i64 t0) = some t0.toNat := by simp [asNat, q1]
     have ht0' : t.getD 0 0 = t0 := by rw [List.getD_eq_getElem?_getD, ht0]; rfl
     simp (disch := first | assumption | omega) only [go_sem, ↓reduceIte, f1, f2, f8, hH, hlt]
     clear hP f8 hlt hM
     refine m_loop (fun M st => ∃ i : Nat, M = t.length - i ∧ 1 ≤ i ∧ i ≤ t.length ∧ ∃ z : Int, t[i - 1]? = some z ∧ At st.env [(1, ints t), (2, .optr 2 0 0), (10, .int .i64 i)] ∧ getH st.heap 2 = .cells 0 [.int .i64 b.notes, prs b.slurs] ∧
       chainB b.slurs (frI b.slurs t0) t = chainB b.slurs (toI b.slurs z) (t.drop i) ∧ endI b.slurs (frI b.slurs t0) t = endI b.slurs (toI b.slurs z) (t.drop i)) (t.length - 1) (by omega)
      ⟨1, by omega, by omega, by omega, t0, ht0, by simp only [go_sem, ↓reduceIte, f1, f2], hH, by
       have := drop_cons ht0
       rw [List.drop_zero] at this
       constructor
       ·conv => lhs; rw [this]
        simp [chainB]
       ·conv => lhs; rw [this]
        rfl⟩ ?_
     rintro M e2 h2 hM2 ⟨i, rfl, hi1, hi2, z, hz, hE2, hH2, hB, hC⟩ P2 hP2
     simp only [At_cons, At_nil] at hE2 hH2 hB hC
     obtain ⟨f1, f2, f10, -⟩ := hE2
     obtain ⟨p1, p2, p3⟩ := in_get g2 hz
     have hnz : asNat (.int .i64 z) = some z.toNat := by simp [asNat, p1]
     by_cases hlt2 : i < t.length
     ·obtain ⟨y, hy⟩ := get_ex hlt2
      obtain ⟨r1, r2, r3⟩ := in_get g2 hy
      have hny : asNat (.int .i64 y) = some y.toNat := by simp [asNat, r1]
      have hni : asNat (.int .i64 ((i : Int) - 1)) = some (i - 1) := by
       rw [show (i : Int) - 1 = ((i - 1 : Nat) : Int) by omega]
       exact asNat_nat _ _
      rw [drop_cons hy, chainB] at hB
      rw [drop_cons hy, endI] at hC
      by_cases hfa : frI b.slurs y = toI b.slurs z
      ·have hb : (frI b.slurs y != toI b.slurs z) = false := by simp [hfa]
       simp (disch := first | assumption | omega) only [go_sem, ↓reduceIte, f1, f2, f10, hH2, hlt2, hy, hny, r3, hni, hz, hnz, p3, pA, hb, Bool.false_eq_true]
       exact hP2 (t.length - (i + 1)) _ (by omega) ⟨i + 1, rfl, by omega, by omega, y, by simpa using hy, by simp only [go_sem, ↓reduceIte, f1, f2], hH2, by rw [hB]; simp [hfa], hC⟩
      ·have hb : (frI b.slurs y != toI b.slurs z) = true := by simpa using hfa
       simp (disch := first | assumption | omega) only [go_sem, ↓reduceIte, f1, f2, f10, hH2, hlt2, hy, hny, r3, hni, hz, hnz, p3, pA, hb]
       refine hV _ _ _ _ ?_
       rw [ckT, if_neg (by omega), if_neg (by omega), if_neg (by simp [g2]), if_neg (fun h => h hA), ht0', if_pos (by rw [hB]; simp [hfa])]
     ·obtain rfl : i = t.length := by omega
      have hni : asNat (.int .i64 ((t.length : Int) - 1)) = some (t.length - 1) := by
       rw [show (t.length : Int) - 1 = ((t.length - 1 : Nat) : Int) by omega]
       exact asNat_nat _ _
      rw [List.drop_eq_nil_of_le (by omega)] at hB hC
      simp (disch := first | assumption | omega) only [go_sem, ↓reduceIte, f1, f2, f10, hH2, hlt2, ht0, hn0, q3, hni, hz, hnz, p3, pA]
      refine hV _ _ _ _ ?_
      rw [ckT, if_neg (by omega), if_neg (by omega), if_neg (by simp [g2]), if_neg (fun h => h hA), ht0', if_neg (by rw [hB]; simp [chainB]), hC]
      rfl
  ·have b1 : ((t.length : Int) != (b.slurs.length : Int)) = true := by simp; omega
   simp (disch := first | assumption | omega) only [c18, go_sem, ↓reduceIte, cs_refCheck, b0, b1, Bool.false_eq_true]
   refine hV _ _ _ _ ?_
   rw [ckT, if_neg (by omega), if_pos g1]
 ·have b0 : (chkB b != 0) = true := by simp [g0]
  simp (disch := first | assumption | omega) only [c18, go_sem, ↓reduceIte, cs_refCheck, b0]
  refine hV _ _ _ _ ?_
  rw [ckT, if_pos g0]
end Go.Ev.YtjcabpldgdafeaaC
