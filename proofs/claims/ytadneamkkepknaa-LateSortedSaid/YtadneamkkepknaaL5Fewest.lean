/- Fewest and Kind, the program's and the reference's. Contracts; conditions stand in each. -/
import Derived.Test.YtadneamkkepknaaL5Best
set_option linter.unusedSimpArgs false
set_option linter.unusedVariables false
namespace Go.Ev.YtadneamkkepknaaC
open Go Go.Proofs

def refFewest (l : List Order) (s : Int) : Int × Int := if chkSide l s ≠ 0 then (0, chkSide l s) else (l.length - mostOf l s (-1) (-1), 0)
def kindOne (l : List Order) (s o : Int) : Int := if mostOf l s (-1) o < mostOf l s (-1) (-1) then 2 else if mostOf l s o (-1) = mostOf l s (-1) (-1) then 1 else 0
def refKind (l : List Order) (s o : Int) : Int × Int := if chkSide l s ≠ 0 then (0, chkSide l s) else if o < 0 ∨ l.length ≤ o then (0, 2) else (kindOne l s o, 0)

theorem mostOf_bd {l : List Order} (hv : Valid l) (s wi wo : Int) (hne : wi = wo → wi ∉ seqOf l) : -1 ≤ mostOf l s wi wo ∧ mostOf l s wi wo ≤ 10 := by
  rcases mostOf_spec hv s wi wo hne with ⟨h, _⟩ | ⟨m, h, ⟨T, ⟨t1, _⟩, t2⟩, _⟩
  · omega
  · have := t1.length_le
    rw [seqOf_length] at this
    have := hv.len
    omega
theorem neg_notin (l : List Order) : (-1 : Int) ∉ seqOf l := fun h => by have := seqOf_mem.1 h; omega

attribute [local irreducible] Res.all evC evLoop evOps evOper evOp evFn evCall freeze G GO GV GP GC R
set_option maxRecDepth 100000

section
variable {n base : Nat} {Q : EX × St → Prop} {d : Option Nat} {L : List IOper} {ks : List Kont} {e : Env} {h : Heap}
theorem cs_79 {l : List Order} {s wi wo : Int} (hn : 8 ≤ n) (hv : Valid l) : GP (evCall T n) base Q d L ks e (evCall T n false (.fn 79) [deskV l s, .int .i64 wi, .int .i64 wo] h) = GO (evCall T n) base Q L ks ⟨setDst e d (.int .i64 (mostOf l s wi wo)), h⟩ :=
  gp_eq (con_79 l s wi wo hv) hn (fz_cons (frz_desk _ _ _ _) (fz_int _ _ _ (fz_int _ _ _ (fz_nil _)))) rfl
theorem cs_80 {l : List Order} {s : Int} {x : Bool} (hn : 5 ≤ n) (hv : Valid l) : GP (evCall T n) base Q d L ks e (evCall T n false (.fn 80) [.slice (some 3) (l.map oAV) x, .int .i64 s] h) = GO (evCall T n) base Q L ks ⟨setDst e d (bestV l s), h⟩ :=
  gp_eq (con_80 l s hv) hn (by repeat (first | exact fz_nil _ | refine fz_slice _ _ _ _ ?_ | refine fz_int _ _ _ ?_)) rfl
end

theorem con_42 (l : List Order) (s : Int) (hl : l.length ≤ 15) : Con T 11 42 [ords l, .int .i64 s] (.tuple [.int .i64 (refFewest l s).1, .int .i64 (refFewest l s).2]) := by
  refine con_intro t42 fun n hn V hV => ?_
  replace hV : ∀ a b h, a = (refFewest l s).1 → b = (refFewest l s).2 → V (.tuple [.int .i64 a, .int .i64 b], h) := fun a b h e1 e2 => hV _ _ (by rw [e1, e2]; exact frz_two (frz_int _ _ _ _) (frz_int _ _ _ _))
  unfold refFewest at hV
  by_cases hc : chkSide l s = 0
  · have hc' : (chkSide l s != 0) = false := by simp [hc]
    obtain ⟨hval, hs⟩ := (chkSide_zero l s).1 hc
    have hb := mostOf_bd hval s (-1) (-1) (fun _ => neg_notin l)
    rw [if_neg (by omega)] at hV
    simp (disch := first | assumption | omega) only [c42, go_sem, ↓reduceIte, reduceIte, Nat.reduceEqDiff, Nat.reduceAdd, Nat.reduceMul, reduceCtorEq, Nat.reduceDiv, Nat.reduceLeDiff, Nat.reduceLT, Nat.reduceSub, cs_69, sidedV, hc', hc, cs_79]
    exact hV _ _ _ rfl rfl
  · have hc' : (chkSide l s != 0) = true := by simp [hc]
    rw [if_pos hc] at hV
    simp (disch := first | assumption | omega) only [c42, go_sem, ↓reduceIte, reduceIte, Nat.reduceEqDiff, Nat.reduceAdd, Nat.reduceMul, reduceCtorEq, Nat.reduceDiv, Nat.reduceLeDiff, Nat.reduceLT, Nat.reduceSub, cs_69, sidedV, hc']
    exact hV _ _ _ rfl rfl

theorem con_43 (l : List Order) (s : Int) (hl : l.length ≤ 15) : Con T 6 43 [ords l, .int .i64 s] (.tuple [.int .i64 (refFewest l s).1, .int .i64 (refFewest l s).2]) := by
  refine con_intro t43 fun n hn V hV => ?_
  replace hV : ∀ a b h, a = (refFewest l s).1 → b = (refFewest l s).2 → V (.tuple [.int .i64 a, .int .i64 b], h) := fun a b h e1 e2 => hV _ _ (by rw [e1, e2]; exact frz_two (frz_int _ _ _ _) (frz_int _ _ _ _))
  unfold refFewest at hV
  by_cases hc : chkSide l s = 0
  · have hc' : (chkSide l s != 0) = false := by simp [hc]
    obtain ⟨hval, hs⟩ := (chkSide_zero l s).1 hc
    have hb := mostOf_bd hval s (-1) (-1) (fun _ => neg_notin l)
    have hbs := (best_spec hval s).1
    rw [if_neg (by omega), hbs] at hV
    rw [hbs] at hb
    simp (disch := first | assumption | omega) only [c43, go_sem, ↓reduceIte, reduceIte, Nat.reduceEqDiff, Nat.reduceAdd, Nat.reduceMul, reduceCtorEq, Nat.reduceDiv, Nat.reduceLeDiff, Nat.reduceLT, Nat.reduceSub, cs_71, hc', cs_80, bestV]
    exact hV _ _ _ rfl rfl
  · have hc' : (chkSide l s != 0) = true := by simp [hc]
    rw [if_pos hc] at hV
    simp (disch := first | assumption | omega) only [c43, go_sem, ↓reduceIte, reduceIte, Nat.reduceEqDiff, Nat.reduceAdd, Nat.reduceMul, reduceCtorEq, Nat.reduceDiv, Nat.reduceLeDiff, Nat.reduceLT, Nat.reduceSub, cs_71, hc']
    exact hV _ _ _ rfl rfl

theorem con_44 (l : List Order) (s o : Int) (hl : l.length ≤ 15) : Con T 11 44 [ords l, .int .i64 s, .int .i64 o] (.tuple [.int .i64 (refKind l s o).1, .int .i64 (refKind l s o).2]) := by
  refine con_intro t44 fun n hn V hV => ?_
  replace hV : ∀ a b h, a = (refKind l s o).1 → b = (refKind l s o).2 → V (.tuple [.int .i64 a, .int .i64 b], h) := fun a b h e1 e2 => hV _ _ (by rw [e1, e2]; exact frz_two (frz_int _ _ _ _) (frz_int _ _ _ _))
  unfold refKind at hV
  by_cases hc : chkSide l s = 0
  · have hc' : (chkSide l s != 0) = false := by simp [hc]
    obtain ⟨hval, hs⟩ := (chkSide_zero l s).1 hc
    rw [if_neg (by omega)] at hV
    by_cases ho : o < 0 ∨ l.length ≤ o
    · have hw : (decide (0 ≤ o) && decide (o ≤ (l.length : Int) - 1)) = false := by simp; omega
      rw [if_pos ho] at hV
      simp (disch := first | assumption | omega) only [c44, go_sem, ↓reduceIte, reduceIte, Nat.reduceEqDiff, Nat.reduceAdd, Nat.reduceMul, reduceCtorEq, Nat.reduceDiv, Nat.reduceLeDiff, Nat.reduceLT, Nat.reduceSub, cs_69, sidedV, hc', hc, cs_58', hw]
      exact hV _ _ _ rfl rfl
    · have hw : (decide (0 ≤ o) && decide (o ≤ (l.length : Int) - 1)) = true := by simp; omega
      rw [if_neg ho] at hV
      unfold kindOne at hV
      by_cases g1 : mostOf l s (-1) o < mostOf l s (-1) (-1)
      · simp (disch := first | assumption | omega) only [c44, go_sem, ↓reduceIte, reduceIte, Nat.reduceEqDiff, Nat.reduceAdd, Nat.reduceMul, reduceCtorEq, Nat.reduceDiv, Nat.reduceLeDiff, Nat.reduceLT, Nat.reduceSub, cs_69, sidedV, hc', hc, cs_58', hw, cs_79, g1]
        exact hV _ _ _ (by rw [if_pos g1]) rfl
      · by_cases g2 : mostOf l s o (-1) = mostOf l s (-1) (-1)
        · have g2' : (mostOf l s o (-1) == mostOf l s (-1) (-1)) = true := by simp [g2]
          simp (disch := first | assumption | omega) only [c44, go_sem, ↓reduceIte, reduceIte, Nat.reduceEqDiff, Nat.reduceAdd, Nat.reduceMul, reduceCtorEq, Nat.reduceDiv, Nat.reduceLeDiff, Nat.reduceLT, Nat.reduceSub, cs_69, sidedV, hc', hc, cs_58', hw, cs_79, g1, g2']
          exact hV _ _ _ (by rw [if_neg g1, if_pos g2]) rfl
        · have g2' : (mostOf l s o (-1) == mostOf l s (-1) (-1)) = false := by simpa using g2
          simp (disch := first | assumption | omega) only [c44, go_sem, ↓reduceIte, reduceIte, Nat.reduceEqDiff, Nat.reduceAdd, Nat.reduceMul, reduceCtorEq, Nat.reduceDiv, Nat.reduceLeDiff, Nat.reduceLT, Nat.reduceSub, cs_69, sidedV, hc', hc, cs_58', hw, cs_79, g1, g2']
          exact hV _ _ _ (by rw [if_neg g1, if_neg g2]) rfl
  · have hc' : (chkSide l s != 0) = true := by simp [hc]
    rw [if_pos hc] at hV
    simp (disch := first | assumption | omega) only [c44, go_sem, ↓reduceIte, reduceIte, Nat.reduceEqDiff, Nat.reduceAdd, Nat.reduceMul, reduceCtorEq, Nat.reduceDiv, Nat.reduceLeDiff, Nat.reduceLT, Nat.reduceSub, cs_69, sidedV, hc']
    exact hV _ _ _ rfl rfl

theorem bestOf_mem_lt {l : List Order} (hv : Valid l) (s : Int) : ∀ b ∈ (bestOf l s).1, b < 1024 := fun b hb => by
  have inv := bestGo_spec (fun b => canB l s (listed b l.length)) (fun b => (listed b l.length).length) (List.range (2 ^ l.length)) [] [] 0 ⟨by simp, .inl rfl, by simp⟩
  have := ((inv.mem b).1 hb).1
  rw [List.nil_append, List.mem_range] at this
  have h2 : 2 ^ l.length ≤ 2 ^ 10 := Nat.pow_le_pow_right (by omega) hv.len
  have h3 : (2 : Nat) ^ 10 = 1024 := by decide
  omega

theorem con_45 (l : List Order) (s o : Int) (hl : l.length ≤ 15) (hbl : (bestOf l s).1.length ≤ 100000) : Con T 6 45 [ords l, .int .i64 s, .int .i64 o] (.tuple [.int .i64 (refKind l s o).1, .int .i64 (refKind l s o).2]) := by
  refine con_intro t45 fun n hn V hV => ?_
  replace hV : ∀ a b h, a = (refKind l s o).1 → b = (refKind l s o).2 → V (.tuple [.int .i64 a, .int .i64 b], h) := fun a b h e1 e2 => hV _ _ (by rw [e1, e2]; exact frz_two (frz_int _ _ _ _) (frz_int _ _ _ _))
  unfold refKind at hV
  by_cases hc : chkSide l s = 0
  · have hc' : (chkSide l s != 0) = false := by simp [hc]
    obtain ⟨hval, hs⟩ := (chkSide_zero l s).1 hc
    rw [if_neg (by omega)] at hV
    by_cases ho1 : o < 0
    · rw [if_pos (.inl ho1)] at hV
      simp (disch := first | assumption | omega) only [c45, go_sem, ↓reduceIte, reduceIte, Nat.reduceEqDiff, Nat.reduceAdd, Nat.reduceMul, reduceCtorEq, Nat.reduceDiv, Nat.reduceLeDiff, Nat.reduceLT, Nat.reduceSub, cs_71, hc', ho1]
      exact hV _ _ _ rfl rfl
    by_cases ho2 : o ≥ (l.length : Int)
    · rw [if_pos (.inr ho2)] at hV
      simp (disch := first | assumption | omega) only [c45, go_sem, ↓reduceIte, reduceIte, Nat.reduceEqDiff, Nat.reduceAdd, Nat.reduceMul, reduceCtorEq, Nat.reduceDiv, Nat.reduceLeDiff, Nat.reduceLT, Nat.reduceSub, cs_71, hc', ho1, ho2]
      exact hV _ _ _ rfl rfl
    rw [if_neg (by omega)] at hV
    obtain ⟨q, rfl⟩ := Int.eq_ofNat_of_zero_le (show 0 ≤ o by omega)
    obtain ⟨_, hne, hsp⟩ := best_spec hval s
    obtain ⟨hs1, hs2⟩ := hsp q (by omega)
    have hblt := bestOf_mem_lt hval s
    have hlv := hval.len
    have hq63 : q ≤ 63 := by omega
    simp (disch := first | assumption | omega) only [c45, go_sem, ↓reduceIte, reduceIte, Nat.reduceEqDiff, Nat.reduceAdd, Nat.reduceMul, reduceCtorEq, Nat.reduceDiv, Nat.reduceLeDiff, Nat.reduceLT, Nat.reduceSub, cs_71, hc', ho1, ho2, cs_80, bestV]
    generalize (bestOf l s).1 = out at *
    rw [← cntB_all] at hs1
    rw [← cntB_ex] at hs2
    have hout0 : 0 < out.length := List.length_pos_iff.2 hne
    have hcle := cntB_le q out
    refine m_loop (fun M st => ∃ (k c : Nat), M = out.length - k ∧ k ≤ out.length ∧ c ≤ k ∧ At st.env [(2, .int .i64 q), (8, ints (out.map fun b : Nat => (b : Int))), (10, .int .i64 c), (11, .int .i64 k)] ∧ c + cntB (out.drop k) q = cntB out q) out.length (by omega)
      ⟨0, 0, by simp, by omega, by omega, by simp [go_sem, ↓reduceIte, reduceIte, Nat.reduceEqDiff, Nat.reduceAdd, Nat.reduceMul, reduceCtorEq, Nat.reduceDiv, Nat.reduceLeDiff, Nat.reduceLT, Nat.reduceSub], by simp⟩ ?_
    rintro M e h hM ⟨k, c, rfl, hk, hck, hE, hcnt⟩ P hP
    simp only [At_cons, At_nil] at hE
    obtain ⟨h2, h8, h10, h11, -⟩ := hE
    by_cases hlt : k < out.length
    · obtain ⟨b, hb⟩ := get_ex hlt
      have hblt' := hblt b (List.mem_of_getElem? hb)
      have hb62 : b < 4611686018427387904 := by omega
      have hbq : b / 2 ^ q < 4611686018427387904 := Nat.lt_of_le_of_lt (Nat.div_le_self _ _) hb62
      have hm2 : b / 2 ^ q % 2 ≤ 1 := by omega
      rw [drop_cons hb] at hcnt
      have hcc : cntB (b :: out.drop (k + 1)) q = b / 2 ^ q % 2 + cntB (out.drop (k + 1)) q := by simp [cntB]
      rw [hcc] at hcnt
      simp (disch := first | assumption | omega) only [go_sem, ↓reduceIte, reduceIte, Nat.reduceEqDiff, Nat.reduceAdd, Nat.reduceMul, reduceCtorEq, Nat.reduceDiv, Nat.reduceLeDiff, Nat.reduceLT, Nat.reduceSub, h2, h8, h10, h11, hlt, hb, b_shr_nat, b_and1]
      exact hP (out.length - (k + 1)) _ (by omega) ⟨k + 1, c + b / 2 ^ q % 2, rfl, by omega, by omega, by simp only [go_sem, ↓reduceIte, reduceIte, Nat.reduceEqDiff, Nat.reduceAdd, Nat.reduceMul, reduceCtorEq, Nat.reduceDiv, Nat.reduceLeDiff, Nat.reduceLT, Nat.reduceSub, h2, h8], by omega⟩
    · rw [List.drop_eq_nil_of_le (by omega)] at hcnt
      have hcc : c = cntB out q := by simpa [cntB] using hcnt
      unfold kindOne at hV
      by_cases g1 : c = out.length
      · have g1' : ((c : Int) == out.length) = true := by simp [g1]
        simp (disch := first | assumption | omega) only [go_sem, ↓reduceIte, reduceIte, Nat.reduceEqDiff, Nat.reduceAdd, Nat.reduceMul, reduceCtorEq, Nat.reduceDiv, Nat.reduceLeDiff, Nat.reduceLT, Nat.reduceSub, h2, h8, h10, h11, hlt, g1']
        exact hV _ _ _ (by rw [if_pos (hs1.2 (by omega))]) rfl
      · have g1' : ((c : Int) == out.length) = false := by rw [beq_eq_false_iff_ne]; omega
        have hn1 : ¬ mostOf l s (-1) q < mostOf l s (-1) (-1) := fun h => g1 (by have := hs1.1 h; omega)
        rw [if_neg hn1] at hV
        by_cases g2 : (1 : Int) < c
        · simp (disch := first | assumption | omega) only [go_sem, ↓reduceIte, reduceIte, Nat.reduceEqDiff, Nat.reduceAdd, Nat.reduceMul, reduceCtorEq, Nat.reduceDiv, Nat.reduceLeDiff, Nat.reduceLT, Nat.reduceSub, h2, h8, h10, h11, hlt, g1', g2]
          exact hV _ _ _ (by rw [if_pos (hs2.2 (by omega))]) rfl
        · simp (disch := first | assumption | omega) only [go_sem, ↓reduceIte, reduceIte, Nat.reduceEqDiff, Nat.reduceAdd, Nat.reduceMul, reduceCtorEq, Nat.reduceDiv, Nat.reduceLeDiff, Nat.reduceLT, Nat.reduceSub, h2, h8, h10, h11, hlt, g1', g2]
          by_cases g3 : c = 0
          · exact hV _ _ _ (by rw [if_neg (fun h => by have := hs2.1 h; omega)]; omega) rfl
          · exact hV _ _ _ (by rw [if_pos (hs2.2 (by omega))]; omega) rfl
  · have hc' : (chkSide l s != 0) = true := by simp [hc]
    rw [if_pos hc] at hV
    simp (disch := first | assumption | omega) only [c45, go_sem, ↓reduceIte, reduceIte, Nat.reduceEqDiff, Nat.reduceAdd, Nat.reduceMul, reduceCtorEq, Nat.reduceDiv, Nat.reduceLeDiff, Nat.reduceLT, Nat.reduceSub, cs_71, hc']
    exact hV _ _ _ rfl rfl

end Go.Ev.YtadneamkkepknaaC
