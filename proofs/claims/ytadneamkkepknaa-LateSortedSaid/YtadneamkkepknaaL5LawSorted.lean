/- The law LateSorted answers true, whatever it is handed. Conditions: the arguments are integers that fit their kinds, and lists no longer than memory allows. -/
import Derived.Test.YtadneamkkepknaaL5LawFewest
set_option linter.unusedSimpArgs false
set_option linter.unusedVariables false
namespace Go.Ev.YtadneamkkepknaaC
open Go Go.Proofs

/-! ### what the kinds say of the kept orders -/
theorem allowed_kept {l : List Order} (hv : Valid l) (s wi wo : Int) (h1 : wi ∈ seqOf l → wi ∈ keptOf l s) (h2 : wo ∉ keptOf l s) : Allowed l (side l s) wi wo (seqOf l) (keptOf l s) :=
  ⟨(kept_best hv s).1, (kept_best hv s).2.1, h1, h2⟩
theorem most_le {l : List Order} (hv : Valid l) (s wi wo : Int) (hne : wi = wo → wi ∉ seqOf l) : mostOf l s wi wo ≤ (keptOf l s).length := by
  rcases mostOf_spec hv s wi wo hne with ⟨h, _⟩ | ⟨m, h, ⟨T, t1, t2⟩, _⟩
  · omega
  · have := (kept_best hv s).2.2 T t1.1 t1.2.1
    omega
theorem most_ge {l : List Order} (hv : Valid l) (s wi wo : Int) (hne : wi = wo → wi ∉ seqOf l) {T : List Int} (hT : Allowed l (side l s) wi wo (seqOf l) T) : (T.length : Int) ≤ mostOf l s wi wo := by
  rcases mostOf_spec hv s wi wo hne with ⟨_, h⟩ | ⟨m, h, _, h2⟩
  · exact (h T hT).elim
  · have := h2 T hT
    omega
structure KindOk (l : List Order) (s : Int) (i : Nat) (k : Int) : Prop where
  rng : k = 0 ∨ k = 1 ∨ k = 2
  alw : k = 2 → (i : Int) ∈ keptL l s
  nev : k = 0 → (i : Int) ∉ keptL l s
  all : (l.length : Int) - (keptOf l s).length = 0 → k = 2
  alone : chkKept l s [(i : Int)] = 0 ∨ (chkKept l s [(i : Int)] = 12 ∧ k = 0)

theorem kind_ok {l : List Order} (hv : Valid l) {s : Int} (hs : s = 0 ∨ s = 1) {i : Nat} (hi : i < l.length) : KindOk l s i (kindOne l s i) := by
  have hm := most_kept hv s
  have hiS : (i : Int) ∈ seqOf l := seqOf_mem.2 (by omega)
  have n1 : (-1 : Int) = (i : Int) → (-1 : Int) ∉ seqOf l := fun h => by omega
  have n2 : (i : Int) = -1 → (i : Int) ∉ seqOf l := fun h => by omega
  have hneg := neg_notin' l
  have hnegk : (-1 : Int) ∉ keptOf l s := fun h => hneg ((kept_best hv s).1.subset h)
  have a1 : (i : Int) ∉ keptOf l s → mostOf l s (-1) i = (keptOf l s).length := fun h => by
    have h1 := most_ge hv s (-1) i n1 (allowed_kept hv s (-1) i (fun h => (hneg h).elim) h)
    have h2 := most_le hv s (-1) i n1
    omega
  have a2 : (i : Int) ∈ keptOf l s → mostOf l s i (-1) = (keptOf l s).length := fun h => by
    have h1 := most_ge hv s i (-1) n2 (allowed_kept hv s i (-1) (fun _ => h) hnegk)
    have h2 := most_le hv s i (-1) n2
    omega
  have alw : kindOne l s i = 2 → (i : Int) ∈ keptOf l s := fun h => by
    apply Classical.byContradiction
    intro hno
    have h1 := a1 hno
    unfold kindOne at h
    rw [h1, hm, if_neg (by omega)] at h
    split at h <;> omega
  refine ⟨?_, fun h => (keptL_mem hv s _).2 (alw h), fun h hk => ?_, fun h => ?_, ?_⟩
  · unfold kindOne
    split
    · simp
    · split <;> simp
  · have h1 := a2 ((keptL_mem hv s _).1 hk)
    unfold kindOne at h
    rw [h1, hm, if_pos rfl] at h
    split at h <;> omega
  · unfold kindOne
    rw [hm, if_pos]
    rcases mostOf_spec hv s (-1) i n1 with ⟨h1, _⟩ | ⟨m, h1, ⟨T, t1, t2⟩, _⟩
    · omega
    · have h2 := t1.1.length_le
      rw [seqOf_length] at h2
      rcases Nat.lt_or_ge m l.length with h3 | h3
      · omega
      · exfalso
        have h4 : T = seqOf l := t1.1.eq_of_length_le (by rw [seqOf_length]; omega)
        exact t1.2.2.2 (h4 ▸ hiS)
  · have hinc : incGo l.length 0 [(i : Int)] = true := by simp [incGo]; omega
    rcases chkKept_inc hv hs hinc with ⟨h, _⟩ | ⟨h, hf⟩
    · exact .inl h
    · refine .inr ⟨h, ?_⟩
      have hnk : (i : Int) ∉ keptOf l s := fun hk => hf ((keptOf_facts hv s).2.2.sub (side_pos hv s) (List.singleton_sublist.2 hk))
      have h2 : mostOf l s i (-1) = -1 := by
        rcases mostOf_spec hv s i (-1) n2 with ⟨h1, _⟩ | ⟨m, h1, ⟨T, t1, t2⟩, _⟩
        · exact h1
        · exact (hf ((feas_any (side_pos hv s) t1.2.1).sub (side_pos hv s) (List.singleton_sublist.2 (t1.2.2.1 hiS)))).elim
      unfold kindOne
      rw [a1 hnk, h2, hm, if_neg (by omega), if_neg (by omega)]

theorem refKind_ok {l : List Order} (hv : Valid l) {s : Int} (hs : s = 0 ∨ s = 1) {i : Nat} (hi : i < l.length) : refKind l s i = (kindOne l s i, 0) := by
  rw [refKind, if_neg (by rw [(chkSide_zero l s).2 ⟨hv, hs⟩]; omega), if_neg (by omega)]

attribute [local irreducible] Res.all evC evLoop evOps evOper evOp evFn evCall freeze G GO GV GP GC R
set_option maxRecDepth 100000

theorem con_54 (xs : List Int) : Con T 1 54 [ints xs] (ints xs) := by
  refine con_intro t54 fun n hn V hV => ?_
  simp (disch := first | assumption | omega) only [c54, go_sem, ↓reduceIte, reduceIte, Nat.reduceEqDiff, Nat.reduceAdd, Nat.reduceMul, reduceCtorEq, Nat.reduceDiv, Nat.reduceLeDiff, Nat.reduceLT, Nat.reduceSub]
  exact hV _ _ (frz_slice _ _ _ _ _)
theorem cs_54 {n base : Nat} {Q : EX × St → Prop} {d : Option Nat} {L : List IOper} {ks : List Kont} {e : Env} {h : Heap} {k : Int} {x : Bool} (hn : 1 ≤ n) : GP (evCall T n) base Q d L ks e (evCall T n false (.fn 54) [.slice none [.int .i64 k] x] h) = GO (evCall T n) base Q L ks ⟨setDst e d (ints [k]), h⟩ :=
  gp_eq (con_54 [k]) hn (by repeat (first | exact fz_nil _ | refine fz_slice _ _ _ _ ?_ | refine fz_int _ _ _ ?_)) rfl

theorem lateSorted_at (n40 : Nat) (hn : n40 = 40) (l : List Order) (sd : Int) (_ : ∀ a ∈ l, OWf a) (hlm : l.length ≤ maxLen) (hsw : (Lit.int .u8 sd).wf = true) :
    (evFn (evCall T n40) c15 [ords l, .int .u8 sd] []).all fun p => p.1 = .bool true := by
  rw [m_fn]
  by_cases hc : chk l = 0
  case neg => simp (disch := first | assumption | omega) only [c15, go_sem, ↓reduceIte, reduceIte, Nat.reduceEqDiff, Nat.reduceAdd, Nat.reduceMul, reduceCtorEq, Nat.reduceDiv, Nat.reduceLeDiff, Nat.reduceLT, Nat.reduceSub, cs_46, hc, cs_18']
  have hv := (chk_zero l).1 hc
  have hl : l.length ≤ 15 := Nat.le_trans hv.len (by omega)
  by_cases h8 : 8 < l.length
  · have hd8 : decide (8 < l.length ∧ True) = true := by simp [h8]
    simp (disch := first | assumption | omega) only [c15, go_sem, ↓reduceIte, reduceIte, Nat.reduceEqDiff, Nat.reduceAdd, Nat.reduceMul, reduceCtorEq, Nat.reduceDiv, Nat.reduceLeDiff, Nat.reduceLT, Nat.reduceSub, cs_46, hc, cs_41, hd8, cs_18', h8]
  have hd8 : decide (8 < l.length ∧ True) = false := by simp [h8]
  have b1 := bounds_u8 hsw
  obtain ⟨sn, rfl⟩ := Int.eq_ofNat_of_zero_le b1.1
  have hs2 : sn % 2 < 2 := Nat.mod_lt _ (by omega)
  have hs : ((sn % 2 : Nat) : Int) = 0 ∨ ((sn % 2 : Nat) : Int) = 1 := by omega
  generalize hsn : sn % 2 = s at *
  have e1 := refKept_ok hv hs
  have e2 := refFewest_ok hv hs
  have hk15 : (keptL l (s : Int)).length ≤ 15 := by have := keptL_len hv (s : Int); have := kept_le hv (s : Int); omega
  have hkinds : ∀ i : Nat, i < l.length → KindOk l s i (kindOne l s i) ∧ refKind l s i = (kindOne l s i, 0) := fun i hi => ⟨kind_ok hv hs hi, refKind_ok hv hs hi⟩
  simp (disch := first | assumption | omega) only [c15, go_sem, ↓reduceIte, reduceIte, Nat.reduceEqDiff, Nat.reduceAdd, Nat.reduceMul, reduceCtorEq, Nat.reduceDiv, Nat.reduceLeDiff, Nat.reduceLT, Nat.reduceSub, cs_46, hc, cs_41, hd8, h8, b_rem2, hsn, cs_37, e1]
  simp (disch := first | assumption | omega) only [cs_42, e2]
  simp (disch := first | assumption | omega) only [go_sem, ↓reduceIte, reduceIte, Nat.reduceEqDiff, Nat.reduceAdd, Nat.reduceMul, reduceCtorEq, Nat.reduceDiv, Nat.reduceLeDiff, Nat.reduceLT, Nat.reduceSub, bne_self_eq_false]
  refine m_loop (fun M st => ∃ (k : Nat), M = l.length - k ∧ k ≤ l.length ∧ At st.env [(0, ords l), (5, .int .i64 s), (6, ints (keptL l s)), (8, .int .i64 ((l.length : Int) - (keptOf l s).length)), (10, .int .i64 k)]) l.length (by omega)
    ⟨0, by simp, by omega, by simp only [go_sem, ↓reduceIte, reduceIte, Nat.reduceEqDiff, Nat.reduceAdd, Nat.reduceMul, reduceCtorEq, Nat.reduceDiv, Nat.reduceLeDiff, Nat.reduceLT, Nat.reduceSub]⟩ ?_
  rintro M e h hM ⟨k, rfl, hk, hE⟩ P hP
  simp only [At_cons, At_nil] at hE
  obtain ⟨r0, r5, r6, r8, r10, -⟩ := hE
  by_cases hlt : k < l.length
  · obtain ⟨hok, hrk⟩ := hkinds k hlt
    have hpm := place_mem (keptL l (s : Int)) k
    generalize kindOne l (s : Int) (k : Int) = kd at *
    simp (disch := first | assumption | omega) only [go_sem, ↓reduceIte, reduceIte, Nat.reduceEqDiff, Nat.reduceAdd, Nat.reduceMul, reduceCtorEq, Nat.reduceDiv, Nat.reduceLeDiff, Nat.reduceLT, Nat.reduceSub, r0, r5, r6, r8, r10, hlt]
    simp (disch := first | assumption | omega) only [cs_44, hrk]
    simp (disch := first | assumption | omega) only [go_sem, ↓reduceIte, reduceIte, Nat.reduceEqDiff, Nat.reduceAdd, Nat.reduceMul, reduceCtorEq, Nat.reduceDiv, Nat.reduceLeDiff, Nat.reduceLT, Nat.reduceSub, r0, r5, r6, r8, r10]
    simp (disch := first | assumption | omega) only [cs_53]
    have s0 : ¬ (0 : Int) < 0 := by omega
    have s1 : ¬ (1 : Int) < 0 := by omega
    have s2 : ¬ (2 : Int) < 0 := by omega
    have u0 : ¬ (0 : Int) > 2 := by omega
    have u1 : ¬ (1 : Int) > 2 := by omega
    have u2 : ¬ (2 : Int) > 2 := by omega
    have r20 : ((2 : Int) == 0) = false := rfl
    have r02 : ((0 : Int) == 2) = false := rfl
    have r10' : ((1 : Int) == 0) = false := rfl
    have r12 : ((1 : Int) == 2) = false := rfl
    have w20 : ((2 : Int) != 0) = true := rfl
    have w02 : ((0 : Int) != 2) = true := rfl
    have w10 : ((1 : Int) != 0) = true := rfl
    have w12 : ((1 : Int) != 2) = true := rfl
    have z12 : ((12 : Int) != 0) = true := rfl
    have fin : ∀ e : Env, At e [(0, ords l), (5, .int .i64 s), (6, ints (keptL l s)), (8, .int .i64 ((l.length : Int) - (keptOf l s).length)), (10, .int .i64 ((k : Int) + 1))] → P ⟨e, h⟩ := fun e he => hP (l.length - (k + 1)) _ (by omega) ⟨k + 1, rfl, by omega, he⟩
    apply go_join (call := evCall T n40) (base := 0) (Q := Fin [.tmp 4] fun p => p.1 = .bool true) fun e h' => h' = h ∧ At e [(0, ords l), (5, .int .i64 s), (6, ints (keptL l s)), (8, .int .i64 ((l.length : Int) - (keptOf l s).length)), (10, .int .i64 k), (11, .int .i64 kd), (94, ords l), (95, .int .i64 s), (98, ints [(k : Int)])]
    case main =>
      intro key
      rcases hok.rng with rfl | rfl | rfl
      · have hin : ¬ place (keptL l (s : Int)) k ≥ 0 := fun h => hok.nev rfl (hpm.1 h)
        have hne : ((l.length : Int) - (keptOf l (s : Int)).length == 0) = false := by rw [beq_eq_false_iff_ne]; intro h; have := hok.all h; omega
        simp (disch := first | assumption | omega) only [go_sem, ↓reduceIte, reduceIte, Nat.reduceEqDiff, Nat.reduceAdd, Nat.reduceMul, reduceCtorEq, Nat.reduceDiv, Nat.reduceLeDiff, Nat.reduceLT, Nat.reduceSub, r0, r5, r6, r8, r10, hin, hne, s0, u0, r02, beq_self_eq_true, bne_self_eq_false]
        simp (disch := first | assumption | omega) only [cs_54]
        apply key
        exact ⟨rfl, by simp only [go_sem, ↓reduceIte, reduceIte, Nat.reduceEqDiff, Nat.reduceAdd, Nat.reduceMul, reduceCtorEq, Nat.reduceDiv, Nat.reduceLeDiff, Nat.reduceLT, Nat.reduceSub, r0, r5, r6, r8, r10]⟩
      · have hne : ((l.length : Int) - (keptOf l (s : Int)).length == 0) = false := by rw [beq_eq_false_iff_ne]; intro h; have := hok.all h; omega
        by_cases hin : place (keptL l (s : Int)) k ≥ 0
        · simp (disch := first | assumption | omega) only [go_sem, ↓reduceIte, reduceIte, Nat.reduceEqDiff, Nat.reduceAdd, Nat.reduceMul, reduceCtorEq, Nat.reduceDiv, Nat.reduceLeDiff, Nat.reduceLT, Nat.reduceSub, r0, r5, r6, r8, r10, hin, hne, s1, u1, r10', r12, beq_self_eq_true, bne_self_eq_false]
          simp (disch := first | assumption | omega) only [cs_54]
          apply key
          exact ⟨rfl, by simp only [go_sem, ↓reduceIte, reduceIte, Nat.reduceEqDiff, Nat.reduceAdd, Nat.reduceMul, reduceCtorEq, Nat.reduceDiv, Nat.reduceLeDiff, Nat.reduceLT, Nat.reduceSub, r0, r5, r6, r8, r10]⟩
        · simp (disch := first | assumption | omega) only [go_sem, ↓reduceIte, reduceIte, Nat.reduceEqDiff, Nat.reduceAdd, Nat.reduceMul, reduceCtorEq, Nat.reduceDiv, Nat.reduceLeDiff, Nat.reduceLT, Nat.reduceSub, r0, r5, r6, r8, r10, hin, hne, s1, u1, r10', r12, beq_self_eq_true, bne_self_eq_false]
          simp (disch := first | assumption | omega) only [cs_54]
          apply key
          exact ⟨rfl, by simp only [go_sem, ↓reduceIte, reduceIte, Nat.reduceEqDiff, Nat.reduceAdd, Nat.reduceMul, reduceCtorEq, Nat.reduceDiv, Nat.reduceLeDiff, Nat.reduceLT, Nat.reduceSub, r0, r5, r6, r8, r10]⟩
      · have hin : place (keptL l (s : Int)) k ≥ 0 := hpm.2 (hok.alw rfl)
        by_cases hne : ((l.length : Int) - (keptOf l (s : Int)).length == 0) = true
        · simp (disch := first | assumption | omega) only [go_sem, ↓reduceIte, reduceIte, Nat.reduceEqDiff, Nat.reduceAdd, Nat.reduceMul, reduceCtorEq, Nat.reduceDiv, Nat.reduceLeDiff, Nat.reduceLT, Nat.reduceSub, r0, r5, r6, r8, r10, hin, hne, s2, u2, r20, beq_self_eq_true, bne_self_eq_false]
          simp (disch := first | assumption | omega) only [cs_54]
          apply key
          exact ⟨rfl, by simp only [go_sem, ↓reduceIte, reduceIte, Nat.reduceEqDiff, Nat.reduceAdd, Nat.reduceMul, reduceCtorEq, Nat.reduceDiv, Nat.reduceLeDiff, Nat.reduceLT, Nat.reduceSub, r0, r5, r6, r8, r10]⟩
        · have hne : ((l.length : Int) - (keptOf l (s : Int)).length == 0) = false := by simpa using hne
          simp (disch := first | assumption | omega) only [go_sem, ↓reduceIte, reduceIte, Nat.reduceEqDiff, Nat.reduceAdd, Nat.reduceMul, reduceCtorEq, Nat.reduceDiv, Nat.reduceLeDiff, Nat.reduceLT, Nat.reduceSub, r0, r5, r6, r8, r10, hin, hne, s2, u2, r20, beq_self_eq_true, bne_self_eq_false]
          simp (disch := first | assumption | omega) only [cs_54]
          apply key
          exact ⟨rfl, by simp only [go_sem, ↓reduceIte, reduceIte, Nat.reduceEqDiff, Nat.reduceAdd, Nat.reduceMul, reduceCtorEq, Nat.reduceDiv, Nat.reduceLeDiff, Nat.reduceLT, Nat.reduceSub, r0, r5, r6, r8, r10]⟩
    case key =>
      rintro e _ ⟨rfl, hE⟩
      simp only [At_cons, At_nil] at hE
      obtain ⟨r0, r5, r6, r8, r10, r11, r94, r95, r98, -⟩ := hE
      have h1 : [(k : Int)].length ≤ 15 := by simp
      simp (disch := first | assumption | omega) only [go_sem, ↓reduceIte, reduceIte, Nat.reduceEqDiff, Nat.reduceAdd, Nat.reduceMul, reduceCtorEq, Nat.reduceDiv, Nat.reduceLeDiff, Nat.reduceLT, Nat.reduceSub, r0, r5, r6, r8, r10, r11, r94, r95, r98]
      refine gp_con (con_39 l s [(k : Int)] hl h1) (by omega) (fz_slice _ _ _ _ (fz_int _ _ _ (fz_slice _ _ _ _ (fz_nil _)))) (or_plain rfl) ?_
      rcases hok.alone with h2 | ⟨h2, rfl⟩
      · simp (disch := first | assumption | omega) only [go_sem, ↓reduceIte, reduceIte, Nat.reduceEqDiff, Nat.reduceAdd, Nat.reduceMul, reduceCtorEq, Nat.reduceDiv, Nat.reduceLeDiff, Nat.reduceLT, Nat.reduceSub, h2, r0, r5, r6, r8, r10, r11, r98, bne_self_eq_false]
        exact fin _ (by simp only [go_sem, ↓reduceIte, reduceIte, Nat.reduceEqDiff, Nat.reduceAdd, Nat.reduceMul, reduceCtorEq, Nat.reduceDiv, Nat.reduceLeDiff, Nat.reduceLT, Nat.reduceSub, r0, r5, r6, r8, r10])
      · simp (disch := first | assumption | omega) only [go_sem, ↓reduceIte, reduceIte, Nat.reduceEqDiff, Nat.reduceAdd, Nat.reduceMul, reduceCtorEq, Nat.reduceDiv, Nat.reduceLeDiff, Nat.reduceLT, Nat.reduceSub, h2, r0, r5, r6, r8, r10, r11, r98, bne_self_eq_false, z12]
        exact fin _ (by simp only [go_sem, ↓reduceIte, reduceIte, Nat.reduceEqDiff, Nat.reduceAdd, Nat.reduceMul, reduceCtorEq, Nat.reduceDiv, Nat.reduceLeDiff, Nat.reduceLT, Nat.reduceSub, r0, r5, r6, r8, r10])
  · simp (disch := first | assumption | omega) only [go_sem, ↓reduceIte, reduceIte, Nat.reduceEqDiff, Nat.reduceAdd, Nat.reduceMul, reduceCtorEq, Nat.reduceDiv, Nat.reduceLeDiff, Nat.reduceLT, Nat.reduceSub, r0, r10, hlt, cs_18']

def lateSorted_n : Nat := 40
theorem lateSorted_ev (l : List Order) (sd : Int) (h1 : ∀ a ∈ l, OWf a) (h2 : l.length ≤ maxLen) (h3 : (Lit.int .u8 sd).wf = true) :
    (evFn (evCall T lateSorted_n) c15 [ords l, .int .u8 sd] []).all fun p => p.1 = .bool true := lateSorted_at _ rfl l sd h1 h2 h3

end Go.Ev.YtadneamkkepknaaC
