/- Which lists of slurs are tunes; the first tune is one; how many there are, with the first one, and the sum of the fewest plays, as a law asks. No condition but those that stand in each. -/
import Derived.Test.YtjcabpldgdafeaaEL4Trl
import Derived.Test.YtjcabpldgdafeaaEL4LawAgains
set_option linter.unusedSimpArgs false
set_option linter.unusedVariables false
namespace Go.Ev.YtjcabpldgdafeaaC
open Go Go.Proofs Go.Ev
attribute [local irreducible] Res.all evC evLoop evOps evOper evOp evFn evCall freeze G GO GV GP GC R
set_option maxRecDepth 100000
theorem gE_map (es : List Ed) (x : Int) : (es.map eI).getD x.toNat (0, 0) = eI (gE es x.toNat) := by
 unfold gE
 rw [List.getD_eq_getElem?_getD, List.getD_eq_getElem?_getD, List.getElem?_map]
 cases es[x.toNat]? <;> rfl
theorem chain_chE (es : List Ed) : ∀ (t : List Int) (a : Nat), (chainB (es.map eI) (a : Int) t = true ↔ chE a (t.map fun x => gE es x.toNat)) ∧ endI (es.map eI) (a : Int) t = (enE a (t.map fun x => gE es x.toNat) : Nat)
 | [], a => ⟨by simp [chainB, chE], rfl⟩
 | x :: t, a => by
  obtain ⟨h1, h2⟩ := chain_chE es t (gE es x.toNat).2
  have hf : frI (es.map eI) x = ((gE es x.toNat).1 : Int) := by rw [frI, gE_map]; rfl
  have ht : toI (es.map eI) x = ((gE es x.toNat).2 : Int) := by rw [toI, gE_map]; rfl
  rw [chainB, endI, hf, ht, List.map_cons]
  simp only [chE, enE, Bool.and_eq_true, decide_eq_true_eq, h1, h2]
  exact ⟨⟨fun h => ⟨by omega, h.2⟩, fun h => ⟨by omega, h.2⟩⟩, trivial⟩
theorem all_gE (es : List Ed) : (List.range es.length).map (gE es) = es := by
 apply List.ext_getElem
 ·simp
 ·intro i h1 h2
  simp [gE_get h2]
theorem idx_perm {m : Nat} {t : List Nat} (hn : t.Nodup) (hl : t.length = m) (hm : ∀ x ∈ t, x < m) : t.Perm (List.range m) := by
 refine (List.perm_ext_iff_of_nodup hn List.nodup_range).2 fun x => ⟨fun h => List.mem_range.2 (hm x h), fun hx => Classical.byContradiction fun hc => ?_⟩
 have h1 : (x :: t).Nodup := List.nodup_cons.2 ⟨hc, hn⟩
 have h2 := List.Nodup.length_le_of_subset h1 (l₂ := List.range m) fun y hy => by
  rcases List.mem_cons.1 hy with rfl | hy
  ·exact hx
  ·exact List.mem_range.2 (hm y hy)
 simp only [List.length_cons, List.length_range] at h2
 omega
theorem edge_perm {es : List Ed} {t : List Nat} (hn : t.Nodup) (hl : t.length = es.length) (hm : ∀ x ∈ t, x < es.length) : (t.map (gE es)).Perm es := by
 have := (idx_perm hn hl hm).map (gE es)
 rwa [all_gE] at this
theorem ck_trail {N : Nat} {es : List Ed} (hk : OkB N es) {t : List Int} (h : (ckT (bkN N es) t).2.2 = 0) : ∃ l : List Ed, es.Perm l ∧ ∃ a : Nat, ckT (bkN N es) t = ((a : Int), ((enE a l : Nat) : Int), 0) ∧ chE a l ∧ a < N := by
 have hb : (bkN N es).slurs = es.map eI := rfl
 unfold ckT at h ⊢
 rw [if_neg (by rw [ok_chk hk]; decide), hb] at h ⊢
 rw [List.length_map] at h ⊢
 by_cases c1 : t.length ≠ es.length
 ·rw [if_pos c1] at h; exact absurd h (by decide)
 rw [if_neg c1] at h ⊢
 by_cases c2 : inB (es.map eI) t = false
 ·rw [if_pos c2] at h; exact absurd h (by decide)
 rw [if_neg c2] at h ⊢
 by_cases c3 : ¬ t.Nodup
 ·rw [if_pos c3] at h; exact absurd h (by decide)
 rw [if_neg c3] at h ⊢
 by_cases c4 : chainB (es.map eI) (frI (es.map eI) (t.getD 0 0)) t = false
 ·rw [if_pos c4] at h; exact absurd h (by decide)
 rw [if_neg c4]
 have hin : ∀ x ∈ t, 0 ≤ x ∧ x < es.length := fun x hx => by
  have : inB (es.map eI) t = true := by simpa using c2
  have := List.all_eq_true.1 this x hx
  simpa using this
 have hn : (t.map Int.toNat).Nodup := by
  have c3' : t.Nodup := Classical.byContradiction c3
  clear c1 c2 c3 c4 h
  induction t with
  | nil => exact List.nodup_nil
  | cons x t ih =>
   rw [List.nodup_cons] at c3'
   rw [List.map_cons, List.nodup_cons]
   refine ⟨fun hm => ?_, ih (fun y hy => hin y (List.mem_cons_of_mem _ hy)) c3'.2⟩
   obtain ⟨y, hy, hyx⟩ := List.mem_map.1 hm
   have h1 := hin y (List.mem_cons_of_mem _ hy)
   have h2 := hin x List.mem_cons_self
   have : y = x := by omega
   exact c3'.1 (this ▸ hy)
 have hp := edge_perm hn (by rw [List.length_map]; omega) (es := es) fun x hx => by
  obtain ⟨y, hy, rfl⟩ := List.mem_map.1 hx
  have := hin y hy
  omega
 rw [List.map_map] at hp
 have hf : frI (es.map eI) (t.getD 0 0) = ((gE es (t.getD 0 0).toNat).1 : Int) := by rw [frI, gE_map]; rfl
 rw [hf] at c4 ⊢
 obtain ⟨k1, k2⟩ := chain_chE es t (gE es (t.getD 0 0).toNat).1
 have hlt : (t.getD 0 0).toNat < es.length := by
  have hpos : 0 < t.length := by have := List.length_pos_iff.2 hk.ne; omega
  have e : t.getD 0 0 = t[0] := by simp [List.getD, hpos]
  have := hin _ (List.getElem_mem hpos)
  rw [e]; omega
 exact ⟨t.map fun x => gE es x.toNat, (show es.Perm (t.map fun x => gE es x.toNat) from hp.symm), _, by rw [k2], k1.1 (by simpa using c4), (hk.lt _ (gE_mem hlt)).1⟩
theorem trail_ck {N : Nat} {es : List Ed} (hk : OkB N es) {t : List Nat} {a : Nat} (hn : t.Nodup) (hl : t.length = es.length) (hm : ∀ x ∈ t, x < es.length) (hc : chE a (t.map (gE es))) : ckT (bkN N es) (nI4 t) = ((a : Int), ((enE a (t.map (gE es)) : Nat) : Int), 0) := by
 have hb : (bkN N es).slurs = es.map eI := rfl
 have hmap : (nI4 t).map (fun x => gE es x.toNat) = t.map (gE es) := by unfold nI4; rw [List.map_map]; rfl
 obtain ⟨x, r, rfl⟩ : ∃ x r, t = x :: r := by
  cases t with
  | nil => exact absurd (List.length_eq_zero_iff.1 hl.symm) hk.ne
  | cons x r => exact ⟨x, r, rfl⟩
 have hfa : frI (es.map eI) ((nI4 (x :: r)).getD 0 0) = (a : Int) := by
  rw [frI, gE_map]
  have := hc.1
  show ((gE es x).1 : Int) = a
  rw [this]
 obtain ⟨k1, k2⟩ := chain_chE es (nI4 (x :: r)) a
 rw [hmap] at k1 k2
 have hin : inB (es.map eI) (nI4 (x :: r)) = true := List.all_eq_true.2 fun y hy => by
  obtain ⟨z, hz, rfl⟩ := List.mem_map.1 hy
  have := hm z hz
  simp
  exact this
 unfold ckT
 rw [if_neg (by rw [ok_chk hk]; decide), hb, List.length_map, if_neg (by rw [nI4_len]; omega), if_neg (by rw [hin]; decide), if_neg (by simpa using nI4_inj hn), hfa, if_neg (by rw [k1.2 hc]; decide), k2]
theorem tuR_ok {es : List Ed} : ∀ (k s : Nat) (a : Int) (out l : List Nat), SetOut es.length s out → out.Nodup → (∀ i ∈ out, i < es.length) → ((out = [] ∧ a < 0) ∨ ∃ b, chE b (out.map (gE es)) ∧ a = (enE b (out.map (gE es)) : Nat)) → out.length + k = es.length → tuR es k s a out = some l →
  l.Nodup ∧ l.length = es.length ∧ (∀ i ∈ l, i < es.length) ∧ ∃ b, chE b (l.map (gE es))
 | 0, s, a, out, l, hs, hn, hm, hJ, hl, h => by
  cases h
  refine ⟨hn, by omega, hm, ?_⟩
  rcases hJ with ⟨h0, _⟩ | ⟨b, hb, _⟩
  ·rw [h0]; exact ⟨0, trivial⟩
  ·exact ⟨b, hb⟩
 | k + 1, s, a, out, l, hs, hn, hm, hJ, hl, h => by
  rw [tuR] at h
  cases hf : (List.range es.length).find? (gdR es s a) with
  | none => rw [hf] at h; cases h
  | some i =>
   rw [hf] at h
   simp only at h
   rw [List.find?_range_eq_some] at hf
   have hi := List.mem_range.1 hf.2.1
   have hg := hf.1
   simp only [gdR, Bool.and_eq_true, Bool.or_eq_true, decide_eq_true_eq] at hg
   have hno : i ∉ out := fun hm => by
    have := hs i hi
    rw [hg.1] at this
    have hc : (nI4 out).contains (i : Int) = true := by simpa using mem_nI4.2 hm
    rw [hc] at this
    cases this
   refine tuR_ok k _ _ _ l (setOut_push hs i) ?_ ?_ ?_ (by rw [List.length_append, List.length_singleton]; omega) h
   ·rw [List.nodup_append]
    exact ⟨hn, by simp, fun x hx y hy => by
     rw [List.mem_singleton] at hy
     subst hy
     intro hxy
     exact hno (hxy ▸ hx)⟩
   ·intro j hj
    rcases List.mem_append.1 hj with hj | hj
    ·exact hm j hj
    ·rw [List.mem_singleton] at hj; rw [hj]; exact hi
   ·right
    rcases hJ with ⟨h0, _⟩ | ⟨b, hb, ha⟩
    ·rw [h0]
     exact ⟨(gE es i).1, ⟨rfl, trivial⟩, rfl⟩
    ·refine ⟨b, ?_, ?_⟩
     ·rw [List.map_append, chE_app]
      exact ⟨hb, by have := hg.2.1; simp only [List.map_cons, List.map_nil, chE, and_true]; omega⟩
     ·rw [List.map_append, enE_app]; rfl
noncomputable def tuL (es : List Ed) : List Nat := match tuR es es.length 0 (-1) [] with
 | none => []
 | some l => l
theorem tuL_ok {N : Nat} {es : List Ed} (hk : OkB N es) (h : strL N es ≠ []) : (tuL es).Nodup ∧ (tuL es).length = es.length ∧ (∀ i ∈ tuL es, i < es.length) ∧ ∃ b, chE b ((tuL es).map (gE es)) := by
 have h1 := tu_some hk h
 have h2 := tuR_ok es.length 0 (-1) [] _ (fun i _ => by simp [bitK, nI4]) List.nodup_nil (fun i hi => by cases hi) (.inl ⟨rfl, by omega⟩) (by simp) h1
 unfold tuL
 rw [h1]
 exact h2
theorem tuL_none {N : Nat} {es : List Ed} (hk : OkB N es) (h : strL N es = []) : tuL es = [] := by unfold tuL; rw [tu_none hk h]
theorem tuA_L (es : List Ed) {N : Nat} (hk : OkB N es) : tuA (tuR es es.length 0 (-1) []) = .tuple [ints (nI4 (tuL es)), .int .i64 (if strL N es = [] then 19 else 0)] := by
 unfold tuL
 by_cases h : strL N es = []
 ·rw [if_pos h, tu_none hk h]; rfl
 ·rw [if_neg h, tu_some hk h]; rfl
theorem enE_lt {N : Nat} : ∀ {l : List Ed} {a : Nat}, (∀ e ∈ l, e.2 < N) → a < N → enE a l < N
 | [], _, _, h => h
 | e :: l, _, h, _ => enE_lt (l := l) (fun f hf => h f (List.mem_cons_of_mem _ hf)) (h e List.mem_cons_self)
theorem ck_need {N : Nat} {es : List Ed} (hk : OkB N es) {t : List Int} (h : (ckT (bkN N es) t).2.2 = 0) : ∃ a r : Nat, a < N ∧ r < N ∧ ckT (bkN N es) t = ((a : Int), (r : Int), 0) ∧ a ∈ strL N es ∧ Hang es ∧ (∀ x, sur es x = (if a = x then 1 else 0) - if r = x then 1 else 0) := by
 obtain ⟨l, hp, a, h1, h2, h3⟩ := ck_trail hk h
 have hr : enE a l < N := enE_lt (fun e he => (hk.lt e (hp.mem_iff.2 he)).2) h3
 have h8 := hk.n8
 have ht := trl_of (enE a l) l a h2 rfl hp
 rw [← hp.length_eq] at ht
 obtain ⟨n1, n2, n3, n4⟩ := need hk.lt8 hk.ne (show a < 8 by omega) (by omega : trl (enE a l) es.length es a ≠ 0)
 refine ⟨a, enE a l, h3, hr, h1, (mem_strL hk.ne hk.n8 hk.lt).2 ⟨by omega, ?_⟩, n1, n3⟩
 rw [tw_sum hk.lt8 (by omega)]
 have := (sumC_nonneg (f := fun r => trl r es.length es a) (V := List.range 8) fun r _ => trl_nonneg r _ _ rfl).2 (enE a l) (List.mem_range.2 (by omega))
 omega
theorem fine_ok {b : Bk} (h : fineB b = true) : chkB b = 0 ∧ b.slurs.length ≤ 11 := by
 simp only [fineB, wideB, Bool.and_eq_true, Bool.not_eq_true', Bool.or_eq_false_iff, Bool.and_eq_false_iff, decide_eq_true_eq, decide_eq_false_iff_not] at h
 omega
theorem cnt_iff {N : Nat} {es : List Ed} (hk : OkB N es) : strL N es ≠ [] ↔ 0 < cntT es := by
 constructor
 ·exact cnt_some hk
 ·intro h h0; rw [cnt_none hk h0] at h; omega
theorem cnt_11 {N : Nat} {es : List Ed} (hk : OkB N es) (h11 : es.length ≤ 11) : 0 ≤ cntT es ∧ cntT es ≤ 40000000 := by
 have h1 := cnt_box hk.ne hk.lt8
 have h2 := fct11 h11
 exact ⟨cnt_nonneg es, by omega⟩
theorem ints_inj : ∀ {a b : List Int}, a.map (AV.int .i64) = b.map (.int .i64) → a = b
 | [], [], _ => rfl
 | [], _ :: _, h => by cases h
 | _ :: _, [], h => by cases h
 | x :: a, y :: b, h => by
  rw [List.map_cons, List.map_cons] at h
  injection h with h1 h2
  injection h1 with _ h1
  rw [h1, ints_inj h2]
set_option maxHeartbeats 1000000 in
theorem conF_counted {N : Nat} {es : List Ed} (hk : OkB N es) (h11 : es.length ≤ 11) : ConF T 21 42 [bkA (bkN N es)] (.tuple [.int .i64 (cntT es), ints (nI4 (tuL es)), .bool true]) := by
 refine conF_intro t42 fun n hn V hV => ?_
 have b0 : ((0 : Int) != 0) = false := rfl
 have e00 : ((0 : Int) == 0) = true := rfl
 have hle := hk.le
 have k1 := con_Count N es hk
 obtain ⟨c1, c2⟩ := cnt_11 hk h11
 have k3 := con_refTune (bkN N es) (nI4 (tuL es)) (by simp [bkN]; omega) (by
  rw [nI4_len]
  by_cases hs : strL N es = []
  ·rw [tuL_none hk hs]; simp
  ·have := (tuL_ok hk hs).2.1; omega)
 have h3 : 3 ≤ n := by omega
 unfold ckA at k3
 rw [bkN_A] at k1 k3 ⊢
 have z1 : ∀ {base : Nat} {Q : EX × St → Prop} {d : Option Nat} {L : List IOper} {ks : List Kont} {e : Env} {h : Heap} {x : Bool} {f k : Nat} {r : AV} (_ : Con T k f [.agg [.int .i64 (N : Int), eds es]] r) (_ : k ≤ n), GP (evCall T n) base Q d L ks e (evCall T n false (.fn f) [.agg [.int .i64 (N : Int), .slice (some 2) (es.map edA) x]] h) = GO (evCall T n) base Q L ks ⟨setDst e d r, h⟩ := fun hc hk => gp_eq hc hk (fz_cons (frz_agg (mz_cons (frz_int _ _ _ _) (mz_cons (frz_slice _ _ _ _ _) (mz_nil _ _)))) (fz_nil _)) rfl
 simp (disch := first | assumption | omega) only [c42, go_sem, ↓reduceIte, z1 k1 hn]
 refine gp_of (raw_Tune hk n hn _ fun v c h' l hl hO hF => ?_)
 rw [tuA_L es hk] at hl
 injection hl with hl
 injection hl with hl1 hl2
 injection hl2 with hl2 _
 injection hl2 with _ hc
 injection hl1 with _ hl1 _
 have hlt : nI4 (tuL es) = nI4 l := ints_inj hl1
 rw [← hlt] at hO
 subst hc
 have g1 : getH h' 1 = .cells 0 [.int .i64 N, eds es] := by
  rw [hF 1 (by simp [length_setH])]; simp only [go_sem, ↓reduceIte]
 have hlA := hO.lenA
 by_cases hs : strL N es = []
 ·have hcn := cnt_none hk hs
  have ht := tuL_none hk hs
  have hz : nI4 [] = [] := rfl
  rw [ht, hz] at hO hV k3 hlA
  rw [hcn] at hV
  have e19 : ((19 : Int) == 0) = false := rfl
  have b19 : ((19 : Int) != 0) = true := rfl
  have n19 : ((19 : Int) != 19) = false := rfl
  have d3 : decide ((0 : Int) < 0) = false := rfl
  have d4 : decide ((0 : Int) > 40000000) = false := rfl
  have d5 : decide ((0 : Int) > 0) = false := rfl
  have q1 : ((false == false) != true) = false := rfl
  simp (disch := first | assumption | omega) only [go_sem, ↓reduceIte, hcn, if_pos hs, b0, d3, d4, d5, e19, b19, n19, q1, hlA, List.length_nil, Int.natCast_zero, Int.ofNat_zero, g1]
  refine gp_con k3 h3 (fz_cons (frz_agg (mz_cons (frz_int _ _ _ _) (mz_cons (frz_slice _ _ _ _ _) (mz_nil _ _)))) (fz_cons (frz_Own hO) (fz_nil _))) (or_plain rfl) ?_
  simp (disch := first | assumption | omega) only [go_sem, ↓reduceIte, e00]
  exact hV _ _ (frz_three (frz_int _ _ _ _) (frz_Own hO) (frz_bool _ _ _)) (fresh_three (fresh_int _ _ _ _) (fresh_Own hO) (fresh_bool _ _ _))
 ·obtain ⟨t1, t2, t3, b, t4⟩ := tuL_ok hk hs
  have hck := trail_ck hk t1 t2 t3 t4
  rw [hck] at k3
  have hcp := cnt_some hk hs
  have d1 : decide (cntT es < 0) = false := by rw [decide_eq_false_iff_not]; omega
  have d2 : decide (cntT es > 40000000) = false := by rw [decide_eq_false_iff_not]; omega
  have d5 : decide (cntT es > 0) = true := by rw [decide_eq_true_eq]; exact hcp
  have d6 : (cntT es == 0) = false := by rw [beq_eq_false_iff_ne]; omega
  have q1 : ((true == true) != true) = false := rfl
  simp (disch := first | assumption | omega) only [go_sem, ↓reduceIte, if_neg hs, b0, d1, d2, d5, d6, q1, e00, g1]
  refine gp_con k3 h3 (fz_cons (frz_agg (mz_cons (frz_int _ _ _ _) (mz_cons (frz_slice _ _ _ _ _) (mz_nil _ _)))) (fz_cons (frz_Own hO) (fz_nil _))) (or_plain rfl) ?_
  simp (disch := first | assumption | omega) only [go_sem, ↓reduceIte, e00, d6]
  exact hV _ _ (frz_three (frz_int _ _ _ _) (frz_Own hO) (frz_bool _ _ _)) (fresh_three (fresh_int _ _ _ _) (fresh_Own hO) (fresh_bool _ _ _))
theorem con_counted {N : Nat} {es : List Ed} (hk : OkB N es) (h11 : es.length ≤ 11) : Con T 21 42 [bkA (bkN N es)] (.tuple [.int .i64 (cntT es), ints (nI4 (tuL es)), .bool true]) := (conF_counted hk h11).con
end Go.Ev.YtjcabpldgdafeaaC
