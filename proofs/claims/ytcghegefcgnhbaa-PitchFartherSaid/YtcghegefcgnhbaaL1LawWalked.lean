/- The law PitchWalked answers true, whatever it is handed. Conditions: the arguments are integers that fit their kinds, and lists no longer than memory allows. -/
import Derived.Test.YtcghegefcgnhbaaL1Walk2
set_option linter.unusedSimpArgs false
set_option linter.unusedVariables false
namespace Go.Ev.YtcghegefcgnhbaaC
open Go Go.Proofs

theorem pth_ok {x : Frac} (hx : OkI x) : pth x = (longsI (pathN x.num.toNat x.den.toNat), 0) := by
  unfold pth
  rw [if_neg (by rw [(chkI_zero x).2 hx]; simp)]
theorem OkI.turn {x : Frac} (hx : OkI x) : OkI ⟨x.den, x.num⟩ :=
  ⟨hx.d1, hx.d2, hx.n1, hx.n2, by have := hx.pr; unfold Prim at *; simp only; rw [Nat.gcd_comm]; exact this⟩
theorem nat_list {L : List Int} (h : ∀ n ∈ L, 0 ≤ n) : ∃ N : List Nat, L = longsI N := by
  refine ⟨L.map Int.toNat, ?_⟩
  unfold longsI
  rw [List.map_map]
  conv => lhs; rw [← List.map_id L]
  refine List.map_congr_left fun n hn => ?_
  have := h n hn
  simp; omega
/-- the path of an interval is accepted, and leads to it -/
theorem wlk_path {x : Frac} (hx : OkI x) : wlk (longsI (pathN x.num.toNat x.den.toNat)) = (x, 0) := by
  have g1 := hx.n1
  have g2 := hx.n2
  have g3 := hx.d1
  have g4 := hx.d2
  have hg := hx.pr
  unfold Prim at hg
  obtain ⟨po, pe⟩ := path_ok (u := x.num.toNat) (v := x.den.toNat) (by omega) (by omega) hg
  have pl := path_length (u := x.num.toNat) (v := x.den.toNat) (by omega)
  have ple := path_le (u := x.num.toNat) (v := x.den.toNat) (N := 10000) (by omega) (by omega)
  have pw := path_walk (u := x.num.toNat) (v := x.den.toNat) (by omega) (by omega) hg
  have ex : (⟨((x.num.toNat : Nat) : Int), ((x.den.toNat : Nat) : Int)⟩ : Frac) = x := Frac.ext' (by simp only; omega) (by simp only; omega)
  rw [ex] at pw
  generalize pathN x.num.toNat x.den.toNat = N at *
  have hb : ¬ badP (longsI N) := by
    rintro (⟨n, hn, hc⟩ | h | h)
    · obtain ⟨m, hm, rfl⟩ := List.mem_map.1 hn
      have := ple m hm
      omega
    · unfold longsI at h
      rw [← List.map_drop] at h
      obtain ⟨m, hm, hm0⟩ := List.mem_map.1 h
      match N, po, hm with
      | [n], _, hm => simp at hm
      | n :: b :: r, po, hm =>
        have := po m (by simpa using hm)
        omega
    · match N, po, h with
      | [n], po, h =>
        have hn : 0 < n := po
        simp [longsI] at h
        omega
      | [], _, h => simp [longsI] at h
      | n :: b :: r, _, h => simp [longsI] at h
  have hf : fitsW (longsI N) := by unfold fitsW; rw [pw]; exact ⟨g2, g4⟩
  rw [wErr_ok (by rw [longsI_length]; omega) hb hf, pw]
theorem pathOk_of : ∀ N : List Nat, (∀ m ∈ N.drop 1, 0 < m) → N ≠ [0] → pathOk N
  | [], _, _ => trivial
  | [n], _, h => Nat.pos_of_ne_zero fun h0 => h (by rw [h0])
  | _ :: _ :: _, h, _ => h
/-- what an accepted list leads to is an interval, and its path is the list -/
theorem wlk_back {L : List Int} (hl : L.length ≤ 40) (hb : ¬ badP L) (hf : fitsW L) : OkI (walkB 0 L wholeB).sum ∧ longsI (pathN (walkB 0 L wholeB).sum.num.toNat (walkB 0 L wholeB).sum.den.toNat) = L := by
  have hr := notBad_range hb
  obtain ⟨N, rfl⟩ := nat_list (fun n hn => (hr n hn).1)
  have po : pathOk N := pathOk_of N (fun m hm => Nat.pos_of_ne_zero fun h0 => hb (.inr (.inl (by
      unfold longsI
      rw [← List.map_drop]
      exact List.mem_map.2 ⟨m, hm, by rw [h0]; rfl⟩)))) (fun h0 => hb (.inr (.inr (by rw [h0]; rfl))))
  obtain ⟨u, v, hu, hv, hs, hpn⟩ := walk_path po
  have hpr := sum_prim (s := walkB 0 (longsI N) wholeB) (walkB_le _ _ _ wholeB_nn (fun n hn => (hr n hn).1)).2 (by rw [walkB_det]; simp [Bd.det, wholeB])
  obtain ⟨f1, f2⟩ := hf
  have e1 : (walkB 0 (longsI N) wholeB).sum.num = (u : Int) := by rw [hs]
  have e2 : (walkB 0 (longsI N) wholeB).sum.den = (v : Int) := by rw [hs]
  refine ⟨⟨by omega, f1, by omega, f2, hpr⟩, ?_⟩
  rw [e1, e2, Int.toNat_natCast, Int.toNat_natCast, hpn]

attribute [local irreducible] Res.all evC evLoop evOps evOper evOp evFn evCall freeze G GO GV GP GC R
set_option maxRecDepth 100000

theorem gp_appendX {call : Caller} {base : Nat} {Q : EX × St → Prop} {d : Option Nat} {L : List IOper} {ks : List Kont} {e : Env} {h : Heap} {b m kk : Nat} {y : AV} {k : IntKind} {l l2 : List Int} (hkk : kk = h.length) (hy : cellsOfSlice h y = some (none, m, l2.map (.int k))) (hm : m = l2.length) (hr : (l.length + m) * b ≤ 1099511627776)
    (H : ∀ v h', (∀ n, freeze h' (n + 2) v = .ret (.slice none ((l ++ l2).map (.int k)) false)) → (∀ j, j < h.length → getH h' j = getH h j) → h.length ≤ h'.length → GO call base Q L ks ⟨setDst e d v, h'⟩) :
    GP call base Q d L ks e (evAppend kk none b (.slice none (l.map (.int k)) true) y h) := by
  subst hkk hm
  have hroom := room_ok hr
  cases l2 with
  | nil =>
    have hroom0 : room l.length b = true := by simpa using hroom
    have : evAppend h.length none b (.slice none (l.map (.int k)) true) y h = .ret (.slice none (l.map (.int k)) true, h) := by
      simp only [evAppend, hy, List.length_map, List.length_nil, Nat.add_zero, hroom0, ne_eq, not_true_eq_false, if_false, Bool.true_eq_false, or_self, if_true]
    rw [this, gp_ret]
    exact H _ _ (fun n => by rw [List.append_nil]; exact frz_slice _ _ _ _ _) (fun _ _ => rfl) (Nat.le_refl _)
  | cons a l2 =>
    have h0 : ¬ (a :: l2).length = 0 := by simp
    have : evAppend h.length none b (.slice none (l.map (.int k)) true) y h = .ret (.oslice h.length (getH h h.length).next none 0 (l.length + (a :: l2).length) none, setH h h.length (.cells (getH h h.length).next ((l ++ (a :: l2)).map (.int k)))) := by
      simp only [evAppend, hy, List.length_map, hroom, ne_eq, not_true_eq_false, if_false, Bool.true_eq_false, or_self, h0, flat, List.map_append]
    rw [this, gp_ret]
    refine H _ _ (fun n => ?_) (fun j hj => getH_setH_ne _ _ _ _ (by omega)) (by rw [length_setH]; omega)
    exact frz_own (ver := (getH h h.length).next) (by simp) (by simp)

theorem raw_longs (l : List AV) (ex : Bool) {n : Nat} (h : Heap) (V : AV × Heap → Prop) (hV : ∀ h', (∀ j, j < h.length → getH h' j = getH h j) → h.length ≤ h'.length → V (.slice none l ex, h')) : (evCall T (n + 1) true (.fn 53) [.slice none l ex] h).all V := by
  rw [raw_enter t53]
  simp (disch := first | assumption | omega) only [c53, go_sem, ↓reduceIte, reduceIte, Nat.reduceEqDiff, Nat.reduceAdd, Nat.reduceMul, reduceCtorEq, Nat.reduceDiv, Nat.reduceLeDiff, Nat.reduceLT, Nat.reduceSub]
  exact hV _ (fun j hj => getH_append_none _ _ _) (by simp)

set_option maxHeartbeats 2000000 in
theorem pitchWalked_at (n0 : Nat) (hn : n0 = 20000) (x : Frac) (L : List Int) (_ : RWf x) : (evFn (evCall T n0) c13 [rAV x, longsV L] []).all fun p => p.1 = .bool true := by
  rw [m_fn]
  by_cases hc : chkI x = 0
  case neg =>
    have hc' : (chkI x == 0) = false := by simp [hc]
    simp (disch := first | assumption | omega) only [c13, go_sem, ↓reduceIte, reduceIte, Nat.reduceEqDiff, Nat.reduceAdd, Nat.reduceMul, reduceCtorEq, Nat.reduceDiv, Nat.reduceLeDiff, Nat.reduceLT, Nat.reduceSub, cs_fine, hc', cs_Works]
  have hc' : (chkI x == 0) = true := by simp [hc]
  by_cases g60 : (L.length : Int) > 60
  · simp (disch := first | assumption | omega) only [c13, go_sem, ↓reduceIte, reduceIte, Nat.reduceEqDiff, Nat.reduceAdd, Nat.reduceMul, reduceCtorEq, Nat.reduceDiv, Nat.reduceLeDiff, Nat.reduceLT, Nat.reduceSub, cs_fine, hc', g60, cs_Works]
  have hx := (chkI_zero x).1 hc
  have g1 := hx.n1
  have g2 := hx.n2
  have g3 := hx.d1
  have g4 := hx.d2
  have hg := hx.pr
  have hp := pth_ok hx
  obtain ⟨X, hX1, hX2⟩ : ∃ X : Frac, x.den = X.num ∧ x.num = X.den := ⟨⟨_, _⟩, rfl, rfl⟩
  have hXe : X = ⟨x.den, x.num⟩ := Frac.ext' hX1.symm hX2.symm
  have hq := pth_ok (hXe ▸ hx.turn)
  have hl1 := path_length (u := x.num.toNat) (v := x.den.toNat) (by omega)
  have hl2 := path_length (u := X.num.toNat) (v := X.den.toNat) (by omega)
  have hw1 := wlk_path hx
  have hLl := longsI_length (pathN x.num.toNat x.den.toNat)
  have hLl2 := longsI_length (pathN X.num.toNat X.den.toNat)
  have hxx : (x = x) = True := eq_self x
  rw [← hLl] at hl1
  rw [← hLl2] at hl2
  have hturn : (x = ⟨1, 1⟩ ∧ longsI (pathN x.num.toNat x.den.toNat) = [] ∧ longsI (pathN X.num.toNat X.den.toNat) = []) ∨
      (x ≠ ⟨1, 1⟩ ∧ longsI (pathN x.num.toNat x.den.toNat) = 0 :: longsI (pathN X.num.toNat X.den.toNat)) ∨ (x ≠ ⟨1, 1⟩ ∧ longsI (pathN x.num.toNat x.den.toNat) ≠ 0 :: longsI (pathN X.num.toNat X.den.toNat) ∧ longsI (pathN X.num.toNat X.den.toNat) = 0 :: longsI (pathN x.num.toNat x.den.toNat)) := by
    rw [← hX1, ← hX2]
    unfold Prim at hg
    rcases Nat.lt_trichotomy x.num.toNat x.den.toNat with h | h | h
    · right; left
      refine ⟨fun he => by rw [he] at h; simp at h, ?_⟩
      rw [path_turned (by omega) h]
      simp [longsI]
    · left
      rw [h, Nat.gcd_self] at hg
      have e1 : x.num = 1 := by omega
      have e2 : x.den = 1 := by omega
      refine ⟨Frac.ext' e1 e2, ?_, ?_⟩ <;> rw [e1, e2] <;> show longsI (pathN 1 1) = [] <;> rw [path_one] <;> rfl
    · right; right
      have e := path_turned (u := x.den.toNat) (v := x.num.toNat) (by omega) h
      refine ⟨fun he => by rw [he] at h; simp at h, ?_, by rw [e]; simp [longsI]⟩
      rw [e]
      intro hc
      have := congrArg List.length hc
      simp [longsI] at this
      omega
  generalize longsI (pathN x.num.toNat x.den.toNat) = p at *
  generalize longsI (pathN X.num.toNat X.den.toNat) = q at *
  have hlen40 : ¬ ((p.length : Int) > 40) := by omega
  obtain ⟨One, o1, o2, o3⟩ : ∃ One : Frac, 1 = One.num ∧ 1 = One.den ∧ One = ⟨1, 1⟩ := ⟨⟨1, 1⟩, rfl, rfl, rfl⟩
  rw [← o3] at hturn
  have cw : ∀ {base : Nat} {Q : EX × St → Prop} {d : Option Nat} {ops : List IOper} {ks : List Kont} {e : Env} {h : Heap} {b : Bool}, GP (evCall T n0) base Q d ops ks e (evCall T n0 false (.fn 39) [.slice none (p.map (.int .i64)) b] h) = GO (evCall T n0) base Q ops ks ⟨setDst e d (.tuple [rAV (wlk p).1, .int .i64 (wlk p).2]), h⟩ := cs_Walk (by omega)
  apply go_join (call := evCall T n0) (base := 0) (Q := Fin [.tmp 4] fun p => p.1 = .bool true) fun e h => At e [(1, longsV L), (88, .tuple [rAV (wlk L).1, .int .i64 (wlk L).2])]
  · intro key
    obtain ⟨m0, rfl⟩ : ∃ m, n0 = m + 1 := ⟨n0 - 1, by omega⟩
    rcases hturn with ⟨ht, hpe, hqe⟩ | ⟨ht, hpq⟩ | ⟨ht, hpq, hqp⟩
    · have z0 : ((0 : Int) != 0) = false := rfl
      have ht' : (x = One) = True := eq_true ht
      have hpl : p.length = 0 := by rw [hpe]; rfl
      have hql : q.length = 0 := by rw [hqe]; rfl
      simp (disch := first | assumption | omega) only [c13, go_sem, ↓reduceIte, reduceIte, Nat.reduceEqDiff, Nat.reduceAdd, Nat.reduceMul, reduceCtorEq, Nat.reduceDiv, Nat.reduceLeDiff, Nat.reduceLT, Nat.reduceSub, cs_fine, hc', g60, cs_Path, hp, hq, cs_by X, cs_by One, bne_self_eq_false, hlen40, cw, hw1, eaA_ratN, eaA_rat, hxx, ht', hpl, hql, z0]
      rw [cs_Walk (by omega)]
      exact key _ _ (by simp only [go_sem, ↓reduceIte, reduceIte, Nat.reduceEqDiff, Nat.reduceAdd, Nat.reduceMul, reduceCtorEq, Nat.reduceDiv, Nat.reduceLeDiff, Nat.reduceLT, Nat.reduceSub])
    · have ht' : (x = One) = False := eq_false ht
      simp (disch := first | assumption | omega) only [c13, go_sem, ↓reduceIte, reduceIte, Nat.reduceEqDiff, Nat.reduceAdd, Nat.reduceMul, reduceCtorEq, Nat.reduceDiv, Nat.reduceLeDiff, Nat.reduceLT, Nat.reduceSub, cs_fine, hc', g60, cs_Path, hp, hq, cs_by X, bne_self_eq_false, hlen40, cw, hw1, eaA_ratN, eaA_rat, hxx]
      rw [cs_by One (by omega) o1 o2]
      refine go_cut [(1, longsV L), (5, longsV p), (7, longsV q), (59, rAV x), (60, rAV One)] (by simp only [go_sem, ↓reduceIte, reduceIte, Nat.reduceEqDiff, Nat.reduceAdd, Nat.reduceMul, reduceCtorEq, Nat.reduceDiv, Nat.reduceLeDiff, Nat.reduceLT, Nat.reduceSub]) fun e h hE => ?_
      simp only [At_cons, At_nil] at hE
      obtain ⟨f1, f5, f7, f59, f60, -⟩ := hE
      simp (disch := first | assumption | omega) only [go_sem, ↓reduceIte, reduceIte, Nat.reduceEqDiff, Nat.reduceAdd, Nat.reduceMul, reduceCtorEq, Nat.reduceDiv, Nat.reduceLeDiff, Nat.reduceLT, Nat.reduceSub, f1, f5, f7, f59, f60, eaA_rat, ht']
      refine gp_of (raw_longs [.int .i64 0] true _ _ fun h1 k1 k2 => ?_)
      simp (disch := first | assumption | omega) only [go_sem, ↓reduceIte, reduceIte, Nat.reduceEqDiff, Nat.reduceAdd, Nat.reduceMul, reduceCtorEq, Nat.reduceDiv, Nat.reduceLeDiff, Nat.reduceLT, Nat.reduceSub, f1, f5, f7]
      refine gp_appendX (l := [0]) (m := q.length) (l2 := q) (by first | with_reducible rfl | (simp only [length_setH, List.length_append, List.length_replicate]; done) | (simp only [length_setH, List.length_append, List.length_replicate]; omega)) (by rw [cs_ints]) rfl (by simp; omega) fun v h2 z1 z2 z3 => ?_
      simp (disch := first | assumption | omega) only [go_sem, ↓reduceIte, reduceIte, Nat.reduceEqDiff, Nat.reduceAdd, Nat.reduceMul, reduceCtorEq, Nat.reduceDiv, Nat.reduceLeDiff, Nat.reduceLT, Nat.reduceSub, f1, f5, f7]
      refine gp_con (con_Longs p ([0] ++ q) (by omega) (by simp; omega)) (by omega) (fz_slice _ _ _ _ (fz_cons (z1 6) (fz_nil _))) (or_pb _ _) ?_
      have hpq' : (p = 0 :: q) = True := eq_true hpq
      simp (disch := first | assumption | omega) only [go_sem, ↓reduceIte, reduceIte, Nat.reduceEqDiff, Nat.reduceAdd, Nat.reduceMul, reduceCtorEq, Nat.reduceDiv, Nat.reduceLeDiff, Nat.reduceLT, Nat.reduceSub, f1, f5, f7, hpq']
      rw [cs_Walk (by omega)]
      exact key _ _ (by simp only [go_sem, ↓reduceIte, reduceIte, Nat.reduceEqDiff, Nat.reduceAdd, Nat.reduceMul, reduceCtorEq, Nat.reduceDiv, Nat.reduceLeDiff, Nat.reduceLT, Nat.reduceSub, f1])
    · have ht' : (x = One) = False := eq_false ht
      simp (disch := first | assumption | omega) only [c13, go_sem, ↓reduceIte, reduceIte, Nat.reduceEqDiff, Nat.reduceAdd, Nat.reduceMul, reduceCtorEq, Nat.reduceDiv, Nat.reduceLeDiff, Nat.reduceLT, Nat.reduceSub, cs_fine, hc', g60, cs_Path, hp, hq, cs_by X, bne_self_eq_false, hlen40, cw, hw1, eaA_ratN, eaA_rat, hxx]
      rw [cs_by One (by omega) o1 o2]
      refine go_cut [(1, longsV L), (5, longsV p), (7, longsV q), (59, rAV x), (60, rAV One)] (by simp only [go_sem, ↓reduceIte, reduceIte, Nat.reduceEqDiff, Nat.reduceAdd, Nat.reduceMul, reduceCtorEq, Nat.reduceDiv, Nat.reduceLeDiff, Nat.reduceLT, Nat.reduceSub]) fun e h hE => ?_
      simp only [At_cons, At_nil] at hE
      obtain ⟨f1, f5, f7, f59, f60, -⟩ := hE
      simp (disch := first | assumption | omega) only [go_sem, ↓reduceIte, reduceIte, Nat.reduceEqDiff, Nat.reduceAdd, Nat.reduceMul, reduceCtorEq, Nat.reduceDiv, Nat.reduceLeDiff, Nat.reduceLT, Nat.reduceSub, f1, f5, f7, f59, f60, eaA_rat, ht']
      refine gp_of (raw_longs [.int .i64 0] true _ _ fun h1 k1 k2 => ?_)
      simp (disch := first | assumption | omega) only [go_sem, ↓reduceIte, reduceIte, Nat.reduceEqDiff, Nat.reduceAdd, Nat.reduceMul, reduceCtorEq, Nat.reduceDiv, Nat.reduceLeDiff, Nat.reduceLT, Nat.reduceSub, f1, f5, f7]
      refine gp_appendX (l := [0]) (m := q.length) (l2 := q) (by first | with_reducible rfl | (simp only [length_setH, List.length_append, List.length_replicate]; done) | (simp only [length_setH, List.length_append, List.length_replicate]; omega)) (by rw [cs_ints]) rfl (by simp; omega) fun v h2 z1 z2 z3 => ?_
      simp (disch := first | assumption | omega) only [go_sem, ↓reduceIte, reduceIte, Nat.reduceEqDiff, Nat.reduceAdd, Nat.reduceMul, reduceCtorEq, Nat.reduceDiv, Nat.reduceLeDiff, Nat.reduceLT, Nat.reduceSub, f1, f5, f7]
      refine gp_con (con_Longs p ([0] ++ q) (by omega) (by simp; omega)) (by omega) (fz_slice _ _ _ _ (fz_cons (z1 6) (fz_nil _))) (or_pb _ _) ?_
      have hpq' : (p = 0 :: q) = False := eq_false hpq
      have hqp' : (q = 0 :: p) = True := eq_true hqp
      simp (disch := first | assumption | omega) only [go_sem, ↓reduceIte, reduceIte, Nat.reduceEqDiff, Nat.reduceAdd, Nat.reduceMul, reduceCtorEq, Nat.reduceDiv, Nat.reduceLeDiff, Nat.reduceLT, Nat.reduceSub, f1, f5, f7, hpq']
      refine gp_of (raw_longs [.int .i64 0] true _ _ fun h1 k1 k2 => ?_)
      simp (disch := first | assumption | omega) only [go_sem, ↓reduceIte, reduceIte, Nat.reduceEqDiff, Nat.reduceAdd, Nat.reduceMul, reduceCtorEq, Nat.reduceDiv, Nat.reduceLeDiff, Nat.reduceLT, Nat.reduceSub, f1, f5, f7]
      refine gp_appendX (l := [0]) (m := p.length) (l2 := p) (by first | with_reducible rfl | (simp only [length_setH, List.length_append, List.length_replicate]; done) | (simp only [length_setH, List.length_append, List.length_replicate]; omega)) (by rw [cs_ints]) rfl (by simp; omega) fun v h2 z1 z2 z3 => ?_
      simp (disch := first | assumption | omega) only [go_sem, ↓reduceIte, reduceIte, Nat.reduceEqDiff, Nat.reduceAdd, Nat.reduceMul, reduceCtorEq, Nat.reduceDiv, Nat.reduceLeDiff, Nat.reduceLT, Nat.reduceSub, f1, f5, f7]
      refine gp_con (con_Longs q ([0] ++ p) (by omega) (by simp; omega)) (by omega) (fz_slice _ _ _ _ (fz_cons (z1 6) (fz_nil _))) (or_pb _ _) ?_
      simp (disch := first | assumption | omega) only [go_sem, ↓reduceIte, reduceIte, Nat.reduceEqDiff, Nat.reduceAdd, Nat.reduceMul, reduceCtorEq, Nat.reduceDiv, Nat.reduceLeDiff, Nat.reduceLT, Nat.reduceSub, f1, f5, f7, hqp']
      rw [cs_Walk (by omega)]
      exact key _ _ (by simp only [go_sem, ↓reduceIte, reduceIte, Nat.reduceEqDiff, Nat.reduceAdd, Nat.reduceMul, reduceCtorEq, Nat.reduceDiv, Nat.reduceLeDiff, Nat.reduceLT, Nat.reduceSub, f1])
  · rintro e h hE
    simp only [At_cons, At_nil] at hE
    obtain ⟨f1, f88, -⟩ := hE
    have e60 : ((6 : Int) != 0) = true := rfl
    have e30 : ((3 : Int) != 0) = true := rfl
    have e40 : ((4 : Int) != 0) = true := rfl
    have e36 : ((3 : Int) == 6) = false := rfl
    have e46 : ((4 : Int) == 6) = false := rfl
    have e43 : ((4 : Int) == 3) = false := rfl
    by_cases hl : 40 < L.length
    · rw [wErr_many hl] at f88
      simp (disch := first | assumption | omega) only [go_sem, ↓reduceIte, reduceIte, Nat.reduceEqDiff, Nat.reduceAdd, Nat.reduceMul, reduceCtorEq, Nat.reduceDiv, Nat.reduceLeDiff, Nat.reduceLT, Nat.reduceSub, f1, f88, e60, beq_self_eq_true, cs_Works]
    by_cases hb : badP L
    · rw [wErr_bad (by omega) hb] at f88
      simp (disch := first | assumption | omega) only [go_sem, ↓reduceIte, reduceIte, Nat.reduceEqDiff, Nat.reduceAdd, Nat.reduceMul, reduceCtorEq, Nat.reduceDiv, Nat.reduceLeDiff, Nat.reduceLT, Nat.reduceSub, f1, f88, e30, e36, beq_self_eq_true, cs_Works]
    by_cases hf : fitsW L
    · obtain ⟨oy, hback⟩ := wlk_back (by omega) hb hf
      have hpy := pth_ok oy
      rw [hback] at hpy
      have hcy : (chkI (walkB 0 L wholeB).sum == 0) = true := by rw [(chkI_zero _).2 oy]; rfl
      rw [wErr_ok (by omega) hb hf] at f88
      generalize (walkB 0 L wholeB).sum = y at *
      have hLL : (L = L) = True := eq_self L
      simp (disch := first | assumption | omega) only [go_sem, ↓reduceIte, reduceIte, Nat.reduceEqDiff, Nat.reduceAdd, Nat.reduceMul, reduceCtorEq, Nat.reduceDiv, Nat.reduceLeDiff, Nat.reduceLT, Nat.reduceSub, f1, f88, bne_self_eq_false, cs_fine, hcy, cs_Path, hpy, beq_self_eq_true, cs_Longs, hLL, cs_Works]
    · rw [wErr_over (by omega) hb hf] at f88
      simp (disch := first | assumption | omega) only [go_sem, ↓reduceIte, reduceIte, Nat.reduceEqDiff, Nat.reduceAdd, Nat.reduceMul, reduceCtorEq, Nat.reduceDiv, Nat.reduceLeDiff, Nat.reduceLT, Nat.reduceSub, f1, f88, e40, e46, e43, beq_self_eq_true, cs_Works]

def pitchWalked_n : Nat := 20000
theorem pitchWalked_ev (x : Frac) (L : List Int) (h1 : RWf x) (_ : ∀ n ∈ L, (Lit.int .i64 n).wf = true) (_ : L.length ≤ maxLen) : (evFn (evCall T pitchWalked_n) c13 [rAV x, longsV L] []).all fun p => p.1 = .bool true := pitchWalked_at _ rfl x L h1

end Go.Ev.YtcghegefcgnhbaaC
