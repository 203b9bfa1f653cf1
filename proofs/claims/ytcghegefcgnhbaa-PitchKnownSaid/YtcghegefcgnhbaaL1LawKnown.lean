/- PitchKnown returns true. -/
import Derived.Test.YtcghegefcgnhbaaL1KnSz
import Derived.Test.YtcghegefcgnhbaaL1LawSimples
import Derived.Test.YtcghegefcgnhbaaL1LawNeighbours
set_option linter.unusedSimpArgs false
set_option linter.unusedVariables false
namespace Go.Ev.YtcghegefcgnhbaaC
open Go Go.Proofs

theorem kn_chk1 : chkI ⟨4, 2⟩ = 16 := by kernel_rfl
theorem kn_chk2 : chkI ⟨0, 1⟩ = 3 := by kernel_rfl
theorem kn_nb1 : nbs ⟨117, 200⟩ 12 = (⟨7, 12⟩, ⟨3, 5⟩, 0) := by kernel_rfl
theorem kn_nb2 : nbs ⟨117, 200⟩ 200 = (⟨117, 200⟩, ⟨117, 200⟩, 0) := by kernel_rfl
theorem kn_cnb : chkNb ⟨3, 5⟩ ⟨7, 12⟩ 12 = 14 := by kernel_rfl
theorem kn_nr : nrs ⟨117, 200⟩ 50 = (⟨24, 41⟩, 0) := by kernel_rfl
theorem kn_cnr : chkNr ⟨117, 200⟩ ⟨3, 5⟩ 12 = 17 := by kernel_rfl
theorem kn_smp : smpl ⟨3, 2⟩ ⟨3, 2⟩ = (⟨3, 2⟩, 0) := by kernel_rfl
theorem kn_cnt : cnt ⟨2, 3⟩ ⟨1, 2⟩ 5 = (0, 0) := by kernel_rfl
theorem kn_p1 : pth ⟨3, 2⟩ = ([1, 1], 0) := by kernel_rfl
theorem kn_p2 : pth ⟨2, 3⟩ = ([0, 1, 1], 0) := by kernel_rfl
theorem kn_p3 : pth ⟨1, 1⟩ = ([], 0) := by kernel_rfl
theorem kn_w : wlk [0, 1, 1] = (⟨2, 3⟩, 0) := by
  rw [wErr_ok (by simp) (by unfold badP; simp) (by unfold fitsW; exact ⟨by decide, by decide⟩)]
  kernel_rfl
theorem kn_s1 : szA 12 7 5 = ([2, 3], 0) := by kernel_rfl
theorem kn_s2 : szA 12 7 12 = ([1], 0) := by kernel_rfl
theorem kn_s3 : szA 12 4 9 = ([4], 0) := by kernel_rfl
theorem kn_b1 : bkA 12 7 5 = (2, 0) := by kernel_rfl
theorem kn_b2 : bkA 12 7 1 = (0, 0) := by kernel_rfl
theorem kn_b3 : bkA 12 13 5 = (0, 2) := by kernel_rfl

attribute [local irreducible] Res.all evC evLoop evOps evOper evOp evFn evCall freeze G GO GV GP GC R
set_option maxRecDepth 100000

theorem con_longsV (l : List Int) : Con T 1 53 [longsV l] (longsV l) := by
  refine con_intro t53 fun m hm V hV => ?_
  simp (disch := first | assumption | omega) only [c53, go_sem, ↓reduceIte, reduceIte, Nat.reduceEqDiff, Nat.reduceAdd, Nat.reduceMul, reduceCtorEq, Nat.reduceDiv, Nat.reduceLeDiff, Nat.reduceLT, Nat.reduceSub]
  exact hV _ _ (by repeat (first | exact mz_nil _ _ | exact frz_int _ _ _ _ | exact frz_bool _ _ _ | exact frz_slice _ _ _ _ _ | exact frz_ptr _ _ _ _ | exact frz_nilptr _ _ | refine mz_cons ?_ ?_ | refine frz_agg ?_ | refine frz_two ?_ ?_ | refine frz_three ?_ ?_ ?_))
section
variable {n base : Nat} {Q : EX × St → Prop} {d : Option Nat} {L : List IOper} {ks : List Kont} {e : Env} {h : Heap}
theorem cs_byl {a b : Int} (hn : 1 ≤ n) : GP (evCall T n) base Q d L ks e (evCall T n false (.fn 51) [.int .i64 a, .int .i64 b] h) = GO (evCall T n) base Q L ks ⟨setDst e d (.agg [.int .i64 a, .int .i64 b]), h⟩ := cs_by ⟨a, b⟩ hn rfl rfl
theorem ks_chk1 (hn : 10005 ≤ n) : GP (evCall T n) base Q d L ks e (evCall T n false (.fn 22) [.agg [.int .i64 4, .int .i64 2]] h) = GO (evCall T n) base Q L ks ⟨setDst e d (.int .i64 16), h⟩ := by
  have := cs_CheckInterval (x := ⟨4, 2⟩) (d := d) (Q := Q) (L := L) (ks := ks) (e := e) (h := h) (base := base) (show 10002 ≤ n by omega)
  rwa [kn_chk1] at this
theorem ks_chk2 (hn : 10005 ≤ n) : GP (evCall T n) base Q d L ks e (evCall T n false (.fn 22) [.agg [.int .i64 0, .int .i64 1]] h) = GO (evCall T n) base Q L ks ⟨setDst e d (.int .i64 3), h⟩ := by
  have := cs_CheckInterval (x := ⟨0, 1⟩) (d := d) (Q := Q) (L := L) (ks := ks) (e := e) (h := h) (base := base) (show 10002 ≤ n by omega)
  rwa [kn_chk2] at this
theorem ks_nb1 (hn : 10005 ≤ n) : GP (evCall T n) base Q d L ks e (evCall T n false (.fn 25) [.agg [.int .i64 117, .int .i64 200], .int .i64 12] h) = GO (evCall T n) base Q L ks ⟨setDst e d (.tuple [.agg [.int .i64 7, .int .i64 12], .agg [.int .i64 3, .int .i64 5], .int .i64 0]), h⟩ := by
  have := cs_Neighbours (x := ⟨117, 200⟩) (m := 12) (d := d) (Q := Q) (L := L) (ks := ks) (e := e) (h := h) (base := base) hn
  rwa [kn_nb1] at this
theorem ks_nb2 (hn : 10005 ≤ n) : GP (evCall T n) base Q d L ks e (evCall T n false (.fn 25) [.agg [.int .i64 117, .int .i64 200], .int .i64 200] h) = GO (evCall T n) base Q L ks ⟨setDst e d (.tuple [.agg [.int .i64 117, .int .i64 200], .agg [.int .i64 117, .int .i64 200], .int .i64 0]), h⟩ := by
  have := cs_Neighbours (x := ⟨117, 200⟩) (m := 200) (d := d) (Q := Q) (L := L) (ks := ks) (e := e) (h := h) (base := base) hn
  rwa [kn_nb2] at this
theorem ks_cnb (hn : 10005 ≤ n) : GP (evCall T n) base Q d L ks e (evCall T n false (.fn 27) [.agg [.int .i64 3, .int .i64 5], .agg [.int .i64 7, .int .i64 12], .int .i64 12] h) = GO (evCall T n) base Q L ks ⟨setDst e d (.int .i64 14), h⟩ := by
  have := gp_eq (d := d) (Q := Q) (l := L) (ks := ks) (e := e) (h := h) (base := base) (con_CheckNeighbours ⟨3, 5⟩ ⟨7, 12⟩ 12) (show 5 ≤ n by omega) (fz_rat _ _ (fz_rat _ _ (fz_int _ _ _ (fz_nil _)))) rfl
  rwa [kn_cnb] at this
theorem ks_nr (hn : 10005 ≤ n) : GP (evCall T n) base Q d L ks e (evCall T n false (.fn 29) [.agg [.int .i64 117, .int .i64 200], .int .i64 50] h) = GO (evCall T n) base Q L ks ⟨setDst e d (.tuple [.agg [.int .i64 24, .int .i64 41], .int .i64 0]), h⟩ := by
  have := cs_Nearest (x := ⟨117, 200⟩) (m := 50) (d := d) (Q := Q) (L := L) (ks := ks) (e := e) (h := h) (base := base) hn
  rwa [kn_nr] at this
theorem ks_cnr (hn : 10005 ≤ n) : GP (evCall T n) base Q d L ks e (evCall T n false (.fn 31) [.agg [.int .i64 117, .int .i64 200], .agg [.int .i64 3, .int .i64 5], .int .i64 12] h) = GO (evCall T n) base Q L ks ⟨setDst e d (.int .i64 17), h⟩ := by
  have := cs_CheckNearest (x := ⟨117, 200⟩) (f := ⟨3, 5⟩) (m := 12) (d := d) (Q := Q) (L := L) (ks := ks) (e := e) (h := h) (base := base) hn
  rwa [kn_cnr] at this
theorem ks_smp (hn : 10005 ≤ n) : GP (evCall T n) base Q d L ks e (evCall T n false (.fn 33) [.agg [.int .i64 3, .int .i64 2], .agg [.int .i64 3, .int .i64 2]] h) = GO (evCall T n) base Q L ks ⟨setDst e d (.tuple [.agg [.int .i64 3, .int .i64 2], .int .i64 0]), h⟩ := by
  have := cs_Simplest (x := ⟨3, 2⟩) (y := ⟨3, 2⟩) (d := d) (Q := Q) (L := L) (ks := ks) (e := e) (h := h) (base := base) (show 10004 ≤ n by omega)
  rwa [kn_smp] at this
theorem ks_cnt (hn : 10005 ≤ n) : GP (evCall T n) base Q d L ks e (evCall T n false (.fn 35) [.agg [.int .i64 2, .int .i64 3], .agg [.int .i64 1, .int .i64 2], .int .i64 5] h) = GO (evCall T n) base Q L ks ⟨setDst e d (.tuple [.int .i64 0, .int .i64 0]), h⟩ := by
  have := cs_Count (x := ⟨2, 3⟩) (y := ⟨1, 2⟩) (m := 5) (d := d) (Q := Q) (L := L) (ks := ks) (e := e) (h := h) (base := base) (show 10004 ≤ n by omega)
  rwa [kn_cnt] at this
theorem ks_p1 (hn : 10005 ≤ n) : GP (evCall T n) base Q d L ks e (evCall T n false (.fn 37) [.agg [.int .i64 3, .int .i64 2]] h) = GO (evCall T n) base Q L ks ⟨setDst e d (.tuple [longsV [1, 1], .int .i64 0]), h⟩ := by
  have := cs_Path (x := ⟨3, 2⟩) (d := d) (Q := Q) (L := L) (ks := ks) (e := e) (h := h) (base := base) (show 10004 ≤ n by omega)
  rwa [kn_p1] at this
theorem ks_p2 (hn : 10005 ≤ n) : GP (evCall T n) base Q d L ks e (evCall T n false (.fn 37) [.agg [.int .i64 2, .int .i64 3]] h) = GO (evCall T n) base Q L ks ⟨setDst e d (.tuple [longsV [0, 1, 1], .int .i64 0]), h⟩ := by
  have := cs_Path (x := ⟨2, 3⟩) (d := d) (Q := Q) (L := L) (ks := ks) (e := e) (h := h) (base := base) (show 10004 ≤ n by omega)
  rwa [kn_p2] at this
theorem ks_p3 (hn : 10005 ≤ n) : GP (evCall T n) base Q d L ks e (evCall T n false (.fn 37) [.agg [.int .i64 1, .int .i64 1]] h) = GO (evCall T n) base Q L ks ⟨setDst e d (.tuple [longsV [], .int .i64 0]), h⟩ := by
  have := cs_Path (x := ⟨1, 1⟩) (d := d) (Q := Q) (L := L) (ks := ks) (e := e) (h := h) (base := base) (show 10004 ≤ n by omega)
  rwa [kn_p3] at this
theorem ks_w {b : Bool} (hn : 10005 ≤ n) : GP (evCall T n) base Q d L ks e (evCall T n false (.fn 39) [.slice none (([0, 1, 1] : List Int).map (.int .i64)) b] h) = GO (evCall T n) base Q L ks ⟨setDst e d (.tuple [.agg [.int .i64 2, .int .i64 3], .int .i64 0]), h⟩ := by
  have := cs_Walk (xs := [0, 1, 1]) (b := b) (d := d) (Q := Q) (L := L) (ks := ks) (e := e) (h := h) (base := base) (show 6 ≤ n by omega)
  rwa [kn_w] at this
theorem ks_longs {l : List Int} {b : Bool} (hn : 1 ≤ n) : GP (evCall T n) base Q d L ks e (evCall T n false (.fn 53) [.slice none (l.map (.int .i64)) b] h) = GO (evCall T n) base Q L ks ⟨setDst e d (longsV l), h⟩ :=
  gp_eq (con_longsV l) hn (by repeat (first | exact fz_nil _ | refine fz_slice _ _ _ _ ?_ | refine fz_int _ _ _ ?_)) (by simp [freeB, plainB, depth])
theorem ks_l11 {b : Bool} (hn : 1 ≤ n) : GP (evCall T n) base Q d L ks e (evCall T n false (.fn 53) [.slice none [.int .i64 1, .int .i64 1] b] h) = GO (evCall T n) base Q L ks ⟨setDst e d (longsV [1, 1]), h⟩ := ks_longs (l := [1, 1]) hn
theorem ks_L11 {x y : Bool} (hn : 1 ≤ n) : GP (evCall T n) base Q d L ks e (evCall T n false (.fn 41) [.slice none [.int .i64 1, .int .i64 1] x, .slice none [.int .i64 1, .int .i64 1] y] h) = GO (evCall T n) base Q L ks ⟨setDst e d (.bool true), h⟩ := by
  have := cs_Longs (a := [1, 1]) (b := [1, 1]) (x := x) (y := y) (d := d) (Q := Q) (L := L) (ks := ks) (e := e) (h := h) (base := base) hn (by simp) (by simp)
  rwa [decide_eq_true (rfl : ([1, 1] : List Int) = [1, 1])] at this
theorem ks_l011 {b : Bool} (hn : 1 ≤ n) : GP (evCall T n) base Q d L ks e (evCall T n false (.fn 53) [.slice none [.int .i64 0, .int .i64 1, .int .i64 1] b] h) = GO (evCall T n) base Q L ks ⟨setDst e d (longsV [0, 1, 1]), h⟩ := ks_longs (l := [0, 1, 1]) hn
theorem ks_L011 {x y : Bool} (hn : 1 ≤ n) : GP (evCall T n) base Q d L ks e (evCall T n false (.fn 41) [.slice none [.int .i64 0, .int .i64 1, .int .i64 1] x, .slice none [.int .i64 0, .int .i64 1, .int .i64 1] y] h) = GO (evCall T n) base Q L ks ⟨setDst e d (.bool true), h⟩ := by
  have := cs_Longs (a := [0, 1, 1]) (b := [0, 1, 1]) (x := x) (y := y) (d := d) (Q := Q) (L := L) (ks := ks) (e := e) (h := h) (base := base) hn (by simp) (by simp)
  rwa [decide_eq_true (rfl : ([0, 1, 1] : List Int) = [0, 1, 1])] at this
theorem ks_l23 {b : Bool} (hn : 1 ≤ n) : GP (evCall T n) base Q d L ks e (evCall T n false (.fn 53) [.slice none [.int .i64 2, .int .i64 3] b] h) = GO (evCall T n) base Q L ks ⟨setDst e d (longsV [2, 3]), h⟩ := ks_longs (l := [2, 3]) hn
theorem ks_L23 {x y : Bool} (hn : 1 ≤ n) : GP (evCall T n) base Q d L ks e (evCall T n false (.fn 41) [.slice none [.int .i64 2, .int .i64 3] x, .slice none [.int .i64 2, .int .i64 3] y] h) = GO (evCall T n) base Q L ks ⟨setDst e d (.bool true), h⟩ := by
  have := cs_Longs (a := [2, 3]) (b := [2, 3]) (x := x) (y := y) (d := d) (Q := Q) (L := L) (ks := ks) (e := e) (h := h) (base := base) hn (by simp) (by simp)
  rwa [decide_eq_true (rfl : ([2, 3] : List Int) = [2, 3])] at this
theorem ks_l1 {b : Bool} (hn : 1 ≤ n) : GP (evCall T n) base Q d L ks e (evCall T n false (.fn 53) [.slice none [.int .i64 1] b] h) = GO (evCall T n) base Q L ks ⟨setDst e d (longsV [1]), h⟩ := ks_longs (l := [1]) hn
theorem ks_L1 {x y : Bool} (hn : 1 ≤ n) : GP (evCall T n) base Q d L ks e (evCall T n false (.fn 41) [.slice none [.int .i64 1] x, .slice none [.int .i64 1] y] h) = GO (evCall T n) base Q L ks ⟨setDst e d (.bool true), h⟩ := by
  have := cs_Longs (a := [1]) (b := [1]) (x := x) (y := y) (d := d) (Q := Q) (L := L) (ks := ks) (e := e) (h := h) (base := base) hn (by simp) (by simp)
  rwa [decide_eq_true (rfl : ([1] : List Int) = [1])] at this
theorem ks_l4 {b : Bool} (hn : 1 ≤ n) : GP (evCall T n) base Q d L ks e (evCall T n false (.fn 53) [.slice none [.int .i64 4] b] h) = GO (evCall T n) base Q L ks ⟨setDst e d (longsV [4]), h⟩ := ks_longs (l := [4]) hn
theorem ks_L4 {x y : Bool} (hn : 1 ≤ n) : GP (evCall T n) base Q d L ks e (evCall T n false (.fn 41) [.slice none [.int .i64 4] x, .slice none [.int .i64 4] y] h) = GO (evCall T n) base Q L ks ⟨setDst e d (.bool true), h⟩ := by
  have := cs_Longs (a := [4]) (b := [4]) (x := x) (y := y) (d := d) (Q := Q) (L := L) (ks := ks) (e := e) (h := h) (base := base) hn (by simp) (by simp)
  rwa [decide_eq_true (rfl : ([4] : List Int) = [4])] at this
end

set_option maxHeartbeats 2000000 in
theorem pitchKnown_at (n0 : Nat) (hn : n0 = 20000) : (evFn (evCall T n0) c19 [] []).all fun p => p.1 = .bool true := by
  rw [m_fn]
  have z1 : ([1, 1] : List Int).length < 1152921504606846976 := by simp
  have z2 : ([0, 1, 1] : List Int).length < 1152921504606846976 := by simp
  have z3 : ([2, 3] : List Int).length < 1152921504606846976 := by simp
  have z4 : ([1] : List Int).length < 1152921504606846976 := by simp
  have z5 : ([4] : List Int).length < 1152921504606846976 := by simp
  simp (disch := first | assumption | omega) only [c19, go_sem, ↓reduceIte, reduceIte, Nat.reduceEqDiff, Nat.reduceAdd, Nat.reduceMul, reduceCtorEq, Nat.reduceDiv, Nat.reduceLeDiff, Nat.reduceLT, Nat.reduceSub, cs_byl, ks_chk1, ks_chk2, ks_nb1, ks_nb2, ks_cnb, ks_nr, ks_cnr, ks_smp, ks_cnt, ks_p1, ks_p2, ks_p3, ks_w, ks_l11, ks_L11, ks_l011, ks_L011, ks_l23, ks_L23, ks_l1, ks_L1, ks_l4, ks_L4, cs_Sizes, cs_Back, kn_s1, kn_s2, kn_s3, kn_b1, kn_b2, kn_b3, bne_self_eq_false, beq_self_eq_true, eaA_self, cs_Longs, cs_Works, List.length_nil, decide_true]
def pitchKnown_n : Nat := 20000
theorem pitchKnown_ev : (evFn (evCall T pitchKnown_n) c19 [] []).all fun p => p.1 = .bool true := pitchKnown_at _ rfl

end Go.Ev.YtcghegefcgnhbaaC
