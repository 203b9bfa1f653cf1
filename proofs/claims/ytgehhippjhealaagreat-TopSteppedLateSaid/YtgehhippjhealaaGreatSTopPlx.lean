/- Entries of the works' calls that are proved by walks. The code of functions that are walked, compiled for the evaluator, as text. The day of Play of layer 3 at the example, reckoned by the kernel. Play of layer 3 at the example: the range over the ends of its day is walked. No condition but those that stand in each. -/
import Derived.Test.YtgehhippjhealaaGreatSTopW
import Derived.Test.YtgehhippjhealaaGreatSTopKnx
import Derived.Test.YtgehhippjhealaaGreatSEvKer3
set_option linter.unusedSimpArgs false
set_option linter.unusedVariables false
set_option maxRecDepth 100000
namespace Go.Ev.YtgehhippjhealaaGreatC
open Go Go.Proofs
def wCy20 : AnsY := ⟨272, [(.slice (some 2) [(.agg [(wN 3), (wN 4)]), (.agg [(wN 5), (wN 2)]), (.agg [(wN 4), (wN 6)])] false), (.agg [(wI [0, 1, 2] false), (wI [2, 0, 1] false), (wI [0, 0, 1] false)])], (.tuple [(.slice (some 2) [(.agg [(wN 0), (wN 6)]), (.agg [(wN 3), (wN 10)]), (.agg [(wN 8), (wN 0)])] false), (wN 0)]), false⟩
end Go.Ev.YtgehhippjhealaaGreatC
set_option linter.unusedSimpArgs false
set_option linter.unusedVariables false
set_option maxRecDepth 100000
namespace Go.Ev.YtgehhippjhealaaGreatC
open Go.Proofs
def c272 : IFunc := ⟨71, [.tmp 4, .tmp 5], .seq (.ops [dO 3 (.box (tM 1)), dO 4 (.mv (.const (.slice (some 2) [] true))), dO 5 (.mv (cI 0))]) (.seq (.ops [dO 13 (.mv (tM 0)), dO 14 (.load (some 3) (tM 3)), dO 15 (.callF true 348 [tM 13, tM 14]), dO 12 (.mv (tM 15)), dO 16 (.extract (tM 12) 0), dO 17 (.extract (tM 12) 1), dO 6 (.mv (tM 16)), dO 7 (.mv (tM 17))]) (.seq (.block 0 (.seq (.ops [dO 19 (.mv (tM 7)), dO 20 (.bin .neq (tM 19) (cI 0)), dO 18 (.mv (tM 20))]) (.cond (tM 18) (.seq (.ops [dO 21 (.mv (tM 7)), dO 4 (.mv (.const (.slice (some 2) [] true))), dO 5 (.mv (tM 21))]) .ret) (.seq (.ops [dO 23 (.mv (tM 6)), dO 24 (.nilCheck (tM 23)), dO 25 (.fieldAddr 3 (tM 24)), dO 26 (.load none (tM 25)), dO 27 (.lenM (tM 26)), dO 28 (.mv (tM 0)), dO 29 (.len (tM 28)), dO 30 (.bin .mul (cI 2) (tM 29)), dO 31 (.bin .lss (tM 27) (tM 30)), dO 22 (.mv (tM 31))]) (.cond (tM 22) (.seq (.ops [dO 4 (.mv (.const (.slice (some 2) [] true))), dO 5 (.mv (cI 13))]) .ret) .skip))))) (.seq (.ops [dO 32 (.mv (tM 0)), dO 33 (.len (tM 32)), dO 34 (.mkSlice (some 2) [.int .i64 0, .int .i64 0] 16 (tM 33) (tM 33)), dO 8 (.mv (tM 34))]) (.seq (.ops [dO 35 (.mv (tM 8)), eO (.clearG (some 2) [.int .i64 0, .int .i64 0] (tM 35))]) (.seq (.seq (.ops [dO 36 (.mv (tM 6)), dO 37 (.nilCheck (tM 36)), dO 38 (.fieldAddr 3 (tM 37)), dO 39 (.load none (tM 38)), dO 40 (.range (tM 39))]) (.block 1 (.loop (.seq (.ops [dO 41 (.next (tM 40)), dO 42 (.extract (tM 41) 0)]) (.seq (.cond (tM 42) .skip (.exit 1)) (.block 2 (.seq (.ops [dO 43 (.entry (tM 40)), dO 44 (.extract (tM 43) 0), dO 45 (.extract (tM 43) 1), dO 9 (.alloc [.int .i64 0]), eO (.store 1 (tM 9) (tM 44)), dO 10 (.mv (tM 45))]) (.seq (.ops [dO 46 (.mv (tM 10)), dO 47 (.mv (tM 0)), dO 48 (.fieldAddr 0 (tM 9)), dO 49 (.load none (tM 48)), dO 50 (.callF false 345 [tM 47, tM 49]), dO 51 (.bin .sub (tM 46) (tM 50)), dO 11 (.mv (tM 51))]) (.seq (.ops [dO 52 (.fieldAddr 0 (tM 9)), dO 53 (.load none (tM 52)), dO 54 (.bin .rem (tM 53) (cI 2)), dO 55 (.bin .eql (tM 54) (cI 0))]) (.cond (tM 55) (.ops [dO 56 (.mv (tM 8)), dO 57 (.fieldAddr 0 (tM 9)), dO 58 (.load none (tM 57)), dO 59 (.bin .quo (tM 58) (cI 2)), dO 60 (.mv (tM 11)), dO 61 (.indexAddr 2 (tM 56) (tM 59)), dO 62 (.fieldAddr 0 (tM 61)), eO (.store 1 (tM 62) (tM 60))]) (.ops [dO 63 (.mv (tM 8)), dO 64 (.fieldAddr 0 (tM 9)), dO 65 (.load none (tM 64)), dO 66 (.bin .quo (tM 65) (cI 2)), dO 67 (.mv (tM 11)), dO 68 (.indexAddr 2 (tM 63) (tM 66)), dO 69 (.fieldAddr 1 (tM 68)), eO (.store 1 (tM 69) (tM 67))]))))))))))) (.seq (.ops [dO 70 (.mv (tM 8)), dO 4 (.mv (tM 70)), dO 5 (.mv (cI 0))]) .ret))))))⟩
theorem k272 : (cfgOf Tryz.prog byr).fns 272 = some c272 := by kernel_rfl
theorem t272 : T.fns 272 = some c272 := T_fns k272 (by decide) (by decide)
end Go.Ev.YtgehhippjhealaaGreatC
set_option linter.unusedSimpArgs false
set_option linter.unusedVariables false
set_option maxRecDepth 100000
namespace Go.Ev.YtgehhippjhealaaGreatC
open Go Go.Proofs
def plJ : AV := .slice (some 2) [.agg [.int .i64 3, .int .i64 4], .agg [.int .i64 5, .int .i64 2], .agg [.int .i64 4, .int .i64 6]] false
abbrev plI (l : List Int) : AV := .slice none (l.map (.int .i64)) false
def plO : List AV := [plI [0, 1, 2], plI [2, 0, 1], plI [0, 0, 1]]
def plH : Heap := setH (List.replicate 71 AObj.none) 3 (.cells 0 plO)
def plK : List AV := [0, 2, 5, 1, 3, 4].map fun w : Int => .agg [.int .i64 w]
def plV : List AV := [3, 8, 6, 10, 12, 12].map fun w : Int => .int .i64 w
def plC (p : AV × Heap) : Bool :=
 (match p.1 with
  | .tuple [.optr 103 0 0, .int .i64 0] => true
  | _ => false) &&
 (match getH p.2 103 with
  | .cells 0 [_, _, _, .omap 166 0] => true
  | _ => false) &&
 (match getH p.2 166 with
  | .map 0 6 ks vs bs => eqAVs (eqV 10) ks plK && eqAVs (eqV 10) vs plV && decide (bs = [0, 1, 2, 3, 4, 5])
  | _ => false)
theorem plC_1 {p : AV × Heap} (h : plC p = true) : p.1 = .tuple [.optr 103 0 0, .int .i64 0] := by
 simp only [plC, Bool.and_eq_true] at h
 have h1 := h.1.1
 split at h1
 ·assumption
 ·cases h1
theorem plC_2 {p : AV × Heap} (h : plC p = true) : ∃ a b c, getH p.2 103 = .cells 0 [a, b, c, .omap 166 0] := by
 simp only [plC, Bool.and_eq_true] at h
 have h1 := h.1.2
 split at h1
 ·next a b c hh => exact ⟨_, _, _, hh⟩
 ·cases h1
theorem plC_3 {p : AV × Heap} (h : plC p = true) : getH p.2 166 = .map 0 6 plK plV [0, 1, 2, 3, 4, 5] := by
 simp only [plC, Bool.and_eq_true] at h
 have h1 := h.2
 split at h1
 ·next ks vs bs hh =>
  simp only [Bool.and_eq_true, decide_eq_true_eq] at h1
  rw [hh, eqAVs_eq (eqV_eq 10) _ _ h1.1.1, eqAVs_eq (eqV_eq 10) _ _ h1.1.2, h1.2]
 ·cases h1
theorem pl_open : (callZ T [] 60 true (.fn 348) [plJ, .agg plO] plH).allB plC = true := by kernel_rfl
end Go.Ev.YtgehhippjhealaaGreatC
set_option linter.unusedSimpArgs false
set_option linter.unusedVariables false
set_option maxRecDepth 100000
namespace Go.Ev.YtgehhippjhealaaGreatC
open Go Go.Proofs
theorem pl_m0 : Con T 61 345 [plJ, .int .i64 0] (.int .i64 3) := con_of (zB_con (k := 0) (n := 60) (l := []) (fun _ h => by cases h) (by kernel_rfl))
theorem pl_m1 : Con T 61 345 [plJ, .int .i64 1] (.int .i64 4) := con_of (zB_con (k := 0) (n := 60) (l := []) (fun _ h => by cases h) (by kernel_rfl))
theorem pl_m2 : Con T 61 345 [plJ, .int .i64 2] (.int .i64 5) := con_of (zB_con (k := 0) (n := 60) (l := []) (fun _ h => by cases h) (by kernel_rfl))
theorem pl_m3 : Con T 61 345 [plJ, .int .i64 3] (.int .i64 2) := con_of (zB_con (k := 0) (n := 60) (l := []) (fun _ h => by cases h) (by kernel_rfl))
theorem pl_m4 : Con T 61 345 [plJ, .int .i64 4] (.int .i64 4) := con_of (zB_con (k := 0) (n := 60) (l := []) (fun _ h => by cases h) (by kernel_rfl))
theorem pl_m5 : Con T 61 345 [plJ, .int .i64 5] (.int .i64 6) := con_of (zB_con (k := 0) (n := 60) (l := []) (fun _ h => by cases h) (by kernel_rfl))
def plZ : List (AV × AV × Nat) := [(.agg [.int .i64 0], .int .i64 3, 0), (.agg [.int .i64 2], .int .i64 8, 1), (.agg [.int .i64 5], .int .i64 6, 2), (.agg [.int .i64 1], .int .i64 10, 3), (.agg [.int .i64 3], .int .i64 12, 4), (.agg [.int .i64 4], .int .i64 12, 5)]
theorem plZ_six (b : Nat) (hb : b < 6) : b = 0 ∨ b = 1 ∨ b = 2 ∨ b = 3 ∨ b = 4 ∨ b = 5 := by omega
theorem plZ_mem (b : Nat) (hb : b < 6) : plZ.getD b default ∈ plZ := by
 rcases plZ_six b hb with rfl | rfl | rfl | rfl | rfl | rfl <;> simp [plZ]
theorem plZ_b (b : Nat) (hb : b < 6) : (plZ.getD b default).2.2 = b := by
 rcases plZ_six b hb with rfl | rfl | rfl | rfl | rfl | rfl <;> rfl
theorem plZ_find (k v : AV) (b : Nat) (h : (k, v, b) ∈ plZ) : plZ.find? (fun t => t.2.2 == b) = some (k, v, b) := by
 simp only [plZ, List.mem_cons, List.not_mem_nil, or_false] at h
 rcases h with h | h | h | h | h | h <;> cases h <;> rfl
theorem plZ_lt (k v : AV) (b : Nat) (h : (k, v, b) ∈ plZ) : b < 6 := by
 simp only [plZ, List.mem_cons, List.not_mem_nil, or_false] at h
 rcases h with h | h | h | h | h | h <;> cases h <;> decide
def plW (seen : List Nat) : List AV :=
 [.int .i64 0, .int .i64 (if seen.contains 3 then 6 else 0), .int .i64 (if seen.contains 1 then 3 else 0), .int .i64 (if seen.contains 4 then 10 else 0), .int .i64 (if seen.contains 5 then 8 else 0), .int .i64 0]
def clGA (g : Option Nat) (zs : List AV) (h : Heap) : AV → Res (AV × Heap)
 | .oslice k ver gx off len _ =>
  match getH h k with
  | .cells v cs =>
   if v = ver ∧ gx = g ∧ off + len * gsize g ≤ cs.length ∧ zs.all oneB = true ∧ zs.length = gsize g ∧ 0 < gsize g then
    if len = 0 then .ret (.undef, h)
    else .ret (.undef, setH h k (.cells v (splice cs off (List.replicate len zs).flatten)))
   else .fail
  | _ => .fail
 | _ => .fail
theorem m_clearG {call : Caller} {base : Nat} {Q : EX × St → Prop} {ks : List Kont} {e : Env} {h : Heap} {l : List IOper} {d : Option Nat} (g : Option Nat) (zs : List AV) (x : IX) : GO call base Q (⟨d, .clearG g zs x, none⟩ :: l) ks ⟨e, h⟩ = GP call base Q d l ks e (clGA g zs h (x.ev e)) := by
 rw [go_op]; rfl
attribute [local irreducible] Res.all evC evLoop evOps evOper evOp evFn evCall freeze G GO GV GP GC R
set_option maxRecDepth 100000
theorem con_Play : Con T 70 272 [plJ, .agg plO] (.tuple [.slice (some 2) [.agg [.int .i64 0, .int .i64 6], .agg [.int .i64 3, .int .i64 10], .agg [.int .i64 8, .int .i64 0]] false, .int .i64 0]) := by
 refine con_intro t272 fun n hn V hV => ?_
 have hop : (evCall T n true (.fn 348) [plJ, .agg plO] plH).all fun p => plC p = true := by
  have h1 := Res.allB_all _ _ pl_open
  have h2 := callZ_le (k := 0) (l := []) (fun a h => by cases h) 60 _ _ _ _ _ h1
  exact evCall_mono T (by omega) _ _ _ _ _ h2
 have hl3 : ([AV.agg [.int .i64 3, .int .i64 4], .agg [.int .i64 5, .int .i64 2], .agg [.int .i64 4, .int .i64 6]] : List AV).length = 3 := rfl
 have hpl : plO.length = 3 := rfl
 have ht3 : plO.take 3 = plO := rfl
 have hone : plO.all oneB = true := rfl
 simp (disch := first | assumption | omega) only [c272, go_sem, ↓reduceIte, hpl, ht3, hone]
 refine gp_of (Res.all_mono _ (show (evCall T n true (.fn 348) [plJ, .agg plO] (setH (List.replicate 71 AObj.none) 3 (AObj.cells 0 plO))).all _ from hop) ?_)
 rintro ⟨v, h⟩ hp
 obtain rfl : v = .tuple [.optr 103 0 0, .int .i64 0] := plC_1 hp
 obtain ⟨ca, cb, cc, g103⟩ := plC_2 hp
 have g166 := plC_3 hp
 simp only at g103 g166
 clear hp hop
 refine go_cutE [(0, plJ), (15, .tuple [.optr 103 0 0, .int .i64 0])] (by simp only [go_sem, ↓reduceIte]) fun e hE => ?_
 simp only [At_cons, At_nil] at hE
 obtain ⟨f0, f15, -⟩ := hE
 have hmo : mapOf h (.omap 166 0) = some (plK, plV) := by simp only [mapOf, g166, if_true]
 have hk6 : plK.length = 6 := rfl
 have hJ : lenA plJ = some 3 := rfl
 have e0 : ((0 : Int) != 0) = false := rfl
 have hd6 : decide ((6 : Int) < 2 * 3) = false := rfl
 have as3 : asNat (.int .i64 3) = some 3 := rfl
 have l166 := getH_lt g166 (by simp)
 have gN : getH h h.length = .none := getH_ge _ _ (Nat.le_refl _)
 have hz : (List.replicate 3 [AV.int .i64 0, .int .i64 0]).flatten = [.int .i64 0, .int .i64 0, .int .i64 0, .int .i64 0, .int .i64 0, .int .i64 0] := rfl
 generalize hA : h.length = A at *
 have n103 : ¬ (A = 103) := by omega
 have n103' : ¬ (103 = A) := by omega
 simp (disch := first | assumption | omega) only [go_sem, ↓reduceIte, f0, f15, g103, hmo, hk6, hJ, e0, gN, hA, hz, m_clearG, clGA, hd6, as3, n103, n103']
 refine gp_rng (c := 6) (ks := plK) (vs := plV) (bs := [0, 1, 2, 3, 4, 5]) (A + 1) (by simp only [length_setH, hA]; omega) (by rw [getH_setH_ne _ _ _ _ (by omega), getH_setH_ne _ _ _ _ (by omega)]; exact g166) ?_
 simp (disch := first | assumption | omega) only [go_sem, ↓reduceIte]
 refine m_loop (fun M st => ∃ seen : List Nat, M = ((List.range 6).filter fun b => !seen.contains b).length ∧ At st.env [(0, plJ), (8, .oslice A 0 (some 2) 0 3 (some 3)), (40, .iter (A + 1) 0)] ∧ getH st.heap A = .cells 0 (plW seen) ∧ getH st.heap (A + 1) = .iter 0 166 0 6 seen 6 ∧ getH st.heap 166 = .map 0 6 plK plV [0, 1, 2, 3, 4, 5]) 6 (by omega)
  ⟨[], rfl, by simp only [go_sem, ↓reduceIte, f0], ?_, getH_setH_self _ _ _, ?_⟩ ?_
 ·rw [getH_setH_ne _ _ _ _ (by omega), getH_setH_self]; rfl
 ·rw [getH_setH_ne _ _ _ _ (by omega), getH_setH_ne _ _ _ _ (by omega), getH_setH_ne _ _ _ _ (by omega)]; exact g166
 clear f0 f15
 rintro M e h2 hM ⟨seen, rfl, hE, gA, gI, gM⟩ P hP
 simp only [At_cons, At_nil] at hE gA gI gM
 obtain ⟨f0, f8, f40, -⟩ := hE
 simp (disch := first | assumption | omega) only [go_sem, ↓reduceIte, m_next, f40]
 refine gp_next gI gM (by decide) (Nat.le_refl _) (fun hl => ?_) (fun k v b hm => ?_)
 ·have hall : ∀ b, b < 6 → seen.contains b = true := fun b hb => by
   cases hc : seen.contains b with
   | true => rfl
   | false =>
    exfalso
    have hz : plK.zip (plV.zip [0, 1, 2, 3, 4, 5]) = plZ := rfl
    rw [leftOf, hz, List.filter_eq_nil_iff] at hl
    have := hl (plZ.getD b default) (plZ_mem b hb)
    rw [plZ_b b hb, hc] at this
    exact this rfl
  have hw : plW seen = [.int .i64 0, .int .i64 6, .int .i64 3, .int .i64 10, .int .i64 8, .int .i64 0] := by
   simp only [plW, hall 3 (by omega), hall 1 (by omega), hall 4 (by omega), hall 5 (by omega), if_true]
  rw [hw] at gA
  simp (disch := first | assumption | omega) only [go_sem, ↓reduceIte, f8]
  refine hV _ _ (frz_two ?_ (frz_int _ _ _ _))
  have hmz : mapR (freeze h2 6) [.int .i64 0, .int .i64 6, .int .i64 3, .int .i64 10, .int .i64 8, .int .i64 0] = .ret [.int .i64 0, .int .i64 6, .int .i64 3, .int .i64 10, .int .i64 8, .int .i64 0] := (by repeat (first | exact mz_nil _ _ | exact frz_int _ _ _ _ | exact frz_bool _ _ _ | exact frz_slice _ _ _ _ _ | exact frz_ptr _ _ _ _ | exact frz_nilptr _ _ | refine mz_cons ?_ ?_ | refine frz_agg ?_ | refine frz_two ?_ ?_ | refine frz_three ?_ ?_ ?_))
  rw [freeze]
  simp only [gA]
  rw [if_pos ⟨trivial, by decide⟩]
  show (mapR (freeze h2 6) [.int .i64 0, .int .i64 6, .int .i64 3, .int .i64 10, .int .i64 8, .int .i64 0]).bind _ = _
  rw [hmz]
  rfl
 ·have hz : plK.zip (plV.zip [0, 1, 2, 3, 4, 5]) = plZ := rfl
  rw [leftOf, hz] at hm
  obtain ⟨hm1, hm2⟩ := List.mem_filter.1 hm
  have hnt : b ∉ seen := by simpa using hm2
  have hen : enA (setH h2 (A + 1) (.iter 0 166 0 6 (seen ++ [b]) 6)) (.iter (A + 1) 0) = .ret (.tuple [k, v]) := by
   have gM2 : getH (setH h2 (A + 1) (.iter 0 166 0 6 (seen ++ [b]) 6)) 166 = .map 0 6 plK plV [0, 1, 2, 3, 4, 5] := by rw [getH_setH_ne _ _ _ _ (by omega)]; exact gM
   simp only [enA, getH_setH_self, gM2, List.getLast?_append, List.getLast?_singleton, Option.some_or, hz]
   rw [if_pos ⟨trivial, trivial, trivial⟩, plZ_find k v b hm1]
  have hb6 := plZ_lt k v b hm1
  have hml : ((List.range 6).filter fun x => !(seen ++ [b]).contains x).length < ((List.range 6).filter fun x => !seen.contains x).length := by
   refine filter_lt2 _ _ (fun u hu => ?_) b ?_ ?_ _ (List.mem_range.2 hb6)
   ·simp at hu ⊢
    exact hu.1
   ·simpa using hnt
   ·simp
  have hct : ∀ c, c ≠ b → (seen ++ [b]).contains c = seen.contains c := fun c hc => by simp [hc]
  have hcb : (seen ++ [b]).contains b = true := by simp
  have nA1 : ¬ (A + 1 = A) := by omega
  have nA2 : ¬ (A = A + 1) := by omega
  have nA3 : ¬ (9 = A) := by omega
  have nA4 : ¬ (A = 9) := by omega
  have nA5 : ¬ (9 = A + 1) := by omega
  have nA6 : ¬ (A + 1 = 9) := by omega
  have nA7 : ¬ (A = 166) := by omega
  have nA8 : ¬ (A + 1 = 166) := by omega
  have nA9 : ¬ (166 = A) := by omega
  have nA0 : ¬ (166 = A + 1) := by omega
  have he0 : ((0 : Int) == 0) = true := rfl
  have he1 : ((1 : Int) == 0) = false := rfl
  have fzm : ∀ (hh : Heap) (w : Int), fz hh [plJ, .int .i64 w] = .ret [plJ, .int .i64 w] := fun hh w => fz_cons (frz_slice _ _ _ _ _) (fz_cons (frz_int _ _ _ _) (fz_nil _))
  unfold plW at gA
  simp only [plZ, List.mem_cons, List.not_mem_nil, or_false] at hm1
  rcases hm1 with hm1 | hm1 | hm1 | hm1 | hm1 | hm1
  ·cases hm1
   have hr : binA .rem (.int .i64 0) (.int .i64 2) = .ret (.int .i64 0) := rfl
   have hq : binA .quo (.int .i64 0) (.int .i64 2) = .ret (.int .i64 0) := rfl
   simp (disch := first | assumption | omega) only [go_sem, ↓reduceIte, m_next, f0, f8, f40, hen]
   refine gp_con pl_m0 (show 61 ≤ n by omega) (fzm _ _) (or_pi _ _ _) ?_
   simp (disch := first | assumption | omega) only [go_sem, ↓reduceIte, f0, f8, f40, hr, hq, he0, he1, nA1, nA2, nA3, nA4, nA5, nA6, nA7, nA8, nA9, nA0, gA]
   refine hP _ _ hml ⟨seen ++ [0], rfl, by simp only [go_sem, ↓reduceIte, f0, f8, f40], ?_, by simp only [go_sem, ↓reduceIte, nA1, nA2, nA3, nA4, nA5, nA6], by simp only [go_sem, ↓reduceIte, nA7, nA8, nA9, nA0, gM]⟩
   simp only [go_sem, ↓reduceIte, nA1, nA2, nA3, nA4, nA5, nA6, plW, hct 3 (by decide), hct 1 (by decide), hct 4 (by decide), hct 5 (by decide)]
   rfl
  ·cases hm1
   have hr : binA .rem (.int .i64 2) (.int .i64 2) = .ret (.int .i64 0) := rfl
   have hq : binA .quo (.int .i64 2) (.int .i64 2) = .ret (.int .i64 1) := rfl
   simp (disch := first | assumption | omega) only [go_sem, ↓reduceIte, m_next, f0, f8, f40, hen]
   refine gp_con pl_m2 (show 61 ≤ n by omega) (fzm _ _) (or_pi _ _ _) ?_
   simp (disch := first | assumption | omega) only [go_sem, ↓reduceIte, f0, f8, f40, hr, hq, he0, he1, nA1, nA2, nA3, nA4, nA5, nA6, nA7, nA8, nA9, nA0, gA]
   refine hP _ _ hml ⟨seen ++ [1], rfl, by simp only [go_sem, ↓reduceIte, f0, f8, f40], ?_, by simp only [go_sem, ↓reduceIte, nA1, nA2, nA3, nA4, nA5, nA6], by simp only [go_sem, ↓reduceIte, nA7, nA8, nA9, nA0, gM]⟩
   simp only [go_sem, ↓reduceIte, nA1, nA2, nA3, nA4, nA5, nA6, plW, hct 3 (by decide), hct 4 (by decide), hct 5 (by decide), hcb]
   rfl
  ·cases hm1
   have hr : binA .rem (.int .i64 5) (.int .i64 2) = .ret (.int .i64 1) := rfl
   have hq : binA .quo (.int .i64 5) (.int .i64 2) = .ret (.int .i64 2) := rfl
   simp (disch := first | assumption | omega) only [go_sem, ↓reduceIte, m_next, f0, f8, f40, hen]
   refine gp_con pl_m5 (show 61 ≤ n by omega) (fzm _ _) (or_pi _ _ _) ?_
   simp (disch := first | assumption | omega) only [go_sem, ↓reduceIte, f0, f8, f40, hr, hq, he0, he1, nA1, nA2, nA3, nA4, nA5, nA6, nA7, nA8, nA9, nA0, gA]
   refine hP _ _ hml ⟨seen ++ [2], rfl, by simp only [go_sem, ↓reduceIte, f0, f8, f40], ?_, by simp only [go_sem, ↓reduceIte, nA1, nA2, nA3, nA4, nA5, nA6], by simp only [go_sem, ↓reduceIte, nA7, nA8, nA9, nA0, gM]⟩
   simp only [go_sem, ↓reduceIte, nA1, nA2, nA3, nA4, nA5, nA6, plW, hct 3 (by decide), hct 1 (by decide), hct 4 (by decide), hct 5 (by decide)]
   rfl
  ·cases hm1
   have hr : binA .rem (.int .i64 1) (.int .i64 2) = .ret (.int .i64 1) := rfl
   have hq : binA .quo (.int .i64 1) (.int .i64 2) = .ret (.int .i64 0) := rfl
   simp (disch := first | assumption | omega) only [go_sem, ↓reduceIte, m_next, f0, f8, f40, hen]
   refine gp_con pl_m1 (show 61 ≤ n by omega) (fzm _ _) (or_pi _ _ _) ?_
   simp (disch := first | assumption | omega) only [go_sem, ↓reduceIte, f0, f8, f40, hr, hq, he0, he1, nA1, nA2, nA3, nA4, nA5, nA6, nA7, nA8, nA9, nA0, gA]
   refine hP _ _ hml ⟨seen ++ [3], rfl, by simp only [go_sem, ↓reduceIte, f0, f8, f40], ?_, by simp only [go_sem, ↓reduceIte, nA1, nA2, nA3, nA4, nA5, nA6], by simp only [go_sem, ↓reduceIte, nA7, nA8, nA9, nA0, gM]⟩
   simp only [go_sem, ↓reduceIte, nA1, nA2, nA3, nA4, nA5, nA6, plW, hct 1 (by decide), hct 4 (by decide), hct 5 (by decide), hcb]
   rfl
  ·cases hm1
   have hr : binA .rem (.int .i64 3) (.int .i64 2) = .ret (.int .i64 1) := rfl
   have hq : binA .quo (.int .i64 3) (.int .i64 2) = .ret (.int .i64 1) := rfl
   simp (disch := first | assumption | omega) only [go_sem, ↓reduceIte, m_next, f0, f8, f40, hen]
   refine gp_con pl_m3 (show 61 ≤ n by omega) (fzm _ _) (or_pi _ _ _) ?_
   simp (disch := first | assumption | omega) only [go_sem, ↓reduceIte, f0, f8, f40, hr, hq, he0, he1, nA1, nA2, nA3, nA4, nA5, nA6, nA7, nA8, nA9, nA0, gA]
   refine hP _ _ hml ⟨seen ++ [4], rfl, by simp only [go_sem, ↓reduceIte, f0, f8, f40], ?_, by simp only [go_sem, ↓reduceIte, nA1, nA2, nA3, nA4, nA5, nA6], by simp only [go_sem, ↓reduceIte, nA7, nA8, nA9, nA0, gM]⟩
   simp only [go_sem, ↓reduceIte, nA1, nA2, nA3, nA4, nA5, nA6, plW, hct 3 (by decide), hct 1 (by decide), hct 5 (by decide), hcb]
   rfl
  ·cases hm1
   have hr : binA .rem (.int .i64 4) (.int .i64 2) = .ret (.int .i64 0) := rfl
   have hq : binA .quo (.int .i64 4) (.int .i64 2) = .ret (.int .i64 2) := rfl
   simp (disch := first | assumption | omega) only [go_sem, ↓reduceIte, m_next, f0, f8, f40, hen]
   refine gp_con pl_m4 (show 61 ≤ n by omega) (fzm _ _) (or_pi _ _ _) ?_
   simp (disch := first | assumption | omega) only [go_sem, ↓reduceIte, f0, f8, f40, hr, hq, he0, he1, nA1, nA2, nA3, nA4, nA5, nA6, nA7, nA8, nA9, nA0, gA]
   refine hP _ _ hml ⟨seen ++ [5], rfl, by simp only [go_sem, ↓reduceIte, f0, f8, f40], ?_, by simp only [go_sem, ↓reduceIte, nA1, nA2, nA3, nA4, nA5, nA6], by simp only [go_sem, ↓reduceIte, nA7, nA8, nA9, nA0, gM]⟩
   simp only [go_sem, ↓reduceIte, nA1, nA2, nA3, nA4, nA5, nA6, plW, hct 3 (by decide), hct 1 (by decide), hct 4 (by decide), hcb]
   rfl
theorem wCz20 : YOk T 2000 wCy20 := by
 have h := conAt_of con_Play (Nat.le_refl _)
 have e : AnsY.mk 272 [plJ, .agg plO] (.tuple [.slice (some 2) [.agg [.int .i64 0, .int .i64 6], .agg [.int .i64 3, .int .i64 10], .agg [.int .i64 8, .int .i64 0]] false, .int .i64 0]) false = wCy20 := by kernel_rfl
 rw [← e]
 exact (yOk_of h).mono (by decide)
end Go.Ev.YtgehhippjhealaaGreatC
