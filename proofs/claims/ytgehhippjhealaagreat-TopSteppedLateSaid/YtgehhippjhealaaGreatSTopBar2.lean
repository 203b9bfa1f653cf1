/- The inverse of a number for a period: what the loop keeps, and what it ends with. The code of functions that are walked, compiled for the evaluator, as text. The divisor of two numbers, and the inverse, as the barrel reckons them. The drum of pins: the pairs that clash, by a map and a range that deletes. No condition but those that stand in each. -/
import Derived.Test.YtgehhippjhealaaGreatSEvComp
import Derived.Test.YtgehhippjhealaaGreatSTopW
import Derived.Test.YtgehhippjhealaaGreatSEvKer3
import Derived.Test.YtgehhippjhealaaGreatSTopGmp
set_option linter.unusedSimpArgs false
set_option linter.unusedVariables false
namespace Go.Ev.YtgehhippjhealaaGreatC
open Go
end Go.Ev.YtgehhippjhealaaGreatC
set_option linter.unusedSimpArgs false
set_option linter.unusedVariables false
set_option maxRecDepth 100000
namespace Go.Ev.YtgehhippjhealaaGreatC
open Go.Proofs
def c131 : IFunc := ⟨38, [.tmp 4], .seq (.ops [dO 4 (.mv (cI 0))]) (.seq (.ops [dO 5 (.mv (cI 1)), dO 6 (.mv (cI 0))]) (.seq (.seq (.ops [dO 10 (.mv (tM 0)), dO 11 (.mv (tM 1)), dO 12 (.bin .rem (tM 10) (tM 11)), dO 13 (.mv (tM 1)), dO 7 (.mv (tM 12)), dO 8 (.mv (tM 13))]) (.block 0 (.loop (.seq (.seq (.ops [dO 14 (.mv (tM 8)), dO 15 (.bin .neq (tM 14) (cI 0))]) (.cond (tM 15) .skip (.exit 0))) (.block 1 (.seq (.ops [dO 16 (.mv (tM 7)), dO 17 (.mv (tM 8)), dO 18 (.bin .quo (tM 16) (tM 17)), dO 9 (.mv (tM 18))]) (.seq (.ops [dO 19 (.mv (tM 8)), dO 20 (.mv (tM 7)), dO 21 (.mv (tM 9)), dO 22 (.mv (tM 8)), dO 23 (.bin .mul (tM 21) (tM 22)), dO 24 (.bin .sub (tM 20) (tM 23)), dO 7 (.mv (tM 19)), dO 8 (.mv (tM 24))]) (.ops [dO 25 (.mv (tM 6)), dO 26 (.mv (tM 5)), dO 27 (.mv (tM 9)), dO 28 (.mv (tM 6)), dO 29 (.bin .mul (tM 27) (tM 28)), dO 30 (.bin .sub (tM 26) (tM 29)), dO 5 (.mv (tM 25)), dO 6 (.mv (tM 30))])))))))) (.seq (.ops [dO 31 (.mv (tM 5)), dO 32 (.mv (tM 1)), dO 33 (.bin .rem (tM 31) (tM 32)), dO 34 (.mv (tM 1)), dO 35 (.bin .add (tM 33) (tM 34)), dO 36 (.mv (tM 1)), dO 37 (.bin .rem (tM 35) (tM 36)), dO 4 (.mv (tM 37))]) .ret)))⟩
theorem k131 : (cfgOf Tryz.prog byr).fns 131 = some c131 := by kernel_rfl
theorem t131 : T.fns 131 = some c131 := T_fns k131 (by decide) (by decide)
def c67 : IFunc := ⟨67, [.tmp 2, .tmp 3, .tmp 4], .seq (.ops [dO 2 (.mv (cI 0)), dO 3 (.mv (cI 0)), dO 4 (.mv (cB false))]) (.seq (.seq (.ops [dO 12 (.mv (tM 0)), dO 13 (.nilCheck (tM 12)), dO 14 (.fieldAddr 1 (tM 13)), dO 15 (.load none (tM 14)), dO 16 (.lenM (tM 15)), dO 17 (.bin .gtr (tM 16) (cI 0))]) (.cond (tM 17) (.seq (.ops [dO 2 (.mv (cI 0)), dO 3 (.mv (cI 0)), dO 4 (.mv (cB false))]) .ret) .skip)) (.seq (.ops [dO 5 (.mv (cI 0)), dO 6 (.mv (cI 1))]) (.seq (.seq (.ops [dO 18 (.mv (tM 0)), dO 19 (.nilCheck (tM 18)), dO 20 (.fieldAddr 0 (tM 19)), dO 21 (.fieldAddr 0 (tM 20)), dO 22 (.load none (tM 21)), dO 23 (.len (tM 22)), dO 24 (.mv (cI 0))]) (.block 0 (.loop (.seq (.ops [dO 25 (.bin .lss (tM 24) (tM 23))]) (.seq (.cond (tM 25) .skip (.exit 0)) (.seq (.block 1 (.seq (.ops [dO 26 (.indexAddr 2 (tM 22) (tM 24)), dO 27 (.load (some 2) (tM 26)), dO 8 (.alloc [.int .i64 0, .int .i64 0]), eO (.store 2 (tM 8) (tM 27))]) (.seq (.ops [dO 28 (.mv (tM 6)), dO 29 (.fieldAddr 0 (tM 8)), dO 30 (.load none (tM 29)), dO 31 (.callF false 130 [tM 28, tM 30]), dO 9 (.mv (tM 31))]) (.seq (.ops [dO 32 (.fieldAddr 0 (tM 8)), dO 33 (.load none (tM 32)), dO 34 (.mv (tM 9)), dO 35 (.bin .quo (tM 33) (tM 34)), dO 10 (.mv (tM 35))]) (.seq (.ops [dO 36 (.fieldAddr 1 (tM 8)), dO 37 (.load none (tM 36)), dO 38 (.mv (tM 5)), dO 39 (.bin .sub (tM 37) (tM 38)), dO 40 (.mv (tM 9)), dO 41 (.bin .quo (tM 39) (tM 40)), dO 42 (.mv (tM 10)), dO 43 (.bin .rem (tM 41) (tM 42)), dO 44 (.mv (tM 6)), dO 45 (.mv (tM 9)), dO 46 (.bin .quo (tM 44) (tM 45)), dO 47 (.mv (tM 10)), dO 48 (.callF false 131 [tM 46, tM 47]), dO 49 (.bin .mul (tM 43) (tM 48)), dO 50 (.mv (tM 10)), dO 51 (.bin .rem (tM 49) (tM 50)), dO 11 (.mv (tM 51))]) (.seq (.ops [dO 52 (.mv (tM 5)), dO 53 (.mv (tM 11)), dO 54 (.mv (tM 10)), dO 55 (.bin .add (tM 53) (tM 54)), dO 56 (.mv (tM 10)), dO 57 (.bin .rem (tM 55) (tM 56)), dO 58 (.mv (tM 6)), dO 59 (.bin .mul (tM 57) (tM 58)), dO 60 (.bin .add (tM 52) (tM 59)), dO 5 (.mv (tM 60))]) (.ops [dO 61 (.mv (tM 6)), dO 62 (.mv (tM 10)), dO 63 (.bin .mul (tM 61) (tM 62)), dO 6 (.mv (tM 63))]))))))) (.ops [dO 64 (.bin .add (tM 24) (cI 1)), dO 24 (.mv (tM 64))]))))))) (.seq (.ops [dO 65 (.mv (tM 5)), dO 66 (.mv (tM 6)), dO 2 (.mv (tM 65)), dO 3 (.mv (tM 66)), dO 4 (.mv (cB true))]) .ret))))⟩
theorem k67 : (cfgOf Tryz.prog byr).fns 67 = some c67 := by kernel_rfl
theorem t67 : T.fns 67 = some c67 := T_fns k67 (by decide) (by decide)
def c66 : IFunc := ⟨19, [.tmp 4, .tmp 5], .seq (.ops [dO 4 (.mv (.const .nilptr)), dO 5 (.mv (cI 0))]) (.seq (.ops [dO 7 (.mv (tM 0)), dO 8 (.callF false 127 [tM 7]), dO 6 (.mv (tM 8))]) (.seq (.block 0 (.seq (.ops [dO 10 (.mv (tM 6)), dO 11 (.bin .neq (tM 10) (cI 0)), dO 9 (.mv (tM 11))]) (.cond (tM 9) (.seq (.ops [dO 12 (.mv (tM 6)), dO 4 (.mv (.const .nilptr)), dO 5 (.mv (tM 12))]) .ret) (.seq (.ops [dO 14 (.mv (tM 1)), dO 15 (.callF false 128 [cI 0, cI 1000000000000, tM 14]), dO 16 (.un .not (tM 15)), dO 13 (.mv (tM 16))]) (.cond (tM 13) (.seq (.ops [dO 4 (.mv (.const .nilptr)), dO 5 (.mv (cI 3))]) .ret) .skip))))) (.seq (.ops [dO 17 (.mv (tM 0)), dO 18 (.callF true 129 [tM 17]), dO 4 (.mv (tM 18)), dO 5 (.mv (cI 0))]) .ret)))⟩
theorem k66 : (cfgOf Tryz.prog byr).fns 66 = some c66 := by kernel_rfl
theorem t66 : T.fns 66 = some c66 := T_fns k66 (by decide) (by decide)
end Go.Ev.YtgehhippjhealaaGreatC
set_option linter.unusedSimpArgs false
set_option linter.unusedVariables false
namespace Go.Ev.YtgehhippjhealaaGreatC
open Go Go.Proofs
attribute [local irreducible] Res.all evC evLoop evOps evOper evOp evFn evCall freeze G GO GV GP GC R
set_option maxRecDepth 100000
end Go.Ev.YtgehhippjhealaaGreatC
set_option linter.unusedSimpArgs false
set_option linter.unusedVariables false
namespace Go.Ev.YtgehhippjhealaaGreatC
open Go Go.Proofs
attribute [local irreducible] Res.all evC evLoop evOps evOper evOp evFn evCall freeze G GO GV GP GC R
set_option maxRecDepth 100000
theorem getH_newT (h : Heap) (n k : Nat) : getH (h ++ List.replicate n .none) (h.length + k) = .none := by
 rw [getH_append_none]
 exact getH_ge _ _ (by omega)
def prs (k : Nat) : List (Nat × Nat) := (List.range k).flatMap fun b => (List.range b).map fun a => (a, b)
def prU (k i : Nat) : List (Nat × Nat) := prs k ++ (List.range i).map fun a => (a, k)
theorem prU_zero (k : Nat) : prU k 0 = prs k := by simp [prU]
theorem prU_succ (k i : Nat) : prU k (i + 1) = prU k i ++ [(i, k)] := by simp [prU, List.range_succ, List.append_assoc]
theorem prU_full (k : Nat) : prU k k = prs (k + 1) := by simp [prU, prs, List.range_succ]
theorem mem_prs {k : Nat} {q : Nat × Nat} : q ∈ prs k ↔ q.1 < q.2 ∧ q.2 < k := by
 obtain ⟨a, b⟩ := q
 simp only [prs, List.mem_flatMap, List.mem_range, List.mem_map, Prod.mk.injEq]
 constructor
 ·rintro ⟨b', hb, a', ha, rfl, rfl⟩; exact ⟨ha, hb⟩
 ·rintro ⟨h1, h2⟩; exact ⟨b, h2, a, h1, rfl, rfl⟩
theorem mem_prU {k i : Nat} {q : Nat × Nat} : q ∈ prU k i ↔ (q.1 < q.2 ∧ q.2 < k) ∨ (q.1 < i ∧ q.2 = k) := by
 obtain ⟨a, b⟩ := q
 simp only [prU, List.mem_append, mem_prs, List.mem_map, List.mem_range, Prod.mk.injEq]
 constructor
 ·rintro (h | ⟨a', h, rfl, rfl⟩)
  ·exact .inl h
  ·exact .inr ⟨h, rfl⟩
 ·rintro (h | ⟨h, rfl⟩)
  ·exact .inl h
  ·exact .inr ⟨a, h, rfl, rfl⟩
theorem prs_nodup : ∀ k, (prs k).Nodup
 | 0 => by simp [prs]
 | k + 1 => by
  rw [← prU_full]
  have h : ∀ i, (prU k i).Nodup := fun i => by
   induction i with
   | zero => rw [prU_zero]; exact prs_nodup k
   | succ i ih =>
    rw [prU_succ, List.nodup_append]
    refine ⟨ih, by simp, fun x hx y hy => ?_⟩
    obtain rfl : y = (i, k) := by simpa using hy
    intro e
    subst e
    have := mem_prU.1 hx
    simp at this
  exact h k
def calm (l : List (Nat × Nat)) (t : LE) : Bool := decide (((((l.getD t.1.1 (0, 0)).2 : Nat) : Int) - (((l.getD t.1.2 (0, 0)).2 : Nat) : Int)).tmod (t.2.1 : Int) = 0)
end Go.Ev.YtgehhippjhealaaGreatC
