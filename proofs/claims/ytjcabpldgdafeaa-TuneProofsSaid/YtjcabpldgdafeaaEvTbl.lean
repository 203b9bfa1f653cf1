/- A table of compiled functions in the place of the compiler; a law's own function entered from outside. No condition. -/
import Derived.Test.YtjcabpldgdafeaaEvCall
set_option linter.unusedSimpArgs false
set_option linter.unusedVariables false
namespace Go.Ev
open Go

variable {P : Program}

def look : List (Nat × IFunc) → Nat → Option IFunc
  | [], _ => none
  | (k, c) :: r, n => if n = k then some c else look r n

theorem look_ok {t : List (Nat × IFunc)} {f : Nat → Option IFunc} (h : ∀ p ∈ t, f p.1 = some p.2) {n : Nat} {c : IFunc} (hn : look t n = some c) : f n = some c := by
  induction t with
  | nil => cases hn
  | cons p r ih =>
    obtain ⟨k, d⟩ := p
    simp only [look] at hn
    split at hn
    · next he => subst he; cases hn; exact h _ List.mem_cons_self
    · exact ih (fun q hq => h q (List.mem_cons_of_mem _ hq)) hn

def tblCfg (t : List (Nat × IFunc)) : Cfg := ⟨look t, fun _ => false⟩

theorem tblCfg_ok {t : List (Nat × IFunc)} {byr : FuncId → FuncId → Bool} (h : ∀ p ∈ t, (cfgOf P byr).fns p.1 = some p.2) : CfgOk P (tblCfg t) := ⟨(fun _ h => by cases h), fun _ _ hf => (cfgOf_ok P byr).2 _ _ (look_ok h hf)⟩
theorem look_mem {t : List (Nat × IFunc)} {n : Nat} {c : IFunc} (hn : look t n = some c) : (n, c) ∈ t := by
  induction t with
  | nil => cases hn
  | cons p r ih =>
    obtain ⟨k, d⟩ := p
    simp only [look] at hn
    split at hn
    · next he => subst he; cases hn; exact List.mem_cons_self
    · exact List.mem_cons_of_mem _ (ih hn)
/-- with functions that sort -/
theorem tblCfg_okS {t : List (Nat × IFunc)} {byr : FuncId → FuncId → Bool} (h : ∀ p ∈ t, (cfgOf P byr).fns p.1 = some p.2 ∨ (p.2 = sortFn ∧ SortOk P p.1)) : CfgOk P (tblCfg t) := ⟨(fun _ h => by cases h), fun f c hf => by
  rcases h _ (look_mem hf) with h | h
  · exact (cfgOf_ok P byr).2 _ _ h
  · exact .inr h⟩
/-- with functions that copy, too -/
def tblCfgC (t : List (Nat × IFunc)) (cl : List Nat) : Cfg := ⟨look t, fun f => cl.contains f⟩
theorem tblCfgC_ok {t : List (Nat × IFunc)} {cl : List Nat} {byr : FuncId → FuncId → Bool} (h : ∀ p ∈ t, (cfgOf P byr).fns p.1 = some p.2 ∨ (p.2 = sortFn ∧ SortOk P p.1)) (hcl : ∀ f ∈ cl, look t f = some cloneFn) : CfgOk P (tblCfgC t cl) :=
  ⟨fun f hf => hcl f (by simpa [tblCfgC] using hf), fun f c hf => (tblCfg_okS h).2 f c hf⟩

/-- A FUNCTION ENTERED FROM OUTSIDE, its calls answered by a table. -/
theorem ev_enter {cfg : Cfg} (hcfg : CfgOk P cfg) {byr : FuncId → FuncId → Bool} (hm : P.follows .mixedOrders = true) (n : Nat) {f : FuncId} {ifn : IFunc} (hf : (cfgOf P byr).fns f = some ifn) (as : List AV) (vs : Array Value) (w : World) {R : AV → Prop} (hl : as.length = vs.size)
    (hv : ∀ (i : Nat) x v, as[i]? = some x → vs[i]? = some v → FR (fun b => w.heap[b]?) x v) (hq : (evFn (evCall cfg n) ifn as []).all fun p => R p.1) :
    Calls P f vs w fun en w' => ∃ cv v, en = .returned cv ∧ R v ∧ SameOut w w' ∧ w.heap.size ≤ w'.heap.size ∧ (∀ b, b < w.heap.size → w'.heap[b]? = w.heap[b]?) ∧ ∃ M' L', VR M' L' v cv := by
  obtain ⟨fn, h1, h2, byr', h3⟩ := cfgOf_fn P byr hf
  refine (evFn_ok (Q := fun p => R p.1) (callOk_evCall hcfg hm n) (calm_evCall hcfg.1 n) hm h1 h3 (HR.empty (M := fun b => w.heap[b]?) fun b o h => h) (M := fun b => w.heap[b]?) ⟨hl, fun i x v h1 h2 => (hv i x v h1 h2).toVR⟩ hq).mono ?_
  rintro en w' ⟨cv, rfl, v, h', M', L', h1, h2, h3, h4⟩
  exact ⟨cv, v, rfl, h1, h3.out, h3.size, fun b hb => h3.kept b hb (noIm b), M', L', h4⟩

end Go.Ev
