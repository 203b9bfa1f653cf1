/- A caller that knows more answers as much: the evaluator is monotone in what it calls. A closed function, its calls answered by a list. No condition. -/
import Derived.Test.YtadneamkkepknaaEvKer
set_option linter.unusedSimpArgs false
set_option linter.unusedVariables false
namespace Go.Ev
open Go

def CLe (c1 c2 : Caller) : Prop := ∀ (raw : Bool) (t : Tgt) (xs : List AV) (h : Heap) (Q : AV × Heap → Prop), (c1 raw t xs h).all Q → (c2 raw t xs h).all Q

theorem evLoop_le {b1 b2 : St → Res (EX × St)} (hb : ∀ s Q, (b1 s).all Q → (b2 s).all Q) : ∀ (n : Nat) (s : St) (Q : EX × St → Prop), (evLoop b1 n s).all Q → (evLoop b2 n s).all Q
  | 0, s, Q, hq => hq
  | n + 1, s, Q, hq => by
    simp only [evLoop, Res.all_bind] at hq ⊢
    refine Res.all_mono _ (hb s _ hq) ?_
    rintro ⟨x, s'⟩ hx
    cases x with
    | normal => exact evLoop_le hb n s' Q hx
    | exit id => exact hx
    | ret => exact hx

section
variable {c1 c2 : Caller} (hc : CLe c1 c2)
include hc

theorem evOp_le (key : Nat) (op : IOp) (e : Env) (h : Heap) (Q : AV × Heap → Prop) (hq : (evOp c1 key op e h).all Q) : (evOp c2 key op e h).all Q := by
  cases op with
  | call raw f args =>
    simp only [evOp] at hq ⊢
    revert hq
    cases f.ev e <;> first | exact fun h => h | exact fun h => hc _ _ _ _ _ h
  | callF raw f args =>
    simp only [evOp] at hq ⊢
    exact hc _ _ _ _ _ hq
  | _ => exact hq

theorem evOper_le (base : Nat) (o : IOper) (s : St) (Q : St → Prop) (hq : (evOper c1 base o s).all Q) : (evOper c2 base o s).all Q := by
  obtain ⟨d, op, g⟩ := o
  cases g with
  | none =>
    simp only [evOper, Res.all_bind] at hq ⊢
    exact evOp_le hc _ _ _ _ _ hq
  | some p =>
    obtain ⟨t, want⟩ := p
    simp only [evOper] at hq ⊢
    revert hq
    cases getE s.env t with
    | bool b =>
      simp only
      split
      · simp only [Res.all_bind]
        exact evOp_le hc _ _ _ _ _
      · exact fun h => h
    | _ => exact fun h => h

theorem evOps_le (base : Nat) : ∀ (l : List IOper) (s : St) (Q : St → Prop), (evOps c1 base l s).all Q → (evOps c2 base l s).all Q
  | [], s, Q, hq => hq
  | o :: r, s, Q, hq => by
    simp only [evOps, Res.all_bind] at hq ⊢
    exact Res.all_mono _ (evOper_le hc base o s _ hq) fun s hs => evOps_le base r s Q hs

theorem evC_le (base : Nat) : ∀ (c : IC) (s : St) (Q : EX × St → Prop), (evC c1 base c s).all Q → (evC c2 base c s).all Q
  | .skip, s, Q, hq => hq
  | .ops l, s, Q, hq => by
    simp only [evC, Res.all_bind] at hq ⊢
    exact evOps_le hc base l s _ hq
  | .seq a b, s, Q, hq => by
    simp only [evC, Res.all_bind] at hq ⊢
    refine Res.all_mono _ (evC_le base a s _ hq) ?_
    rintro ⟨x, s'⟩ hx
    cases x with
    | normal => exact evC_le base b s' Q hx
    | exit id => exact hx
    | ret => exact hx
  | .cond c a b, s, Q, hq => by
    simp only [evC] at hq ⊢
    revert hq
    cases c.ev s.env with
    | bool t =>
      cases t
      · exact evC_le base b s Q
      · exact evC_le base a s Q
    | _ => exact fun h => h
  | .block id c, s, Q, hq => by
    simp only [evC, Res.all_bind] at hq ⊢
    exact evC_le base c s _ hq
  | .loop c, s, Q, hq => by
    simp only [evC] at hq ⊢
    exact evLoop_le (fun s Q => evC_le base c s Q) rounds s Q hq
  | .exit id, s, Q, hq => hq
  | .ret, s, Q, hq => hq
  | .rangeF f params asg body, s, Q, hq => by
    simp only [evC] at hq ⊢
    revert hq
    cases f.ev s.env with
    | clo g first captured =>
      simp only [Res.all_bind]
      exact hc _ _ _ _ _
    | _ => exact fun h => h
  | .bad, s, Q, hq => hq

theorem evFn_le (fn : IFunc) (xs : List AV) (h : Heap) (Q : AV × Heap → Prop) (hq : (evFn c1 fn xs h).all Q) : (evFn c2 fn xs h).all Q := by
  simp only [evFn, Res.all_bind] at hq ⊢
  exact evC_le hc _ _ _ _ hq
end

theorem conAt_of {T : Cfg} {k n f : Nat} {xs : List AV} {r : AV} (h : Con T k f xs r) (hk : k ≤ n) : ConAt T n f xs r := fun h' as0 V hz hp hV => h n h' as0 V hk hz hp hV

/-! ### a list of calls and their answers -/
structure Ans where
  f : Nat
  args : List AV
  res : AV

def findAns : List Ans → Nat → List AV → Option AV
  | [], _, _ => none
  | a :: r, f, xs => if a.f = f && eqAVs (eqAV 8) a.args xs then some a.res else findAns r f xs

def callX (l : List Ans) : Caller := fun raw t xs h =>
  match raw, t with
  | false, .fn f => match findAns l f xs with
    | some r => .ret (r, h)
    | none => .fail
  | _, _ => .fail

/-- the answer is the function's -/
def AnsOk (T : Cfg) (n : Nat) (a : Ans) : Prop := ∀ (h : Heap) (V : AV × Heap → Prop), V (a.res, h) → (evCall T n false (.fn a.f) a.args h).all V

theorem ansOk_of {T : Cfg} {n f : Nat} {xs xs0 : List AV} {r : AV} (hc : ConAt T n f xs r) (hz : ∀ h, fz h xs0 = .ret xs) (hp : (xs0.all (freeB depth) || plainB depth r) = true) : AnsOk T n ⟨f, xs0, r⟩ := fun h V hV => hc h xs0 V (hz h) hp hV

theorem findAns_mem {f : Nat} {xs : List AV} {r : AV} : ∀ l : List Ans, findAns l f xs = some r → ∃ a ∈ l, a.f = f ∧ a.args = xs ∧ a.res = r
  | [], h => by cases h
  | a :: t, h => by
    simp only [findAns] at h
    split at h
    · next hc =>
      simp only [Bool.and_eq_true, decide_eq_true_eq] at hc
      exact ⟨a, List.mem_cons_self, hc.1, eqAVs_eq (eqAV_eq 8) _ _ hc.2, by simpa using h⟩
    · obtain ⟨b, hb, h1⟩ := findAns_mem t h
      exact ⟨b, List.mem_cons_of_mem _ hb, h1⟩

theorem callX_le {T : Cfg} {n : Nat} {l : List Ans} (hl : ∀ a ∈ l, AnsOk T n a) : CLe (callX l) (evCall T n) := by
  intro raw t xs h Q hq
  unfold callX at hq
  split at hq
  · next f =>
    split at hq
    · next r hr =>
      obtain ⟨a, ha, rfl, rfl, rfl⟩ := findAns_mem l hr
      exact hl a ha h Q hq
    · exact hq.elim
  · exact hq.elim

/-- a function at one input, its calls answered by a list -/
theorem list_con {T : Cfg} {n f : Nat} {c : IFunc} {xs : List AV} {r : AV} {l : List Ans} (hc : T.fns f = some c) (hl : ∀ a ∈ l, AnsOk T n a) (hq : ((evFn (callX l) c xs []).bind fun p => freeze p.2 depth p.1).allB (fun v => eqAV 8 v r) = true) : ConAt T (n + 1) f xs r := by
  intro h as0 V hz hp hV
  simp only [evCall, hc, Bool.false_eq_true, if_false]
  have hz' : mapR (freeze h depth) as0 = .ret xs := hz
  rw [hz']
  simp only [Res.bind, Res.all_bind]
  have := Res.allB_all _ _ hq
  rw [Res.all_bind] at this
  refine Res.all_mono _ (evFn_le (callX_le hl) c xs [] _ this) ?_
  rintro ⟨v, h'⟩ hv
  refine Res.all_mono _ hv ?_
  intro v' hv'
  have hv'' := eqAV_eq _ _ _ hv'
  subst hv''
  simp only [hp, if_true, reduceIte, Res.all]
  exact hV

end Go.Ev
