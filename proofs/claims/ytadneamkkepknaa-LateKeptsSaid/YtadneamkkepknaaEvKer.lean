/- Contracts at one input, reckoned by the kernel. No condition. -/
import Derived.Test.YtadneamkkepknaaEvMach
set_option linter.unusedSimpArgs false
set_option linter.unusedVariables false
namespace Go.Ev
open Go

/-- what a function answers at just this depth, called by value -/
def ConAt (T : Cfg) (n f : Nat) (as : List AV) (r : AV) : Prop :=
  ∀ (h : Heap) (as0 : List AV) (V : AV × Heap → Prop), fz h as0 = .ret as → (as0.all (freeB depth) || plainB depth r) = true → V (r, h) → (evCall T n false (.fn f) as0 h).all V

def Res.allB {α : Type} (q : α → Bool) : Res α → Bool
  | .fail => false
  | .ret a => q a
  | .choice n k => decide (0 < n) && (List.range n).all fun i => (k i).allB q

theorem Res.allB_all {α : Type} (q : α → Bool) : ∀ x : Res α, x.allB q = true → x.all fun a => q a = true
  | .fail, h => by cases h
  | .ret a, h => h
  | .choice n k, h => by
    simp only [Res.allB, Bool.and_eq_true, decide_eq_true_eq, List.all_eq_true, List.mem_range] at h
    exact ⟨h.1, fun i hi => Res.allB_all q (k i) (h.2 i hi)⟩

def eqAVs (f : AV → AV → Bool) : List AV → List AV → Bool
  | [], [] => true
  | a :: r, b :: s => f a b && eqAVs f r s
  | _, _ => false

theorem eqAVs_eq {f : AV → AV → Bool} (hf : ∀ a b, f a b = true → a = b) : ∀ l r, eqAVs f l r = true → l = r
  | [], [], _ => rfl
  | a :: l, b :: r, h => by
    simp only [eqAVs, Bool.and_eq_true] at h
    rw [hf a b h.1, eqAVs_eq hf l r h.2]
  | [], _ :: _, h => by cases h
  | _ :: _, [], h => by cases h

def eqAV : Nat → AV → AV → Bool
  | 0, _, _ => false
  | _ + 1, .bool a, .bool b => a == b
  | _ + 1, .int k a, .int k' b => decide (k = k') && decide (a = b)
  | n + 1, .agg a, .agg b => eqAVs (eqAV n) a b
  | n + 1, .tuple a, .tuple b => eqAVs (eqAV n) a b
  | n + 1, .slice g a x, .slice g' b y => decide (g = g') && eqAVs (eqAV n) a b && (x == y)
  | _ + 1, _, _ => false

theorem eqAV_eq : ∀ n a b, eqAV n a b = true → a = b := by
  intro n
  induction n with
  | zero => intro a b h; cases h
  | succ n ih =>
    intro a b h
    cases a <;> cases b <;> simp only [eqAV, Bool.and_eq_true, decide_eq_true_eq, beq_iff_eq] at h <;> first | (cases h; done) | skip
    · rw [h]
    · rw [h.1, h.2]
    · rw [eqAVs_eq ih _ _ h]
    · rw [eqAVs_eq ih _ _ h]
    · rw [h.1.1, eqAVs_eq ih _ _ h.1.2, h.2]

theorem ker_con {T : Cfg} {n f : Nat} {c : IFunc} {as : List AV} {r : AV} (hc : T.fns f = some c) (hq : ((evFn (evCall T n) c as []).bind fun p => freeze p.2 depth p.1).allB (fun v => eqAV 8 v r) = true) : ConAt T (n + 1) f as r := by
  intro h as0 V hz hp hV
  simp only [evCall, hc, Bool.false_eq_true, if_false]
  have hz' : mapR (freeze h depth) as0 = .ret as := hz
  rw [hz']
  simp only [Res.bind, Res.all_bind]
  have := Res.allB_all _ _ hq
  rw [Res.all_bind] at this
  refine Res.all_mono _ this ?_
  rintro ⟨v, h'⟩ hv
  refine Res.all_mono _ hv ?_
  intro v' hv'
  have hv'' := eqAV_eq _ _ _ hv'
  subst hv''
  simp only [hp, if_true, reduceIte, Res.all]
  exact hV

theorem gp_at {T : Cfg} {f n : Nat} {as as0 : List AV} {r : AV} {h : Heap} {base : Nat} {Q : EX × St → Prop} {d : Option Nat} {l : List IOper} {ks : List Kont} {e : Env} (hc : ConAt T n f as r) (hz : fz h as0 = .ret as) (hp : (as0.all (freeB depth) || plainB depth r) = true) :
    GP (evCall T n) base Q d l ks e (evCall T n false (.fn f) as0 h) = GO (evCall T n) base Q l ks ⟨setDst e d r, h⟩ := by
  have h1 := hc h as0 (fun p => p = (r, h)) hz hp rfl
  refine propext ⟨fun hg => ?_, fun hg => hc h as0 _ hz hp hg⟩
  obtain ⟨p, h2, h3⟩ := Res.all_some _ (Res.all_and _ h1 hg)
  subst h2
  exact h3

theorem conAt_intro {T : Cfg} {n f : Nat} {c : IFunc} {as : List AV} {r : AV} (hc : T.fns f = some c)
    (hq : ∀ V : AV × Heap → Prop, (∀ v h, freeze h 8 v = .ret r → V (v, h)) → G (evCall T n) 0 (Fin c.results V) c.body [] ⟨as, List.replicate c.ntmps .none⟩) : ConAt T (n + 1) f as r := by
  intro h as0 V hz hp hV
  simp only [evCall, hc, Bool.false_eq_true, if_false]
  have hz' : mapR (freeze h depth) as0 = .ret as := hz
  rw [hz']
  simp only [Res.bind, Res.all_bind]
  have := hq (fun p => freeze p.2 depth p.1 = .ret r) fun v h hv => hv
  rw [show List.replicate c.ntmps AObj.none = [] ++ List.replicate c.ntmps .none from rfl, show (0 : Nat) = ([] : Heap).length from rfl, ← m_fn] at this
  refine Res.all_mono _ this ?_
  rintro ⟨v, h'⟩ hv
  simp only at hv
  rw [hv]
  simp only [Res.all, hp, if_true, reduceIte]
  exact hV

end Go.Ev
