/- The evaluator knows more with more depth; a function at one input, its calls by value answered by a list, its other calls reckoned. No condition but those that stand in each. -/
import Derived.Test.YtjcabpldgdafeaaEEvMore
set_option linter.unusedSimpArgs false
set_option linter.unusedVariables false
namespace Go.Ev
open Go
section
variable {c1 c2 : Caller} (hc : CLe c1 c2)
include hc
theorem evRound_le (key ver : Nat) (args : List AV) (h : Heap) (Q : AV × Heap → Prop) (hq : (evRound c1 key ver args h).all Q) : (evRound c2 key ver args h).all Q := by
 unfold evRound at hq ⊢
 revert hq
 cases getH h key with
 | loop u st pend lf =>
  simp only
  by_cases hcond : u = ver ∧ args.length = lf.params.length
  ·rw [if_pos hcond, if_pos hcond, Res.all_bind, Res.all_bind]
   intro hq
   refine Res.all_mono _ (evC_le hc _ _ _ _ hq) ?_
   rintro ⟨x, s⟩ hx
   simp only at hx ⊢
   revert hx
   cases x with
   | normal =>
    cases getH s.heap key with
    | loop u2 st2 pend2 lf2 =>
     cases st2 <;> try exact fun h => h
     simp only
     by_cases hu : u2 = ver
     ·rw [if_pos hu, if_pos hu, Res.all_bind, Res.all_bind]
      intro hx
      exact evC_le hc _ _ _ _ hx
     ·rw [if_neg hu, if_neg hu]; exact fun h => h
    | _ => exact fun h => h
   | _ => exact fun h => h
  ·rw [if_neg hcond, if_neg hcond]; exact fun h => h
 | _ => exact fun h => h
end
theorem evCall_le (T : Cfg) : ∀ n, CLe (evCall T n) (evCall T (n + 1))
 | 0 => fun raw t xs h Q hq => hq.elim
 | n + 1 => fun raw t xs h Q hq => by
  have ih := evCall_le T n
  cases t with
  | yld k v =>
   simp only [evCall] at hq ⊢
   split at hq
   ·next hr => rw [if_pos hr]; exact evRound_le ih _ _ _ _ _ hq
   ·exact hq.elim
  | clone f => exact hq
  | fn f =>
   simp only [evCall] at hq ⊢
   cases hf : T.fns f with
   | none => simp only [hf, Res.all] at hq
   | some fn =>
    simp only [hf] at hq ⊢
    split at hq
    ·next hr => rw [if_pos hr]; exact evFn_le ih _ _ _ _ hq
    ·next hr =>
     rw [if_neg hr]
     rw [Res.all_bind] at hq ⊢
     refine Res.all_mono _ hq fun a ha => ?_
     rw [Res.all_bind] at ha ⊢
     exact evFn_le ih _ _ _ _ ha
theorem evCall_mono (T : Cfg) {n m : Nat} (h : n ≤ m) : CLe (evCall T n) (evCall T m) := by
 induction h with
 | refl => exact fun _ _ _ _ _ h => h
 | step _ ih => exact fun raw t xs h Q hq => evCall_le T _ raw t xs h Q (ih raw t xs h Q hq)
theorem AnsOk.mono {T : Cfg} {n m : Nat} {a : Ans} (h : AnsOk T n a) (hm : n ≤ m) : AnsOk T m a := fun h' V hV => evCall_mono T hm _ _ _ _ _ (h h' V hV)
theorem ConAt.mono {T : Cfg} {n m f : Nat} {xs : List AV} {r : AV} (h : ConAt T n f xs r) (hm : n ≤ m) : ConAt T m f xs r := fun h' as0 V hz hp hV => evCall_mono T hm _ _ _ _ _ (h h' as0 V hz hp hV)
theorem ConAt.con {T : Cfg} {n f : Nat} {xs : List AV} {r : AV} (h : ConAt T n f xs r) : Con T n f xs r := fun m h' as0 V hm hz hp hV => h.mono hm h' as0 V hz hp hV
def ConAtF (T : Cfg) (n f : Nat) (as : List AV) (r : AV) : Prop :=
 ∀ (h : Heap) (as0 : List AV) (V : AV × Heap → Prop), fz h as0 = .ret as → V (r, h) → (evCall T n false (.fn f) as0 h).all V
theorem ConAtF.mono {T : Cfg} {n m f : Nat} {xs : List AV} {r : AV} (h : ConAtF T n f xs r) (hm : n ≤ m) : ConAtF T m f xs r := fun h' as0 V hz hV => evCall_mono T hm _ _ _ _ _ (h h' as0 V hz hV)
def eqV : Nat → AV → AV → Bool
 | 0, _, _ => false
 | _ + 1, .bool a, .bool b => a == b
 | _ + 1, .int k a, .int k' b => decide (k = k') && decide (a = b)
 | n + 1, .agg a, .agg b => eqAVs (eqV n) a b
 | n + 1, .tuple a, .tuple b => eqAVs (eqV n) a b
 | n + 1, .slice g a x, .slice g' b y => decide (g = g') && eqAVs (eqV n) a b && (x == y)
 | n + 1, .ptr a i, .ptr b j => eqAVs (eqV n) a b && decide (i = j)
 | _ + 1, .nilptr, .nilptr => true
 | n + 1, .clo f a b, .clo g c d => decide (f = g) && eqAVs (eqV n) a c && eqAVs (eqV n) b d
 | _ + 1, _, _ => false
theorem eqV_eq : ∀ n a b, eqV n a b = true → a = b := by
 intro n
 induction n with
 | zero => intro a b h; cases h
 | succ n ih =>
  intro a b h
  cases a <;> cases b <;> simp only [eqV, Bool.and_eq_true, decide_eq_true_eq, beq_iff_eq] at h <;> first | (cases h; done) | skip
  ·rw [h]
  ·rw [h.1, h.2]
  ·rw [eqAVs_eq ih _ _ h]
  ·rw [eqAVs_eq ih _ _ h]
  ·rw [h.1.1, eqAVs_eq ih _ _ h.1.2, h.2]
  ·rw [eqAVs_eq ih _ _ h.1, h.2]
  ·rfl
  ·rw [h.1.1, eqAVs_eq ih _ _ h.1.2, eqAVs_eq ih _ _ h.2]
structure AnsY where
 f : Nat
 args : List AV
 res : AV
 fresh : Bool
def YOk (T : Cfg) (n : Nat) (a : AnsY) : Prop := if a.fresh then ConAtF T n a.f a.args a.res else ConAt T n a.f a.args a.res
theorem YOk.mono {T : Cfg} {n m : Nat} {a : AnsY} (h : YOk T n a) (hm : n ≤ m) : YOk T m a := by
 unfold YOk at h ⊢
 split at h
 ·next hf => rw [if_pos hf]; exact ConAtF.mono h hm
 ·next hf => rw [if_neg hf]; exact ConAt.mono h hm
theorem yOk_of {T : Cfg} {n f : Nat} {xs : List AV} {r : AV} (h : ConAt T n f xs r) : YOk T n ⟨f, xs, r, false⟩ := h
theorem yOk_fr {T : Cfg} {n f : Nat} {xs : List AV} {r : AV} (h : ConAtF T n f xs r) : YOk T n ⟨f, xs, r, true⟩ := h
def findY : List AnsY → Nat → List AV → Option (AV × Bool)
 | [], _, _ => none
 | a :: r, f, xs => if a.f = f && eqAVs (eqV 10) a.args xs then some (a.res, a.fresh) else findY r f xs
theorem findY_mem {f : Nat} {xs : List AV} {p : AV × Bool} : ∀ l : List AnsY, findY l f xs = some p → ∃ a ∈ l, a.f = f ∧ a.args = xs ∧ (a.res, a.fresh) = p
 | [], h => by cases h
 | a :: t, h => by
  simp only [findY] at h
  split at h
  ·next hc =>
   simp only [Bool.and_eq_true, decide_eq_true_eq] at hc
   exact ⟨a, List.mem_cons_self, hc.1, eqAVs_eq (eqV_eq 10) _ _ hc.2, by simpa using h⟩
  ·obtain ⟨b, hb, h1⟩ := findY_mem t h
   exact ⟨b, List.mem_cons_of_mem _ hb, h1⟩
def callY (T : Cfg) (l : List AnsY) : Nat → Caller
 | 0, _, _, _, _ => .fail
 | n + 1, raw, .fn f, xs, h =>
  if raw then
   match T.fns f with
   | some fn => evFn (callY T l n) fn xs h
   | none => .fail
  else
   (mapR (freeze h depth) xs).bind fun xs' =>
   match findY l f xs' with
   | some (r, fr) => if xs.all (freeB depth) || plainB depth r || fr then .ret (r, h) else .fail
   | none => .fail
 | n + 1, raw, .yld k v, xs, h => if raw then evRound (callY T l n) k v xs h else .fail
 | n + 1, raw, .clone f, xs, h => if raw && T.clones f then evClone xs h else .fail
theorem callY_le {T : Cfg} {k : Nat} {l : List AnsY} (hl : ∀ a ∈ l, YOk T k a) : ∀ n, CLe (callY T l n) (evCall T (k + n))
 | 0 => fun raw t xs h Q hq => hq.elim
 | n + 1 => fun raw t xs h Q hq => by
  have ih := callY_le hl n
  cases t with
  | yld k v =>
   simp only [callY] at hq
   simp only [← Nat.add_assoc, evCall]
   split at hq
   ·next hr => rw [if_pos hr]; exact evRound_le ih _ _ _ _ _ hq
   ·exact hq.elim
  | clone f => exact hq
  | fn f =>
   simp only [callY] at hq
   split at hq
   ·next hr =>
    subst hr
    simp only [← Nat.add_assoc, evCall]
    cases hf : T.fns f with
    | none => simp only [hf, Res.all] at hq
    | some fn =>
     simp only [hf] at hq ⊢
     exact evFn_le ih _ _ _ _ hq
   ·next hr =>
    have hr : raw = false := by simpa using hr
    subst hr
    rw [Res.all_bind] at hq
    obtain ⟨xs', hx, hq⟩ := (Det.mapR xs fun x _ => freeze_det h depth x).all hq
    cases hfy : findY l f xs' with
    | none => rw [hfy] at hq; exact hq.elim
    | some p =>
     obtain ⟨r, fr⟩ := p
     rw [hfy] at hq
     simp only at hq
     obtain ⟨a, ha, rfl, rfl, he⟩ := findY_mem l hfy
     cases he
     have hok := (hl a ha).mono (show k ≤ k + (n + 1) by omega)
     unfold YOk at hok
     split at hq
     ·next hc =>
      by_cases hfr : a.fresh = true
      ·rw [if_pos hfr] at hok
       exact hok h xs Q hx hq
      ·rw [if_neg hfr] at hok
       refine hok h xs Q hx ?_ hq
       have hff : a.fresh = false := by simpa using hfr
       rw [hff, Bool.or_false] at hc
       exact hc
     ·exact hq.elim
theorem listY_con {T : Cfg} {k n f : Nat} {c : IFunc} {xs : List AV} {r : AV} {l : List AnsY} (hc : T.fns f = some c) (hl : ∀ a ∈ l, YOk T k a) (hq : ((evFn (callY T l n) c xs []).bind fun p => freeze p.2 depth p.1).allB (fun v => eqV 10 v r) = true) : ConAt T (k + n + 1) f xs r := by
 intro h as0 V hz hp hV
 simp only [evCall, hc, Bool.false_eq_true, if_false]
 have hz' : mapR (freeze h depth) as0 = .ret xs := hz
 rw [hz']
 simp only [Res.bind, Res.all_bind]
 have := Res.allB_all _ _ hq
 rw [Res.all_bind] at this
 refine Res.all_mono _ (evFn_le (callY_le hl n) c xs [] _ this) ?_
 rintro ⟨v, h'⟩ hv
 refine Res.all_mono _ hv ?_
 intro v' hv'
 have hv'' := eqV_eq _ _ _ hv'
 subst hv''
 simp only [hp, Bool.true_or, if_true, reduceIte, Res.all]
 exact hV
theorem ker_conV {T : Cfg} {n f : Nat} {c : IFunc} {xs : List AV} {r : AV} (hc : T.fns f = some c) (hq : ((evFn (evCall T n) c xs []).bind fun p => freeze p.2 depth p.1).allB (fun v => eqV 10 v r) = true) : ConAt T (n + 1) f xs r := by
 intro h as0 V hz hp hV
 simp only [evCall, hc, Bool.false_eq_true, if_false]
 have hz' : mapR (freeze h depth) as0 = .ret xs := hz
 rw [hz']
 simp only [Res.bind, Res.all_bind]
 have := Res.allB_all _ _ hq
 rw [Res.all_bind] at this
 refine Res.all_mono _ this ?_
 rintro ⟨v, h'⟩ hv
 refine Res.all_mono _ hv ?_
 intro v' hv'
 have hv'' := eqV_eq _ _ _ hv'
 subst hv''
 simp only [hp, Bool.true_or, if_true, reduceIte, Res.all]
 exact hV
theorem ker_conF {T : Cfg} {n f : Nat} {c : IFunc} {xs : List AV} {r : AV} (hc : T.fns f = some c) (hq : ((evFn (evCall T n) c xs []).bind fun p => (freeze p.2 depth p.1).bind fun v => .ret (.tuple [v, .bool (freshB p.2 depth p.1)])).allB (fun v => eqV 11 v (.tuple [r, .bool true])) = true) : ConAtF T (n + 1) f xs r := by
 intro h as0 V hz hV
 simp only [evCall, hc, Bool.false_eq_true, if_false]
 have hz' : mapR (freeze h depth) as0 = .ret xs := hz
 rw [hz']
 simp only [Res.bind, Res.all_bind]
 have := Res.allB_all _ _ hq
 rw [Res.all_bind] at this
 refine Res.all_mono _ this ?_
 rintro ⟨v, h'⟩ hv
 rw [Res.all_bind] at hv
 refine Res.all_mono _ hv ?_
 intro v' hv'
 simp only [Res.all] at hv'
 have hv'' := eqV_eq _ _ _ hv'
 simp only [AV.tuple.injEq, List.cons.injEq, AV.bool.injEq, and_true] at hv''
 obtain ⟨rfl, hf⟩ := hv''
 simp only [hf, Bool.or_true, if_true, reduceIte, Res.all]
 exact hV
end Go.Ev
