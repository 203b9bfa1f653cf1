/- Walking a range over a function: the loop's record, and one round. No condition. -/
import Derived.Test.YtadneamkkepknaaEvSl
set_option linter.unusedSimpArgs false
set_option linter.unusedVariables false
namespace Go.Ev
open Go

section
variable {call : Caller} {base : Nat} {Q : EX × St → Prop} {ks : List Kont} {e : Env} {h : Heap}

theorem m_rangeF {f : IX} {params : List Nat} {asg body : IC} {g : FuncId} {first captured : List AV} (hf : f.ev e = .clo g first captured)
    (hq : (call true (.fn g) (first ++ [.yld h.length (getH h h.length).next] ++ captured) (setH h h.length (.loop (getH h h.length).next .ready none ⟨base, e, params, asg, body⟩))).all fun p =>
      ∃ st pend lf, getH p.2 h.length = .loop (getH h h.length).next st pend lf ∧ st ≠ .busy ∧ R call base Q (pend.getD .normal) ks ⟨e, setH p.2 h.length (.loop (getH h h.length).next .exhausted pend lf)⟩) :
    G call base Q (.rangeF f params asg body) ks ⟨e, h⟩ := by
  simp only [G, evC, hf, all_bind]
  refine Res.all_mono _ hq ?_
  rintro ⟨v, h'⟩ ⟨st, pend, lf, h1, h2, h3⟩
  simp only [h1]
  rw [if_pos ⟨trivial, h2⟩]
  exact h3

theorem m_rangeF' {f : IX} {params : List Nat} {asg body : IC} {g : FuncId} {first captured : List AV} {n : Nat} (hf : f.ev e = .clo g first captured) (hlen : h.length = n)
    (hq : ∀ lf : LoopF, lf.base = base → lf.env = e → lf.params = params → lf.asg = asg → lf.body = body → (call true (.fn g) (first ++ [.yld n 0] ++ captured) (setH h n (.loop 0 .ready none lf))).all fun p =>
      ∃ st pend lf, getH p.2 n = .loop 0 st pend lf ∧ st ≠ .busy ∧ R call base Q (pend.getD .normal) ks ⟨e, setH p.2 n (.loop 0 .exhausted pend lf)⟩) :
    G call base Q (.rangeF f params asg body) ks ⟨e, h⟩ := by
  refine m_rangeF hf ?_
  have hn : getH h h.length = .none := getH_ge _ _ (Nat.le_refl _)
  rw [hn, hlen]
  exact hq ⟨base, e, params, asg, body⟩ rfl rfl rfl rfl rfl

/-- what is known of a state is kept, the rest forgotten -/
theorem g_cut {c : IC} (I : St → Prop) (h0 : I ⟨e, h⟩) (hq : ∀ e h, I ⟨e, h⟩ → G call base Q c ks ⟨e, h⟩) : G call base Q c ks ⟨e, h⟩ := hq e h h0

/-- one round -/
theorem m_round {T : Cfg} {n key ver : Nat} {args : List AV} {pend : Option EX} {lf : LoopF} {V : AV × Heap → Prop} (hl : getH h key = .loop ver .ready pend lf) (ha : args.length = lf.params.length)
    (hq : G (evCall T n) lf.base (fun p => p.1 = .normal ∧ ∃ pend2 lf2, getH p.2.heap key = .loop ver .ready pend2 lf2 ∧
      G (evCall T n) lf.base (fun p => ∃ st3 pend3 lf3, getH p.2.heap key = .loop ver st3 pend3 lf3 ∧ (match p.1 with
        | .normal => V (.bool true, setH p.2.heap key (.loop ver .ready none lf3))
        | x => V (.bool false, setH p.2.heap key (.loop ver .done (some x) lf3)))) lf.body [] ⟨p.2.env, setH p.2.heap key (.loop ver .busy pend2 lf2)⟩) lf.asg [] ⟨setPs lf.env lf.params args, h⟩) :
    (evCall T (n + 1) true (.yld key ver) args h).all V := by
  simp only [evCall, if_true, reduceIte, evRound, hl]
  rw [if_pos ⟨trivial, ha⟩, all_bind]
  refine Res.all_mono _ hq ?_
  rintro ⟨x, s⟩ ⟨hx, pend2, lf2, h1, h2⟩
  simp only at hx
  subst hx
  simp only [h1, if_true, reduceIte, all_bind]
  refine Res.all_mono _ h2 ?_
  rintro ⟨x, s⟩ ⟨st3, pend3, lf3, h3, h4⟩
  simp only at h3 h4
  simp only [h3, if_true, reduceIte]
  cases x with
  | normal => exact h4
  | exit id => exact h4
  | ret => exact h4
end

end Go.Ev
