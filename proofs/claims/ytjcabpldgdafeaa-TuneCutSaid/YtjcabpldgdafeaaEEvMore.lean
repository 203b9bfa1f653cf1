/- Walking over maps: rules for each operation, and for a range over a map. No condition but those that stand in each. -/
import Derived.Test.YtjcabpldgdafeaaEEvMach
set_option linter.unusedSimpArgs false
set_option linter.unusedVariables false
namespace Go.Ev
open Go
section
variable {call : Caller} {base : Nat} {Q : EX × St → Prop} {ks : List Kont} {e : Env} {h : Heap} {l : List IOper} {d : Option Nat}
theorem m_mkMap : GO call base Q (⟨d, .mkMap, none⟩ :: l) ks ⟨e, h⟩ = GO call base Q l ks ⟨setDst e d (.omap h.length (getH h h.length).next), setH h h.length (.map (getH h h.length).next 0 [] [] [])⟩ := by
 rw [go_op]; rfl
def lkA (kn : Option Nat) (zero : AV) (ok : Bool) (k : AV) : Option (List AV × List AV) → Res AV
 | some (ks, vs) =>
  if keyOk kn k then
   match findK kn k ks 0 with
   | none => .fail
   | some none => .ret (if ok then .tuple [zero, .bool false] else zero)
   | some (some i) => match vs[i]? with
    | some v => .ret (if ok then .tuple [v, .bool true] else v)
    | none => .fail
  else .fail
 | none => .fail
theorem m_lookup (kn : Option Nat) (zero : AV) (ok : Bool) (x k : IX) : GO call base Q (⟨d, .lookup kn zero ok x k, none⟩ :: l) ks ⟨e, h⟩ = GV call base Q d l ks e h (lkA kn zero ok (k.ev e) (mapOf h (x.ev e))) := by
 rw [go_op]
 simp only [evOp, GV]
 cases mapOf h (x.ev e) with
 | none => rfl
 | some p =>
  obtain ⟨a, b⟩ := p
  simp only [lkA]
  split
  ·cases findK kn (k.ev e) a 0 with
   | none => rfl
   | some q =>
    cases q with
    | none => rfl
    | some i => simp only; cases b[i]? <;> rfl
  ·rfl
def muA (kn : Option Nat) (h : Heap) (k v : AV) : AV → Res (AV × Heap)
 | .omap key ver =>
  match getH h key with
  | .map u clock ks vs bs =>
   if u = ver ∧ keyOk kn k then
    match findK kn k ks 0 with
    | none => .fail
    | some none => .ret (.undef, setH h key (.map u (clock + 1) (ks ++ [k]) (vs ++ [v]) (bs ++ [clock])))
    | some (some i) => .ret (.undef, setH h key (.map u clock (ks.set i k) (vs.set i v) bs))
   else .fail
  | _ => .fail
 | _ => .fail
theorem m_mapUpdate (kn : Option Nat) (x k v : IX) : GO call base Q (⟨d, .mapUpdate kn x k v, none⟩ :: l) ks ⟨e, h⟩ = GP call base Q d l ks e (muA kn h (k.ev e) (v.ev e) (x.ev e)) := by
 rw [go_op]; rfl
def dlA (kn : Option Nat) (h : Heap) (k : AV) : AV → Res (AV × Heap)
 | .omap key ver =>
  match getH h key with
  | .map u clock ks vs bs =>
   if u = ver ∧ keyOk kn k then
    match findK kn k ks 0 with
    | none => .fail
    | some none => .ret (.undef, h)
    | some (some i) => .ret (.undef, setH h key (.map u clock (ks.eraseIdx i) (vs.eraseIdx i) (bs.eraseIdx i)))
   else .fail
  | _ => .fail
 | _ => .fail
theorem m_delete (kn : Option Nat) (x k : IX) : GO call base Q (⟨d, .delete kn x k, none⟩ :: l) ks ⟨e, h⟩ = GP call base Q d l ks e (dlA kn h (k.ev e) (x.ev e)) := by
 rw [go_op]; rfl
theorem m_lenM (x : IX) : GO call base Q (⟨d, .lenM x, none⟩ :: l) ks ⟨e, h⟩ = (match mapOf h (x.ev e) with | some p => GO call base Q l ks ⟨setDst e d (.int .i64 p.1.length), h⟩ | none => False) := by
 rw [go_op]
 simp only [evOp]
 cases mapOf h (x.ev e) <;> rfl
def rgA (h : Heap) : AV → Res (AV × Heap)
 | .omap key ver =>
  match getH h key with
  | .map u clock _ _ _ =>
   if u = ver then .ret (.iter h.length (getH h h.length).next, setH h h.length (.iter (getH h h.length).next key ver clock [] clock))
   else .fail
  | _ => .fail
 | _ => .fail
theorem m_range (x : IX) : GO call base Q (⟨d, .range x, none⟩ :: l) ks ⟨e, h⟩ = GP call base Q d l ks e (rgA h (x.ev e)) := by
 rw [go_op]; rfl
def leftOf (ks vs : List AV) (bs seen : List Nat) : List (AV × AV × Nat) := (ks.zip (vs.zip bs)).filter fun t => !seen.contains t.2.2
def nxA (h : Heap) : AV → Res (AV × Heap)
 | .iter key ver =>
  match getH h key with
  | .iter u mk mv since seen stepped =>
   match getH h mk with
   | .map w clock ks vs bs =>
    if u = ver ∧ w = mv ∧ bs.all (fun b => decide (b < since)) ∧ since ≤ stepped then
     if (leftOf ks vs bs seen).isEmpty then .ret (.tuple [.bool false], h)
     else .choice (leftOf ks vs bs seen).length fun j =>
      match (leftOf ks vs bs seen)[j]? with
      | some (k, v, b) => .ret (.tuple [.bool true, k, v], setH h key (.iter u mk mv since (seen ++ [b]) clock))
      | none => .fail
    else .fail
   | _ => .fail
  | _ => .fail
 | _ => .fail
theorem m_next (x : IX) : GO call base Q (⟨d, .next x, none⟩ :: l) ks ⟨e, h⟩ = GP call base Q d l ks e (nxA h (x.ev e)) := by
 rw [go_op]; rfl
def enA (h : Heap) : AV → Res AV
 | .iter key ver =>
  match getH h key with
  | .iter u mk mv _ seen stepped =>
   match getH h mk, seen.getLast? with
   | .map w clock ks vs bs, some s =>
    if u = ver ∧ w = mv ∧ clock = stepped then
     match (ks.zip (vs.zip bs)).find? fun t => t.2.2 == s with
     | some (k, v, _) => .ret (.tuple [k, v])
     | none => .fail
    else .fail
   | _, _ => .fail
  | _ => .fail
 | _ => .fail
theorem m_entry (x : IX) : GO call base Q (⟨d, .entry x, none⟩ :: l) ks ⟨e, h⟩ = GV call base Q d l ks e h (enA h (x.ev e)) := by
 rw [go_op]
 simp only [evOp, GV]
 cases x.ev e with
 | iter key ver =>
  simp only [enA]
  cases getH h key with
  | iter u mk mv s seen stepped =>
   simp only
   cases getH h mk with
   | map w clock ks vs bs =>
    cases seen.getLast? with
    | none => rfl
    | some s =>
     simp only
     split
     ·cases (ks.zip (vs.zip bs)).find? fun t => t.2.2 == s with
      | none => rfl
      | some p => rfl
     ·rfl
   | _ => rfl
  | _ => rfl
 | _ => rfl
theorem gp_next {key ver mk mv since clock stepped : Nat} {seen : List Nat} {kks vs : List AV} {bs : List Nat} (hi : getH h key = .iter ver mk mv since seen stepped) (hm : getH h mk = .map mv clock kks vs bs)
  (hb : ∀ b ∈ bs, b < since) (hs : since ≤ stepped)
  (hE : leftOf kks vs bs seen = [] → GO call base Q l ks ⟨setDst e d (.tuple [.bool false]), h⟩)
  (hN : ∀ k v b, (k, v, b) ∈ leftOf kks vs bs seen → GO call base Q l ks ⟨setDst e d (.tuple [.bool true, k, v]), setH h key (.iter ver mk mv since (seen ++ [b]) clock)⟩) :
  GP call base Q d l ks e (nxA h (.iter key ver)) := by
 have hball : bs.all (fun b => decide (b < since)) = true := List.all_eq_true.2 fun b hb' => decide_eq_true (hb b hb')
 simp only [nxA, hi, hm]
 rw [if_pos ⟨trivial, trivial, hball, hs⟩]
 cases hl : leftOf kks vs bs seen with
 | nil => exact hE hl
 | cons a r =>
  refine ⟨by simp, fun j hj => ?_⟩
  obtain ⟨p, hp⟩ := get_ex hj
  obtain ⟨k, v, b⟩ := p
  simp only [hp]
  exact hN k v b (hl ▸ List.mem_of_getElem? hp)
end
theorem frz_agg {h : Heap} {n : Nat} {cs cs' : List AV} (hcs : mapR (freeze h n) cs = .ret cs') : freeze h (n + 1) (.agg cs) = .ret (.agg cs') := by
 rw [freeze, hcs]
 rfl
theorem or_plain {a : Bool} {r : AV} (h : plainB depth r = true) : (a || plainB depth r) = true := by cases a <;> simp [h]
theorem splice_all : ∀ (new a b : List AV), b.length = new.length → splice (a ++ b) a.length new = a ++ new
 | [], a, b, h => by
  obtain rfl : b = [] := by simpa using h
  rfl
 | c :: r, a, b, h => by
  match b, h with
  | d :: b, h =>
   rw [splice, List.set_append_right _ _ (Nat.le_refl _), Nat.sub_self, List.set_cons_zero]
   have := splice_all r (a ++ [c]) b (by simpa using h)
   simpa using this
theorem splice_full (new cs : List AV) (h : cs.length = new.length) : splice cs 0 new = new := splice_all new [] cs h
attribute [go_sem] m_mkMap m_lookup m_mapUpdate m_delete m_lenM m_range m_next m_entry
end Go.Ev
namespace Go.Ev
open Go
def ConAt (T : Cfg) (n f : Nat) (as : List AV) (r : AV) : Prop :=
 ∀ (h : Heap) (as0 : List AV) (V : AV × Heap → Prop), fz h as0 = .ret as → (as0.all (freeB depth) || plainB depth r) = true → V (r, h) → (evCall T n false (.fn f) as0 h).all V
def Res.allB {α : Type} (q : α → Bool) : Res α → Bool
 | .fail => false
 | .ret a => q a
 | .choice n k => decide (0 < n) && (List.range n).all fun i => (k i).allB q
theorem Res.allB_all {α : Type} (q : α → Bool) : ∀ x : Res α, x.allB q = true → x.all fun a => q a = true
 | .fail, h => by cases h
 | .ret a, h => h
 | .choice n k, h => by
  simp only [Res.allB, Bool.and_eq_true, decide_eq_true_eq, List.all_eq_true, List.mem_range] at h
  exact ⟨h.1, fun i hi => Res.allB_all q (k i) (h.2 i hi)⟩
def eqAVs (f : AV → AV → Bool) : List AV → List AV → Bool
 | [], [] => true
 | a :: r, b :: s => f a b && eqAVs f r s
 | _, _ => false
theorem eqAVs_eq {f : AV → AV → Bool} (hf : ∀ a b, f a b = true → a = b) : ∀ l r, eqAVs f l r = true → l = r
 | [], [], _ => rfl
 | a :: l, b :: r, h => by
  simp only [eqAVs, Bool.and_eq_true] at h
  rw [hf a b h.1, eqAVs_eq hf l r h.2]
 | [], _ :: _, h => by cases h
 | _ :: _, [], h => by cases h
def eqAV : Nat → AV → AV → Bool
 | 0, _, _ => false
 | _ + 1, .bool a, .bool b => a == b
 | _ + 1, .int k a, .int k' b => decide (k = k') && decide (a = b)
 | n + 1, .agg a, .agg b => eqAVs (eqAV n) a b
 | n + 1, .tuple a, .tuple b => eqAVs (eqAV n) a b
 | n + 1, .slice g a x, .slice g' b y => decide (g = g') && eqAVs (eqAV n) a b && (x == y)
 | _ + 1, _, _ => false
theorem eqAV_eq : ∀ n a b, eqAV n a b = true → a = b := by
 intro n
 induction n with
 | zero => intro a b h; cases h
 | succ n ih =>
  intro a b h
  cases a <;> cases b <;> simp only [eqAV, Bool.and_eq_true, decide_eq_true_eq, beq_iff_eq] at h <;> first | (cases h; done) | skip
  ·rw [h]
  ·rw [h.1, h.2]
  ·rw [eqAVs_eq ih _ _ h]
  ·rw [eqAVs_eq ih _ _ h]
  ·rw [h.1.1, eqAVs_eq ih _ _ h.1.2, h.2]
theorem gp_at {T : Cfg} {f n : Nat} {as as0 : List AV} {r : AV} {h : Heap} {base : Nat} {Q : EX × St → Prop} {d : Option Nat} {l : List IOper} {ks : List Kont} {e : Env} (hc : ConAt T n f as r) (hz : fz h as0 = .ret as) (hp : (as0.all (freeB depth) || plainB depth r) = true) :
  GP (evCall T n) base Q d l ks e (evCall T n false (.fn f) as0 h) = GO (evCall T n) base Q l ks ⟨setDst e d r, h⟩ := by
 have h1 := hc h as0 (fun p => p = (r, h)) hz hp rfl
 refine propext ⟨fun hg => ?_, fun hg => hc h as0 _ hz hp hg⟩
 obtain ⟨p, h2, h3⟩ := Res.all_some _ (Res.all_and _ h1 hg)
 subst h2
 exact h3
end Go.Ev
namespace Go.Ev
open Go
def CLe (c1 c2 : Caller) : Prop := ∀ (raw : Bool) (t : Tgt) (xs : List AV) (h : Heap) (Q : AV × Heap → Prop), (c1 raw t xs h).all Q → (c2 raw t xs h).all Q
theorem evLoop_le {b1 b2 : St → Res (EX × St)} (hb : ∀ s Q, (b1 s).all Q → (b2 s).all Q) : ∀ (n : Nat) (s : St) (Q : EX × St → Prop), (evLoop b1 n s).all Q → (evLoop b2 n s).all Q
 | 0, s, Q, hq => hq
 | n + 1, s, Q, hq => by
  simp only [evLoop, Res.all_bind] at hq ⊢
  refine Res.all_mono _ (hb s _ hq) ?_
  rintro ⟨x, s'⟩ hx
  cases x with
  | normal => exact evLoop_le hb n s' Q hx
  | exit id => exact hx
  | ret => exact hx
section
variable {c1 c2 : Caller} (hc : CLe c1 c2)
include hc
theorem evOp_le (key : Nat) (op : IOp) (e : Env) (h : Heap) (Q : AV × Heap → Prop) (hq : (evOp c1 key op e h).all Q) : (evOp c2 key op e h).all Q := by
 cases op with
 | call raw f args =>
  simp only [evOp] at hq ⊢
  revert hq
  cases f.ev e <;> first | exact fun h => h | exact fun h => hc _ _ _ _ _ h
 | callF raw f args =>
  simp only [evOp] at hq ⊢
  exact hc _ _ _ _ _ hq
 | callS f args =>
  simp only [evOp] at hq ⊢
  split at hq
  ·next h => rw [if_pos h]; exact hc _ _ _ _ _ hq
  ·exact hq.elim
 | callC d0 n f args =>
  simp only [evOp] at hq ⊢
  split at hq
  ·next h => rw [if_pos h]; exact hc _ _ _ _ _ hq
  ·exact hq.elim
 | _ => exact hq
theorem evOper_le (base : Nat) (o : IOper) (s : St) (Q : St → Prop) (hq : (evOper c1 base o s).all Q) : (evOper c2 base o s).all Q := by
 obtain ⟨d, op, g⟩ := o
 cases g with
 | none =>
  simp only [evOper, Res.all_bind] at hq ⊢
  exact evOp_le hc _ _ _ _ _ hq
 | some p =>
  obtain ⟨t, want⟩ := p
  simp only [evOper] at hq ⊢
  revert hq
  cases getE s.env t with
  | bool b =>
   simp only
   split
   ·simp only [Res.all_bind]
    exact evOp_le hc _ _ _ _ _
   ·exact fun h => h
  | _ => exact fun h => h
theorem evOps_le (base : Nat) : ∀ (l : List IOper) (s : St) (Q : St → Prop), (evOps c1 base l s).all Q → (evOps c2 base l s).all Q
 | [], s, Q, hq => hq
 | o :: r, s, Q, hq => by
  simp only [evOps, Res.all_bind] at hq ⊢
  exact Res.all_mono _ (evOper_le hc base o s _ hq) fun s hs => evOps_le base r s Q hs
theorem evC_le (base : Nat) : ∀ (c : IC) (s : St) (Q : EX × St → Prop), (evC c1 base c s).all Q → (evC c2 base c s).all Q
 | .skip, s, Q, hq => hq
 | .ops l, s, Q, hq => by
  simp only [evC, Res.all_bind] at hq ⊢
  exact evOps_le hc base l s _ hq
 | .seq a b, s, Q, hq => by
  simp only [evC, Res.all_bind] at hq ⊢
  refine Res.all_mono _ (evC_le base a s _ hq) ?_
  rintro ⟨x, s'⟩ hx
  cases x with
  | normal => exact evC_le base b s' Q hx
  | exit id => exact hx
  | ret => exact hx
 | .cond c a b, s, Q, hq => by
  simp only [evC] at hq ⊢
  revert hq
  cases c.ev s.env with
  | bool t =>
   cases t
   ·exact evC_le base b s Q
   ·exact evC_le base a s Q
  | _ => exact fun h => h
 | .block id c, s, Q, hq => by
  simp only [evC, Res.all_bind] at hq ⊢
  exact evC_le base c s _ hq
 | .loop c, s, Q, hq => by
  simp only [evC] at hq ⊢
  exact evLoop_le (fun s Q => evC_le base c s Q) rounds s Q hq
 | .exit id, s, Q, hq => hq
 | .ret, s, Q, hq => hq
 | .rangeF f params asg body, s, Q, hq => by
  simp only [evC] at hq ⊢
  revert hq
  cases f.ev s.env with
  | clo g first captured =>
   simp only [Res.all_bind]
   exact hc _ _ _ _ _
  | _ => exact fun h => h
 | .bad, s, Q, hq => hq
 | .sortA, s, Q, hq => hq
theorem evFn_le (fn : IFunc) (xs : List AV) (h : Heap) (Q : AV × Heap → Prop) (hq : (evFn c1 fn xs h).all Q) : (evFn c2 fn xs h).all Q := by
 simp only [evFn, Res.all_bind] at hq ⊢
 exact evC_le hc _ _ _ _ hq
end
theorem conAt_of {T : Cfg} {k n f : Nat} {xs : List AV} {r : AV} (h : Con T k f xs r) (hk : k ≤ n) : ConAt T n f xs r := fun h' as0 V hz hp hV => h n h' as0 V hk hz hp hV
structure Ans where
 f : Nat
 args : List AV
 res : AV
def findAns : List Ans → Nat → List AV → Option AV
 | [], _, _ => none
 | a :: r, f, xs => if a.f = f && eqAVs (eqAV 8) a.args xs then some a.res else findAns r f xs
def callX (l : List Ans) : Caller := fun raw t xs h =>
 match raw, t with
 | false, .fn f => match findAns l f xs with
  | some r => .ret (r, h)
  | none => .fail
 | _, _ => .fail
def AnsOk (T : Cfg) (n : Nat) (a : Ans) : Prop := ∀ (h : Heap) (V : AV × Heap → Prop), V (a.res, h) → (evCall T n false (.fn a.f) a.args h).all V
theorem ansOk_of {T : Cfg} {n f : Nat} {xs xs0 : List AV} {r : AV} (hc : ConAt T n f xs r) (hz : ∀ h, fz h xs0 = .ret xs) (hp : (xs0.all (freeB depth) || plainB depth r) = true) : AnsOk T n ⟨f, xs0, r⟩ := fun h V hV => hc h xs0 V (hz h) hp hV
theorem findAns_mem {f : Nat} {xs : List AV} {r : AV} : ∀ l : List Ans, findAns l f xs = some r → ∃ a ∈ l, a.f = f ∧ a.args = xs ∧ a.res = r
 | [], h => by cases h
 | a :: t, h => by
  simp only [findAns] at h
  split at h
  ·next hc =>
   simp only [Bool.and_eq_true, decide_eq_true_eq] at hc
   exact ⟨a, List.mem_cons_self, hc.1, eqAVs_eq (eqAV_eq 8) _ _ hc.2, by simpa using h⟩
  ·obtain ⟨b, hb, h1⟩ := findAns_mem t h
   exact ⟨b, List.mem_cons_of_mem _ hb, h1⟩
theorem callX_le {T : Cfg} {n : Nat} {l : List Ans} (hl : ∀ a ∈ l, AnsOk T n a) : CLe (callX l) (evCall T n) := by
 intro raw t xs h Q hq
 unfold callX at hq
 split at hq
 ·next f =>
  split at hq
  ·next r hr =>
   obtain ⟨a, ha, rfl, rfl, rfl⟩ := findAns_mem l hr
   exact hl a ha h Q hq
  ·exact hq.elim
 ·exact hq.elim
theorem list_con {T : Cfg} {n f : Nat} {c : IFunc} {xs : List AV} {r : AV} {l : List Ans} (hc : T.fns f = some c) (hl : ∀ a ∈ l, AnsOk T n a) (hq : ((evFn (callX l) c xs []).bind fun p => freeze p.2 depth p.1).allB (fun v => eqAV 8 v r) = true) : ConAt T (n + 1) f xs r := by
 intro h as0 V hz hp hV
 simp only [evCall, hc, Bool.false_eq_true, if_false]
 have hz' : mapR (freeze h depth) as0 = .ret xs := hz
 rw [hz']
 simp only [Res.bind, Res.all_bind]
 have := Res.allB_all _ _ hq
 rw [Res.all_bind] at this
 refine Res.all_mono _ (evFn_le (callX_le hl) c xs [] _ this) ?_
 rintro ⟨v, h'⟩ hv
 refine Res.all_mono _ hv ?_
 intro v' hv'
 have hv'' := eqAV_eq _ _ _ hv'
 subst hv''
 simp only [hp, Bool.true_or, if_true, reduceIte, Res.all]
 exact hV
end Go.Ev
namespace Go.Ev
open Go
end Go.Ev
namespace Go.Ev
open Go
section
variable {call : Caller} {base : Nat} {Q : EX × St → Prop} {ks : List Kont} {e : Env} {h : Heap}
theorem m_rangeF {f : IX} {params : List Nat} {asg body : IC} {g : FuncId} {first captured : List AV} (hf : f.ev e = .clo g first captured)
  (hq : (call true (.fn g) (first ++ [.yld h.length (getH h h.length).next] ++ captured) (setH h h.length (.loop (getH h h.length).next .ready none ⟨base, e, params, asg, body⟩))).all fun p =>
   ∃ st pend lf, getH p.2 h.length = .loop (getH h h.length).next st pend lf ∧ st ≠ .busy ∧ R call base Q (pend.getD .normal) ks ⟨e, setH p.2 h.length (.loop (getH h h.length).next .exhausted pend lf)⟩) :
  G call base Q (.rangeF f params asg body) ks ⟨e, h⟩ := by
 simp only [G, evC, hf, all_bind]
 refine Res.all_mono _ hq ?_
 rintro ⟨v, h'⟩ ⟨st, pend, lf, h1, h2, h3⟩
 simp only [h1]
 rw [if_pos ⟨trivial, h2⟩]
 exact h3
theorem m_rangeF' {f : IX} {params : List Nat} {asg body : IC} {g : FuncId} {first captured : List AV} {n : Nat} (hf : f.ev e = .clo g first captured) (hlen : h.length = n)
  (hq : ∀ lf : LoopF, lf.base = base → lf.env = e → lf.params = params → lf.asg = asg → lf.body = body → (call true (.fn g) (first ++ [.yld n 0] ++ captured) (setH h n (.loop 0 .ready none lf))).all fun p =>
   ∃ st pend lf, getH p.2 n = .loop 0 st pend lf ∧ st ≠ .busy ∧ R call base Q (pend.getD .normal) ks ⟨e, setH p.2 n (.loop 0 .exhausted pend lf)⟩) :
  G call base Q (.rangeF f params asg body) ks ⟨e, h⟩ := by
 refine m_rangeF hf ?_
 have hn : getH h h.length = .none := getH_ge _ _ (Nat.le_refl _)
 rw [hn, hlen]
 exact hq ⟨base, e, params, asg, body⟩ rfl rfl rfl rfl rfl
theorem g_cut {c : IC} (I : St → Prop) (h0 : I ⟨e, h⟩) (hq : ∀ e h, I ⟨e, h⟩ → G call base Q c ks ⟨e, h⟩) : G call base Q c ks ⟨e, h⟩ := hq e h h0
theorem m_round {T : Cfg} {n key ver : Nat} {args : List AV} {pend : Option EX} {lf : LoopF} {V : AV × Heap → Prop} (hl : getH h key = .loop ver .ready pend lf) (ha : args.length = lf.params.length)
  (hq : G (evCall T n) lf.base (fun p => p.1 = .normal ∧ ∃ pend2 lf2, getH p.2.heap key = .loop ver .ready pend2 lf2 ∧
   G (evCall T n) lf.base (fun p => ∃ st3 pend3 lf3, getH p.2.heap key = .loop ver st3 pend3 lf3 ∧ (match p.1 with
    | .normal => V (.bool true, setH p.2.heap key (.loop ver .ready none lf3))
    | x => V (.bool false, setH p.2.heap key (.loop ver .done (some x) lf3)))) lf.body [] ⟨p.2.env, setH p.2.heap key (.loop ver .busy pend2 lf2)⟩) lf.asg [] ⟨setPs lf.env lf.params args, h⟩) :
  (evCall T (n + 1) true (.yld key ver) args h).all V := by
 simp only [evCall, if_true, reduceIte, evRound, hl]
 rw [if_pos ⟨trivial, ha⟩, all_bind]
 refine Res.all_mono _ hq ?_
 rintro ⟨x, s⟩ ⟨hx, pend2, lf2, h1, h2⟩
 simp only at hx
 subst hx
 simp only [h1, if_true, reduceIte, all_bind]
 refine Res.all_mono _ h2 ?_
 rintro ⟨x, s⟩ ⟨st3, pend3, lf3, h3, h4⟩
 simp only at h3 h4
 simp only [h3, if_true, reduceIte]
 cases x with
 | normal => exact h4
 | exit id => exact h4
 | ret => exact h4
end
end Go.Ev
namespace Go.Ev
open Go
end Go.Ev
