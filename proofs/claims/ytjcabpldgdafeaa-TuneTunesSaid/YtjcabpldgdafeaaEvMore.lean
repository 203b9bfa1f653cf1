/- Walking over maps: rules for each operation, and for a range over a map. No condition. Contracts at one input, reckoned by the kernel. No condition. A caller that knows more answers as much: the evaluator is monotone in what it calls. A closed function, its calls answered by a list. No condition. Copies and clearings of whole slices. No condition. Walking a range over a function: the loop's record, and one round. No condition. Shifts and the last bit, over natural numbers. No condition. -/
import Derived.Test.YtjcabpldgdafeaaEvMach
set_option linter.unusedSimpArgs false
set_option linter.unusedVariables false
namespace Go.Ev
open Go

section
variable {call : Caller} {base : Nat} {Q : EX × St → Prop} {ks : List Kont} {e : Env} {h : Heap} {l : List IOper} {d : Option Nat}

theorem m_mkMap : GO call base Q (⟨d, .mkMap, none⟩ :: l) ks ⟨e, h⟩ = GO call base Q l ks ⟨setDst e d (.omap h.length (getH h h.length).next), setH h h.length (.map (getH h h.length).next 0 [] [] [])⟩ := by
  rw [go_op]; rfl

def lkA (kn : Option Nat) (zero : AV) (ok : Bool) (k : AV) : Option (List AV × List AV) → Res AV
  | some (ks, vs) =>
    if keyOk kn k then
      match findK kn k ks 0 with
      | none => .fail
      | some none => .ret (if ok then .tuple [zero, .bool false] else zero)
      | some (some i) => match vs[i]? with
        | some v => .ret (if ok then .tuple [v, .bool true] else v)
        | none => .fail
    else .fail
  | none => .fail
theorem m_lookup (kn : Option Nat) (zero : AV) (ok : Bool) (x k : IX) : GO call base Q (⟨d, .lookup kn zero ok x k, none⟩ :: l) ks ⟨e, h⟩ = GV call base Q d l ks e h (lkA kn zero ok (k.ev e) (mapOf h (x.ev e))) := by
  rw [go_op]
  simp only [evOp, GV]
  cases mapOf h (x.ev e) with
  | none => rfl
  | some p =>
    obtain ⟨a, b⟩ := p
    simp only [lkA]
    split
    · cases findK kn (k.ev e) a 0 with
      | none => rfl
      | some q =>
        cases q with
        | none => rfl
        | some i => simp only; cases b[i]? <;> rfl
    · rfl

def muA (kn : Option Nat) (h : Heap) (k v : AV) : AV → Res (AV × Heap)
  | .omap key ver =>
    match getH h key with
    | .map u clock ks vs bs =>
      if u = ver ∧ keyOk kn k then
        match findK kn k ks 0 with
        | none => .fail
        | some none => .ret (.undef, setH h key (.map u (clock + 1) (ks ++ [k]) (vs ++ [v]) (bs ++ [clock])))
        | some (some i) => .ret (.undef, setH h key (.map u clock (ks.set i k) (vs.set i v) bs))
      else .fail
    | _ => .fail
  | _ => .fail
theorem m_mapUpdate (kn : Option Nat) (x k v : IX) : GO call base Q (⟨d, .mapUpdate kn x k v, none⟩ :: l) ks ⟨e, h⟩ = GP call base Q d l ks e (muA kn h (k.ev e) (v.ev e) (x.ev e)) := by
  rw [go_op]; rfl

def dlA (kn : Option Nat) (h : Heap) (k : AV) : AV → Res (AV × Heap)
  | .omap key ver =>
    match getH h key with
    | .map u clock ks vs bs =>
      if u = ver ∧ keyOk kn k then
        match findK kn k ks 0 with
        | none => .fail
        | some none => .ret (.undef, h)
        | some (some i) => .ret (.undef, setH h key (.map u clock (ks.eraseIdx i) (vs.eraseIdx i) (bs.eraseIdx i)))
      else .fail
    | _ => .fail
  | _ => .fail
theorem m_delete (kn : Option Nat) (x k : IX) : GO call base Q (⟨d, .delete kn x k, none⟩ :: l) ks ⟨e, h⟩ = GP call base Q d l ks e (dlA kn h (k.ev e) (x.ev e)) := by
  rw [go_op]; rfl

theorem m_lenM (x : IX) : GO call base Q (⟨d, .lenM x, none⟩ :: l) ks ⟨e, h⟩ = (match mapOf h (x.ev e) with | some p => GO call base Q l ks ⟨setDst e d (.int .i64 p.1.length), h⟩ | none => False) := by
  rw [go_op]
  simp only [evOp]
  cases mapOf h (x.ev e) <;> rfl

def rgA (h : Heap) : AV → Res (AV × Heap)
  | .omap key ver =>
    match getH h key with
    | .map u clock _ _ _ =>
      if u = ver then .ret (.iter h.length (getH h h.length).next, setH h h.length (.iter (getH h h.length).next key ver clock [] clock))
      else .fail
    | _ => .fail
  | _ => .fail
theorem m_range (x : IX) : GO call base Q (⟨d, .range x, none⟩ :: l) ks ⟨e, h⟩ = GP call base Q d l ks e (rgA h (x.ev e)) := by
  rw [go_op]; rfl

/-- what is left of a map -/
def leftOf (ks vs : List AV) (bs seen : List Nat) : List (AV × AV × Nat) := (ks.zip (vs.zip bs)).filter fun t => !seen.contains t.2.2

def nxA (h : Heap) : AV → Res (AV × Heap)
  | .iter key ver =>
    match getH h key with
    | .iter u mk mv since seen stepped =>
      match getH h mk with
      | .map w clock ks vs bs =>
        if u = ver ∧ w = mv ∧ bs.all (fun b => decide (b < since)) ∧ since ≤ stepped then
          if (leftOf ks vs bs seen).isEmpty then .ret (.tuple [.bool false], h)
          else .choice (leftOf ks vs bs seen).length fun j =>
            match (leftOf ks vs bs seen)[j]? with
            | some (k, v, b) => .ret (.tuple [.bool true, k, v], setH h key (.iter u mk mv since (seen ++ [b]) clock))
            | none => .fail
        else .fail
      | _ => .fail
    | _ => .fail
  | _ => .fail
theorem m_next (x : IX) : GO call base Q (⟨d, .next x, none⟩ :: l) ks ⟨e, h⟩ = GP call base Q d l ks e (nxA h (x.ev e)) := by
  rw [go_op]; rfl

def enA (h : Heap) : AV → Res AV
  | .iter key ver =>
    match getH h key with
    | .iter u mk mv _ seen stepped =>
      match getH h mk, seen.getLast? with
      | .map w clock ks vs bs, some s =>
        if u = ver ∧ w = mv ∧ clock = stepped then
          match (ks.zip (vs.zip bs)).find? fun t => t.2.2 == s with
          | some (k, v, _) => .ret (.tuple [k, v])
          | none => .fail
        else .fail
      | _, _ => .fail
    | _ => .fail
  | _ => .fail
theorem m_entry (x : IX) : GO call base Q (⟨d, .entry x, none⟩ :: l) ks ⟨e, h⟩ = GV call base Q d l ks e h (enA h (x.ev e)) := by
  rw [go_op]
  simp only [evOp, GV]
  cases x.ev e with
  | iter key ver =>
    simp only [enA]
    cases getH h key with
    | iter u mk mv s seen stepped =>
      simp only
      cases getH h mk with
      | map w clock ks vs bs =>
        cases seen.getLast? with
        | none => rfl
        | some s =>
          simp only
          split
          · cases (ks.zip (vs.zip bs)).find? fun t => t.2.2 == s with
            | none => rfl
            | some p => rfl
          · rfl
      | _ => rfl
    | _ => rfl
  | _ => rfl

/-- one step of a range over a map: either nothing is left, or any of what is -/
theorem gp_next {key ver mk mv since clock stepped : Nat} {seen : List Nat} {kks vs : List AV} {bs : List Nat} (hi : getH h key = .iter ver mk mv since seen stepped) (hm : getH h mk = .map mv clock kks vs bs)
    (hb : ∀ b ∈ bs, b < since) (hs : since ≤ stepped)
    (hE : leftOf kks vs bs seen = [] → GO call base Q l ks ⟨setDst e d (.tuple [.bool false]), h⟩)
    (hN : ∀ k v b, (k, v, b) ∈ leftOf kks vs bs seen → GO call base Q l ks ⟨setDst e d (.tuple [.bool true, k, v]), setH h key (.iter ver mk mv since (seen ++ [b]) clock)⟩) :
    GP call base Q d l ks e (nxA h (.iter key ver)) := by
  have hball : bs.all (fun b => decide (b < since)) = true := List.all_eq_true.2 fun b hb' => decide_eq_true (hb b hb')
  simp only [nxA, hi, hm]
  rw [if_pos ⟨trivial, trivial, hball, hs⟩]
  cases hl : leftOf kks vs bs seen with
  | nil => exact hE hl
  | cons a r =>
    refine ⟨by simp, fun j hj => ?_⟩
    obtain ⟨p, hp⟩ := get_ex hj
    obtain ⟨k, v, b⟩ := p
    simp only [hp]
    exact hN k v b (hl ▸ List.mem_of_getElem? hp)
end

/-! ### keys that are structs of one integer -/
def kz (l : List Int) : List AV := l.map fun i => .agg [.int .i64 i]
theorem findK_kz (a : Int) : ∀ (l : List Int) (i : Nat), findK (some 1) (.agg [.int .i64 a]) (kz l) i = some (if a ∈ l then some (i + l.idxOf a) else none)
  | [], i => rfl
  | b :: r, i => by
    have hk : keyOk (some 1) (.agg [.int .i64 b]) = true := rfl
    simp only [kz, List.map_cons, findK]
    rw [if_pos hk]
    by_cases hab : a = b
    · subst hab
      simp [AV.cells, eqInts]
    · have : eqInts (AV.agg [.int .i64 a]).cells (AV.agg [.int .i64 b]).cells = some false := by simp [AV.cells, eqInts, hab]
      rw [this]
      simp only
      have := findK_kz a r (i + 1)
      simp only [kz] at this
      rw [this, List.idxOf_cons]
      have hba : (b == a) = false := by simpa using fun h => hab h.symm
      rw [hba]
      by_cases hr : a ∈ r
      · rw [if_pos hr, if_pos (List.mem_cons_of_mem _ hr)]
        simp only [cond_false]
        congr 2
        omega
      · rw [if_neg hr, if_neg (by simp [hab, hr])]
theorem frz_nilptr (h : Heap) (n : Nat) : freeze h (n + 1) .nilptr = .ret .nilptr := rfl
theorem frz_fmap (h : Heap) (n : Nat) (ks vs : List AV) : freeze h (n + 1) (.fmap ks vs) = .ret (.fmap ks vs) := rfl
theorem frz_agg {h : Heap} {n : Nat} {cs cs' : List AV} (hcs : mapR (freeze h n) cs = .ret cs') : freeze h (n + 1) (.agg cs) = .ret (.agg cs') := by
  rw [freeze, hcs]
  rfl
theorem frz_omap {h : Heap} {k ver clock n : Nat} {ks vs ks' vs' : List AV} {bs : List Nat} (hH : getH h k = .map ver clock ks vs bs) (hk : mapR (freeze h n) ks = .ret ks') (hv : mapR (freeze h n) vs = .ret vs') : freeze h (n + 1) (.omap k ver) = .ret (.fmap ks' vs') := by
  rw [freeze]
  simp only [hH]
  rw [if_pos trivial, hk, hv]
  rfl
theorem or_plain {a : Bool} {r : AV} (h : plainB depth r = true) : (a || plainB depth r) = true := by cases a <;> simp [h]
theorem eraseIdx_map' {α β : Type} (f : α → β) : ∀ (l : List α) (i : Nat), (l.map f).eraseIdx i = (l.eraseIdx i).map f
  | [], _ => rfl
  | _ :: _, 0 => rfl
  | a :: r, i + 1 => by simp only [List.map_cons, List.eraseIdx_cons_succ, eraseIdx_map' f r i]
theorem erase_idxOf (x : Int) : ∀ l : List Int, l.eraseIdx (l.idxOf x) = l.erase x
  | [] => rfl
  | a :: r => by
    by_cases h : a = x
    · subst h
      simp
    · have h1 : (a == x) = false := by simpa using h
      rw [List.idxOf_cons, h1, List.erase_cons, h1]
      simp only [cond_false, List.eraseIdx_cons_succ, erase_idxOf x r]
      rfl
theorem all_one_ints (k : IntKind) (l : List Int) : (l.map (AV.int k)).all oneB = true := by
  rw [List.all_eq_true]
  intro x hx
  obtain ⟨a, _, rfl⟩ := List.mem_map.1 hx
  rfl
theorem splice_all : ∀ (new a b : List AV), b.length = new.length → splice (a ++ b) a.length new = a ++ new
  | [], a, b, h => by
    obtain rfl : b = [] := by simpa using h
    rfl
  | c :: r, a, b, h => by
    match b, h with
    | d :: b, h =>
      rw [splice, List.set_append_right _ _ (Nat.le_refl _), Nat.sub_self, List.set_cons_zero]
      have := splice_all r (a ++ [c]) b (by simpa using h)
      simpa using this
theorem splice_full (new cs : List AV) (h : cs.length = new.length) : splice cs 0 new = new := splice_all new [] cs h
theorem eqInts_ints (k : IntKind) : ∀ a b : List Int, a.length = b.length → eqInts (a.map (.int k)) (b.map (.int k)) = some (decide (a = b))
  | [], [], _ => by simp [eqInts]
  | x :: a, y :: b, h => by
    simp only [List.map_cons, eqInts, if_true]
    by_cases hxy : x = y
    · subst hxy
      rw [if_pos rfl, eqInts_ints k a b (by simpa using h)]
      simp
    · rw [if_neg hxy]
      simp [hxy]
theorem keyOk_one (a : Int) : keyOk (some 1) (.agg [.int .i64 a]) = true := rfl

attribute [go_sem] m_mkMap m_lookup m_mapUpdate m_delete m_lenM m_range m_next m_entry

end Go.Ev

namespace Go.Ev
open Go

/-- what a function answers at just this depth, called by value -/
def ConAt (T : Cfg) (n f : Nat) (as : List AV) (r : AV) : Prop :=
  ∀ (h : Heap) (as0 : List AV) (V : AV × Heap → Prop), fz h as0 = .ret as → (as0.all (freeB depth) || plainB depth r) = true → V (r, h) → (evCall T n false (.fn f) as0 h).all V

def Res.allB {α : Type} (q : α → Bool) : Res α → Bool
  | .fail => false
  | .ret a => q a
  | .choice n k => decide (0 < n) && (List.range n).all fun i => (k i).allB q

theorem Res.allB_all {α : Type} (q : α → Bool) : ∀ x : Res α, x.allB q = true → x.all fun a => q a = true
  | .fail, h => by cases h
  | .ret a, h => h
  | .choice n k, h => by
    simp only [Res.allB, Bool.and_eq_true, decide_eq_true_eq, List.all_eq_true, List.mem_range] at h
    exact ⟨h.1, fun i hi => Res.allB_all q (k i) (h.2 i hi)⟩

def eqAVs (f : AV → AV → Bool) : List AV → List AV → Bool
  | [], [] => true
  | a :: r, b :: s => f a b && eqAVs f r s
  | _, _ => false

theorem eqAVs_eq {f : AV → AV → Bool} (hf : ∀ a b, f a b = true → a = b) : ∀ l r, eqAVs f l r = true → l = r
  | [], [], _ => rfl
  | a :: l, b :: r, h => by
    simp only [eqAVs, Bool.and_eq_true] at h
    rw [hf a b h.1, eqAVs_eq hf l r h.2]
  | [], _ :: _, h => by cases h
  | _ :: _, [], h => by cases h

def eqAV : Nat → AV → AV → Bool
  | 0, _, _ => false
  | _ + 1, .bool a, .bool b => a == b
  | _ + 1, .int k a, .int k' b => decide (k = k') && decide (a = b)
  | n + 1, .agg a, .agg b => eqAVs (eqAV n) a b
  | n + 1, .tuple a, .tuple b => eqAVs (eqAV n) a b
  | n + 1, .slice g a x, .slice g' b y => decide (g = g') && eqAVs (eqAV n) a b && (x == y)
  | _ + 1, _, _ => false

theorem eqAV_eq : ∀ n a b, eqAV n a b = true → a = b := by
  intro n
  induction n with
  | zero => intro a b h; cases h
  | succ n ih =>
    intro a b h
    cases a <;> cases b <;> simp only [eqAV, Bool.and_eq_true, decide_eq_true_eq, beq_iff_eq] at h <;> first | (cases h; done) | skip
    · rw [h]
    · rw [h.1, h.2]
    · rw [eqAVs_eq ih _ _ h]
    · rw [eqAVs_eq ih _ _ h]
    · rw [h.1.1, eqAVs_eq ih _ _ h.1.2, h.2]

theorem ker_con {T : Cfg} {n f : Nat} {c : IFunc} {as : List AV} {r : AV} (hc : T.fns f = some c) (hq : ((evFn (evCall T n) c as []).bind fun p => freeze p.2 depth p.1).allB (fun v => eqAV 8 v r) = true) : ConAt T (n + 1) f as r := by
  intro h as0 V hz hp hV
  simp only [evCall, hc, Bool.false_eq_true, if_false]
  have hz' : mapR (freeze h depth) as0 = .ret as := hz
  rw [hz']
  simp only [Res.bind, Res.all_bind]
  have := Res.allB_all _ _ hq
  rw [Res.all_bind] at this
  refine Res.all_mono _ this ?_
  rintro ⟨v, h'⟩ hv
  refine Res.all_mono _ hv ?_
  intro v' hv'
  have hv'' := eqAV_eq _ _ _ hv'
  subst hv''
  simp only [hp, Bool.true_or, if_true, reduceIte, Res.all]
  exact hV

theorem gp_at {T : Cfg} {f n : Nat} {as as0 : List AV} {r : AV} {h : Heap} {base : Nat} {Q : EX × St → Prop} {d : Option Nat} {l : List IOper} {ks : List Kont} {e : Env} (hc : ConAt T n f as r) (hz : fz h as0 = .ret as) (hp : (as0.all (freeB depth) || plainB depth r) = true) :
    GP (evCall T n) base Q d l ks e (evCall T n false (.fn f) as0 h) = GO (evCall T n) base Q l ks ⟨setDst e d r, h⟩ := by
  have h1 := hc h as0 (fun p => p = (r, h)) hz hp rfl
  refine propext ⟨fun hg => ?_, fun hg => hc h as0 _ hz hp hg⟩
  obtain ⟨p, h2, h3⟩ := Res.all_some _ (Res.all_and _ h1 hg)
  subst h2
  exact h3

theorem conAt_intro {T : Cfg} {n f : Nat} {c : IFunc} {as : List AV} {r : AV} (hc : T.fns f = some c)
    (hq : ∀ V : AV × Heap → Prop, (∀ v h, freeze h 8 v = .ret r → V (v, h)) → G (evCall T n) 0 (Fin c.results V) c.body [] ⟨as, List.replicate c.ntmps .none⟩) : ConAt T (n + 1) f as r := by
  intro h as0 V hz hp hV
  simp only [evCall, hc, Bool.false_eq_true, if_false]
  have hz' : mapR (freeze h depth) as0 = .ret as := hz
  rw [hz']
  simp only [Res.bind, Res.all_bind]
  have := hq (fun p => freeze p.2 depth p.1 = .ret r) fun v h hv => hv
  rw [show List.replicate c.ntmps AObj.none = [] ++ List.replicate c.ntmps .none from rfl, show (0 : Nat) = ([] : Heap).length from rfl, ← m_fn] at this
  refine Res.all_mono _ this ?_
  rintro ⟨v, h'⟩ hv
  simp only at hv
  rw [hv]
  simp only [Res.all, hp, Bool.true_or, if_true, reduceIte]
  exact hV

end Go.Ev

namespace Go.Ev
open Go

def CLe (c1 c2 : Caller) : Prop := ∀ (raw : Bool) (t : Tgt) (xs : List AV) (h : Heap) (Q : AV × Heap → Prop), (c1 raw t xs h).all Q → (c2 raw t xs h).all Q

theorem evLoop_le {b1 b2 : St → Res (EX × St)} (hb : ∀ s Q, (b1 s).all Q → (b2 s).all Q) : ∀ (n : Nat) (s : St) (Q : EX × St → Prop), (evLoop b1 n s).all Q → (evLoop b2 n s).all Q
  | 0, s, Q, hq => hq
  | n + 1, s, Q, hq => by
    simp only [evLoop, Res.all_bind] at hq ⊢
    refine Res.all_mono _ (hb s _ hq) ?_
    rintro ⟨x, s'⟩ hx
    cases x with
    | normal => exact evLoop_le hb n s' Q hx
    | exit id => exact hx
    | ret => exact hx

section
variable {c1 c2 : Caller} (hc : CLe c1 c2)
include hc

theorem evOp_le (key : Nat) (op : IOp) (e : Env) (h : Heap) (Q : AV × Heap → Prop) (hq : (evOp c1 key op e h).all Q) : (evOp c2 key op e h).all Q := by
  cases op with
  | call raw f args =>
    simp only [evOp] at hq ⊢
    revert hq
    cases f.ev e <;> first | exact fun h => h | exact fun h => hc _ _ _ _ _ h
  | callF raw f args =>
    simp only [evOp] at hq ⊢
    exact hc _ _ _ _ _ hq
  | callS f args =>
    simp only [evOp] at hq ⊢
    split at hq
    · next h => rw [if_pos h]; exact hc _ _ _ _ _ hq
    · exact hq.elim
  | callC d0 n f args =>
    simp only [evOp] at hq ⊢
    split at hq
    · next h => rw [if_pos h]; exact hc _ _ _ _ _ hq
    · exact hq.elim
  | _ => exact hq

theorem evOper_le (base : Nat) (o : IOper) (s : St) (Q : St → Prop) (hq : (evOper c1 base o s).all Q) : (evOper c2 base o s).all Q := by
  obtain ⟨d, op, g⟩ := o
  cases g with
  | none =>
    simp only [evOper, Res.all_bind] at hq ⊢
    exact evOp_le hc _ _ _ _ _ hq
  | some p =>
    obtain ⟨t, want⟩ := p
    simp only [evOper] at hq ⊢
    revert hq
    cases getE s.env t with
    | bool b =>
      simp only
      split
      · simp only [Res.all_bind]
        exact evOp_le hc _ _ _ _ _
      · exact fun h => h
    | _ => exact fun h => h

theorem evOps_le (base : Nat) : ∀ (l : List IOper) (s : St) (Q : St → Prop), (evOps c1 base l s).all Q → (evOps c2 base l s).all Q
  | [], s, Q, hq => hq
  | o :: r, s, Q, hq => by
    simp only [evOps, Res.all_bind] at hq ⊢
    exact Res.all_mono _ (evOper_le hc base o s _ hq) fun s hs => evOps_le base r s Q hs

theorem evC_le (base : Nat) : ∀ (c : IC) (s : St) (Q : EX × St → Prop), (evC c1 base c s).all Q → (evC c2 base c s).all Q
  | .skip, s, Q, hq => hq
  | .ops l, s, Q, hq => by
    simp only [evC, Res.all_bind] at hq ⊢
    exact evOps_le hc base l s _ hq
  | .seq a b, s, Q, hq => by
    simp only [evC, Res.all_bind] at hq ⊢
    refine Res.all_mono _ (evC_le base a s _ hq) ?_
    rintro ⟨x, s'⟩ hx
    cases x with
    | normal => exact evC_le base b s' Q hx
    | exit id => exact hx
    | ret => exact hx
  | .cond c a b, s, Q, hq => by
    simp only [evC] at hq ⊢
    revert hq
    cases c.ev s.env with
    | bool t =>
      cases t
      · exact evC_le base b s Q
      · exact evC_le base a s Q
    | _ => exact fun h => h
  | .block id c, s, Q, hq => by
    simp only [evC, Res.all_bind] at hq ⊢
    exact evC_le base c s _ hq
  | .loop c, s, Q, hq => by
    simp only [evC] at hq ⊢
    exact evLoop_le (fun s Q => evC_le base c s Q) rounds s Q hq
  | .exit id, s, Q, hq => hq
  | .ret, s, Q, hq => hq
  | .rangeF f params asg body, s, Q, hq => by
    simp only [evC] at hq ⊢
    revert hq
    cases f.ev s.env with
    | clo g first captured =>
      simp only [Res.all_bind]
      exact hc _ _ _ _ _
    | _ => exact fun h => h
  | .bad, s, Q, hq => hq
  | .sortA, s, Q, hq => hq

theorem evFn_le (fn : IFunc) (xs : List AV) (h : Heap) (Q : AV × Heap → Prop) (hq : (evFn c1 fn xs h).all Q) : (evFn c2 fn xs h).all Q := by
  simp only [evFn, Res.all_bind] at hq ⊢
  exact evC_le hc _ _ _ _ hq
end

theorem conAt_of {T : Cfg} {k n f : Nat} {xs : List AV} {r : AV} (h : Con T k f xs r) (hk : k ≤ n) : ConAt T n f xs r := fun h' as0 V hz hp hV => h n h' as0 V hk hz hp hV

/-! ### a list of calls and their answers -/
structure Ans where
  f : Nat
  args : List AV
  res : AV

def findAns : List Ans → Nat → List AV → Option AV
  | [], _, _ => none
  | a :: r, f, xs => if a.f = f && eqAVs (eqAV 8) a.args xs then some a.res else findAns r f xs

def callX (l : List Ans) : Caller := fun raw t xs h =>
  match raw, t with
  | false, .fn f => match findAns l f xs with
    | some r => .ret (r, h)
    | none => .fail
  | _, _ => .fail

/-- the answer is the function's -/
def AnsOk (T : Cfg) (n : Nat) (a : Ans) : Prop := ∀ (h : Heap) (V : AV × Heap → Prop), V (a.res, h) → (evCall T n false (.fn a.f) a.args h).all V

theorem ansOk_of {T : Cfg} {n f : Nat} {xs xs0 : List AV} {r : AV} (hc : ConAt T n f xs r) (hz : ∀ h, fz h xs0 = .ret xs) (hp : (xs0.all (freeB depth) || plainB depth r) = true) : AnsOk T n ⟨f, xs0, r⟩ := fun h V hV => hc h xs0 V (hz h) hp hV

theorem findAns_mem {f : Nat} {xs : List AV} {r : AV} : ∀ l : List Ans, findAns l f xs = some r → ∃ a ∈ l, a.f = f ∧ a.args = xs ∧ a.res = r
  | [], h => by cases h
  | a :: t, h => by
    simp only [findAns] at h
    split at h
    · next hc =>
      simp only [Bool.and_eq_true, decide_eq_true_eq] at hc
      exact ⟨a, List.mem_cons_self, hc.1, eqAVs_eq (eqAV_eq 8) _ _ hc.2, by simpa using h⟩
    · obtain ⟨b, hb, h1⟩ := findAns_mem t h
      exact ⟨b, List.mem_cons_of_mem _ hb, h1⟩

theorem callX_le {T : Cfg} {n : Nat} {l : List Ans} (hl : ∀ a ∈ l, AnsOk T n a) : CLe (callX l) (evCall T n) := by
  intro raw t xs h Q hq
  unfold callX at hq
  split at hq
  · next f =>
    split at hq
    · next r hr =>
      obtain ⟨a, ha, rfl, rfl, rfl⟩ := findAns_mem l hr
      exact hl a ha h Q hq
    · exact hq.elim
  · exact hq.elim

/-- a function at one input, its calls answered by a list -/
theorem list_con {T : Cfg} {n f : Nat} {c : IFunc} {xs : List AV} {r : AV} {l : List Ans} (hc : T.fns f = some c) (hl : ∀ a ∈ l, AnsOk T n a) (hq : ((evFn (callX l) c xs []).bind fun p => freeze p.2 depth p.1).allB (fun v => eqAV 8 v r) = true) : ConAt T (n + 1) f xs r := by
  intro h as0 V hz hp hV
  simp only [evCall, hc, Bool.false_eq_true, if_false]
  have hz' : mapR (freeze h depth) as0 = .ret xs := hz
  rw [hz']
  simp only [Res.bind, Res.all_bind]
  have := Res.allB_all _ _ hq
  rw [Res.all_bind] at this
  refine Res.all_mono _ (evFn_le (callX_le hl) c xs [] _ this) ?_
  rintro ⟨v, h'⟩ hv
  refine Res.all_mono _ hv ?_
  intro v' hv'
  have hv'' := eqAV_eq _ _ _ hv'
  subst hv''
  simp only [hp, Bool.true_or, if_true, reduceIte, Res.all]
  exact hV

end Go.Ev

namespace Go.Ev
open Go

theorem cs_ints (h : Heap) (l : List Int) (k : IntKind) (ex : Bool) : cellsOfSlice h (.slice none (l.map (.int k)) ex) = some (none, l.length, l.map (.int k)) := by simp [cellsOfSlice, flat]

theorem cp_full {h : Heap} {key ver n : Nat} {c : Option Nat} {cs new : List AV} (hH : getH h key = .cells ver cs) (hc : cs.length = n) (hn : new.length = n) (h0 : 0 < n) : cpA none h (.oslice key ver none 0 n c) (some (none, n, new)) = .ret (.int .i64 n, setH h key (.cells ver new)) := by
  have hm : Nat.min n n = n := Nat.min_self n
  have h1 : ¬ n = 0 := by omega
  simp only [cpA, hH, gsize, Nat.mul_one, Nat.zero_add, hc, Nat.le_refl, and_self, if_true, hm, h1, if_false]
  rw [List.take_of_length_le (by omega), splice_full _ _ (by omega)]

theorem cp_none {h : Heap} {key ver : Nat} {c : Option Nat} {cs new : List AV} (hH : getH h key = .cells ver cs) : cpA none h (.oslice key ver none 0 0 c) (some (none, 0, new)) = .ret (.int .i64 0, h) := by
  have hm : Nat.min 0 0 = 0 := rfl
  simp only [cpA, hH, gsize, Nat.mul_one, Nat.zero_add, Nat.zero_le, and_self, if_true, hm]

theorem cl_full {h : Heap} {key ver n : Nat} {c : Option Nat} {cs : List AV} {z : AV} (hH : getH h key = .cells ver cs) (hc : cs.length = n) (hz : oneB z = true) (h0 : 0 < n) : clA z h (.oslice key ver none 0 n c) = .ret (.undef, setH h key (.cells ver (List.replicate n z))) := by
  have h1 : ¬ n = 0 := by omega
  simp only [clA, hH, Nat.zero_add, hc, Nat.le_refl, hz, and_self, if_true, h1, if_false]
  rw [splice_full _ _ (by simp [hc])]
theorem cl_none {h : Heap} {key ver : Nat} {c : Option Nat} {cs : List AV} {z : AV} (hH : getH h key = .cells ver cs) (hz : oneB z = true) : clA z h (.oslice key ver none 0 0 c) = .ret (.undef, h) := by
  simp only [clA, hH, Nat.zero_add, Nat.zero_le, hz, and_self, if_true]

theorem cl_any {h : Heap} {key ver n : Nat} {c : Option Nat} {cs : List AV} {k : IntKind} (hH : getH h key = .cells ver cs) (hc : cs.length = n) : ∃ h', clA (.int k 0) h (.oslice key ver none 0 n c) = .ret (.undef, h') ∧ getH h' key = .cells ver ((List.replicate n (0 : Int)).map (.int k)) ∧ (∀ j, j ≠ key → getH h' j = getH h j) ∧ h.length ≤ h'.length := by
  by_cases h0 : n = 0
  · subst h0
    obtain rfl : cs = [] := List.length_eq_zero_iff.1 hc
    exact ⟨h, cl_none hH rfl, hH, fun _ _ => rfl, Nat.le_refl _⟩
  · refine ⟨_, cl_full hH hc rfl (by omega), ?_, fun j hj => getH_setH_ne _ _ _ _ (Ne.symm hj), by rw [length_setH]; omega⟩
    rw [getH_setH_self, List.map_replicate]

/-! ### parts of a slice that grows -/
theorem slA_to_own {e : Env} {hi : IX} {key ver len n : Nat} {k : IntKind} (h1 : hi.ev e = .int k n) (hn : n ≤ len) : slA none e none (some hi) none (.oslice key ver none 0 len none) = .ret (.oslice key ver none 0 n none) := by
  have h2 : (0 : Int) ≤ n ∧ (n : Int) ≤ len := by omega
  simp [slA, sliceB, h1, boundOf, Res.bind, gsize, hn]
theorem slA_from_own {e : Env} {lo : IX} {key ver len n : Nat} {k : IntKind} (h1 : lo.ev e = .int k n) (hn : n ≤ len) : slA none e (some lo) none none (.oslice key ver none 0 len none) = .ret (.oslice key ver none n (len - n) none) := by
  simp [slA, sliceB, h1, boundOf, Res.bind, gsize, hn]
theorem cs_own {h : Heap} {key ver off len : Nat} {cap : Option Nat} {k : IntKind} {l : List Int} (hH : getH h key = .cells ver (l.map (.int k))) (hl : off + len ≤ l.length) : cellsOfSlice h (.oslice key ver none off len cap) = some (none, len, ((l.drop off).take len).map (.int k)) := by
  simp only [cellsOfSlice, hH, gsize, Nat.mul_one, List.length_map]
  rw [if_pos ⟨trivial, hl⟩, ← List.map_drop, ← List.map_take]

/-- append, of nothing too -/
theorem gp_append0 {call : Caller} {base : Nat} {Q : EX × St → Prop} {d : Option Nat} {L : List IOper} {ks : List Kont} {e : Env} {h : Heap} {lo b m kk : Nat} {x y : AV} {k : IntKind} {l l2 : List Int} (hkk : kk = h.length) (hx : Own lo h x k l) (hlo : lo ≤ h.length) (hy : cellsOfSlice h y = some (none, m, l2.map (.int k))) (hm : m = l2.length) (hr : (l.length + m) * b ≤ 1099511627776)
    (H : ∀ x' h', Own lo h' x' k (l ++ l2) → (∀ j, j < lo → getH h' j = getH h j) → h.length ≤ h'.length → (∀ j, j < h.length → keyOf x ≠ some j → getH h' j = getH h j) → (∀ j, keyOf x' = some j → keyOf x = some j ∨ j = h.length) → GO call base Q L ks ⟨setDst e d x', h'⟩) :
    GP call base Q d L ks e (evAppend kk none b x y h) := by
  by_cases h0 : 0 < m
  · exact gp_append hkk hx hlo hy hm h0 hr H
  · obtain rfl : m = 0 := by omega
    obtain rfl : l2 = [] := List.length_eq_zero_iff.1 hm.symm
    have hroom : room 0 b = true := room_ok (by omega)
    have : evAppend kk none b x y h = .ret (x, h) := by
      rcases hx with ⟨rfl, rfl⟩ | ⟨key, ver, hk, rfl, hH⟩
      · simp only [Nat.add_zero, evAppend, hy, List.length_nil, hroom, ne_eq, not_true_eq_false, if_false, Bool.true_eq_false, or_self, if_true]
      · simp only [evAppend, hy, ne_eq, not_true_eq_false, if_false, if_true]
    rw [this, gp_ret]
    exact H x h (by rw [List.append_nil]; exact hx) (fun _ _ => rfl) (Nat.le_refl _) (fun _ _ _ => rfl) fun j hj => .inl hj

end Go.Ev

namespace Go.Ev
open Go

section
variable {call : Caller} {base : Nat} {Q : EX × St → Prop} {ks : List Kont} {e : Env} {h : Heap}

theorem m_rangeF {f : IX} {params : List Nat} {asg body : IC} {g : FuncId} {first captured : List AV} (hf : f.ev e = .clo g first captured)
    (hq : (call true (.fn g) (first ++ [.yld h.length (getH h h.length).next] ++ captured) (setH h h.length (.loop (getH h h.length).next .ready none ⟨base, e, params, asg, body⟩))).all fun p =>
      ∃ st pend lf, getH p.2 h.length = .loop (getH h h.length).next st pend lf ∧ st ≠ .busy ∧ R call base Q (pend.getD .normal) ks ⟨e, setH p.2 h.length (.loop (getH h h.length).next .exhausted pend lf)⟩) :
    G call base Q (.rangeF f params asg body) ks ⟨e, h⟩ := by
  simp only [G, evC, hf, all_bind]
  refine Res.all_mono _ hq ?_
  rintro ⟨v, h'⟩ ⟨st, pend, lf, h1, h2, h3⟩
  simp only [h1]
  rw [if_pos ⟨trivial, h2⟩]
  exact h3

theorem m_rangeF' {f : IX} {params : List Nat} {asg body : IC} {g : FuncId} {first captured : List AV} {n : Nat} (hf : f.ev e = .clo g first captured) (hlen : h.length = n)
    (hq : ∀ lf : LoopF, lf.base = base → lf.env = e → lf.params = params → lf.asg = asg → lf.body = body → (call true (.fn g) (first ++ [.yld n 0] ++ captured) (setH h n (.loop 0 .ready none lf))).all fun p =>
      ∃ st pend lf, getH p.2 n = .loop 0 st pend lf ∧ st ≠ .busy ∧ R call base Q (pend.getD .normal) ks ⟨e, setH p.2 n (.loop 0 .exhausted pend lf)⟩) :
    G call base Q (.rangeF f params asg body) ks ⟨e, h⟩ := by
  refine m_rangeF hf ?_
  have hn : getH h h.length = .none := getH_ge _ _ (Nat.le_refl _)
  rw [hn, hlen]
  exact hq ⟨base, e, params, asg, body⟩ rfl rfl rfl rfl rfl

/-- what is known of a state is kept, the rest forgotten -/
theorem g_cut {c : IC} (I : St → Prop) (h0 : I ⟨e, h⟩) (hq : ∀ e h, I ⟨e, h⟩ → G call base Q c ks ⟨e, h⟩) : G call base Q c ks ⟨e, h⟩ := hq e h h0

/-- one round -/
theorem m_round {T : Cfg} {n key ver : Nat} {args : List AV} {pend : Option EX} {lf : LoopF} {V : AV × Heap → Prop} (hl : getH h key = .loop ver .ready pend lf) (ha : args.length = lf.params.length)
    (hq : G (evCall T n) lf.base (fun p => p.1 = .normal ∧ ∃ pend2 lf2, getH p.2.heap key = .loop ver .ready pend2 lf2 ∧
      G (evCall T n) lf.base (fun p => ∃ st3 pend3 lf3, getH p.2.heap key = .loop ver st3 pend3 lf3 ∧ (match p.1 with
        | .normal => V (.bool true, setH p.2.heap key (.loop ver .ready none lf3))
        | x => V (.bool false, setH p.2.heap key (.loop ver .done (some x) lf3)))) lf.body [] ⟨p.2.env, setH p.2.heap key (.loop ver .busy pend2 lf2)⟩) lf.asg [] ⟨setPs lf.env lf.params args, h⟩) :
    (evCall T (n + 1) true (.yld key ver) args h).all V := by
  simp only [evCall, if_true, reduceIte, evRound, hl]
  rw [if_pos ⟨trivial, ha⟩, all_bind]
  refine Res.all_mono _ hq ?_
  rintro ⟨x, s⟩ ⟨hx, pend2, lf2, h1, h2⟩
  simp only at hx
  subst hx
  simp only [h1, if_true, reduceIte, all_bind]
  refine Res.all_mono _ h2 ?_
  rintro ⟨x, s⟩ ⟨st3, pend3, lf3, h3, h4⟩
  simp only at h3 h4
  simp only [h3, if_true, reduceIte]
  cases x with
  | normal => exact h4
  | exit id => exact h4
  | ret => exact h4
end

end Go.Ev

namespace Go.Ev
open Go

theorem b_shr_nat (a b : Nat) (hb : b ≤ 63) (ha : a < 4611686018427387904) : binA .shr (.int .i64 (a : Int)) (.int .i64 (b : Int)) = .ret (.int .i64 ((a / 2 ^ b : Nat) : Int)) := by
  simp only [binA]
  rw [if_neg (by omega)]
  congr 2
  simp only [IntKind.bits, Int.toNat_natCast]
  have : Nat.min b 64 = b := Nat.min_eq_left (by omega)
  have h3 : ((2 : Int) ^ b) = ((2 ^ b : Nat) : Int) := by simp
  rw [this, h3, Int.fdiv_eq_ediv_of_nonneg _ (Int.natCast_nonneg _)]
  exact (Int.natCast_ediv a (2 ^ b)).symm

theorem b_and1 (a : Nat) (ha : a < 4611686018427387904) : binA .and (.int .i64 (a : Int)) (.int .i64 1) = .ret (.int .i64 ((a % 2 : Nat) : Int)) := by
  simp only [binA, binI, if_true]
  congr 2
  have h1 : (BitVec.ofInt 64 (a : Int) &&& BitVec.ofInt 64 1).toNat = a % 2 := by
    rw [BitVec.toNat_and]
    have e1 : (BitVec.ofInt 64 (a : Int)).toNat = a := by
      rw [BitVec.ofInt_natCast, BitVec.toNat_ofNat]
      omega
    have e2 : (BitVec.ofInt 64 1).toNat = 1 := by decide
    rw [e1, e2, Nat.and_one_is_mod]
  show IntKind.i64.wrap ((BitVec.ofInt 64 (a : Int) &&& BitVec.ofInt 64 1).toNat : Int) = _
  rw [h1]
  exact wrap64 (by omega) (by omega)

theorem b_shl1 (n : Nat) (hn : n ≤ 60) : binA .shl (.int .i64 1) (.int .i64 (n : Int)) = .ret (.int .i64 ((2 ^ n : Nat) : Int)) := by
  simp only [binA]
  rw [if_neg (by omega)]
  congr 2
  simp only [IntKind.bits, Int.toNat_natCast]
  have : Nat.min n 64 = n := Nat.min_eq_left (by omega)
  rw [this, Int.one_mul]
  have h2 : 2 ^ n ≤ 2 ^ 60 := Nat.pow_le_pow_right (by omega) hn
  have h3 : ((2 : Int) ^ n) = ((2 ^ n : Nat) : Int) := by simp
  have h4 : (2 : Nat) ^ 60 = 1152921504606846976 := by decide
  rw [h3]
  rw [h4] at h2
  generalize 2 ^ n = q at *
  exact wrap64 (by omega) (by omega)

end Go.Ev
