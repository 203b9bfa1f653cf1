/- Walking over maps: rules for each operation, and for a range over a map. No condition. -/
import Derived.Test.YtadneamkkepknaaEvMach
set_option linter.unusedSimpArgs false
set_option linter.unusedVariables false
namespace Go.Ev
open Go

section
variable {call : Caller} {base : Nat} {Q : EX × St → Prop} {ks : List Kont} {e : Env} {h : Heap} {l : List IOper} {d : Option Nat}

theorem m_mkMap : GO call base Q (⟨d, .mkMap, none⟩ :: l) ks ⟨e, h⟩ = GO call base Q l ks ⟨setDst e d (.omap h.length (getH h h.length).next), setH h h.length (.map (getH h h.length).next 0 [] [] [])⟩ := by
  rw [go_op]; rfl

def lkA (kn : Option Nat) (zero : AV) (ok : Bool) (k : AV) : Option (List AV × List AV) → Res AV
  | some (ks, vs) =>
    if keyOk kn k then
      match findK kn k ks 0 with
      | none => .fail
      | some none => .ret (if ok then .tuple [zero, .bool false] else zero)
      | some (some i) => match vs[i]? with
        | some v => .ret (if ok then .tuple [v, .bool true] else v)
        | none => .fail
    else .fail
  | none => .fail
theorem m_lookup (kn : Option Nat) (zero : AV) (ok : Bool) (x k : IX) : GO call base Q (⟨d, .lookup kn zero ok x k, none⟩ :: l) ks ⟨e, h⟩ = GV call base Q d l ks e h (lkA kn zero ok (k.ev e) (mapOf h (x.ev e))) := by
  rw [go_op]
  simp only [evOp, GV]
  cases mapOf h (x.ev e) with
  | none => rfl
  | some p =>
    obtain ⟨a, b⟩ := p
    simp only [lkA]
    split
    · cases findK kn (k.ev e) a 0 with
      | none => rfl
      | some q =>
        cases q with
        | none => rfl
        | some i => simp only; cases b[i]? <;> rfl
    · rfl

def muA (kn : Option Nat) (h : Heap) (k v : AV) : AV → Res (AV × Heap)
  | .omap key ver =>
    match getH h key with
    | .map u clock ks vs bs =>
      if u = ver ∧ keyOk kn k then
        match findK kn k ks 0 with
        | none => .fail
        | some none => .ret (.undef, setH h key (.map u (clock + 1) (ks ++ [k]) (vs ++ [v]) (bs ++ [clock])))
        | some (some i) => .ret (.undef, setH h key (.map u clock (ks.set i k) (vs.set i v) bs))
      else .fail
    | _ => .fail
  | _ => .fail
theorem m_mapUpdate (kn : Option Nat) (x k v : IX) : GO call base Q (⟨d, .mapUpdate kn x k v, none⟩ :: l) ks ⟨e, h⟩ = GP call base Q d l ks e (muA kn h (k.ev e) (v.ev e) (x.ev e)) := by
  rw [go_op]; rfl

def dlA (kn : Option Nat) (h : Heap) (k : AV) : AV → Res (AV × Heap)
  | .omap key ver =>
    match getH h key with
    | .map u clock ks vs bs =>
      if u = ver ∧ keyOk kn k then
        match findK kn k ks 0 with
        | none => .fail
        | some none => .ret (.undef, h)
        | some (some i) => .ret (.undef, setH h key (.map u clock (ks.eraseIdx i) (vs.eraseIdx i) (bs.eraseIdx i)))
      else .fail
    | _ => .fail
  | _ => .fail
theorem m_delete (kn : Option Nat) (x k : IX) : GO call base Q (⟨d, .delete kn x k, none⟩ :: l) ks ⟨e, h⟩ = GP call base Q d l ks e (dlA kn h (k.ev e) (x.ev e)) := by
  rw [go_op]; rfl

theorem m_lenM (x : IX) : GO call base Q (⟨d, .lenM x, none⟩ :: l) ks ⟨e, h⟩ = (match mapOf h (x.ev e) with | some p => GO call base Q l ks ⟨setDst e d (.int .i64 p.1.length), h⟩ | none => False) := by
  rw [go_op]
  simp only [evOp]
  cases mapOf h (x.ev e) <;> rfl

def rgA (h : Heap) : AV → Res (AV × Heap)
  | .omap key ver =>
    match getH h key with
    | .map u clock _ _ _ =>
      if u = ver then .ret (.iter h.length (getH h h.length).next, setH h h.length (.iter (getH h h.length).next key ver clock [] clock))
      else .fail
    | _ => .fail
  | _ => .fail
theorem m_range (x : IX) : GO call base Q (⟨d, .range x, none⟩ :: l) ks ⟨e, h⟩ = GP call base Q d l ks e (rgA h (x.ev e)) := by
  rw [go_op]; rfl

/-- what is left of a map -/
def leftOf (ks vs : List AV) (bs seen : List Nat) : List (AV × AV × Nat) := (ks.zip (vs.zip bs)).filter fun t => !seen.contains t.2.2

def nxA (h : Heap) : AV → Res (AV × Heap)
  | .iter key ver =>
    match getH h key with
    | .iter u mk mv since seen stepped =>
      match getH h mk with
      | .map w clock ks vs bs =>
        if u = ver ∧ w = mv ∧ bs.all (fun b => decide (b < since)) ∧ since ≤ stepped then
          if (leftOf ks vs bs seen).isEmpty then .ret (.tuple [.bool false], h)
          else .choice (leftOf ks vs bs seen).length fun j =>
            match (leftOf ks vs bs seen)[j]? with
            | some (k, v, b) => .ret (.tuple [.bool true, k, v], setH h key (.iter u mk mv since (seen ++ [b]) clock))
            | none => .fail
        else .fail
      | _ => .fail
    | _ => .fail
  | _ => .fail
theorem m_next (x : IX) : GO call base Q (⟨d, .next x, none⟩ :: l) ks ⟨e, h⟩ = GP call base Q d l ks e (nxA h (x.ev e)) := by
  rw [go_op]; rfl

def enA (h : Heap) : AV → Res AV
  | .iter key ver =>
    match getH h key with
    | .iter u mk mv _ seen stepped =>
      match getH h mk, seen.getLast? with
      | .map w clock ks vs bs, some s =>
        if u = ver ∧ w = mv ∧ clock = stepped then
          match (ks.zip (vs.zip bs)).find? fun t => t.2.2 == s with
          | some (k, v, _) => .ret (.tuple [k, v])
          | none => .fail
        else .fail
      | _, _ => .fail
    | _ => .fail
  | _ => .fail
theorem m_entry (x : IX) : GO call base Q (⟨d, .entry x, none⟩ :: l) ks ⟨e, h⟩ = GV call base Q d l ks e h (enA h (x.ev e)) := by
  rw [go_op]
  simp only [evOp, GV]
  cases x.ev e with
  | iter key ver =>
    simp only [enA]
    cases getH h key with
    | iter u mk mv s seen stepped =>
      simp only
      cases getH h mk with
      | map w clock ks vs bs =>
        cases seen.getLast? with
        | none => rfl
        | some s =>
          simp only
          split
          · cases (ks.zip (vs.zip bs)).find? fun t => t.2.2 == s with
            | none => rfl
            | some p => rfl
          · rfl
      | _ => rfl
    | _ => rfl
  | _ => rfl

/-- one step of a range over a map: either nothing is left, or any of what is -/
theorem gp_next {key ver mk mv since clock stepped : Nat} {seen : List Nat} {kks vs : List AV} {bs : List Nat} (hi : getH h key = .iter ver mk mv since seen stepped) (hm : getH h mk = .map mv clock kks vs bs)
    (hb : ∀ b ∈ bs, b < since) (hs : since ≤ stepped)
    (hE : leftOf kks vs bs seen = [] → GO call base Q l ks ⟨setDst e d (.tuple [.bool false]), h⟩)
    (hN : ∀ k v b, (k, v, b) ∈ leftOf kks vs bs seen → GO call base Q l ks ⟨setDst e d (.tuple [.bool true, k, v]), setH h key (.iter ver mk mv since (seen ++ [b]) clock)⟩) :
    GP call base Q d l ks e (nxA h (.iter key ver)) := by
  have hball : bs.all (fun b => decide (b < since)) = true := List.all_eq_true.2 fun b hb' => decide_eq_true (hb b hb')
  simp only [nxA, hi, hm]
  rw [if_pos ⟨trivial, trivial, hball, hs⟩]
  cases hl : leftOf kks vs bs seen with
  | nil => exact hE hl
  | cons a r =>
    refine ⟨by simp, fun j hj => ?_⟩
    obtain ⟨p, hp⟩ := get_ex hj
    obtain ⟨k, v, b⟩ := p
    simp only [hp]
    exact hN k v b (hl ▸ List.mem_of_getElem? hp)
end

/-! ### keys that are structs of one integer -/
def kz (l : List Int) : List AV := l.map fun i => .agg [.int .i64 i]
theorem findK_kz (a : Int) : ∀ (l : List Int) (i : Nat), findK (some 1) (.agg [.int .i64 a]) (kz l) i = some (if a ∈ l then some (i + l.idxOf a) else none)
  | [], i => rfl
  | b :: r, i => by
    have hk : keyOk (some 1) (.agg [.int .i64 b]) = true := rfl
    simp only [kz, List.map_cons, findK]
    rw [if_pos hk]
    by_cases hab : a = b
    · subst hab
      simp [AV.cells, eqInts]
    · have : eqInts (AV.agg [.int .i64 a]).cells (AV.agg [.int .i64 b]).cells = some false := by simp [AV.cells, eqInts, hab]
      rw [this]
      simp only
      have := findK_kz a r (i + 1)
      simp only [kz] at this
      rw [this, List.idxOf_cons]
      have hba : (b == a) = false := by simpa using fun h => hab h.symm
      rw [hba]
      by_cases hr : a ∈ r
      · rw [if_pos hr, if_pos (List.mem_cons_of_mem _ hr)]
        simp only [cond_false]
        congr 2
        omega
      · rw [if_neg hr, if_neg (by simp [hab, hr])]
theorem frz_nilptr (h : Heap) (n : Nat) : freeze h (n + 1) .nilptr = .ret .nilptr := rfl
theorem frz_fmap (h : Heap) (n : Nat) (ks vs : List AV) : freeze h (n + 1) (.fmap ks vs) = .ret (.fmap ks vs) := rfl
theorem frz_agg {h : Heap} {n : Nat} {cs cs' : List AV} (hcs : mapR (freeze h n) cs = .ret cs') : freeze h (n + 1) (.agg cs) = .ret (.agg cs') := by
  rw [freeze, hcs]
  rfl
theorem frz_omap {h : Heap} {k ver clock n : Nat} {ks vs ks' vs' : List AV} {bs : List Nat} (hH : getH h k = .map ver clock ks vs bs) (hk : mapR (freeze h n) ks = .ret ks') (hv : mapR (freeze h n) vs = .ret vs') : freeze h (n + 1) (.omap k ver) = .ret (.fmap ks' vs') := by
  rw [freeze]
  simp only [hH]
  rw [if_pos trivial, hk, hv]
  rfl
theorem or_plain {a : Bool} {r : AV} (h : plainB depth r = true) : (a || plainB depth r) = true := by cases a <;> simp [h]
theorem eraseIdx_map' {α β : Type} (f : α → β) : ∀ (l : List α) (i : Nat), (l.map f).eraseIdx i = (l.eraseIdx i).map f
  | [], _ => rfl
  | _ :: _, 0 => rfl
  | a :: r, i + 1 => by simp only [List.map_cons, List.eraseIdx_cons_succ, eraseIdx_map' f r i]
theorem erase_idxOf (x : Int) : ∀ l : List Int, l.eraseIdx (l.idxOf x) = l.erase x
  | [] => rfl
  | a :: r => by
    by_cases h : a = x
    · subst h
      simp
    · have h1 : (a == x) = false := by simpa using h
      rw [List.idxOf_cons, h1, List.erase_cons, h1]
      simp only [cond_false, List.eraseIdx_cons_succ, erase_idxOf x r]
      rfl
theorem all_one_ints (k : IntKind) (l : List Int) : (l.map (AV.int k)).all oneB = true := by
  rw [List.all_eq_true]
  intro x hx
  obtain ⟨a, _, rfl⟩ := List.mem_map.1 hx
  rfl
theorem splice_all : ∀ (new a b : List AV), b.length = new.length → splice (a ++ b) a.length new = a ++ new
  | [], a, b, h => by
    obtain rfl : b = [] := by simpa using h
    rfl
  | c :: r, a, b, h => by
    match b, h with
    | d :: b, h =>
      rw [splice, List.set_append_right _ _ (Nat.le_refl _), Nat.sub_self, List.set_cons_zero]
      have := splice_all r (a ++ [c]) b (by simpa using h)
      simpa using this
theorem splice_full (new cs : List AV) (h : cs.length = new.length) : splice cs 0 new = new := splice_all new [] cs h
theorem eqInts_ints (k : IntKind) : ∀ a b : List Int, a.length = b.length → eqInts (a.map (.int k)) (b.map (.int k)) = some (decide (a = b))
  | [], [], _ => by simp [eqInts]
  | x :: a, y :: b, h => by
    simp only [List.map_cons, eqInts, if_true]
    by_cases hxy : x = y
    · subst hxy
      rw [if_pos rfl, eqInts_ints k a b (by simpa using h)]
      simp
    · rw [if_neg hxy]
      simp [hxy]
theorem keyOk_one (a : Int) : keyOk (some 1) (.agg [.int .i64 a]) = true := rfl

attribute [go_sem] m_mkMap m_lookup m_mapUpdate m_delete m_lenM m_range m_next m_entry

end Go.Ev
