/- What the functions of the layer compute, and laws about it, in plain mathematics: no program in sight. No condition. -/
set_option linter.unusedSimpArgs false
set_option linter.unusedVariables false
namespace Go.Ev

structure Order where
  lo : Int
  hi : Int
  due : Int

def okO (o : Order) : Bool := !(decide (o.lo < 1) || decide (o.hi > 100) || decide (o.lo > o.hi) || decide (o.due < 0) || decide (o.due > 2000))
def chk (l : List Order) : Int := if 10 < l.length then 6 else if l.all okO then 0 else 3

structure Ok (o : Order) : Prop where
  lo : 1 ≤ o.lo
  lh : o.lo ≤ o.hi
  hi : o.hi ≤ 100
  d0 : 0 ≤ o.due
  d1 : o.due ≤ 2000

theorem okO_iff (o : Order) : okO o = true ↔ Ok o := by
  simp only [okO, Bool.not_eq_true', Bool.or_eq_false_iff, decide_eq_false_iff_not]
  constructor
  · rintro ⟨⟨⟨⟨a, b⟩, c⟩, d⟩, e⟩
    exact ⟨by omega, by omega, by omega, by omega, by omega⟩
  · rintro ⟨a, b, c, d, e⟩
    omega

structure Valid (l : List Order) : Prop where
  len : l.length ≤ 10
  ok : ∀ o ∈ l, Ok o

theorem chk_zero (l : List Order) : chk l = 0 ↔ Valid l := by
  unfold chk
  constructor
  · intro h
    split at h
    · cases h
    · split at h
      · next h1 h2 => exact ⟨by omega, fun o ho => (okO_iff o).1 (List.all_eq_true.1 h2 o ho)⟩
      · cases h
  · rintro ⟨h1, h2⟩
    rw [if_neg (by omega), if_pos (List.all_eq_true.2 fun o ho => (okO_iff o).2 (h2 o ho))]

theorem chk_cases (l : List Order) : chk l = 0 ∨ chk l = 3 ∨ chk l = 6 := by
  unfold chk
  split
  · simp
  · split <;> simp

def placeFrom (n : Int) : List Int → Int → Int
  | [], _ => -1
  | x :: r, i => if x = n then i else placeFrom n r (i + 1)
def place (l : List Int) (n : Int) : Int := placeFrom n l 0

def hasAll (n : Nat) (s : List Int) : Bool := (List.range n).all fun i => s.contains (i : Int)
def chkSeq (l : List Order) (s : List Int) : Int := if chk l ≠ 0 then chk l else if s.length ≠ l.length then 15 else if hasAll l.length s then 0 else 2
def workOk : List Order → List Int → Bool
  | o :: l, w :: r => decide (o.lo ≤ w) && decide (w ≤ o.hi) && workOk l r
  | _, _ => true
def chkWork (l : List Order) (s w : List Int) : Int := if chkSeq l s ≠ 0 then chkSeq l s else if w.length ≠ l.length then 15 else if workOk l w then 0 else 3

def runEnds (work : List Int) : List Int → Int → List Int → List Int
  | [], _, out => out
  | i :: r, day, out => runEnds work r (day + work.getD i.toNat 0) (out.set i.toNat (day + work.getD i.toNat 0))
def endsOf (seq work : List Int) : List Int := runEnds work seq 0 (List.replicate seq.length 0)

theorem placeFrom_ge (n : Int) : ∀ (l : List Int) (i : Int), placeFrom n l i = -1 ∨ i ≤ placeFrom n l i
  | [], i => .inl rfl
  | x :: r, i => by
    unfold placeFrom
    split
    · right; omega
    · rcases placeFrom_ge n r (i + 1) with h | h
      · exact .inl h
      · right; omega

theorem placeFrom_mem (n : Int) : ∀ (l : List Int) (i : Int), 0 ≤ i → (0 ≤ placeFrom n l i ↔ n ∈ l)
  | [], i, _ => by simp [placeFrom]
  | x :: r, i, hi => by
    unfold placeFrom
    split
    · next h => simp [h, hi]
    · next h =>
      rw [placeFrom_mem n r (i + 1) (by omega)]
      simp [Ne.symm h]

theorem place_mem (l : List Int) (n : Int) : 0 ≤ place l n ↔ n ∈ l := placeFrom_mem n l 0 (by omega)
theorem placeFrom_le (n : Int) : ∀ (l : List Int) (i : Int), 0 ≤ i → placeFrom n l i ≤ i + l.length
  | [], i, h => by simp [placeFrom]; omega
  | x :: r, i, h => by
    have := placeFrom_le n r (i + 1) (by omega)
    unfold placeFrom
    split <;> simp only [List.length_cons] <;> omega

/-- a sequence: each number below n stands there -/
structure Seq (n : Nat) (s : List Int) : Prop where
  len : s.length = n
  has : ∀ i : Nat, i < n → (i : Int) ∈ s

theorem chkSeq_zero (l : List Order) (s : List Int) : chkSeq l s = 0 ↔ Valid l ∧ Seq l.length s := by
  unfold chkSeq
  constructor
  · intro h
    split at h
    · next h1 => exact (h1 h).elim
    · next h1 =>
      split at h
      · cases h
      · split at h
        · next h2 h3 =>
          refine ⟨(chk_zero l).1 (by omega), by omega, fun i hi => ?_⟩
          have := List.all_eq_true.1 h3 i (List.mem_range.2 hi)
          simpa using this
        · cases h
  · rintro ⟨h1, h2, h3⟩
    rw [if_neg (by simp [(chk_zero l).2 h1]), if_neg (by omega), if_pos]
    refine List.all_eq_true.2 fun i hi => ?_
    simpa using h3 i (List.mem_range.1 hi)

/-- pigeons: a sequence has no other numbers, and none twice -/
theorem Seq.lt : ∀ {n : Nat} {s : List Int}, Seq n s → (∀ x ∈ s, 0 ≤ x ∧ x < n) ∧ s.Nodup
  | 0, s, h => by
    have := h.len
    obtain rfl : s = [] := by simpa using this
    simp
  | n + 1, s, h => by
    have hn := h.has n (by omega)
    have h' : Seq n (s.erase (n : Int)) := by
      refine ⟨by rw [List.length_erase_of_mem hn, h.len]; rfl, fun i hi => ?_⟩
      exact (List.mem_erase_of_ne (by omega)).2 (h.has i (by omega))
    obtain ⟨h1, h2⟩ := Seq.lt h'
    have hp := List.perm_cons_erase hn
    constructor
    · intro x hx
      rcases List.mem_cons.1 (hp.mem_iff.1 hx) with rfl | hx
      · omega
      · have := h1 x hx
        omega
    · rw [hp.nodup_iff, List.nodup_cons]
      exact ⟨fun hm => by have := h1 _ hm; omega, h2⟩

def maxL : List Int → Int
  | [] => 0
  | a :: r => r.foldl (fun m x => if x > m then x else m) a
def delays (l : List Order) (ends : List Int) : List Int := List.zipWith (fun o e => e - o.due) l ends
def delayOf (l : List Order) (s w : List Int) : Int := maxL (delays l (endsOf s w))

theorem runEnds_length (w : List Int) : ∀ (s : List Int) (d : Int) (out : List Int), (runEnds w s d out).length = out.length
  | [], _, _ => rfl
  | i :: r, d, out => by rw [runEnds, runEnds_length w r]; simp
theorem endsOf_length (s w : List Int) : (endsOf s w).length = s.length := by simp [endsOf, runEnds_length]

theorem runEnds_bd {w : List Int} (hv : ∀ x ∈ w, 0 ≤ x ∧ x ≤ 1000) : ∀ (s : List Int) (d : Int) (out : List Int), 0 ≤ d → (∀ x ∈ out, 0 ≤ x ∧ x ≤ d) → ∀ x ∈ runEnds w s d out, 0 ≤ x ∧ x ≤ d + 1000 * s.length
  | [], d, out, _, ho => by intro x hx; have := ho x hx; simp; omega
  | i :: r, d, out, hd, ho => by
    have hy : 0 ≤ w.getD i.toNat 0 ∧ w.getD i.toNat 0 ≤ 1000 := by
      rw [List.getD_eq_getElem?_getD]
      cases h : w[i.toNat]? with
      | none => simp
      | some y => exact hv y (List.mem_of_getElem? h)
    intro x hx
    rw [runEnds] at hx
    have ih := runEnds_bd hv r (d + w.getD i.toNat 0) (out.set i.toNat (d + w.getD i.toNat 0)) (by omega) (fun x hx => by
      rcases List.mem_or_eq_of_mem_set hx with hx | rfl
      · have := ho x hx
        omega
      · omega) x hx
    simp only [List.length_cons]
    omega

theorem endsOf_bd {w : List Int} (hv : ∀ x ∈ w, 0 ≤ x ∧ x ≤ 1000) (s : List Int) (hs : s.length ≤ 15) : ∀ x ∈ endsOf s w, 0 ≤ x ∧ x ≤ 100000 := fun x hx => by
  have := runEnds_bd hv s 0 _ (by omega) (fun x hx => by simp at hx; omega) x hx
  omega

def refEnds (l : List Order) (s w : List Int) : List Int × Int := if chkWork l s w ≠ 0 then ([], chkWork l s w) else (endsOf s w, 0)
def refDelay (l : List Order) (s w : List Int) : Int × Int := if chkWork l s w ≠ 0 then (0, chkWork l s w) else if l.length = 0 then (0, 5) else (delayOf l s w, 0)

/-! ### the orders by their Due: each one is put among those before it -/
def bub (f : Int → Int) : List Int → Int → List Int → List Int
  | [], x, post => x :: post
  | y :: r, x, post => if f x < f y then bub f r x (y :: post) else r.reverse ++ y :: x :: post
def isort (f : Int → Int) : List Int → List Int → List Int
  | done, [] => done
  | done, x :: r => isort f (bub f done.reverse x []) r
def dueOf (l : List Order) (i : Int) : Int := match l[i.toNat]? with | some o => o.due | none => 0
def idx (n : Nat) : List Int := (List.range n).map fun i : Nat => (i : Int)
def seqOf (l : List Order) : List Int := isort (dueOf l) [] (idx l.length)

theorem bub_length (f : Int → Int) : ∀ (r : List Int) (x : Int) (post : List Int), (bub f r x post).length = r.length + 1 + post.length
  | [], x, post => by simp [bub]; omega
  | y :: r, x, post => by
    unfold bub
    split
    · rw [bub_length f r]; simp; omega
    · simp; omega
theorem bub_perm (f : Int → Int) : ∀ (r : List Int) (x : Int) (post : List Int), (bub f r x post).Perm (r.reverse ++ x :: post)
  | [], x, post => by simp [bub]
  | y :: r, x, post => by
    unfold bub
    split
    · refine (bub_perm f r x (y :: post)).trans ?_
      simp only [List.reverse_cons, List.append_assoc, List.singleton_append]
      exact List.Perm.append_left _ (List.Perm.swap ..)
    · simp
theorem isort_perm (f : Int → Int) : ∀ (r done : List Int), (isort f done r).Perm (done ++ r)
  | [], done => by simp [isort]
  | x :: r, done => by
    unfold isort
    refine (isort_perm f r _).trans ?_
    have := bub_perm f done.reverse x []
    rw [List.reverse_reverse] at this
    refine (this.append_right r).trans ?_
    simp
theorem isort_length (f : Int → Int) (r done : List Int) : (isort f done r).length = done.length + r.length := by
  rw [(isort_perm f r done).length_eq, List.length_append]
theorem idx_mem {n : Nat} {x : Int} : x ∈ idx n ↔ 0 ≤ x ∧ x < n := by
  simp only [idx, List.mem_map, List.mem_range]
  constructor
  · rintro ⟨i, hi, rfl⟩; omega
  · intro h; exact ⟨x.toNat, by omega, by omega⟩
theorem idx_length (n : Nat) : (idx n).length = n := by simp [idx]
theorem seqOf_perm (l : List Order) : (seqOf l).Perm (idx l.length) := by
  have := isort_perm (dueOf l) (idx l.length) []
  simpa [seqOf] using this
theorem seqOf_length (l : List Order) : (seqOf l).length = l.length := by rw [(seqOf_perm l).length_eq, idx_length]
theorem seqOf_mem {l : List Order} {x : Int} : x ∈ seqOf l ↔ 0 ≤ x ∧ x < l.length := by rw [(seqOf_perm l).mem_iff, idx_mem]

theorem idx_nodup (n : Nat) : (idx n).Nodup := List.Pairwise.map _ (fun a b h => by omega) List.nodup_range
theorem seqOf_nodup (l : List Order) : (seqOf l).Nodup := (seqOf_perm l).nodup_iff.2 (idx_nodup _)

theorem idxOf_at {l : List Int} (hn : l.Nodup) {k : Nat} {x : Int} (h : l[k]? = some x) : l.idxOf x = k := by
  obtain ⟨hk, rfl⟩ := List.getElem?_eq_some_iff.1 h
  exact hn.idxOf_getElem k hk
theorem take_lt {l : List Int} (hn : l.Nodup) {k : Nat} {x : Int} (h : x ∈ l.take k) : l.idxOf x < k := by
  obtain ⟨i, hi, he⟩ := List.mem_iff_getElem.1 h
  rw [List.getElem_take] at he
  rw [List.length_take] at hi
  have := idxOf_at hn (List.getElem?_eq_some_iff.2 ⟨by omega, he⟩)
  omega
theorem not_take {l : List Int} (hn : l.Nodup) {k : Nat} {x : Int} (h : l[k]? = some x) : x ∉ l.take k := by
  obtain ⟨hk, rfl⟩ := List.getElem?_eq_some_iff.1 h
  intro hm
  have h2 : l.take k ++ l.drop k = l := List.take_append_drop k l
  rw [← h2, List.nodup_append] at hn
  refine hn.2.2 _ hm _ ?_ rfl
  rw [List.drop_eq_getElem_cons hk]
  exact List.mem_cons_self

/-- the work on a side -/
def side (l : List Order) (s : Int) : List Int := l.map fun o => if s = 1 then o.hi else o.lo

/-! ### the kept orders -/
def wk (w : List Int) (i : Int) : Int := w.getD i.toNat 0
def sumW (w : List Int) (ks : List Int) : Int := (ks.map (wk w)).sum
/-- the one with the most work, of several the last -/
def pickL (w : List Int) : List Int → Int
  | [] => 0
  | a :: r => r.foldl (fun m x => if wk w x ≥ wk w m then x else m) a
def keptGo (l : List Order) (w : List Int) : List Int → List Int → Int → List Int
  | [], ks, _ => ks
  | i :: r, ks, day =>
    if day + wk w i ≤ dueOf l i then keptGo l w r (ks ++ [i]) (day + wk w i)
    else keptGo l w r ((ks ++ [i]).erase (pickL w (ks ++ [i]))) (day + wk w i - wk w (pickL w (ks ++ [i])))
def keptOf (l : List Order) (s : Int) : List Int := keptGo l (side l s) (seqOf l) [] 0

theorem pickL_mem (w : List Int) : ∀ ks : List Int, ks ≠ [] → pickL w ks ∈ ks
  | [], h => (h rfl).elim
  | a :: r, _ => by
    have : ∀ (r : List Int) (a : Int), r.foldl (fun m x => if wk w x ≥ wk w m then x else m) a ∈ a :: r := by
      intro r
      induction r with
      | nil => intro a; simp
      | cons b r ih =>
        intro a
        rw [List.foldl_cons]
        have := ih (if wk w b ≥ wk w a then b else a)
        rcases List.mem_cons.1 this with h | h
        · rw [h]; split <;> simp
        · simp [h]
    exact this r a

/-- it beats every other one: more work, or as much and behind it -/
theorem pickL_best (w : List Int) (rk : Int → Nat) : ∀ ks : List Int, ks.Pairwise (fun a b => rk a < rk b) → ∀ x ∈ ks, x = pickL w ks ∨ wk w x < wk w (pickL w ks) ∨ (wk w x = wk w (pickL w ks) ∧ rk x < rk (pickL w ks))
  | [], _, x, hx => by cases hx
  | a :: r, hp, x, hx => by
    have main : ∀ (r : List Int) (a : Int), (a :: r).Pairwise (fun a b => rk a < rk b) → ∀ x ∈ a :: r, x = r.foldl (fun m x => if wk w x ≥ wk w m then x else m) a ∨ wk w x < wk w (r.foldl (fun m x => if wk w x ≥ wk w m then x else m) a) ∨ (wk w x = wk w (r.foldl (fun m x => if wk w x ≥ wk w m then x else m) a) ∧ rk x < rk (r.foldl (fun m x => if wk w x ≥ wk w m then x else m) a)) := by
      intro r
      induction r with
      | nil => intro a _ x hx; left; simpa using hx
      | cons b r ih =>
        intro a hp x hx
        rw [List.foldl_cons]
        obtain ⟨h1, h2⟩ := List.pairwise_cons.1 hp
        obtain ⟨h3, h4⟩ := List.pairwise_cons.1 h2
        by_cases hb : wk w b ≥ wk w a
        · rw [if_pos hb]
          have hb' := ih b h2 b List.mem_cons_self
          rcases List.mem_cons.1 hx with rfl | hx
          · have hab := h1 b List.mem_cons_self
            right
            rcases hb' with h | h | ⟨h, h'⟩
            · rw [← h]
              omega
            · left; omega
            · omega
          · exact ih b h2 x hx
        · rw [if_neg hb]
          have hpa : (a :: r).Pairwise (fun a b => rk a < rk b) := List.pairwise_cons.2 ⟨fun y hy => h1 y (List.mem_cons_of_mem _ hy), h4⟩
          have ha := ih a hpa a List.mem_cons_self
          rcases List.mem_cons.1 hx with rfl | hx
          · exact ih x hpa x List.mem_cons_self
          · rcases List.mem_cons.1 hx with rfl | hx
            · right; left
              rcases ha with h | h | ⟨h, h'⟩
              · rw [← h]; omega
              · omega
              · omega
            · exact ih a hpa x (List.mem_cons_of_mem _ hx)
    exact main r a hp x hx

theorem keptGo_cons (l : List Order) (w : List Int) (i : Int) (r ks : List Int) (day : Int) : keptGo l w (i :: r) ks day = if day + wk w i ≤ dueOf l i then keptGo l w r (ks ++ [i]) (day + wk w i) else keptGo l w r ((ks ++ [i]).erase (pickL w (ks ++ [i]))) (day + wk w i - wk w (pickL w (ks ++ [i]))) := rfl

theorem sumW_append (w : List Int) (a b : List Int) : sumW w (a ++ b) = sumW w a + sumW w b := by simp [sumW]
theorem sumW_erase (w : List Int) : ∀ (ks : List Int) (x : Int), x ∈ ks → sumW w (ks.erase x) = sumW w ks - wk w x
  | [], x, h => by cases h
  | a :: r, x, h => by
    by_cases hax : a = x
    · subst hax
      simp only [List.erase_cons_head, sumW, List.map_cons, List.sum_cons]
      omega
    · have hr : x ∈ r := by
        rcases List.mem_cons.1 h with h | h
        · exact (hax h.symm).elim
        · exact h
      rw [List.erase_cons_tail (by simpa using hax)]
      have := sumW_erase w r x hr
      simp only [sumW, List.map_cons, List.sum_cons] at this ⊢
      omega
theorem sumW_nonneg {w : List Int} (hw : ∀ x ∈ w, 0 ≤ x) (ks : List Int) : 0 ≤ sumW w ks := by
  induction ks with
  | nil => simp [sumW]
  | cons a r ih =>
    have : 0 ≤ wk w a := by
      unfold wk
      rw [List.getD_eq_getElem?_getD]
      cases h : w[a.toNat]? with
      | none => simp
      | some y => exact hw y (List.mem_of_getElem? h)
    simp only [sumW, List.map_cons, List.sum_cons] at ih ⊢
    omega
theorem wk_bd {w : List Int} {b : Int} (hb : 0 ≤ b) (hw : ∀ x ∈ w, 0 ≤ x ∧ x ≤ b) (i : Int) : 0 ≤ wk w i ∧ wk w i ≤ b := by
  unfold wk
  rw [List.getD_eq_getElem?_getD]
  cases h : w[i.toNat]? with
  | none => simp [hb]
  | some y => exact hw y (List.mem_of_getElem? h)

/-- whatever the order in which they are looked at, the best one is found -/
theorem fold_best (w : List Int) (rk : Int → Nat) (bt : Int → Int → Bool) (hbt : ∀ a b, bt a b = (decide (wk w a > wk w b) || (decide (wk w a = wk w b) && decide (rk a > rk b)))) : ∀ (xs : List Int) (a : Int),
    xs.foldl (fun m x => if bt x m then x else m) a ∈ a :: xs ∧ ∀ x ∈ a :: xs, bt x (xs.foldl (fun m x => if bt x m then x else m) a) = false
  | [], a => by
    refine ⟨by simp, fun x hx => ?_⟩
    obtain rfl : x = a := by simpa using hx
    simp [hbt]
  | b :: r, a => by
    obtain ⟨h1, h2⟩ := fold_best w rk bt hbt r (if bt b a then b else a)
    rw [List.foldl_cons]
    generalize List.foldl (fun m x => if bt x m then x else m) (if bt b a then b else a) r = f at h1 h2 ⊢
    refine ⟨?_, ?_⟩
    · rcases List.mem_cons.1 h1 with h | h
      · rw [h]; split <;> simp
      · simp [h]
    · have hh := h2 (if bt b a then b else a) List.mem_cons_self
      intro x hx
      by_cases hba : bt b a = true
      · rw [if_pos hba] at hh h2
        rcases List.mem_cons.1 hx with rfl | hx
        · rw [hbt] at hh hba ⊢
          simp only [Bool.or_eq_true, Bool.and_eq_true, decide_eq_true_eq, Bool.or_eq_false_iff, Bool.and_eq_false_iff, decide_eq_false_iff_not] at hh hba ⊢
          omega
        · exact h2 x hx
      · have hba' : bt b a = false := by simpa using hba
        rw [if_neg hba] at hh h2
        rcases List.mem_cons.1 hx with rfl | hx
        · exact hh
        · rcases List.mem_cons.1 hx with rfl | hx
          · rw [hbt] at hh hba' ⊢
            simp only [Bool.or_eq_false_iff, Bool.and_eq_false_iff, decide_eq_false_iff_not] at hh hba' ⊢
            omega
          · exact h2 x (List.mem_cons_of_mem _ hx)

theorem best_pick (w : List Int) (rk : Int → Nat) (bt : Int → Int → Bool) (hbt : ∀ a b, bt a b = (decide (wk w a > wk w b) || (decide (wk w a = wk w b) && decide (rk a > rk b)))) (ks xs : List Int) (hp : ks.Pairwise (fun a b => rk a < rk b)) (hm : ∀ x, x ∈ xs ↔ x ∈ ks) (h0 : xs ≠ []) :
    xs.tail.foldl (fun m x => if bt x m then x else m) (xs.headD 0) = pickL w ks := by
  cases xs with
  | nil => exact (h0 rfl).elim
  | cons a r =>
    obtain ⟨h1, h2⟩ := fold_best w rk bt hbt r a
    simp only [List.tail_cons, List.headD_cons]
    generalize List.foldl (fun m x => if bt x m then x else m) a r = f at h1 h2 ⊢
    have hk : ks ≠ [] := by
      intro h
      have := (hm a).1 List.mem_cons_self
      rw [h] at this
      cases this
    have hpm := pickL_mem w ks hk
    have hb := h2 _ ((hm _).2 hpm)
    rcases pickL_best w rk ks hp f ((hm f).1 h1) with h | h
    · exact h
    · rw [hbt] at hb
      simp only [Bool.or_eq_false_iff, Bool.and_eq_false_iff, decide_eq_false_iff_not] at hb
      omega

theorem filter_lt {α : Type} (p q : α → Bool) (hqp : ∀ t, q t = true → p t = true) (t0 : α) (hp : p t0 = true) (hq : q t0 = false) : ∀ l : List α, t0 ∈ l → (l.filter q).length < (l.filter p).length
  | [], h => by cases h
  | a :: r, h => by
    have hle : ∀ l : List α, (l.filter q).length ≤ (l.filter p).length := by
      intro l
      induction l with
      | nil => simp
      | cons a r ih =>
        simp only [List.filter_cons]
        by_cases ha : q a = true
        · simp [ha, hqp a ha, ih]
        · by_cases hb : p a = true
          · simp [ha, hb]; omega
          · simp [ha, hb, ih]
    simp only [List.filter_cons]
    rcases List.mem_cons.1 h with rfl | h
    · simp [hp, hq]
      have := hle r
      omega
    · have ih := filter_lt p q hqp t0 hp hq r h
      by_cases ha : q a = true
      · simp [ha, hqp a ha, ih]
      · by_cases hb : p a = true
        · simp [ha, hb]; omega
        · simp [ha, hb, ih]

theorem snd_inj {E : List (Int × Nat)} (hn : (E.map Prod.snd).Nodup) {u t : Int × Nat} (hu : u ∈ E) (ht : t ∈ E) (h : u.2 = t.2) : u = t := by
  induction E with
  | nil => cases hu
  | cons a r ih =>
    rw [List.map_cons, List.nodup_cons] at hn
    rcases List.mem_cons.1 hu with hu' | hu'
    · rcases List.mem_cons.1 ht with ht' | ht'
      · rw [hu', ht']
      · exact (hn.1 (by rw [← hu', h]; exact List.mem_map_of_mem ht')).elim
    · rcases List.mem_cons.1 ht with ht' | ht'
      · exact (hn.1 (by rw [← ht', ← h]; exact List.mem_map_of_mem hu')).elim
      · exact ih hn.2 hu' ht'

/-- a mark for each kept order -/
def marks (ks : List Int) : List Int := (List.range 10).map fun j : Nat => if ks.contains (j : Int) then 1 else 0

theorem marks_length (ks : List Int) : (marks ks).length = 10 := by simp [marks]
theorem marks_get (ks : List Int) (j : Nat) (hj : j < 10) : (marks ks)[j]? = some (if ks.contains (j : Int) then 1 else 0) := by
  simp [marks, hj]
theorem marks_congr {a b : List Int} (h : ∀ x, x ∈ a ↔ x ∈ b) : marks a = marks b := by
  unfold marks
  refine List.map_congr_left fun j _ => ?_
  have : a.contains (j : Int) = b.contains (j : Int) := by
    rw [Bool.eq_iff_iff]
    simp [h]
  rw [this]
theorem marks_set (ks : List Int) (j : Nat) (hj : j < 10) : (marks ks).set j 1 = marks (ks ++ [(j : Int)]) := by
  apply List.ext_getElem?
  intro i
  by_cases hi : i < 10
  · rw [List.getElem?_set, marks_get _ _ hi, marks_get _ _ hi, marks_length]
    by_cases hij : j = i
    · subst hij
      simp [hi]
    · rw [if_neg hij]
      have : (ks ++ [(j : Int)]).contains (i : Int) = ks.contains (i : Int) := by
        rw [Bool.eq_iff_iff]
        simp
        omega
      rw [this]
  · rw [List.getElem?_eq_none (by simp [marks_length]; omega), List.getElem?_eq_none (by simp [marks_length]; omega)]

/-! ### which orders of a sequence are on time -/
def dueN (l : List Order) (i : Nat) : Int := match l[i]? with | some o => o.due | none => 0
def tm (l : List Order) (s : List Int) (sd : Int) (i : Nat) : Int := if (endsOf s (side l sd)).getD i 0 ≤ dueN l i then 1 else 0
def kindR (l : List Order) (s : List Int) (i : Nat) : Int := if (endsOf s (side l 0)).getD i 0 > dueN l i then 0 else if (endsOf s (side l 1)).getD i 0 ≤ dueN l i then 2 else 1
def kindsOf (l : List Order) (s : List Int) : List Int := (List.range l.length).map (kindR l s)
def refKinds (l : List Order) (s : List Int) : List Int × Int := if chkSeq l s ≠ 0 then ([], chkSeq l s) else (kindsOf l s, 0)

theorem runEnds_mono {w w' : List Int} (hw : ∀ i : Nat, w.getD i 0 ≤ w'.getD i 0) : ∀ (s : List Int) (d d' : Int) (out out' : List Int), d ≤ d' → out.length = out'.length → (∀ i : Nat, out.getD i 0 ≤ out'.getD i 0) → ∀ i : Nat, (runEnds w s d out).getD i 0 ≤ (runEnds w' s d' out').getD i 0
  | [], d, d', out, out', _, _, ho, i => ho i
  | x :: r, d, d', out, out', hd, hl, ho, i => by
    rw [runEnds, runEnds]
    have := hw x.toNat
    refine runEnds_mono hw r _ _ _ _ (by omega) (by simp [hl]) (fun j => ?_) i
    simp only [List.getD_eq_getElem?_getD, List.getElem?_set]
    by_cases hj : x.toNat = j
    · rw [if_pos hj, if_pos hj, hl]
      split
      · simp only [Option.getD_some]
        simp only [List.getD_eq_getElem?_getD] at this
        omega
      · simp
    · rw [if_neg hj, if_neg hj]
      have := ho j
      simpa only [List.getD_eq_getElem?_getD] using this

theorem side_le {l : List Order} (hv : Valid l) (i : Nat) : (side l 0).getD i 0 ≤ (side l 1).getD i 0 := by
  simp only [side, List.getD_eq_getElem?_getD, List.getElem?_map]
  cases h : l[i]? with
  | none => simp
  | some o =>
    have := (hv.ok o (List.mem_of_getElem? h)).lh
    simpa using this

theorem kind_tm {l : List Order} (hv : Valid l) (s : List Int) (i : Nat) : tm l s 0 i + tm l s 1 i = kindR l s i := by
  have := runEnds_mono (side_le hv) s 0 0 (List.replicate s.length 0) (List.replicate s.length 0) (Int.le_refl 0) rfl (fun _ => Int.le_refl _) i
  have h : (endsOf s (side l 0)).getD i 0 ≤ (endsOf s (side l 1)).getD i 0 := this
  unfold tm kindR
  split <;> split <;> split <;> first | omega | (split <;> omega)

def eqL (a b : List Int) : Bool := decide (a = b)

end Go.Ev
