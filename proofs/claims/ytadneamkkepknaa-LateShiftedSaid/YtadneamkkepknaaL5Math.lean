/- What the functions of the layer compute, and laws about it, in plain mathematics: no program in sight. No condition. Sequences, delays and bounds, in plain mathematics: no program in sight. No condition. The day with the greatest bound, in plain mathematics: no program in sight. No condition. Which orders can be kept, in plain mathematics: no program in sight. No condition. How many orders can be kept at most: step by step, and by trying all lists. In plain mathematics: no program in sight. No condition. All lists of orders tried, by bits: the best ones, and what the table says of them. In plain mathematics: no program in sight. No condition. -/
set_option linter.unusedSimpArgs false
set_option linter.unusedVariables false
namespace Go.Ev

structure Order where
  lo : Int
  hi : Int
  due : Int

def okO (o : Order) : Bool := !(decide (o.lo < 1) || decide (o.hi > 100) || decide (o.lo > o.hi) || decide (o.due < 0) || decide (o.due > 2000))
def chk (l : List Order) : Int := if 10 < l.length then 6 else if l.all okO then 0 else 3

structure Ok (o : Order) : Prop where
  lo : 1 ≤ o.lo
  lh : o.lo ≤ o.hi
  hi : o.hi ≤ 100
  d0 : 0 ≤ o.due
  d1 : o.due ≤ 2000

theorem okO_iff (o : Order) : okO o = true ↔ Ok o := by
  simp only [okO, Bool.not_eq_true', Bool.or_eq_false_iff, decide_eq_false_iff_not]
  constructor
  · rintro ⟨⟨⟨⟨a, b⟩, c⟩, d⟩, e⟩
    exact ⟨by omega, by omega, by omega, by omega, by omega⟩
  · rintro ⟨a, b, c, d, e⟩
    omega

structure Valid (l : List Order) : Prop where
  len : l.length ≤ 10
  ok : ∀ o ∈ l, Ok o

theorem chk_zero (l : List Order) : chk l = 0 ↔ Valid l := by
  unfold chk
  constructor
  · intro h
    split at h
    · cases h
    · split at h
      · next h1 h2 => exact ⟨by omega, fun o ho => (okO_iff o).1 (List.all_eq_true.1 h2 o ho)⟩
      · cases h
  · rintro ⟨h1, h2⟩
    rw [if_neg (by omega), if_pos (List.all_eq_true.2 fun o ho => (okO_iff o).2 (h2 o ho))]

theorem chk_cases (l : List Order) : chk l = 0 ∨ chk l = 3 ∨ chk l = 6 := by
  unfold chk
  split
  · simp
  · split <;> simp

def placeFrom (n : Int) : List Int → Int → Int
  | [], _ => -1
  | x :: r, i => if x = n then i else placeFrom n r (i + 1)
def place (l : List Int) (n : Int) : Int := placeFrom n l 0

def hasAll (n : Nat) (s : List Int) : Bool := (List.range n).all fun i => s.contains (i : Int)
def chkSeq (l : List Order) (s : List Int) : Int := if chk l ≠ 0 then chk l else if s.length ≠ l.length then 15 else if hasAll l.length s then 0 else 2
def workOk : List Order → List Int → Bool
  | o :: l, w :: r => decide (o.lo ≤ w) && decide (w ≤ o.hi) && workOk l r
  | _, _ => true
def chkWork (l : List Order) (s w : List Int) : Int := if chkSeq l s ≠ 0 then chkSeq l s else if w.length ≠ l.length then 15 else if workOk l w then 0 else 3

def runEnds (work : List Int) : List Int → Int → List Int → List Int
  | [], _, out => out
  | i :: r, day, out => runEnds work r (day + work.getD i.toNat 0) (out.set i.toNat (day + work.getD i.toNat 0))
def endsOf (seq work : List Int) : List Int := runEnds work seq 0 (List.replicate seq.length 0)

theorem placeFrom_ge (n : Int) : ∀ (l : List Int) (i : Int), placeFrom n l i = -1 ∨ i ≤ placeFrom n l i
  | [], i => .inl rfl
  | x :: r, i => by
    unfold placeFrom
    split
    · right; omega
    · rcases placeFrom_ge n r (i + 1) with h | h
      · exact .inl h
      · right; omega

theorem placeFrom_mem (n : Int) : ∀ (l : List Int) (i : Int), 0 ≤ i → (0 ≤ placeFrom n l i ↔ n ∈ l)
  | [], i, _ => by simp [placeFrom]
  | x :: r, i, hi => by
    unfold placeFrom
    split
    · next h => simp [h, hi]
    · next h =>
      rw [placeFrom_mem n r (i + 1) (by omega)]
      simp [Ne.symm h]

theorem place_mem (l : List Int) (n : Int) : 0 ≤ place l n ↔ n ∈ l := placeFrom_mem n l 0 (by omega)
theorem placeFrom_le (n : Int) : ∀ (l : List Int) (i : Int), 0 ≤ i → placeFrom n l i ≤ i + l.length
  | [], i, h => by simp [placeFrom]; omega
  | x :: r, i, h => by
    have := placeFrom_le n r (i + 1) (by omega)
    unfold placeFrom
    split <;> simp only [List.length_cons] <;> omega

/-- a sequence: each number below n stands there -/
structure Seq (n : Nat) (s : List Int) : Prop where
  len : s.length = n
  has : ∀ i : Nat, i < n → (i : Int) ∈ s

theorem chkSeq_zero (l : List Order) (s : List Int) : chkSeq l s = 0 ↔ Valid l ∧ Seq l.length s := by
  unfold chkSeq
  constructor
  · intro h
    split at h
    · next h1 => exact (h1 h).elim
    · next h1 =>
      split at h
      · cases h
      · split at h
        · next h2 h3 =>
          refine ⟨(chk_zero l).1 (by omega), by omega, fun i hi => ?_⟩
          have := List.all_eq_true.1 h3 i (List.mem_range.2 hi)
          simpa using this
        · cases h
  · rintro ⟨h1, h2, h3⟩
    rw [if_neg (by simp [(chk_zero l).2 h1]), if_neg (by omega), if_pos]
    refine List.all_eq_true.2 fun i hi => ?_
    simpa using h3 i (List.mem_range.1 hi)

/-- pigeons: a sequence has no other numbers, and none twice -/
theorem Seq.lt : ∀ {n : Nat} {s : List Int}, Seq n s → (∀ x ∈ s, 0 ≤ x ∧ x < n) ∧ s.Nodup
  | 0, s, h => by
    have := h.len
    obtain rfl : s = [] := by simpa using this
    simp
  | n + 1, s, h => by
    have hn := h.has n (by omega)
    have h' : Seq n (s.erase (n : Int)) := by
      refine ⟨by rw [List.length_erase_of_mem hn, h.len]; rfl, fun i hi => ?_⟩
      exact (List.mem_erase_of_ne (by omega)).2 (h.has i (by omega))
    obtain ⟨h1, h2⟩ := Seq.lt h'
    have hp := List.perm_cons_erase hn
    constructor
    · intro x hx
      rcases List.mem_cons.1 (hp.mem_iff.1 hx) with rfl | hx
      · omega
      · have := h1 x hx
        omega
    · rw [hp.nodup_iff, List.nodup_cons]
      exact ⟨fun hm => by have := h1 _ hm; omega, h2⟩

def maxL : List Int → Int
  | [] => 0
  | a :: r => r.foldl (fun m x => if x > m then x else m) a
def delays (l : List Order) (ends : List Int) : List Int := List.zipWith (fun o e => e - o.due) l ends
def delayOf (l : List Order) (s w : List Int) : Int := maxL (delays l (endsOf s w))

theorem runEnds_length (w : List Int) : ∀ (s : List Int) (d : Int) (out : List Int), (runEnds w s d out).length = out.length
  | [], _, _ => rfl
  | i :: r, d, out => by rw [runEnds, runEnds_length w r]; simp
theorem endsOf_length (s w : List Int) : (endsOf s w).length = s.length := by simp [endsOf, runEnds_length]

theorem runEnds_bd {w : List Int} (hv : ∀ x ∈ w, 0 ≤ x ∧ x ≤ 1000) : ∀ (s : List Int) (d : Int) (out : List Int), 0 ≤ d → (∀ x ∈ out, 0 ≤ x ∧ x ≤ d) → ∀ x ∈ runEnds w s d out, 0 ≤ x ∧ x ≤ d + 1000 * s.length
  | [], d, out, _, ho => by intro x hx; have := ho x hx; simp; omega
  | i :: r, d, out, hd, ho => by
    have hy : 0 ≤ w.getD i.toNat 0 ∧ w.getD i.toNat 0 ≤ 1000 := by
      rw [List.getD_eq_getElem?_getD]
      cases h : w[i.toNat]? with
      | none => simp
      | some y => exact hv y (List.mem_of_getElem? h)
    intro x hx
    rw [runEnds] at hx
    have ih := runEnds_bd hv r (d + w.getD i.toNat 0) (out.set i.toNat (d + w.getD i.toNat 0)) (by omega) (fun x hx => by
      rcases List.mem_or_eq_of_mem_set hx with hx | rfl
      · have := ho x hx
        omega
      · omega) x hx
    simp only [List.length_cons]
    omega

theorem endsOf_bd {w : List Int} (hv : ∀ x ∈ w, 0 ≤ x ∧ x ≤ 1000) (s : List Int) (hs : s.length ≤ 15) : ∀ x ∈ endsOf s w, 0 ≤ x ∧ x ≤ 100000 := fun x hx => by
  have := runEnds_bd hv s 0 _ (by omega) (fun x hx => by simp at hx; omega) x hx
  omega

def refEnds (l : List Order) (s w : List Int) : List Int × Int := if chkWork l s w ≠ 0 then ([], chkWork l s w) else (endsOf s w, 0)
def refDelay (l : List Order) (s w : List Int) : Int × Int := if chkWork l s w ≠ 0 then (0, chkWork l s w) else if l.length = 0 then (0, 5) else (delayOf l s w, 0)

/-! ### the orders by their Due: each one is put among those before it -/
def bub (f : Int → Int) : List Int → Int → List Int → List Int
  | [], x, post => x :: post
  | y :: r, x, post => if f x < f y then bub f r x (y :: post) else r.reverse ++ y :: x :: post
def isort (f : Int → Int) : List Int → List Int → List Int
  | done, [] => done
  | done, x :: r => isort f (bub f done.reverse x []) r
def dueOf (l : List Order) (i : Int) : Int := match l[i.toNat]? with | some o => o.due | none => 0
def idx (n : Nat) : List Int := (List.range n).map fun i : Nat => (i : Int)
def seqOf (l : List Order) : List Int := isort (dueOf l) [] (idx l.length)

theorem bub_length (f : Int → Int) : ∀ (r : List Int) (x : Int) (post : List Int), (bub f r x post).length = r.length + 1 + post.length
  | [], x, post => by simp [bub]; omega
  | y :: r, x, post => by
    unfold bub
    split
    · rw [bub_length f r]; simp; omega
    · simp; omega
theorem bub_perm (f : Int → Int) : ∀ (r : List Int) (x : Int) (post : List Int), (bub f r x post).Perm (r.reverse ++ x :: post)
  | [], x, post => by simp [bub]
  | y :: r, x, post => by
    unfold bub
    split
    · refine (bub_perm f r x (y :: post)).trans ?_
      simp only [List.reverse_cons, List.append_assoc, List.singleton_append]
      exact List.Perm.append_left _ (List.Perm.swap ..)
    · simp
theorem isort_perm (f : Int → Int) : ∀ (r done : List Int), (isort f done r).Perm (done ++ r)
  | [], done => by simp [isort]
  | x :: r, done => by
    unfold isort
    refine (isort_perm f r _).trans ?_
    have := bub_perm f done.reverse x []
    rw [List.reverse_reverse] at this
    refine (this.append_right r).trans ?_
    simp
theorem isort_length (f : Int → Int) (r done : List Int) : (isort f done r).length = done.length + r.length := by
  rw [(isort_perm f r done).length_eq, List.length_append]
theorem idx_mem {n : Nat} {x : Int} : x ∈ idx n ↔ 0 ≤ x ∧ x < n := by
  simp only [idx, List.mem_map, List.mem_range]
  constructor
  · rintro ⟨i, hi, rfl⟩; omega
  · intro h; exact ⟨x.toNat, by omega, by omega⟩
theorem idx_length (n : Nat) : (idx n).length = n := by simp [idx]
theorem seqOf_perm (l : List Order) : (seqOf l).Perm (idx l.length) := by
  have := isort_perm (dueOf l) (idx l.length) []
  simpa [seqOf] using this
theorem seqOf_length (l : List Order) : (seqOf l).length = l.length := by rw [(seqOf_perm l).length_eq, idx_length]
theorem seqOf_mem {l : List Order} {x : Int} : x ∈ seqOf l ↔ 0 ≤ x ∧ x < l.length := by rw [(seqOf_perm l).mem_iff, idx_mem]

theorem idx_nodup (n : Nat) : (idx n).Nodup := List.Pairwise.map _ (fun a b h => by omega) List.nodup_range
theorem seqOf_nodup (l : List Order) : (seqOf l).Nodup := (seqOf_perm l).nodup_iff.2 (idx_nodup _)

theorem idxOf_at {l : List Int} (hn : l.Nodup) {k : Nat} {x : Int} (h : l[k]? = some x) : l.idxOf x = k := by
  obtain ⟨hk, rfl⟩ := List.getElem?_eq_some_iff.1 h
  exact hn.idxOf_getElem k hk
theorem take_lt {l : List Int} (hn : l.Nodup) {k : Nat} {x : Int} (h : x ∈ l.take k) : l.idxOf x < k := by
  obtain ⟨i, hi, he⟩ := List.mem_iff_getElem.1 h
  rw [List.getElem_take] at he
  rw [List.length_take] at hi
  have := idxOf_at hn (List.getElem?_eq_some_iff.2 ⟨by omega, he⟩)
  omega
theorem not_take {l : List Int} (hn : l.Nodup) {k : Nat} {x : Int} (h : l[k]? = some x) : x ∉ l.take k := by
  obtain ⟨hk, rfl⟩ := List.getElem?_eq_some_iff.1 h
  intro hm
  have h2 : l.take k ++ l.drop k = l := List.take_append_drop k l
  rw [← h2, List.nodup_append] at hn
  refine hn.2.2 _ hm _ ?_ rfl
  rw [List.drop_eq_getElem_cons hk]
  exact List.mem_cons_self

/-- the work on a side -/
def side (l : List Order) (s : Int) : List Int := l.map fun o => if s = 1 then o.hi else o.lo

/-! ### the kept orders -/
def wk (w : List Int) (i : Int) : Int := w.getD i.toNat 0
def sumW (w : List Int) (ks : List Int) : Int := (ks.map (wk w)).sum
/-- the one with the most work, of several the last -/
def pickL (w : List Int) : List Int → Int
  | [] => 0
  | a :: r => r.foldl (fun m x => if wk w x ≥ wk w m then x else m) a
def keptGo (l : List Order) (w : List Int) : List Int → List Int → Int → List Int
  | [], ks, _ => ks
  | i :: r, ks, day =>
    if day + wk w i ≤ dueOf l i then keptGo l w r (ks ++ [i]) (day + wk w i)
    else keptGo l w r ((ks ++ [i]).erase (pickL w (ks ++ [i]))) (day + wk w i - wk w (pickL w (ks ++ [i])))
def keptOf (l : List Order) (s : Int) : List Int := keptGo l (side l s) (seqOf l) [] 0

theorem pickL_mem (w : List Int) : ∀ ks : List Int, ks ≠ [] → pickL w ks ∈ ks
  | [], h => (h rfl).elim
  | a :: r, _ => by
    have : ∀ (r : List Int) (a : Int), r.foldl (fun m x => if wk w x ≥ wk w m then x else m) a ∈ a :: r := by
      intro r
      induction r with
      | nil => intro a; simp
      | cons b r ih =>
        intro a
        rw [List.foldl_cons]
        have := ih (if wk w b ≥ wk w a then b else a)
        rcases List.mem_cons.1 this with h | h
        · rw [h]; split <;> simp
        · simp [h]
    exact this r a

/-- it beats every other one: more work, or as much and behind it -/
theorem pickL_best (w : List Int) (rk : Int → Nat) : ∀ ks : List Int, ks.Pairwise (fun a b => rk a < rk b) → ∀ x ∈ ks, x = pickL w ks ∨ wk w x < wk w (pickL w ks) ∨ (wk w x = wk w (pickL w ks) ∧ rk x < rk (pickL w ks))
  | [], _, x, hx => by cases hx
  | a :: r, hp, x, hx => by
    have main : ∀ (r : List Int) (a : Int), (a :: r).Pairwise (fun a b => rk a < rk b) → ∀ x ∈ a :: r, x = r.foldl (fun m x => if wk w x ≥ wk w m then x else m) a ∨ wk w x < wk w (r.foldl (fun m x => if wk w x ≥ wk w m then x else m) a) ∨ (wk w x = wk w (r.foldl (fun m x => if wk w x ≥ wk w m then x else m) a) ∧ rk x < rk (r.foldl (fun m x => if wk w x ≥ wk w m then x else m) a)) := by
      intro r
      induction r with
      | nil => intro a _ x hx; left; simpa using hx
      | cons b r ih =>
        intro a hp x hx
        rw [List.foldl_cons]
        obtain ⟨h1, h2⟩ := List.pairwise_cons.1 hp
        obtain ⟨h3, h4⟩ := List.pairwise_cons.1 h2
        by_cases hb : wk w b ≥ wk w a
        · rw [if_pos hb]
          have hb' := ih b h2 b List.mem_cons_self
          rcases List.mem_cons.1 hx with rfl | hx
          · have hab := h1 b List.mem_cons_self
            right
            rcases hb' with h | h | ⟨h, h'⟩
            · rw [← h]
              omega
            · left; omega
            · omega
          · exact ih b h2 x hx
        · rw [if_neg hb]
          have hpa : (a :: r).Pairwise (fun a b => rk a < rk b) := List.pairwise_cons.2 ⟨fun y hy => h1 y (List.mem_cons_of_mem _ hy), h4⟩
          have ha := ih a hpa a List.mem_cons_self
          rcases List.mem_cons.1 hx with rfl | hx
          · exact ih x hpa x List.mem_cons_self
          · rcases List.mem_cons.1 hx with rfl | hx
            · right; left
              rcases ha with h | h | ⟨h, h'⟩
              · rw [← h]; omega
              · omega
              · omega
            · exact ih a hpa x (List.mem_cons_of_mem _ hx)
    exact main r a hp x hx

theorem keptGo_cons (l : List Order) (w : List Int) (i : Int) (r ks : List Int) (day : Int) : keptGo l w (i :: r) ks day = if day + wk w i ≤ dueOf l i then keptGo l w r (ks ++ [i]) (day + wk w i) else keptGo l w r ((ks ++ [i]).erase (pickL w (ks ++ [i]))) (day + wk w i - wk w (pickL w (ks ++ [i]))) := rfl

theorem sumW_append (w : List Int) (a b : List Int) : sumW w (a ++ b) = sumW w a + sumW w b := by simp [sumW]
theorem sumW_erase (w : List Int) : ∀ (ks : List Int) (x : Int), x ∈ ks → sumW w (ks.erase x) = sumW w ks - wk w x
  | [], x, h => by cases h
  | a :: r, x, h => by
    by_cases hax : a = x
    · subst hax
      simp only [List.erase_cons_head, sumW, List.map_cons, List.sum_cons]
      omega
    · have hr : x ∈ r := by
        rcases List.mem_cons.1 h with h | h
        · exact (hax h.symm).elim
        · exact h
      rw [List.erase_cons_tail (by simpa using hax)]
      have := sumW_erase w r x hr
      simp only [sumW, List.map_cons, List.sum_cons] at this ⊢
      omega
theorem sumW_nonneg {w : List Int} (hw : ∀ x ∈ w, 0 ≤ x) (ks : List Int) : 0 ≤ sumW w ks := by
  induction ks with
  | nil => simp [sumW]
  | cons a r ih =>
    have : 0 ≤ wk w a := by
      unfold wk
      rw [List.getD_eq_getElem?_getD]
      cases h : w[a.toNat]? with
      | none => simp
      | some y => exact hw y (List.mem_of_getElem? h)
    simp only [sumW, List.map_cons, List.sum_cons] at ih ⊢
    omega
theorem wk_bd {w : List Int} {b : Int} (hb : 0 ≤ b) (hw : ∀ x ∈ w, 0 ≤ x ∧ x ≤ b) (i : Int) : 0 ≤ wk w i ∧ wk w i ≤ b := by
  unfold wk
  rw [List.getD_eq_getElem?_getD]
  cases h : w[i.toNat]? with
  | none => simp [hb]
  | some y => exact hw y (List.mem_of_getElem? h)

/-- whatever the order in which they are looked at, the best one is found -/
theorem fold_best (w : List Int) (rk : Int → Nat) (bt : Int → Int → Bool) (hbt : ∀ a b, bt a b = (decide (wk w a > wk w b) || (decide (wk w a = wk w b) && decide (rk a > rk b)))) : ∀ (xs : List Int) (a : Int),
    xs.foldl (fun m x => if bt x m then x else m) a ∈ a :: xs ∧ ∀ x ∈ a :: xs, bt x (xs.foldl (fun m x => if bt x m then x else m) a) = false
  | [], a => by
    refine ⟨by simp, fun x hx => ?_⟩
    obtain rfl : x = a := by simpa using hx
    simp [hbt]
  | b :: r, a => by
    obtain ⟨h1, h2⟩ := fold_best w rk bt hbt r (if bt b a then b else a)
    rw [List.foldl_cons]
    generalize List.foldl (fun m x => if bt x m then x else m) (if bt b a then b else a) r = f at h1 h2 ⊢
    refine ⟨?_, ?_⟩
    · rcases List.mem_cons.1 h1 with h | h
      · rw [h]; split <;> simp
      · simp [h]
    · have hh := h2 (if bt b a then b else a) List.mem_cons_self
      intro x hx
      by_cases hba : bt b a = true
      · rw [if_pos hba] at hh h2
        rcases List.mem_cons.1 hx with rfl | hx
        · rw [hbt] at hh hba ⊢
          simp only [Bool.or_eq_true, Bool.and_eq_true, decide_eq_true_eq, Bool.or_eq_false_iff, Bool.and_eq_false_iff, decide_eq_false_iff_not] at hh hba ⊢
          omega
        · exact h2 x hx
      · have hba' : bt b a = false := by simpa using hba
        rw [if_neg hba] at hh h2
        rcases List.mem_cons.1 hx with rfl | hx
        · exact hh
        · rcases List.mem_cons.1 hx with rfl | hx
          · rw [hbt] at hh hba' ⊢
            simp only [Bool.or_eq_false_iff, Bool.and_eq_false_iff, decide_eq_false_iff_not] at hh hba' ⊢
            omega
          · exact h2 x (List.mem_cons_of_mem _ hx)

theorem best_pick (w : List Int) (rk : Int → Nat) (bt : Int → Int → Bool) (hbt : ∀ a b, bt a b = (decide (wk w a > wk w b) || (decide (wk w a = wk w b) && decide (rk a > rk b)))) (ks xs : List Int) (hp : ks.Pairwise (fun a b => rk a < rk b)) (hm : ∀ x, x ∈ xs ↔ x ∈ ks) (h0 : xs ≠ []) :
    xs.tail.foldl (fun m x => if bt x m then x else m) (xs.headD 0) = pickL w ks := by
  cases xs with
  | nil => exact (h0 rfl).elim
  | cons a r =>
    obtain ⟨h1, h2⟩ := fold_best w rk bt hbt r a
    simp only [List.tail_cons, List.headD_cons]
    generalize List.foldl (fun m x => if bt x m then x else m) a r = f at h1 h2 ⊢
    have hk : ks ≠ [] := by
      intro h
      have := (hm a).1 List.mem_cons_self
      rw [h] at this
      cases this
    have hpm := pickL_mem w ks hk
    have hb := h2 _ ((hm _).2 hpm)
    rcases pickL_best w rk ks hp f ((hm f).1 h1) with h | h
    · exact h
    · rw [hbt] at hb
      simp only [Bool.or_eq_false_iff, Bool.and_eq_false_iff, decide_eq_false_iff_not] at hb
      omega

theorem filter_lt {α : Type} (p q : α → Bool) (hqp : ∀ t, q t = true → p t = true) (t0 : α) (hp : p t0 = true) (hq : q t0 = false) : ∀ l : List α, t0 ∈ l → (l.filter q).length < (l.filter p).length
  | [], h => by cases h
  | a :: r, h => by
    have hle : ∀ l : List α, (l.filter q).length ≤ (l.filter p).length := by
      intro l
      induction l with
      | nil => simp
      | cons a r ih =>
        simp only [List.filter_cons]
        by_cases ha : q a = true
        · simp [ha, hqp a ha, ih]
        · by_cases hb : p a = true
          · simp [ha, hb]; omega
          · simp [ha, hb, ih]
    simp only [List.filter_cons]
    rcases List.mem_cons.1 h with rfl | h
    · simp [hp, hq]
      have := hle r
      omega
    · have ih := filter_lt p q hqp t0 hp hq r h
      by_cases ha : q a = true
      · simp [ha, hqp a ha, ih]
      · by_cases hb : p a = true
        · simp [ha, hb]; omega
        · simp [ha, hb, ih]

theorem snd_inj {E : List (Int × Nat)} (hn : (E.map Prod.snd).Nodup) {u t : Int × Nat} (hu : u ∈ E) (ht : t ∈ E) (h : u.2 = t.2) : u = t := by
  induction E with
  | nil => cases hu
  | cons a r ih =>
    rw [List.map_cons, List.nodup_cons] at hn
    rcases List.mem_cons.1 hu with hu' | hu'
    · rcases List.mem_cons.1 ht with ht' | ht'
      · rw [hu', ht']
      · exact (hn.1 (by rw [← hu', h]; exact List.mem_map_of_mem ht')).elim
    · rcases List.mem_cons.1 ht with ht' | ht'
      · exact (hn.1 (by rw [← ht', ← h]; exact List.mem_map_of_mem hu')).elim
      · exact ih hn.2 hu' ht'

/-- a mark for each kept order -/
def marks (ks : List Int) : List Int := (List.range 10).map fun j : Nat => if ks.contains (j : Int) then 1 else 0

theorem marks_length (ks : List Int) : (marks ks).length = 10 := by simp [marks]
theorem marks_get (ks : List Int) (j : Nat) (hj : j < 10) : (marks ks)[j]? = some (if ks.contains (j : Int) then 1 else 0) := by
  simp [marks, hj]
theorem marks_congr {a b : List Int} (h : ∀ x, x ∈ a ↔ x ∈ b) : marks a = marks b := by
  unfold marks
  refine List.map_congr_left fun j _ => ?_
  have : a.contains (j : Int) = b.contains (j : Int) := by
    rw [Bool.eq_iff_iff]
    simp [h]
  rw [this]
theorem marks_set (ks : List Int) (j : Nat) (hj : j < 10) : (marks ks).set j 1 = marks (ks ++ [(j : Int)]) := by
  apply List.ext_getElem?
  intro i
  by_cases hi : i < 10
  · rw [List.getElem?_set, marks_get _ _ hi, marks_get _ _ hi, marks_length]
    by_cases hij : j = i
    · subst hij
      simp [hi]
    · rw [if_neg hij]
      have : (ks ++ [(j : Int)]).contains (i : Int) = ks.contains (i : Int) := by
        rw [Bool.eq_iff_iff]
        simp
        omega
      rw [this]
  · rw [List.getElem?_eq_none (by simp [marks_length]; omega), List.getElem?_eq_none (by simp [marks_length]; omega)]

/-! ### which orders of a sequence are on time -/
def dueN (l : List Order) (i : Nat) : Int := match l[i]? with | some o => o.due | none => 0
def tm (l : List Order) (s : List Int) (sd : Int) (i : Nat) : Int := if (endsOf s (side l sd)).getD i 0 ≤ dueN l i then 1 else 0
def kindR (l : List Order) (s : List Int) (i : Nat) : Int := if (endsOf s (side l 0)).getD i 0 > dueN l i then 0 else if (endsOf s (side l 1)).getD i 0 ≤ dueN l i then 2 else 1
def kindsOf (l : List Order) (s : List Int) : List Int := (List.range l.length).map (kindR l s)
def refKinds (l : List Order) (s : List Int) : List Int × Int := if chkSeq l s ≠ 0 then ([], chkSeq l s) else (kindsOf l s, 0)

theorem runEnds_mono {w w' : List Int} (hw : ∀ i : Nat, w.getD i 0 ≤ w'.getD i 0) : ∀ (s : List Int) (d d' : Int) (out out' : List Int), d ≤ d' → out.length = out'.length → (∀ i : Nat, out.getD i 0 ≤ out'.getD i 0) → ∀ i : Nat, (runEnds w s d out).getD i 0 ≤ (runEnds w' s d' out').getD i 0
  | [], d, d', out, out', _, _, ho, i => ho i
  | x :: r, d, d', out, out', hd, hl, ho, i => by
    rw [runEnds, runEnds]
    have := hw x.toNat
    refine runEnds_mono hw r _ _ _ _ (by omega) (by simp [hl]) (fun j => ?_) i
    simp only [List.getD_eq_getElem?_getD, List.getElem?_set]
    by_cases hj : x.toNat = j
    · rw [if_pos hj, if_pos hj, hl]
      split
      · simp only [Option.getD_some]
        simp only [List.getD_eq_getElem?_getD] at this
        omega
      · simp
    · rw [if_neg hj, if_neg hj]
      have := ho j
      simpa only [List.getD_eq_getElem?_getD] using this

theorem side_le {l : List Order} (hv : Valid l) (i : Nat) : (side l 0).getD i 0 ≤ (side l 1).getD i 0 := by
  simp only [side, List.getD_eq_getElem?_getD, List.getElem?_map]
  cases h : l[i]? with
  | none => simp
  | some o =>
    have := (hv.ok o (List.mem_of_getElem? h)).lh
    simpa using this

theorem kind_tm {l : List Order} (hv : Valid l) (s : List Int) (i : Nat) : tm l s 0 i + tm l s 1 i = kindR l s i := by
  have := runEnds_mono (side_le hv) s 0 0 (List.replicate s.length 0) (List.replicate s.length 0) (Int.le_refl 0) rfl (fun _ => Int.le_refl _) i
  have h : (endsOf s (side l 0)).getD i 0 ≤ (endsOf s (side l 1)).getD i 0 := this
  unfold tm kindR
  split <;> split <;> split <;> first | omega | (split <;> omega)

def eqL (a b : List Int) : Bool := decide (a = b)

end Go.Ev

namespace Go.Ev

/-! ### sums -/
theorem sumW_perm (w : List Int) {a b : List Int} (h : a.Perm b) : sumW w a = sumW w b := by
  induction h with
  | nil => rfl
  | cons x _ ih => simp only [sumW, List.map_cons, List.sum_cons] at ih ⊢; omega
  | swap x y l => simp only [sumW, List.map_cons, List.sum_cons]; omega
  | trans _ _ ih1 ih2 => omega
theorem sumW_cons (w : List Int) (a : Int) (r : List Int) : sumW w (a :: r) = wk w a + sumW w r := rfl
theorem sumW_filter_le {w : List Int} (hw : ∀ x ∈ w, 0 ≤ x) (p : Int → Bool) : ∀ l : List Int, sumW w (l.filter p) ≤ sumW w l
  | [] => Int.le_refl _
  | a :: r => by
    have ih := sumW_filter_le hw p r
    have ha : 0 ≤ wk w a := by
      have := sumW_nonneg hw [a]
      simpa [sumW] using this
    rw [List.filter_cons]
    split
    · rw [sumW_cons, sumW_cons]; omega
    · rw [sumW_cons]; omega

/-! ### the greatest of a list -/
theorem maxL_spec : ∀ (L : List Int), L ≠ [] → maxL L ∈ L ∧ ∀ x ∈ L, x ≤ maxL L
  | [], h => (h rfl).elim
  | a :: r, _ => by
    have : ∀ (r : List Int) (a : Int), r.foldl (fun m x => if x > m then x else m) a ∈ a :: r ∧ ∀ x ∈ a :: r, x ≤ r.foldl (fun m x => if x > m then x else m) a := by
      intro r
      induction r with
      | nil => intro a; simp
      | cons b r ih =>
        intro a
        rw [List.foldl_cons]
        obtain ⟨h1, h2⟩ := ih (if b > a then b else a)
        have h3 := h2 _ List.mem_cons_self
        generalize List.foldl (fun m x => if x > m then x else m) (if b > a then b else a) r = g at *
        refine ⟨?_, fun x hx => ?_⟩
        · rcases List.mem_cons.1 h1 with h | h
          · rw [h]; split <;> simp
          · simp [h]
        · rcases List.mem_cons.1 hx with rfl | hx
          · split at h3 <;> omega
          · rcases List.mem_cons.1 hx with rfl | hx
            · split at h3 <;> omega
            · exact h2 x (List.mem_cons_of_mem _ hx)
    exact this r a

theorem maxL_eq {L : List Int} {m : Int} (h1 : m ∈ L) (h2 : ∀ x ∈ L, x ≤ m) : maxL L = m := by
  obtain ⟨h3, h4⟩ := maxL_spec L (List.ne_nil_of_mem h1)
  have := h4 m h1
  have := h2 _ h3
  omega

/-! ### when orders end -/
theorem runEnds_notin (w : List Int) : ∀ (s : List Int) (d : Int) (out : List Int) (j : Nat), (∀ x ∈ s, x.toNat ≠ j) → (runEnds w s d out)[j]? = out[j]?
  | [], _, _, _, _ => rfl
  | i :: r, d, out, j, h => by
    rw [runEnds, runEnds_notin w r _ _ j fun x hx => h x (List.mem_cons_of_mem _ hx), List.getElem?_set, if_neg (h i List.mem_cons_self)]

theorem runEnds_at (w : List Int) : ∀ (s : List Int) (d : Int) (out : List Int), s.Nodup → (∀ x ∈ s, 0 ≤ x ∧ x < out.length) → ∀ (k : Nat) (i : Int), s[k]? = some i → (runEnds w s d out)[i.toNat]? = some (d + sumW w (s.take (k + 1)))
  | [], _, _, _, _, _, _, h => by simp at h
  | a :: r, d, out, hn, hb, k, i, h => by
    rw [List.nodup_cons] at hn
    have ha := hb a List.mem_cons_self
    rw [runEnds]
    cases k with
    | zero =>
      simp at h
      subst h
      rw [runEnds_notin]
      · rw [List.getElem?_set, if_pos rfl, if_pos (by omega)]
        simp [sumW, wk]
      · intro x hx he
        have hxb := hb x (List.mem_cons_of_mem _ hx)
        have : x = a := by omega
        exact hn.1 (this ▸ hx)
    | succ k =>
      simp only [List.getElem?_cons_succ] at h
      rw [runEnds_at w r _ _ hn.2 (fun x hx => by rw [List.length_set]; exact hb x (List.mem_cons_of_mem _ hx)) k i h, List.take_succ_cons, sumW_cons]
      have : w.getD a.toNat 0 = wk w a := rfl
      rw [this]
      congr 1
      omega

theorem endsOf_at {n : Nat} {s : List Int} (w : List Int) (hs : Seq n s) {k : Nat} {i : Int} (h : s[k]? = some i) : (endsOf s w)[i.toNat]? = some (sumW w (s.take (k + 1))) := by
  have := runEnds_at w s 0 (List.replicate s.length 0) hs.lt.2 (fun x hx => by rw [List.length_replicate, hs.len]; exact hs.lt.1 x hx) k i h
  rw [endsOf, this]
  simp

theorem Seq.pos {n : Nat} {s : List Int} (hs : Seq n s) {i : Nat} (hi : i < n) : ∃ k : Nat, s[k]? = some (i : Int) := List.mem_iff_getElem?.1 (hs.has i hi)

theorem dueOf_nat {l : List Order} {i : Nat} {o : Order} (h : l[i]? = some o) : dueOf l (i : Int) = o.due := by simp [dueOf, h]

theorem delays_mem {l : List Order} {s w : List Int} (hs : Seq l.length s) (x : Int) : x ∈ delays l (endsOf s w) ↔ ∃ (k : Nat) (i : Int), s[k]? = some i ∧ x = sumW w (s.take (k + 1)) - dueOf l i := by
  have hel : (endsOf s w).length = l.length := by rw [endsOf_length, hs.len]
  constructor
  · intro hx
    obtain ⟨j, hj⟩ := List.mem_iff_getElem?.1 hx
    simp only [delays, List.getElem?_zipWith] at hj
    cases ho : l[j]? with
    | none => simp [ho] at hj
    | some o =>
      have hjl := (List.getElem?_eq_some_iff.1 ho).1
      obtain ⟨k, hk⟩ := hs.pos hjl
      have he := endsOf_at w hs hk
      simp only [Int.toNat_natCast] at he
      simp only [ho, he] at hj
      refine ⟨k, j, hk, ?_⟩
      rw [dueOf_nat ho]
      simpa using hj.symm
  · rintro ⟨k, i, hk, rfl⟩
    have hib := hs.lt.1 i (List.mem_of_getElem? hk)
    obtain ⟨j, rfl⟩ := Int.eq_ofNat_of_zero_le hib.1
    have he := endsOf_at w hs hk
    simp only [Int.toNat_natCast] at he
    obtain ⟨o, ho⟩ : ∃ o, l[j]? = some o := ⟨_, List.getElem?_eq_getElem (by omega)⟩
    rw [dueOf_nat ho]
    refine List.mem_iff_getElem?.2 ⟨j, ?_⟩
    simp [delays, List.getElem?_zipWith, ho, he]

theorem delay_spec {l : List Order} {s w : List Int} (hs : Seq l.length s) (h0 : 0 < l.length) :
    (∃ (k : Nat) (i : Int), s[k]? = some i ∧ delayOf l s w = sumW w (s.take (k + 1)) - dueOf l i) ∧ ∀ (k : Nat) (i : Int), s[k]? = some i → sumW w (s.take (k + 1)) - dueOf l i ≤ delayOf l s w := by
  have hne : delays l (endsOf s w) ≠ [] := by
    obtain ⟨k, hk⟩ := hs.pos h0
    exact List.ne_nil_of_mem ((delays_mem (w := w) hs _).2 ⟨k, _, hk, rfl⟩)
  obtain ⟨h1, h2⟩ := maxL_spec _ hne
  exact ⟨(delays_mem hs _).1 h1, fun k i hk => h2 _ ((delays_mem hs _).2 ⟨k, i, hk, rfl⟩)⟩

/-! ### bounds -/
def bd (l : List Order) (w : List Int) (d : Int) : Int := sumW w ((idx l.length).filter fun i => decide (dueOf l i ≤ d)) - d
def someDue (l : List Order) (d : Int) : Bool := (idx l.length).any fun i => decide (dueOf l i ≤ d)

theorem Seq.perm {n : Nat} {s : List Int} (hs : Seq n s) : s.Perm (idx n) := by
  rw [List.perm_ext_iff_of_nodup hs.lt.2 (idx_nodup n)]
  intro a
  rw [idx_mem]
  constructor
  · exact hs.lt.1 a
  · intro h
    obtain ⟨j, rfl⟩ := Int.eq_ofNat_of_zero_le h.1
    exact hs.has j (by omega)

theorem last_of (p : Int → Bool) : ∀ s : List Int, (∃ x ∈ s, p x = true) → ∃ (k : Nat) (x : Int), s[k]? = some x ∧ p x = true ∧ (s.drop (k + 1)).filter p = []
  | [], h => by obtain ⟨x, hx, _⟩ := h; cases hx
  | a :: r, h => by
    by_cases hr : ∃ x ∈ r, p x = true
    · obtain ⟨k, x, h1, h2, h3⟩ := last_of p r hr
      exact ⟨k + 1, x, h1, h2, h3⟩
    · refine ⟨0, a, rfl, ?_, ?_⟩
      · obtain ⟨x, hx, hp⟩ := h
        rcases List.mem_cons.1 hx with rfl | hx
        · exact hp
        · exact (hr ⟨x, hx, hp⟩).elim
      · rw [List.drop_succ_cons, List.drop_zero, List.filter_eq_nil_iff]
        exact fun x hx hp => hr ⟨x, hx, hp⟩

/-- no sequence has a delay that is less than the bound of a day -/
theorem bd_le {l : List Order} {s w : List Int} (hs : Seq l.length s) (hw : ∀ x ∈ w, 0 ≤ x) {d : Int} (hd : someDue l d = true) : bd l w d ≤ delayOf l s w := by
  obtain ⟨x, hx, hxd⟩ := List.any_eq_true.1 hd
  have h0 : 0 < l.length := by have := idx_mem.1 hx; omega
  obtain ⟨k, i, hk, hp, hdrop⟩ := last_of (fun i => decide (dueOf l i ≤ d)) s ⟨x, hs.perm.mem_iff.2 hx, hxd⟩
  have h1 := (delay_spec (w := w) hs h0).2 k i hk
  have h2 : sumW w ((idx l.length).filter fun i => decide (dueOf l i ≤ d)) = sumW w (s.filter fun i => decide (dueOf l i ≤ d)) := sumW_perm w ((hs.perm.symm).filter _)
  have h3 : s.filter (fun i => decide (dueOf l i ≤ d)) = (s.take (k + 1)).filter fun i => decide (dueOf l i ≤ d) := by
    conv => lhs; rw [← List.take_append_drop (k + 1) s]
    rw [List.filter_append, hdrop, List.append_nil]
  have h4 := sumW_filter_le hw (fun i => decide (dueOf l i ≤ d)) (s.take (k + 1))
  have h5 : dueOf l i ≤ d := by simpa using hp
  unfold bd
  rw [h2, h3]
  omega

/-! ### sorted by Due -/
theorem bub_sorted (f : Int → Int) : ∀ (pr : List Int) (x : Int) (post : List Int), (pr.reverse ++ post).Pairwise (fun a b => f a ≤ f b) → (∀ y ∈ post, f x ≤ f y) → (bub f pr x post).Pairwise fun a b => f a ≤ f b
  | [], x, post, hp, hx => by
    rw [bub, List.pairwise_cons]
    exact ⟨hx, by simpa using hp⟩
  | y :: r, x, post, hp, hx => by
    unfold bub
    rw [List.reverse_cons, List.append_assoc, List.singleton_append] at hp
    split
    · refine bub_sorted f r x (y :: post) hp fun z hz => ?_
      rcases List.mem_cons.1 hz with rfl | hz
      · omega
      · exact hx z hz
    · next hxy =>
      rw [List.pairwise_append] at hp ⊢
      obtain ⟨h1, h2, h3⟩ := hp
      obtain ⟨h4, h5⟩ := List.pairwise_cons.1 h2
      refine ⟨h1, ?_, ?_⟩
      · rw [List.pairwise_cons, List.pairwise_cons]
        refine ⟨fun z hz => ?_, hx, h5⟩
        rcases List.mem_cons.1 hz with rfl | hz
        · omega
        · exact h4 z hz
      · intro a ha b hb
        rcases List.mem_cons.1 hb with rfl | hb
        · exact h3 a ha _ List.mem_cons_self
        · rcases List.mem_cons.1 hb with rfl | hb
          · have := h3 a ha y List.mem_cons_self
            omega
          · exact h3 a ha b (List.mem_cons_of_mem _ hb)

theorem isort_sorted (f : Int → Int) : ∀ (r done : List Int), done.Pairwise (fun a b => f a ≤ f b) → (isort f done r).Pairwise fun a b => f a ≤ f b
  | [], done, h => h
  | x :: r, done, h => isort_sorted f r _ (bub_sorted f done.reverse x [] (by simpa using h) (by simp))

theorem seqOf_sorted (l : List Order) : (seqOf l).Pairwise fun a b => dueOf l a ≤ dueOf l b := isort_sorted _ _ _ List.Pairwise.nil

theorem seqOf_seq (l : List Order) : Seq l.length (seqOf l) := ⟨seqOf_length l, fun i hi => seqOf_mem.2 (by omega)⟩

/-- by their Due, what is done when an order ends is due by then -/
theorem pre_le_bd {l : List Order} {s w : List Int} (hs : Seq l.length s) (hso : s.Pairwise fun a b => dueOf l a ≤ dueOf l b) (hw : ∀ x ∈ w, 0 ≤ x) {k : Nat} {i : Int} (hk : s[k]? = some i) : sumW w (s.take (k + 1)) - dueOf l i ≤ bd l w (dueOf l i) := by
  have h2 : sumW w ((idx l.length).filter fun j => decide (dueOf l j ≤ dueOf l i)) = sumW w (s.filter fun j => decide (dueOf l j ≤ dueOf l i)) := sumW_perm w ((hs.perm.symm).filter _)
  have h3 : (s.take (k + 1)).filter (fun j => decide (dueOf l j ≤ dueOf l i)) = s.take (k + 1) := by
    rw [List.filter_eq_self]
    intro a ha
    rw [List.take_add_one, hk] at ha
    rcases List.mem_append.1 ha with ha | ha
    · have h4 : s = s.take k ++ i :: s.drop (k + 1) := by
        obtain ⟨hk', rfl⟩ := List.getElem?_eq_some_iff.1 hk
        rw [← List.drop_eq_getElem_cons hk', List.take_append_drop]
      rw [h4, List.pairwise_append] at hso
      simpa using hso.2.2 a ha i List.mem_cons_self
    · obtain rfl : a = i := by simpa using ha
      simp
  have h4 : sumW w (s.filter fun j => decide (dueOf l j ≤ dueOf l i)) = sumW w ((s.take (k + 1)).filter fun j => decide (dueOf l j ≤ dueOf l i)) + sumW w ((s.drop (k + 1)).filter fun j => decide (dueOf l j ≤ dueOf l i)) := by
    conv => lhs; rw [← List.take_append_drop (k + 1) s]
    rw [List.filter_append, sumW_append]
  have h5 := sumW_nonneg hw ((s.drop (k + 1)).filter fun j => decide (dueOf l j ≤ dueOf l i))
  unfold bd
  rw [h2, h4, h3]
  omega

end Go.Ev

namespace Go.Ev

def daysGo (f : Int → Int) : Int → List Int → List Int
  | _, [] => []
  | last, i :: r => if f i > last then f i :: daysGo f (f i) r else daysGo f last r
def daysOf (l : List Order) : List Int := daysGo (dueOf l) (-1) (seqOf l)
def tightStep (b : Int → Int) : Option (Int × Int) → Int → Option (Int × Int)
  | none, d => some (d, b d)
  | some (a, m), d => if b d > m then some (d, b d) else some (a, m)
def tightOf (l : List Order) (s : Int) : Option (Int × Int) := (daysOf l).foldl (tightStep (bd l (side l s))) none

theorem daysGo_mem (f : Int → Int) : ∀ (r : List Int) (last d : Int), r.Pairwise (fun a b => f a ≤ f b) → (d ∈ daysGo f last r ↔ (∃ i ∈ r, f i = d) ∧ last < d)
  | [], last, d, _ => by simp [daysGo]
  | i :: r, last, d, hp => by
    obtain ⟨h1, h2⟩ := List.pairwise_cons.1 hp
    unfold daysGo
    split
    · next h =>
      rw [List.mem_cons, daysGo_mem f r (f i) d h2]
      constructor
      · rintro (rfl | ⟨⟨j, hj, rfl⟩, hlt⟩)
        · exact ⟨⟨i, List.mem_cons_self, rfl⟩, h⟩
        · exact ⟨⟨j, List.mem_cons_of_mem _ hj, rfl⟩, by omega⟩
      · rintro ⟨⟨j, hj, rfl⟩, hlt⟩
        rcases List.mem_cons.1 hj with rfl | hj
        · exact .inl rfl
        · have := h1 j hj
          by_cases he : f j = f i
          · exact .inl he
          · exact .inr ⟨⟨j, hj, rfl⟩, by omega⟩
    · next h =>
      rw [daysGo_mem f r last d h2]
      constructor
      · rintro ⟨⟨j, hj, rfl⟩, hlt⟩
        exact ⟨⟨j, List.mem_cons_of_mem _ hj, rfl⟩, hlt⟩
      · rintro ⟨⟨j, hj, rfl⟩, hlt⟩
        rcases List.mem_cons.1 hj with rfl | hj
        · omega
        · exact ⟨⟨j, hj, rfl⟩, hlt⟩

theorem daysGo_asc (f : Int → Int) : ∀ (r : List Int) (last : Int), (last :: daysGo f last r).Pairwise (· < ·)
  | [], last => by simp [daysGo]
  | i :: r, last => by
    unfold daysGo
    split
    · next h =>
      have ih := daysGo_asc f r (f i)
      rw [List.pairwise_cons]
      refine ⟨fun a ha => ?_, ih⟩
      rcases List.mem_cons.1 ha with rfl | ha
      · exact h
      · have := (List.pairwise_cons.1 ih).1 a ha
        omega
    · exact daysGo_asc f r last

theorem daysOf_mem (l : List Order) (hv : Valid l) (d : Int) : d ∈ daysOf l ↔ ∃ i ∈ seqOf l, dueOf l i = d := by
  rw [daysOf, daysGo_mem _ _ _ _ (seqOf_sorted l)]
  constructor
  · exact fun h => h.1
  · rintro ⟨i, hi, rfl⟩
    refine ⟨⟨i, hi, rfl⟩, ?_⟩
    have hb := seqOf_mem.1 hi
    obtain ⟨j, rfl⟩ := Int.eq_ofNat_of_zero_le hb.1
    obtain ⟨o, ho⟩ : ∃ o, l[j]? = some o := ⟨_, List.getElem?_eq_getElem (by omega)⟩
    rw [dueOf_nat ho]
    have := (hv.ok o (List.mem_of_getElem? ho)).d0
    omega

theorem daysOf_asc (l : List Order) : (daysOf l).Pairwise (· < ·) := (List.pairwise_cons.1 (daysGo_asc (dueOf l) (seqOf l) (-1))).2

theorem fold_tight (b : Int → Int) : ∀ (D : List Int) (a : Int), (a :: D).Pairwise (· < ·) → ∃ a', D.foldl (tightStep b) (some (a, b a)) = some (a', b a') ∧ a' ∈ a :: D ∧ (∀ d ∈ a :: D, b d ≤ b a') ∧ ∀ d ∈ a :: D, d < a' → b d < b a'
  | [], a, _ => ⟨a, rfl, by simp, by simp, by intro d hd hlt; simp at hd; omega⟩
  | d :: r, a, hp => by
    obtain ⟨h1, h2⟩ := List.pairwise_cons.1 hp
    obtain ⟨h3, h4⟩ := List.pairwise_cons.1 h2
    rw [List.foldl_cons]
    simp only [tightStep]
    split
    · next hgt =>
      obtain ⟨a', e1, e2, e3, e4⟩ := fold_tight b r d h2
      have hd := e3 d List.mem_cons_self
      refine ⟨a', e1, List.mem_cons_of_mem _ e2, fun x hx => ?_, fun x hx hlt => ?_⟩
      · rcases List.mem_cons.1 hx with rfl | hx
        · omega
        · exact e3 x hx
      · rcases List.mem_cons.1 hx with rfl | hx
        · omega
        · exact e4 x hx hlt
    · next hgt =>
      obtain ⟨a', e1, e2, e3, e4⟩ := fold_tight b r a (List.pairwise_cons.2 ⟨fun x hx => h1 x (List.mem_cons_of_mem _ hx), h4⟩)
      have ha := e3 a List.mem_cons_self
      refine ⟨a', e1, ?_, fun x hx => ?_, fun x hx hlt => ?_⟩
      · rcases List.mem_cons.1 e2 with h | h
        · simp [h]
        · simp [h]
      · rcases List.mem_cons.1 hx with rfl | hx
        · exact ha
        · rcases List.mem_cons.1 hx with rfl | hx
          · omega
          · exact e3 x (List.mem_cons_of_mem _ hx)
      · rcases List.mem_cons.1 hx with rfl | hx
        · exact e4 x List.mem_cons_self hlt
        · rcases List.mem_cons.1 hx with rfl | hx
          · have hax := h1 x List.mem_cons_self
            have := e4 a List.mem_cons_self (by omega)
            omega
          · exact e4 x (List.mem_cons_of_mem _ hx) hlt

theorem someDue_of {l : List Order} {i : Int} {d : Int} (hi : i ∈ seqOf l) (hd : dueOf l i ≤ d) : someDue l d = true :=
  List.any_eq_true.2 ⟨i, (seqOf_perm l).mem_iff.1 hi, by simpa using hd⟩

theorem side_pos {l : List Order} (hv : Valid l) (s : Int) : ∀ x ∈ side l s, 0 ≤ x := fun x hx => by
  obtain ⟨o, ho, rfl⟩ := List.mem_map.1 hx
  have := hv.ok o ho
  have h1 := this.lo
  have h2 := this.lh
  split <;> omega

/-- the day that is found -/
theorem tight_spec {l : List Order} (hv : Valid l) (h0 : 0 < l.length) (s : Int) : ∃ a, tightOf l s = some (a, bd l (side l s) a) ∧ bd l (side l s) a = delayOf l (seqOf l) (side l s) ∧ someDue l a = true ∧ 0 ≤ a ∧ a ≤ 2000 ∧
    ∀ d, d < a → ¬ (someDue l d = true ∧ bd l (side l s) d = bd l (side l s) a) := by
  have hs := seqOf_seq l
  have hw := side_pos hv s
  obtain ⟨k0, hk0⟩ := hs.pos h0
  have hne : daysOf l ≠ [] := List.ne_nil_of_mem ((daysOf_mem l hv _).2 ⟨_, List.mem_of_getElem? hk0, rfl⟩)
  have hasc := daysOf_asc l
  have hmem := daysOf_mem l hv
  cases hD : daysOf l with
  | nil => exact (hne hD).elim
  | cons a D =>
    rw [hD] at hasc
    obtain ⟨a', e1, e2, e3, e4⟩ := fold_tight (bd l (side l s)) D a hasc
    rw [← hD] at e2 e3 e4
    obtain ⟨i, hi, hia⟩ := (hmem a').1 e2
    have hsd : someDue l a' = true := someDue_of hi (by omega)
    obtain ⟨⟨k, j, hk, hdel⟩, _⟩ := delay_spec (w := side l s) hs h0
    have hle := pre_le_bd hs (seqOf_sorted l) hw hk
    have hm := e3 (dueOf l j) ((hmem _).2 ⟨j, List.mem_of_getElem? hk, rfl⟩)
    have hb := bd_le hs hw hsd
    have heq : bd l (side l s) a' = delayOf l (seqOf l) (side l s) := by omega
    have hbi := seqOf_mem.1 hi
    obtain ⟨n, rfl⟩ := Int.eq_ofNat_of_zero_le hbi.1
    obtain ⟨o, ho⟩ : ∃ o, l[n]? = some o := ⟨_, List.getElem?_eq_getElem (by omega)⟩
    have hok := hv.ok o (List.mem_of_getElem? ho)
    rw [dueOf_nat ho] at hia
    have hd0 := hok.d0
    have hd1 := hok.d1
    refine ⟨a', ?_, heq, hsd, by omega, by omega, fun d hlt => ?_⟩
    · rw [tightOf, hD, List.foldl_cons]
      exact e1
    · rintro ⟨hs1, hs2⟩
      obtain ⟨x, hx, hxd⟩ := List.any_eq_true.1 hs1
      obtain ⟨k, i, hk, hp, hdrop⟩ := last_of (fun i => decide (dueOf l i ≤ d)) (seqOf l) ⟨x, (seqOf_perm l).mem_iff.2 hx, hxd⟩
      have hid : dueOf l i ≤ d := by simpa using hp
      have him := List.mem_of_getElem? hk
      have hiD := (hmem (dueOf l i)).2 ⟨i, him, rfl⟩
      by_cases hde : dueOf l i = d
      · have := e4 d (hde ▸ hiD) hlt
        omega
      · have hsame : (idx l.length).filter (fun j => decide (dueOf l j ≤ d)) = (idx l.length).filter fun j => decide (dueOf l j ≤ dueOf l i) := by
          apply List.filter_congr
          intro j hj
          rw [Bool.eq_iff_iff, decide_eq_true_eq, decide_eq_true_eq]
          constructor
          · intro hjd
            have hjs := (seqOf_perm l).mem_iff.2 hj
            obtain ⟨m, hm⟩ := List.mem_iff_getElem?.1 hjs
            by_cases hmk : m ≤ k
            · by_cases hmk' : m = k
              · subst hmk'
                rw [hk] at hm
                cases hm
                omega
              · obtain ⟨hm1, hm2⟩ := List.getElem?_eq_some_iff.1 hm
                obtain ⟨hk1, hk2⟩ := List.getElem?_eq_some_iff.1 hk
                have := List.pairwise_iff_getElem.1 (seqOf_sorted l) m k hm1 hk1 (by omega)
                rw [hm2, hk2] at this
                exact this
            · have : j ∈ (seqOf l).drop (k + 1) := by
                refine List.mem_iff_getElem?.2 ⟨m - (k + 1), ?_⟩
                rw [List.getElem?_drop, show k + 1 + (m - (k + 1)) = m by omega]
                exact hm
              have := (List.filter_eq_nil_iff.1 hdrop) j this
              simp at this
              omega
          · intro h; omega
        have h3 := e3 _ hiD
        have : bd l (side l s) (dueOf l i) = bd l (side l s) d + (d - dueOf l i) := by
          unfold bd
          rw [hsame]
          omega
        omega

end Go.Ev

namespace Go.Ev

/-- orders can be kept: by each day no more work is due than there are days -/
def Feas (l : List Order) (w : List Int) (ks : List Int) : Prop := ∀ d : Int, (∃ i ∈ ks, dueOf l i ≤ d) → sumW w (ks.filter fun i => decide (dueOf l i ≤ d)) ≤ d

theorem Feas.perm {l : List Order} {w : List Int} {a b : List Int} (h : a.Perm b) (hf : Feas l w a) : Feas l w b := fun d hd => by
  rw [← sumW_perm w (h.filter _)]
  refine hf d ?_
  obtain ⟨i, hi, h1⟩ := hd
  exact ⟨i, h.mem_iff.2 hi, h1⟩

theorem sumW_sublist {w : List Int} (hw : ∀ x ∈ w, 0 ≤ x) {a b : List Int} (h : a.Sublist b) : sumW w a ≤ sumW w b := by
  induction h with
  | slnil => exact Int.le_refl _
  | cons x _ ih =>
    have := sumW_nonneg hw [x]
    have h1 : sumW w [x] = wk w x := by simp [sumW]
    rw [sumW_cons]; omega
  | cons_cons x _ ih => rw [sumW_cons, sumW_cons]; omega

theorem Feas.sub {l : List Order} {w : List Int} (hw : ∀ x ∈ w, 0 ≤ x) {a b : List Int} (h : a.Sublist b) (hf : Feas l w b) : Feas l w a := fun d hd => by
  obtain ⟨i, hi, h1⟩ := hd
  have := hf d ⟨i, h.subset hi, h1⟩
  have h2 := sumW_sublist hw (h.filter fun i => decide (dueOf l i ≤ d))
  omega

theorem Feas.nil (l : List Order) (w : List Int) : Feas l w [] := fun d hd => by obtain ⟨i, hi, _⟩ := hd; cases hi

/-- one after another none is late -/
def feasGo (l : List Order) (w : List Int) : Int → List Int → Bool
  | _, [] => true
  | day, i :: r => decide (day + wk w i ≤ dueOf l i) && feasGo l w (day + wk w i) r

theorem feasGo_iff_pre (l : List Order) (w : List Int) : ∀ (T : List Int) (day : Int), feasGo l w day T = true ↔ ∀ (k : Nat) (i : Int), T[k]? = some i → day + sumW w (T.take (k + 1)) ≤ dueOf l i
  | [], day => by simp [feasGo]
  | a :: r, day => by
    rw [feasGo, Bool.and_eq_true, decide_eq_true_eq, feasGo_iff_pre l w r]
    constructor
    · rintro ⟨h1, h2⟩ k i hk
      cases k with
      | zero =>
        simp at hk
        subst hk
        simpa [sumW] using h1
      | succ k =>
        simp only [List.getElem?_cons_succ] at hk
        have := h2 k i hk
        rw [List.take_succ_cons, sumW_cons]
        omega
    · intro h
      refine ⟨?_, fun k i hk => ?_⟩
      · have := h 0 a rfl
        simpa [sumW] using this
      · have := h (k + 1) i (by simpa using hk)
        rw [List.take_succ_cons, sumW_cons] at this
        omega

theorem feasGo_iff {l : List Order} {w : List Int} (hw : ∀ x ∈ w, 0 ≤ x) {T : List Int} (hs : T.Pairwise fun a b => dueOf l a ≤ dueOf l b) : feasGo l w 0 T = true ↔ Feas l w T := by
  rw [feasGo_iff_pre]
  constructor
  · intro h d hd
    obtain ⟨x, hx, hxd⟩ := hd
    obtain ⟨k, i, hk, hp, hdrop⟩ := last_of (fun i => decide (dueOf l i ≤ d)) T ⟨x, hx, by simpa using hxd⟩
    have h3 : T.filter (fun i => decide (dueOf l i ≤ d)) = (T.take (k + 1)).filter fun i => decide (dueOf l i ≤ d) := by
      conv => lhs; rw [← List.take_append_drop (k + 1) T]
      rw [List.filter_append, hdrop, List.append_nil]
    have h4 := sumW_filter_le hw (fun i => decide (dueOf l i ≤ d)) (T.take (k + 1))
    have h5 := h k i hk
    have h6 : dueOf l i ≤ d := by simpa using hp
    rw [h3]
    omega
  · intro h k i hk
    have h1 := h (dueOf l i) ⟨i, List.mem_of_getElem? hk, Int.le_refl _⟩
    have h3 : (T.take (k + 1)).filter (fun j => decide (dueOf l j ≤ dueOf l i)) = T.take (k + 1) := by
      rw [List.filter_eq_self]
      intro a ha
      rw [List.take_add_one, hk] at ha
      rcases List.mem_append.1 ha with ha | ha
      · have h4 : T = T.take k ++ i :: T.drop (k + 1) := by
          obtain ⟨hk', rfl⟩ := List.getElem?_eq_some_iff.1 hk
          rw [← List.drop_eq_getElem_cons hk', List.take_append_drop]
        rw [h4, List.pairwise_append] at hs
        simpa using hs.2.2 a ha i List.mem_cons_self
      · obtain rfl : a = i := by simpa using ha
        simp
    have h4 : sumW w (T.filter fun j => decide (dueOf l j ≤ dueOf l i)) = sumW w ((T.take (k + 1)).filter fun j => decide (dueOf l j ≤ dueOf l i)) + sumW w ((T.drop (k + 1)).filter fun j => decide (dueOf l j ≤ dueOf l i)) := by
      conv => lhs; rw [← List.take_append_drop (k + 1) T]
      rw [List.filter_append, sumW_append]
    have h5 := sumW_nonneg hw ((T.drop (k + 1)).filter fun j => decide (dueOf l j ≤ dueOf l i))
    rw [h3] at h4
    omega

/-! ### orders of a list of indexes, by themselves -/
def subO (l : List Order) (ks : List Int) : List Order := ks.filterMap fun i => l[i.toNat]?
def canB (l : List Order) (s : Int) (ks : List Int) : Bool := decide ((subO l ks).length = 0) || decide (delayOf (subO l ks) (seqOf (subO l ks)) (side (subO l ks) s) ≤ 0)

theorem subO_get {l : List Order} : ∀ {ks : List Int}, (∀ i ∈ ks, 0 ≤ i ∧ i < l.length) → ∀ j : Nat, (subO l ks)[j]? = (ks[j]?).bind fun i => l[i.toNat]?
  | [], _, j => by simp [subO]
  | a :: r, h, j => by
    have ha := h a List.mem_cons_self
    have hg : l[a.toNat]? = some l[a.toNat] := List.getElem?_eq_getElem (by omega)
    have ih := subO_get (ks := r) fun i hi => h i (List.mem_cons_of_mem _ hi)
    simp only [subO, List.filterMap_cons, hg] at ih ⊢
    cases j with
    | zero => simp [hg]
    | succ j => simpa using ih j

theorem subO_length {l : List Order} {ks : List Int} (h : ∀ i ∈ ks, 0 ≤ i ∧ i < l.length) : (subO l ks).length = ks.length := by
  induction ks with
  | nil => rfl
  | cons a r ih =>
    have ha := h a List.mem_cons_self
    have hg : l[a.toNat]? = some l[a.toNat] := List.getElem?_eq_getElem (by omega)
    have := ih fun i hi => h i (List.mem_cons_of_mem _ hi)
    simp only [subO, List.filterMap_cons, hg, List.length_cons] at this ⊢
    rw [this]

theorem delay_le_iff {x : List Order} {w : List Int} (h0 : 0 < x.length) (hw : ∀ a ∈ w, 0 ≤ a) : delayOf x (seqOf x) w ≤ 0 ↔ ∀ d, someDue x d = true → bd x w d ≤ 0 := by
  have hs := seqOf_seq x
  constructor
  · intro h d hd
    have := bd_le hs hw hd
    omega
  · intro h
    obtain ⟨⟨k, i, hk, he⟩, _⟩ := delay_spec (w := w) hs h0
    have h1 := pre_le_bd hs (seqOf_sorted x) hw hk
    have h2 := h (dueOf x i) (someDue_of (List.mem_of_getElem? hk) (Int.le_refl _))
    omega

theorem idx_map (ks : List Int) : (idx ks.length).map (fun j => ks.getD j.toNat 0) = ks := by
  apply List.ext_getElem?
  intro j
  simp only [idx, List.map_map, List.getElem?_map]
  by_cases hj : j < ks.length
  · rw [List.getElem?_range hj]
    simp [List.getElem?_eq_getElem hj]
  · rw [List.getElem?_eq_none (by simp; omega), List.getElem?_eq_none (by omega)]
    rfl

theorem canB_iff {l : List Order} (hv : Valid l) (s : Int) {ks : List Int} (h : ∀ i ∈ ks, 0 ≤ i ∧ i < l.length) : canB l s ks = true ↔ Feas l (side l s) ks := by
  have hlen := subO_length h
  have hget := subO_get h
  unfold canB
  rw [Bool.or_eq_true, decide_eq_true_eq, decide_eq_true_eq, hlen]
  by_cases h0 : ks.length = 0
  · obtain rfl : ks = [] := List.length_eq_zero_iff.1 h0
    simp [Feas.nil]
  have hw : ∀ a ∈ side (subO l ks) s, 0 ≤ a := fun a ha => by
    obtain ⟨o, ho, rfl⟩ := List.mem_map.1 ha
    obtain ⟨i, hi, hio⟩ := List.mem_filterMap.1 ho
    have := hv.ok o (List.mem_of_getElem? hio)
    have h1 := this.lo
    have h2 := this.lh
    split <;> omega
  rw [delay_le_iff (by omega) hw]
  have hdue : ∀ j : Nat, j < ks.length → dueOf (subO l ks) (j : Int) = dueOf l (ks.getD j 0) := fun j hj => by
    have := hget j
    rw [List.getElem?_eq_getElem hj] at this
    simp only [dueOf, Int.toNat_natCast, this, Option.bind_some, List.getD_eq_getElem?_getD, List.getElem?_eq_getElem hj, Option.getD_some]
  have hwk : ∀ j : Nat, j < ks.length → wk (side (subO l ks) s) (j : Int) = wk (side l s) (ks.getD j 0) := fun j hj => by
    have := hget j
    rw [List.getElem?_eq_getElem hj] at this
    simp only [wk, side, Int.toNat_natCast, List.getD_eq_getElem?_getD, List.getElem?_map, this, Option.bind_some, List.getElem?_eq_getElem hj, Option.getD_some]
  have hsum : ∀ d, sumW (side (subO l ks) s) ((idx ks.length).filter fun j => decide (dueOf (subO l ks) j ≤ d)) = sumW (side l s) (ks.filter fun i => decide (dueOf l i ≤ d)) := fun d => by
    have e : ks.filter (fun i => decide (dueOf l i ≤ d)) = ((idx ks.length).filter fun j => decide (dueOf (subO l ks) j ≤ d)).map fun j => ks.getD j.toNat 0 := by
      conv => lhs; rw [← idx_map ks]
      rw [List.filter_map]
      congr 1
      apply List.filter_congr
      intro j hj
      have hb := idx_mem.1 hj
      obtain ⟨n, rfl⟩ := Int.eq_ofNat_of_zero_le hb.1
      simp only [Function.comp, Int.toNat_natCast]
      rw [hdue n (by omega)]
    rw [e]
    unfold sumW
    rw [List.map_map]
    congr 1
    apply List.map_congr_left
    intro j hj
    have hb := idx_mem.1 (List.mem_filter.1 hj).1
    obtain ⟨n, rfl⟩ := Int.eq_ofNat_of_zero_le hb.1
    simp only [Function.comp, Int.toNat_natCast]
    rw [hwk n (by omega)]
  have hsome : ∀ d, someDue (subO l ks) d = true ↔ ∃ i ∈ ks, dueOf l i ≤ d := fun d => by
    rw [someDue, hlen, List.any_eq_true]
    constructor
    · rintro ⟨j, hj, hjd⟩
      have hb := idx_mem.1 hj
      obtain ⟨n, rfl⟩ := Int.eq_ofNat_of_zero_le hb.1
      rw [hdue n (by omega), decide_eq_true_eq] at hjd
      refine ⟨_, ?_, hjd⟩
      rw [List.getD_eq_getElem?_getD, List.getElem?_eq_getElem (by omega : n < ks.length), Option.getD_some]
      exact List.getElem_mem _
    · rintro ⟨i, hi, hid⟩
      obtain ⟨n, hn⟩ := List.mem_iff_getElem?.1 hi
      have hnl := (List.getElem?_eq_some_iff.1 hn).1
      refine ⟨(n : Int), idx_mem.2 (by omega), ?_⟩
      rw [hdue n hnl, decide_eq_true_eq, List.getD_eq_getElem?_getD, hn, Option.getD_some]
      exact hid
  constructor
  · rintro (h1 | h1)
    · exact (h0 h1).elim
    · intro d hd
      have := h1 d ((hsome d).2 hd)
      rw [bd, hlen, hsum] at this
      omega
  · intro h1
    right
    intro d hd
    have := h1 d ((hsome d).1 hd)
    rw [bd, hlen, hsum]
    omega

/-! ### the kept orders can be kept -/
theorem pickL_max (w : List Int) : ∀ ks : List Int, ∀ x ∈ ks, wk w x ≤ wk w (pickL w ks)
  | [], x, hx => by cases hx
  | a :: r, x, hx => by
    have : ∀ (r : List Int) (a : Int), ∀ x ∈ a :: r, wk w x ≤ wk w (r.foldl (fun m x => if wk w x ≥ wk w m then x else m) a) := by
      intro r
      induction r with
      | nil => intro a x hx; simp at hx; subst hx; exact Int.le_refl _
      | cons b r ih =>
        intro a x hx
        rw [List.foldl_cons]
        have h3 := ih (if wk w b ≥ wk w a then b else a) _ List.mem_cons_self
        have h4 := ih (if wk w b ≥ wk w a then b else a)
        generalize List.foldl (fun m x => if wk w x ≥ wk w m then x else m) (if wk w b ≥ wk w a then b else a) r = g at *
        rcases List.mem_cons.1 hx with rfl | hx
        · split at h3 <;> omega
        · rcases List.mem_cons.1 hx with rfl | hx
          · split at h3 <;> omega
          · exact h4 x (List.mem_cons_of_mem _ hx)
    exact this r a x hx

theorem feasGo_append (l : List Order) (w : List Int) : ∀ (a b : List Int) (d : Int), feasGo l w d (a ++ b) = (feasGo l w d a && feasGo l w (d + sumW w a) b)
  | [], b, d => by simp [feasGo, sumW]
  | x :: a, b, d => by
    rw [List.cons_append, feasGo, feasGo, feasGo_append l w a b, sumW_cons, Bool.and_assoc]
    congr 3
    omega

theorem feas_snoc {l : List Order} {w : List Int} (hw : ∀ x ∈ w, 0 ≤ x) {out : List Int} {i : Int} (hs : (out ++ [i]).Pairwise fun a b => dueOf l a ≤ dueOf l b) (hf : Feas l w out) : Feas l w (out ++ [i]) ↔ sumW w out + wk w i ≤ dueOf l i := by
  have hso : out.Pairwise fun a b => dueOf l a ≤ dueOf l b := (List.pairwise_append.1 hs).1
  rw [← feasGo_iff hw hs, feasGo_append, (feasGo_iff hw hso).2 hf]
  simp [feasGo]

theorem feas_erase {l : List Order} {w : List Int} (hw : ∀ x ∈ w, 0 ≤ x) {out : List Int} {i : Int} (hs : (out ++ [i]).Pairwise fun a b => dueOf l a ≤ dueOf l b) (hf : Feas l w out) : Feas l w ((out ++ [i]).erase (pickL w (out ++ [i]))) := by
  have hm := pickL_mem w (out ++ [i]) (by simp)
  have hmax := pickL_max w (out ++ [i]) i (by simp)
  generalize pickL w (out ++ [i]) = m at *
  have hall : ∀ a ∈ out, dueOf l a ≤ dueOf l i := fun a ha => (List.pairwise_append.1 hs).2.2 a ha i (by simp)
  have hwi : 0 ≤ wk w i := by
    have := sumW_nonneg hw [i]
    simpa [sumW] using this
  have hsub : ((out ++ [i]).erase m).Sublist (out ++ [i]) := List.erase_sublist
  intro d hd
  by_cases hdi : d < dueOf l i
  · obtain ⟨x, hx, hxd⟩ := hd
    have hxo : x ∈ out := by
      rcases List.mem_append.1 (hsub.subset hx) with h | h
      · exact h
      · obtain rfl : x = i := by simpa using h
        omega
    have h1 := hf d ⟨x, hxo, hxd⟩
    have h2 := sumW_sublist hw (hsub.filter fun i => decide (dueOf l i ≤ d))
    have h3 : (out ++ [i]).filter (fun i => decide (dueOf l i ≤ d)) = out.filter fun i => decide (dueOf l i ≤ d) := by
      rw [List.filter_append]
      have : [i].filter (fun i => decide (dueOf l i ≤ d)) = [] := by
        rw [List.filter_cons, if_neg (by simp; omega)]
        rfl
      rw [this, List.append_nil]
    rw [h3] at h2
    omega
  · have h1 := sumW_erase w (out ++ [i]) m hm
    have h2 := sumW_filter_le hw (fun i => decide (dueOf l i ≤ d)) ((out ++ [i]).erase m)
    rw [sumW_append] at h1
    have h4 : sumW w [i] = wk w i := by simp [sumW]
    cases hout : out with
    | nil =>
      rw [hout] at hd hm
      obtain ⟨x, hx, _⟩ := hd
      obtain rfl : m = i := by simpa using hm
      simp at hx
    | cons a r =>
      have h5 := hf (dueOf l i) ⟨a, by rw [hout]; exact List.mem_cons_self, hall a (by rw [hout]; exact List.mem_cons_self)⟩
      have h6 : out.filter (fun j => decide (dueOf l j ≤ dueOf l i)) = out := List.filter_eq_self.2 fun a ha => by simpa using hall a ha
      rw [h6] at h5
      rw [← hout]
      omega

end Go.Ev

namespace Go.Ev

/-! ### step by step -/
def dpOld (wi i : Int) (least : List Int) (n : Nat) : Int := if n < least.length ∧ i ≠ wi then least.getD n 0 else -1
def dpCell (l : List Order) (w : List Int) (wi i : Int) (least : List Int) (n : Nat) : Int :=
  if n = 0 ∨ least.getD (n - 1) 0 < 0 then dpOld wi i least n
  else if least.getD (n - 1) 0 + wk w i ≤ dueOf l i ∧ (dpOld wi i least n < 0 ∨ least.getD (n - 1) 0 + wk w i < dpOld wi i least n) then least.getD (n - 1) 0 + wk w i else dpOld wi i least n
def dpStep (l : List Order) (w : List Int) (wi i : Int) (least : List Int) : List Int := (List.range (least.length + 1)).map (dpCell l w wi i least)
def dpGo (l : List Order) (w : List Int) (wi wo : Int) : List Int → List Int → List Int
  | [], least => least
  | i :: r, least => if i = wo then dpGo l w wi wo r least else dpGo l w wi wo r (dpStep l w wi i least)
/-- the last place that is not below 0 -/
def lastNN : List Int → Nat → Int
  | _, 0 => -1
  | least, n + 1 => if least.getD n 0 ≥ 0 then n else lastNN least n
def mostOf (l : List Order) (s wi wo : Int) : Int := let least := dpGo l (side l s) wi wo (seqOf l) [0]; lastNN least least.length

/-- a list that is allowed, out of those that have been looked at -/
def Allowed (l : List Order) (w : List Int) (wi wo : Int) (P T : List Int) : Prop := T.Sublist P ∧ feasGo l w 0 T = true ∧ (wi ∈ P → wi ∈ T) ∧ wo ∉ T

structure DpOk (l : List Order) (w : List Int) (wi wo : Int) (P least : List Int) : Prop where
  ex : ∀ n, n < least.length → 0 ≤ least.getD n 0 → ∃ T, Allowed l w wi wo P T ∧ T.length = n ∧ sumW w T = least.getD n 0
  le : ∀ T, Allowed l w wi wo P T → T.length < least.length ∧ 0 ≤ least.getD T.length 0 ∧ least.getD T.length 0 ≤ sumW w T

theorem sublist_snoc {T P : List Int} {i : Int} (h : T.Sublist (P ++ [i])) : T.Sublist P ∨ ∃ T', T = T' ++ [i] ∧ T'.Sublist P := by
  obtain ⟨a, b, rfl, h1, h2⟩ := List.sublist_append_iff.1 h
  cases b with
  | nil => left; simpa using h1
  | cons x r =>
    have hl := h2.length_le
    simp at hl
    subst hl
    have : x = i := by simpa using h2.subset (List.mem_cons_self)
    subst this
    exact .inr ⟨a, rfl, h1⟩

theorem feas_last {l : List Order} {w : List Int} {T : List Int} {i : Int} : feasGo l w 0 (T ++ [i]) = true ↔ feasGo l w 0 T = true ∧ sumW w T + wk w i ≤ dueOf l i := by
  rw [feasGo_append, Bool.and_eq_true]
  simp [feasGo]

theorem dpStep_get (l : List Order) (w : List Int) (wi i : Int) (least : List Int) (n : Nat) (hn : n < least.length + 1) : (dpStep l w wi i least).getD n 0 = dpCell l w wi i least n := by
  rw [List.getD_eq_getElem?_getD, dpStep, List.getElem?_map, List.getElem?_range hn]
  rfl
theorem dpStep_length (l : List Order) (w : List Int) (wi i : Int) (least : List Int) : (dpStep l w wi i least).length = least.length + 1 := by simp [dpStep]

theorem DpOk.step {l : List Order} {w : List Int} {wi wo i : Int} {P least : List Int} (h : DpOk l w wi wo P least) (hw : ∀ x ∈ w, 0 ≤ x) (hi : i ∉ P) (ho : i ≠ wo) : DpOk l w wi wo (P ++ [i]) (dpStep l w wi i least) := by
  have hwi : 0 ≤ wk w i := by
    have := sumW_nonneg hw [i]
    simpa [sumW] using this
  constructor
  · intro n hn hge
    rw [dpStep_length] at hn
    rw [dpStep_get _ _ _ _ _ _ hn] at hge ⊢
    have old : 0 ≤ dpOld wi i least n → ∃ T, Allowed l w wi wo (P ++ [i]) T ∧ T.length = n ∧ sumW w T = dpOld wi i least n := by
      intro h0
      unfold dpOld at h0 ⊢
      split at h0
      · next hc =>
        obtain ⟨T, ⟨t1, t2, t3, t4⟩, h2, h3⟩ := h.ex n hc.1 h0
        refine ⟨T, ⟨t1.trans (List.sublist_append_left ..), t2, fun hm => ?_, t4⟩, h2, by rw [if_pos hc]; exact h3⟩
        rcases List.mem_append.1 hm with hm | hm
        · exact t3 hm
        · have hm' : wi = i := by simpa using hm
          exact (hc.2 hm'.symm).elim
      · omega
    unfold dpCell at hge ⊢
    generalize dpOld wi i least n = a at *
    by_cases hz : n = 0 ∨ least.getD (n - 1) 0 < 0
    · rw [if_pos hz] at hge ⊢; exact old hge
    · rw [if_neg hz] at hge ⊢
      by_cases hc : least.getD (n - 1) 0 + wk w i ≤ dueOf l i ∧ (a < 0 ∨ least.getD (n - 1) 0 + wk w i < a)
      · rw [if_pos hc]
        have hn1 : n - 1 < least.length := by omega
        obtain ⟨T, ⟨t1, t2, t3, t4⟩, h2, h3⟩ := h.ex (n - 1) hn1 (by omega)
        refine ⟨T ++ [i], ⟨t1.append (List.Sublist.refl _), feas_last.2 ⟨t2, by rw [h3]; exact hc.1⟩, fun hm => ?_, ?_⟩, by simp; omega, by rw [sumW_append, h3]; simp [sumW]⟩
        · rcases List.mem_append.1 hm with hm | hm
          · exact List.mem_append_left _ (t3 hm)
          · exact List.mem_append_right _ hm
        · intro hm
          rcases List.mem_append.1 hm with hm | hm
          · exact t4 hm
          · have hm' : wo = i := by simpa using hm
            exact ho hm'.symm
      · rw [if_neg hc] at hge ⊢; exact old hge
  · rintro T ⟨t1, t2, t3, t4⟩
    rw [dpStep_length]
    rcases sublist_snoc t1 with hT | ⟨T', rfl, hT'⟩
    · have hiT : i ∉ T := fun hm => hi (hT.subset hm)
      have hne : i ≠ wi := fun he => hiT (he ▸ t3 (by rw [← he]; simp))
      obtain ⟨h1, h2, h3⟩ := h.le T ⟨hT, t2, fun hm => t3 (List.mem_append_left _ hm), t4⟩
      refine ⟨by omega, ?_⟩
      rw [dpStep_get _ _ _ _ _ _ (by omega)]
      have hold : dpOld wi i least T.length = least.getD T.length 0 := by rw [dpOld, if_pos ⟨h1, hne⟩]
      unfold dpCell
      rw [hold]
      split
      · exact ⟨h2, h3⟩
      · split
        · next hd =>
          refine ⟨by omega, ?_⟩
          rcases hd.2 with h | h <;> omega
        · exact ⟨h2, h3⟩
    · obtain ⟨f1, f2⟩ := feas_last.1 t2
      have hwoT : wo ∉ T' := fun hm => t4 (List.mem_append_left _ hm)
      obtain ⟨h1, h2, h3⟩ := h.le T' ⟨hT', f1, fun hm => by
        rcases List.mem_append.1 (t3 (List.mem_append_left _ hm)) with h | h
        · exact h
        · have : wi = i := by simpa using h
          exact (hi (this ▸ hm)).elim, hwoT⟩
      have hl : (T' ++ [i]).length = T'.length + 1 := by simp
      rw [hl, sumW_append]
      have hs1 : sumW w [i] = wk w i := by simp [sumW]
      rw [hs1]
      refine ⟨by omega, ?_⟩
      rw [dpStep_get _ _ _ _ _ _ (by omega)]
      unfold dpCell
      simp only [Nat.add_sub_cancel]
      rw [if_neg (by omega)]
      generalize dpOld wi i least (T'.length + 1) = a
      split <;> omega

theorem DpOk.skip {l : List Order} {w : List Int} {wi i : Int} {P least : List Int} (h : DpOk l w wi i P least) (hne : wi ≠ i) : DpOk l w wi i (P ++ [i]) least := by
  constructor
  · intro n hn hge
    obtain ⟨T, ⟨t1, t2, t3, t4⟩, h2, h3⟩ := h.ex n hn hge
    refine ⟨T, ⟨t1.trans (List.sublist_append_left ..), t2, fun hm => ?_, t4⟩, h2, h3⟩
    rcases List.mem_append.1 hm with hm | hm
    · exact t3 hm
    · exact (hne (by simpa using hm)).elim
  · rintro T ⟨t1, t2, t3, t4⟩
    rcases sublist_snoc t1 with hT | ⟨T', rfl, hT'⟩
    · exact h.le T ⟨hT, t2, fun hm => t3 (List.mem_append_left _ hm), t4⟩
    · exact (t4 (by simp)).elim

theorem dp_all {l : List Order} {w : List Int} {wi wo : Int} (hw : ∀ x ∈ w, 0 ≤ x) : ∀ (r P least : List Int), (P ++ r).Nodup → (wi = wo → wi ∉ r) → DpOk l w wi wo P least → DpOk l w wi wo (P ++ r) (dpGo l w wi wo r least)
  | [], P, least, _, _, h => by rw [List.append_nil]; exact h
  | i :: r, P, least, hn, hne, h => by
    have hP : P ++ i :: r = (P ++ [i]) ++ r := by simp
    have hiP : i ∉ P := fun hm => by
      rw [List.nodup_append] at hn
      exact hn.2.2 i hm i List.mem_cons_self rfl
    rw [hP] at hn ⊢
    rw [dpGo]
    split
    · next he =>
      subst he
      exact dp_all hw r _ _ hn (fun h hm => hne h (List.mem_cons_of_mem _ hm)) (h.skip fun he => hne he (by rw [he]; exact List.mem_cons_self))
    · next he => exact dp_all hw r _ _ hn (fun h hm => hne h (List.mem_cons_of_mem _ hm)) (h.step hw hiP he)

theorem lastNN_spec (least : List Int) : ∀ n : Nat, (lastNN least n = -1 ∧ ∀ j, j < n → least.getD j 0 < 0) ∨ ∃ m : Nat, lastNN least n = m ∧ m < n ∧ 0 ≤ least.getD m 0 ∧ ∀ j, m < j → j < n → least.getD j 0 < 0
  | 0 => .inl ⟨rfl, by simp⟩
  | n + 1 => by
    unfold lastNN
    split
    · next h => exact .inr ⟨n, rfl, by omega, h, fun j h1 h2 => by omega⟩
    · next h =>
      rcases lastNN_spec least n with ⟨h1, h2⟩ | ⟨m, h1, h2, h3, h4⟩
      · refine .inl ⟨h1, fun j hj => ?_⟩
        by_cases hjn : j = n
        · subst hjn; omega
        · exact h2 j (by omega)
      · refine .inr ⟨m, h1, by omega, h3, fun j hj hj2 => ?_⟩
        by_cases hjn : j = n
        · subst hjn; omega
        · exact h4 j hj (by omega)

/-- how many can be kept at most -/
theorem mostOf_spec {l : List Order} (hv : Valid l) (s wi wo : Int) (hne : wi = wo → wi ∉ seqOf l) : (mostOf l s wi wo = -1 ∧ ∀ T, ¬ Allowed l (side l s) wi wo (seqOf l) T) ∨
    ∃ m : Nat, mostOf l s wi wo = m ∧ (∃ T, Allowed l (side l s) wi wo (seqOf l) T ∧ T.length = m) ∧ ∀ T, Allowed l (side l s) wi wo (seqOf l) T → T.length ≤ m := by
  have hw := side_pos hv s
  have h0 : DpOk l (side l s) wi wo [] [0] := by
    constructor
    · intro n hn _
      obtain rfl : n = 0 := by simpa using hn
      exact ⟨[], ⟨List.Sublist.refl _, rfl, fun h => h, by simp⟩, rfl, rfl⟩
    · rintro T ⟨t1, _, _, _⟩
      obtain rfl : T = [] := by simpa using t1
      simp [sumW]
  have h := dp_all hw (seqOf l) [] [0] (by simpa using seqOf_nodup l) hne h0
  rw [List.nil_append] at h
  unfold mostOf
  simp only
  rcases lastNN_spec (dpGo l (side l s) wi wo (seqOf l) [0]) (dpGo l (side l s) wi wo (seqOf l) [0]).length with ⟨h1, h2⟩ | ⟨m, h1, h2, h3, h4⟩
  · refine .inl ⟨h1, fun T hT => ?_⟩
    obtain ⟨a, b, _⟩ := h.le T hT
    have := h2 _ a
    omega
  · refine .inr ⟨m, h1, ?_, fun T hT => ?_⟩
    · obtain ⟨T, hT, hl, _⟩ := h.ex m h2 h3
      exact ⟨T, hT, hl⟩
    · obtain ⟨a, b, _⟩ := h.le T hT
      apply Nat.le_of_not_lt
      intro hlt
      have := h4 _ hlt a
      omega

end Go.Ev

namespace Go.Ev

def bitB (b i : Nat) : Bool := decide (b / 2 ^ i % 2 = 1)
def listed (b n : Nat) : List Int := (idx n).filter fun i => bitB b i.toNat

def bestGo (cand : Nat → Bool) (sz : Nat → Nat) : List Nat → List Nat → Nat → List Nat × Nat
  | [], out, most => (out, most)
  | b :: r, out, most =>
    if sz b < most ∨ cand b = false then bestGo cand sz r out most
    else if sz b > most then bestGo cand sz r [b] (sz b)
    else bestGo cand sz r (out ++ [b]) most
def bestOf (l : List Order) (s : Int) : List Nat × Nat := bestGo (fun b => canB l s (listed b l.length)) (fun b => (listed b l.length).length) (List.range (2 ^ l.length)) [] 0

structure BestInv (cand : Nat → Bool) (sz : Nat → Nat) (P out : List Nat) (most : Nat) : Prop where
  le : ∀ b ∈ P, cand b = true → sz b ≤ most
  at0 : most = 0 ∨ ∃ b ∈ P, cand b = true ∧ sz b = most
  mem : ∀ b, b ∈ out ↔ b ∈ P ∧ cand b = true ∧ sz b = most

theorem bestGo_spec (cand : Nat → Bool) (sz : Nat → Nat) : ∀ (r P out : List Nat) (most : Nat), BestInv cand sz P out most → BestInv cand sz (P ++ r) (bestGo cand sz r out most).1 (bestGo cand sz r out most).2
  | [], P, out, most, h => by rw [List.append_nil]; exact h
  | b :: r, P, out, most, h => by
    rw [show P ++ b :: r = (P ++ [b]) ++ r by simp, bestGo]
    split
    · next hc =>
      refine bestGo_spec cand sz r (P ++ [b]) out most ⟨fun x hx hxc => ?_, ?_, fun x => ?_⟩
      · rcases List.mem_append.1 hx with hx | hx
        · exact h.le x hx hxc
        · obtain rfl : x = b := by simpa using hx
          rcases hc with hc | hc
          · omega
          · rw [hc] at hxc; cases hxc
      · rcases h.at0 with h0 | ⟨x, hx, h1⟩
        · exact .inl h0
        · exact .inr ⟨x, List.mem_append_left _ hx, h1⟩
      · rw [h.mem x, List.mem_append]
        constructor
        · rintro ⟨h1, h2⟩; exact ⟨.inl h1, h2⟩
        · rintro ⟨h1 | h1, h2, h3⟩
          · exact ⟨h1, h2, h3⟩
          · obtain rfl : x = b := by simpa using h1
            rcases hc with hc | hc
            · omega
            · rw [hc] at h2; cases h2
    · next hc =>
      have hcb : cand b = true := by
        cases hb : cand b with
        | true => rfl
        | false => exact (hc (.inr hb)).elim
      split
      · next hg =>
        refine bestGo_spec cand sz r (P ++ [b]) [b] (sz b) ⟨fun x hx hxc => ?_, .inr ⟨b, by simp, hcb, rfl⟩, fun x => ?_⟩
        · rcases List.mem_append.1 hx with hx | hx
          · have := h.le x hx hxc; omega
          · obtain rfl : x = b := by simpa using hx
            exact Nat.le_refl _
        · constructor
          · intro hx
            obtain rfl : x = b := by simpa using hx
            exact ⟨by simp, hcb, rfl⟩
          · rintro ⟨h1, h2, h3⟩
            rcases List.mem_append.1 h1 with h1 | h1
            · have := h.le x h1 h2; omega
            · exact h1
      · next hg =>
        refine bestGo_spec cand sz r (P ++ [b]) (out ++ [b]) most ⟨fun x hx hxc => ?_, ?_, fun x => ?_⟩
        · rcases List.mem_append.1 hx with hx | hx
          · exact h.le x hx hxc
          · obtain rfl : x = b := by simpa using hx
            omega
        · rcases h.at0 with h0 | ⟨x, hx, h1⟩
          · exact .inl h0
          · exact .inr ⟨x, List.mem_append_left _ hx, h1⟩
        · rw [List.mem_append, h.mem x, List.mem_append]
          constructor
          · rintro (⟨h1, h2⟩ | h1)
            · exact ⟨.inl h1, h2⟩
            · obtain rfl : x = b := by simpa using h1
              exact ⟨.inr h1, hcb, by omega⟩
          · rintro ⟨h1 | h1, h2⟩
            · exact .inl ⟨h1, h2⟩
            · exact .inr h1

/-! ### bits of a list -/
def tb (p : Nat → Bool) : Nat → Nat
  | 0 => 0
  | n + 1 => tb p n + if p n then 2 ^ n else 0

theorem tb_lt (p : Nat → Bool) : ∀ n, tb p n < 2 ^ n
  | 0 => by simp [tb]
  | n + 1 => by
    have := tb_lt p n
    rw [tb, Nat.pow_succ]
    split <;> omega

theorem tb_bit (p : Nat → Bool) : ∀ n i, i < n → bitB (tb p n) i = p i
  | 0, i, h => by omega
  | n + 1, i, h => by
    have hlt := tb_lt p n
    unfold bitB
    rw [tb]
    by_cases hi : i = n
    · subst hi
      cases hp : p i with
      | true =>
        rw [if_pos rfl, Nat.add_div_right _ (Nat.two_pow_pos i), Nat.div_eq_of_lt hlt]
        rfl
      | false =>
        rw [if_neg (by simp), Nat.add_zero, Nat.div_eq_of_lt hlt]
        rfl
    · have hin : i < n := by omega
      have ih := tb_bit p n i hin
      unfold bitB at ih
      split
      · have e : 2 ^ n = 2 ^ i * (2 * 2 ^ (n - i - 1)) := by
          rw [← Nat.pow_succ', ← Nat.pow_add]
          congr 1
          omega
        rw [e, Nat.add_mul_div_left _ _ (Nat.two_pow_pos i), Nat.add_mul_mod_self_left]
        exact ih
      · rw [Nat.add_zero]
        exact ih

theorem listed_tb (p : Nat → Bool) (n : Nat) : listed (tb p n) n = (idx n).filter fun i => p i.toNat := by
  apply List.filter_congr
  intro i hi
  have := idx_mem.1 hi
  exact tb_bit p n i.toNat (by omega)

theorem listed_facts (b n : Nat) : (∀ x ∈ listed b n, 0 ≤ x ∧ x < n) ∧ (listed b n).Nodup := ⟨fun x hx => idx_mem.1 (List.mem_filter.1 hx).1, (idx_nodup n).filter _⟩

/-- the list of bits, by Due -/
def bySeq (l : List Order) (b : Nat) : List Int := (seqOf l).filter fun i => bitB b i.toNat
theorem bySeq_perm (l : List Order) (b : Nat) : (bySeq l b).Perm (listed b l.length) := (seqOf_perm l).filter _

theorem can_bySeq {l : List Order} (hv : Valid l) (s : Int) (b : Nat) : canB l s (listed b l.length) = feasGo l (side l s) 0 (bySeq l b) := by
  have hs : (bySeq l b).Pairwise fun a b => dueOf l a ≤ dueOf l b := (seqOf_sorted l).filter _
  rw [Bool.eq_iff_iff, canB_iff hv s (listed_facts b _).1, feasGo_iff (side_pos hv s) hs]
  exact ⟨Feas.perm (bySeq_perm l b).symm, Feas.perm (bySeq_perm l b)⟩

theorem filter_sub {T S : List Int} (h : T.Sublist S) : S.Nodup → S.filter (fun i => T.contains i) = T := by
  induction h with
  | slnil => intro _; rfl
  | cons a h ih =>
    intro hn
    rw [List.nodup_cons] at hn
    rw [List.filter_cons, if_neg (by simpa using fun h' => hn.1 (h.subset h')), ih hn.2]
  | cons_cons a h ih =>
    intro hn
    rename_i l1 l2
    rw [List.nodup_cons] at hn
    rw [List.filter_cons, if_pos (by simp)]
    congr 1
    have e : l2.filter (fun i => (a :: l1).contains i) = l2.filter fun i => l1.contains i := by
      apply List.filter_congr
      intro x hx
      have hxa : x ≠ a := fun h' => hn.1 (h' ▸ hx)
      rw [Bool.eq_iff_iff]
      simp [hxa]
    rw [e, ih hn.2]

/-- every list is one of bits -/
theorem bits_of {l : List Order} {T : List Int} (hT : T.Sublist (seqOf l)) : ∃ b, b < 2 ^ l.length ∧ bySeq l b = T ∧ ∀ o : Nat, o < l.length → (bitB b o = true ↔ (o : Int) ∈ T) := by
  refine ⟨tb (fun i => T.contains (i : Int)) l.length, tb_lt _ _, ?_, fun o ho => ?_⟩
  · have e : bySeq l (tb (fun i => T.contains (i : Int)) l.length) = (seqOf l).filter fun i => T.contains i := by
      apply List.filter_congr
      intro i hi
      have hb := seqOf_mem.1 hi
      rw [tb_bit _ _ _ (by omega)]
      obtain ⟨n, rfl⟩ := Int.eq_ofNat_of_zero_le hb.1
      rfl
    rw [e]
    exact filter_sub hT (seqOf_nodup l)
  · rw [tb_bit _ _ _ ho]
    simp

/-- what the best lists say -/
theorem best_spec {l : List Order} (hv : Valid l) (s : Int) : (mostOf l s (-1) (-1) = ((bestOf l s).2 : Int)) ∧ (bestOf l s).1 ≠ [] ∧ ∀ o : Nat, o < l.length →
    ((mostOf l s (-1) o < mostOf l s (-1) (-1)) ↔ ∀ b ∈ (bestOf l s).1, bitB b o = true) ∧ ((mostOf l s o (-1) = mostOf l s (-1) (-1)) ↔ ∃ b ∈ (bestOf l s).1, bitB b o = true) := by
  have hneg : (-1 : Int) ∉ seqOf l := fun h => by have := seqOf_mem.1 h; omega
  have inv := bestGo_spec (fun b => canB l s (listed b l.length)) (fun b => (listed b l.length).length) (List.range (2 ^ l.length)) [] [] 0 ⟨by simp, .inl rfl, by simp⟩
  rw [List.nil_append] at inv
  have hB : bestGo (fun b => canB l s (listed b l.length)) (fun b => (listed b l.length).length) (List.range (2 ^ l.length)) [] 0 = bestOf l s := rfl
  rw [hB] at inv
  generalize bestOf l s = B at *
  obtain ⟨out, most⟩ := B
  simp only at inv ⊢
  -- lists of bits and lists by Due
  have toT : ∀ b, canB l s (listed b l.length) = true → (bySeq l b).Sublist (seqOf l) ∧ feasGo l (side l s) 0 (bySeq l b) = true ∧ (bySeq l b).length = (listed b l.length).length := fun b hc => by
    rw [can_bySeq hv s b] at hc
    exact ⟨List.filter_sublist, hc, (bySeq_perm l b).length_eq⟩
  have ofT : ∀ T : List Int, T.Sublist (seqOf l) → feasGo l (side l s) 0 T = true → ∃ b, b ∈ List.range (2 ^ l.length) ∧ canB l s (listed b l.length) = true ∧ (listed b l.length).length = T.length ∧ ∀ o : Nat, o < l.length → (bitB b o = true ↔ (o : Int) ∈ T) := fun T h1 h2 => by
    obtain ⟨b, hb, e, ho⟩ := bits_of h1
    refine ⟨b, List.mem_range.2 hb, by rw [can_bySeq hv s b, e]; exact h2, ?_, ho⟩
    rw [← (bySeq_perm l b).length_eq, e]
  -- the most of all
  have hall : ∃ m : Nat, mostOf l s (-1) (-1) = m ∧ (∃ T, Allowed l (side l s) (-1) (-1) (seqOf l) T ∧ T.length = m) ∧ ∀ T, Allowed l (side l s) (-1) (-1) (seqOf l) T → T.length ≤ m := by
    rcases mostOf_spec hv s (-1) (-1) (fun _ => hneg) with ⟨_, h⟩ | h
    · exact (h [] ⟨List.nil_sublist _, rfl, fun h => (hneg h).elim, by simp⟩).elim
    · exact h
  obtain ⟨m, hm, ⟨T, ⟨t1, t2, _, _⟩, t3⟩, hmax⟩ := hall
  have allow : ∀ T : List Int, T.Sublist (seqOf l) → feasGo l (side l s) 0 T = true → Allowed l (side l s) (-1) (-1) (seqOf l) T := fun T h1 h2 => ⟨h1, h2, fun h => (hneg h).elim, fun h => hneg (h1.subset h)⟩
  have hmm : m = most := by
    obtain ⟨b, hb, hc, hl, _⟩ := ofT T t1 t2
    have h1 := inv.le b hb hc
    have h2 : most ≤ m := by
      rcases inv.at0 with h0 | ⟨b, hb, hc, hs⟩
      · omega
      · obtain ⟨u1, u2, u3⟩ := toT b hc
        have := hmax _ (allow _ u1 u2)
        omega
    omega
  subst hmm
  have hne : out ≠ [] := by
    obtain ⟨b, hb, hc, hl, _⟩ := ofT T t1 t2
    have : b ∈ out := (inv.mem b).2 ⟨hb, hc, by omega⟩
    exact List.ne_nil_of_mem this
  refine ⟨hm, hne, fun o ho => ⟨?_, ?_⟩⟩
  · rw [hm]
    constructor
    · intro hlt b hb
      obtain ⟨hb1, hb2, hb3⟩ := (inv.mem b).1 hb
      obtain ⟨u1, u2, u3⟩ := toT b hb2
      cases hbit : bitB b o with
      | true => rfl
      | false =>
        exfalso
        have hno : (o : Int) ∉ bySeq l b := fun h => by
          have := (List.mem_filter.1 h).2
          simp only [Int.toNat_natCast] at this
          rw [hbit] at this
          cases this
        rcases mostOf_spec hv s (-1) o (fun h => by omega) with ⟨_, h⟩ | ⟨m2, h1, _, h2⟩
        · exact h _ ⟨u1, u2, fun h => (hneg h).elim, hno⟩
        · have := h2 _ ⟨u1, u2, fun h => (hneg h).elim, hno⟩
          omega
    · intro hall
      rcases mostOf_spec hv s (-1) o (fun h => by omega) with ⟨h, _⟩ | ⟨m2, h1, ⟨T2, ⟨v1, v2, _, v4⟩, v5⟩, _⟩
      · omega
      · have h3 := hmax _ (allow _ v1 v2)
        by_cases he : m2 = m
        · exfalso
          obtain ⟨b, hb, hc, hl, hbit⟩ := ofT T2 v1 v2
          have hbo : b ∈ out := (inv.mem b).2 ⟨hb, hc, by omega⟩
          exact v4 ((hbit o ho).1 (hall b hbo))
        · omega
  · rw [hm]
    constructor
    · intro he
      rcases mostOf_spec hv s o (-1) (fun h => by omega) with ⟨h, _⟩ | ⟨m2, h1, ⟨T2, ⟨v1, v2, v3, _⟩, v5⟩, _⟩
      · omega
      · obtain ⟨b, hb, hc, hl, hbit⟩ := ofT T2 v1 v2
        exact ⟨b, (inv.mem b).2 ⟨hb, hc, by omega⟩, (hbit o ho).2 (v3 (seqOf_mem.2 (by omega)))⟩
    · rintro ⟨b, hb, hbit⟩
      obtain ⟨hb1, hb2, hb3⟩ := (inv.mem b).1 hb
      obtain ⟨u1, u2, u3⟩ := toT b hb2
      have hin : (o : Int) ∈ bySeq l b := List.mem_filter.2 ⟨seqOf_mem.2 (by omega), by simpa using hbit⟩
      have hal : Allowed l (side l s) o (-1) (seqOf l) (bySeq l b) := ⟨u1, u2, fun _ => hin, fun h => hneg (u1.subset h)⟩
      rcases mostOf_spec hv s o (-1) (fun h => by omega) with ⟨_, h⟩ | ⟨m2, h1, ⟨T2, ⟨v1, v2, v3, _⟩, v5⟩, h2⟩
      · exact (h _ hal).elim
      · have h3 := h2 _ hal
        have h4 := hmax _ (allow _ v1 v2)
        omega

end Go.Ev
