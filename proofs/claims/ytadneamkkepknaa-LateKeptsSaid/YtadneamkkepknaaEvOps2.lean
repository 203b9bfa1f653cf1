/- Operations on memory: loads, stores, new rows. No condition. -/
import Derived.Test.YtadneamkkepknaaEvOps1
set_option linter.unusedSimpArgs false
set_option linter.unusedVariables false
namespace Go.Ev
open Go

variable {P : Program} {M : Mem} {L : Lay} {w : World} {h : Heap} {e : Env} {a : Act} {Q : AV × Heap → Prop}

def Lay.upd (L : Lay) (k u : Nat) (i : Info) : Lay := fun k' u' => if k' = k ∧ u' = u then some i else L k' u'

theorem Lay.upd_self (L : Lay) (k u : Nat) (i : Info) : L.upd k u i k u = some i := by simp [Lay.upd]

theorem HR.mem_lt (hr : HR P M L w h) {b : Nat} {o : Obj} (hb : M b = some o) : b < w.heap.size := (Array.getElem?_eq_some_iff.1 (hr.mem b o hb)).1

theorem HR.put (hr : HR P M L w h) (k u : Nat) (info : Info) (o : AObj) (w' : World) (ho : o ≠ .none) (hou : o.ver = u)
    (hL : L k u = none ∨ L k u = some info) (hver : getH h k ≠ .none → (getH h k).ver ≤ u) (hb : M info.blk = none)
    (hblk : info.blk = w.heap.size ∨ ∃ i0, getH h k ≠ .none ∧ L k (getH h k).ver = some i0 ∧ i0.blk = info.blk)
    (hsz : w.heap.size ≤ w'.heap.size) (hw : ∀ b, b < w.heap.size → b ≠ info.blk → w'.heap[b]? = w.heap[b]?)
    (hor : ORel P M (L.upd k u info) w' info o) (hso : SameOut w w' := by exact ⟨rfl, rfl, rfl⟩) : HR P M (L.upd k u info) w' (setH h k o) ∧ Fr w h L M w' (setH h k o) (L.upd k u info) M := by
  have hle : Lay.le L (L.upd k u info) := fun k' v' i' hi => by
    unfold Lay.upd
    split
    · next hc => obtain ⟨rfl, rfl⟩ := hc; rcases hL with hL | hL <;> rw [hL] at hi
                 · cases hi
                 · exact hi
    · exact hi
  have hother : ∀ k' i', k' ≠ k → getH h k' ≠ .none → L k' (getH h k').ver = some i' → i'.blk ≠ info.blk := fun k' i' hk hn hi hbe => by
    obtain ⟨i2, h1, _, h3⟩ := hr.cur k' hn
    rw [hi] at h1; cases h1
    rcases hblk with hblk | ⟨i0, h0n, h0, h0b⟩
    · have := h3.blk_lt hn; omega
    · exact hk (hr.inj k' k i' i0 hn h0n hi h0 (hbe.trans h0b.symm))
  refine ⟨⟨?_, ?_, ?_, ?_⟩, ⟨hsz, ?_, ?_, fun _ _ h => h, fun _ _ h => .inl h, hle, hso⟩⟩
  · intro b o' hb'
    rw [hw b (hr.mem_lt hb') (fun he => by rw [he, hb] at hb'; cases hb')]
    exact hr.mem b o' hb'
  · intro k' hn
    by_cases hk : k' = k
    · subst hk
      rw [getH_setH_self]
      exact ⟨info, by rw [hou, Lay.upd_self], hb, hor⟩
    · rw [getH_setH_ne _ _ _ _ (fun he => hk he.symm)] at hn ⊢
      obtain ⟨i', h1, h2, h3⟩ := hr.cur k' hn
      exact ⟨i', hle _ _ _ h1, h2, h3.mono (fun _ _ h => h) hle (hw _ (h3.blk_lt hn) (hother k' i' hk hn h1))⟩
  · intro k' v' i' hi
    by_cases hk : k' = k
    · subst hk
      rw [getH_setH_self]
      refine ⟨ho, ?_⟩
      rw [hou]
      by_cases hv : v' = u
      · omega
      · simp only [Lay.upd, hv, and_false, if_false] at hi
        obtain ⟨h1, h2⟩ := hr.ver k' v' i' hi
        have := hver h1
        omega
    · rw [getH_setH_ne _ _ _ _ (fun he => hk he.symm)]
      simp only [Lay.upd, hk, false_and, if_false] at hi
      exact hr.ver k' v' i' hi
  · intro k1 k2 i1 i2 n1 n2 l1 l2 hbe
    by_cases h1 : k1 = k
    · by_cases h2 : k2 = k
      · omega
      · subst h1
        rw [getH_setH_self, hou, Lay.upd_self] at l1
        cases l1
        rw [getH_setH_ne _ _ _ _ (fun he => h2 he.symm)] at n2 l2
        simp only [Lay.upd, h2, false_and, if_false] at l2
        exact (hother k2 i2 h2 n2 l2 hbe.symm).elim
    · by_cases h2 : k2 = k
      · subst h2
        rw [getH_setH_self, hou, Lay.upd_self] at l2
        cases l2
        rw [getH_setH_ne _ _ _ _ (fun he => h1 he.symm)] at n1 l1
        simp only [Lay.upd, h1, false_and, if_false] at l1
        exact (hother k1 i1 h1 n1 l1 hbe).elim
      · rw [getH_setH_ne _ _ _ _ (fun he => h1 he.symm)] at n1 l1
        rw [getH_setH_ne _ _ _ _ (fun he => h2 he.symm)] at n2 l2
        simp only [Lay.upd, h1, false_and, if_false] at l1
        simp only [Lay.upd, h2, false_and, if_false] at l2
        exact hr.inj k1 k2 i1 i2 n1 n2 l1 l2 hbe
  · intro b hb1 hn
    refine hw b hb1 fun he => ?_
    rcases hblk with hblk | ⟨i0, h0n, h0, h0b⟩
    · omega
    · exact hn ⟨k, i0, h0n, h0, by omega⟩
  · rintro b ⟨k', i', hn, hl, rfl⟩
    by_cases hk : k' = k
    · subst hk
      rw [getH_setH_self, hou, Lay.upd_self] at hl
      cases hl
      rcases hblk with hblk | ⟨i0, h0n, h0, h0b⟩
      · exact .inr (by omega)
      · exact .inl ⟨k', i0, h0n, h0, h0b⟩
    · rw [getH_setH_ne _ _ _ _ (fun he => hk he.symm)] at hn hl
      simp only [Lay.upd, hk, false_and, if_false] at hl
      exact .inl ⟨k', i', hn, hl, rfl⟩

/-- what the version of a new object is -/
theorem HR.next_none (hr : HR P M L w h) (k : Nat) : L k (getH h k).next = none := by
  cases hl : L k (getH h k).next with
  | none => rfl
  | some i =>
    obtain ⟨h1, h2⟩ := hr.ver _ _ _ hl
    revert h1 h2
    cases getH h k <;> simp [AObj.next, AObj.ver] <;> omega

theorem HR.next_le (k : Nat) : getH h k ≠ .none → (getH h k).ver ≤ (getH h k).next := by
  cases getH h k <;> simp [AObj.next, AObj.ver]

theorem HR.fresh (hr : HR P M L w h) : M w.heap.size = none := by
  cases hm : M w.heap.size with
  | none => rfl
  | some o => have := hr.mem_lt hm; omega

/-- a new row under a key -/
theorem HR.new_row (hr : HR P M L w h) (k : Nat) (cs : List AV) (c : Array Value) (t : TypeId) (w' : World) (he : w'.heap = w.heap.push (.cells c t)) (hn : cs.length ≤ c.size) (hrow : Row M L cs c) (hso : SameOut w w' := by exact ⟨rfl, rfl, rfl⟩) :
    HR P M (L.upd k (getH h k).next ⟨w.heap.size, cs.length, c.size⟩) w' (setH h k (.cells (getH h k).next cs)) ∧
      Fr w h L M w' (setH h k (.cells (getH h k).next cs)) (L.upd k (getH h k).next ⟨w.heap.size, cs.length, c.size⟩) M := by
  have hle : Lay.le L (L.upd k (getH h k).next ⟨w.heap.size, cs.length, c.size⟩) := fun k' v' i' hi => by
    unfold Lay.upd
    split
    · next hc => obtain ⟨rfl, rfl⟩ := hc; rw [hr.next_none] at hi; cases hi
    · exact hi
  refine hr.put k _ _ _ w' (by simp) rfl (.inl (hr.next_none k)) (HR.next_le k) hr.fresh (.inl rfl) (by rw [he, Array.size_push]; omega) ?_ ?_ hso
  · intro b hb _
    rw [he, Array.getElem?_push, if_neg (by omega)]
  · refine ⟨c, t, by simp [he], rfl, rfl, hn, fun i x hx => ?_⟩
    obtain ⟨v, h1, h2, h3⟩ := hrow i x hx
    exact ⟨v, h1, h2, h3.mono (fun _ _ h => h) hle⟩

/-! ### reading cells -/

theorem grpOf_none {t : TypeId} (hg : grpOf P t = some none) : ∃ d i, P.underlying t = some d ∧ (∀ fs, d ≠ .struct fs) ∧ (∀ n e, d ≠ .array n e) ∧ P.info? t = some i ∧ i.size = 1 := by
  unfold grpOf at hg
  split at hg
  · split at hg <;> (try split at hg) <;> simp at hg
  · split at hg <;> (try split at hg) <;> simp at hg
  · next d h1 h2 hd =>
    split at hg
    · next i hi =>
      split at hg
      · next hs => exact ⟨d, i, hd, fun fs he => h1 fs he, fun n e he => h2 n e he, hi, hs⟩
      · cases hg
    · cases hg
  · cases hg

theorem grpOf_some {t : TypeId} {n : Nat} (hg : grpOf P t = some (some n)) : ∃ d i, P.underlying t = some d ∧ ((∃ fs, d = .struct fs) ∨ (∃ n e, d = .array n e)) ∧ P.info? t = some i ∧ i.size = n ∧ 0 < n := by
  unfold grpOf at hg
  split at hg
  · next fs hd =>
    split at hg
    · next i hi =>
      split at hg
      · next hs => cases hg; exact ⟨_, i, hd, .inl ⟨fs, rfl⟩, hi, rfl, hs⟩
      · cases hg
    · cases hg
  · next m e' hd =>
    split at hg
    · next i hi =>
      split at hg
      · next hs => cases hg; exact ⟨_, i, hd, .inr ⟨m, e', rfl⟩, hi, rfl, hs⟩
      · cases hg
    · cases hg
  · split at hg
    · split at hg <;> simp at hg
    · cases hg
  · cases hg

theorem add_lit (b o n : Nat) : (⟨b, o, none⟩ : Addr).add n = ⟨b, o + n, none⟩ := by
  unfold Addr.add; split <;> simp_all

theorem run_isAgg_false {t : TypeId} {d : TypeDesc} (hu : P.underlying t = some d) (h1 : ∀ fs, d ≠ .struct fs) (h2 : ∀ n e, d ≠ .array n e) (w : World) : (isAgg t).run P w = .ok false w := by
  simp only [isAgg, Sem.run_bind, run_underlying hu, Result.andThen_ok]
  cases d <;> first | rfl | exact (h1 _ rfl).elim | exact (h2 _ _ rfl).elim

theorem run_isAgg_true {t : TypeId} {d : TypeDesc} (hu : P.underlying t = some d) (h1 : (∃ fs, d = .struct fs) ∨ (∃ n e, d = .array n e)) (w : World) : (isAgg t).run P w = .ok true w := by
  simp only [isAgg, Sem.run_bind, run_underlying hu, Result.andThen_ok]
  rcases h1 with ⟨fs, rfl⟩ | ⟨n, e, rfl⟩ <;> rfl

/-- a variable read out of cells that are known -/
theorem rd_load {grp : Option Nat} {t : TypeId} {cells : List AV} {off b o : Nat} {f : Nat → Value} {R : AV → Prop} (hg : grpOf P t = some grp)
    (hc : ∀ (i : Nat) (c : AV), cells[i]? = some c → w.cell? ⟨b, o + i, none⟩ = some (f i) ∧ VR M L c (f i)) (hq : (rd grp cells off).all R) :
    ∃ v cv, (loadVar t ⟨b, o + off, none⟩).run P w = .ok cv w ∧ VR M L v cv ∧ R v := by
  cases grp with
  | none =>
    obtain ⟨d, i, hu, h1, h2, hi, hs⟩ := grpOf_none hg
    obtain ⟨v, hv, hq⟩ := Res.all_ofOpt hq
    obtain ⟨hcell, hvr⟩ := hc off v hv
    refine ⟨v, f off, ?_, hvr, hq⟩
    simp [loadVar, run_isAgg_false hu h1 h2, hcell]
  | some n =>
    obtain ⟨d, i, hu, h1, hi, hs, hn⟩ := grpOf_some hg
    simp only [rd] at hq
    split at hq
    · next hle =>
      have hl := run_loadCells (P := P) (w := w) ⟨b, o + off, none⟩ n (fun j => f (off + j)) (fun j hj => by
        obtain ⟨c, hc'⟩ : ∃ c, cells[off + j]? = some c := ⟨cells[off + j]'(by omega), List.getElem?_eq_getElem _⟩
        have := (hc (off + j) c hc').1
        rw [add_lit, Nat.add_assoc]; exact this)
      refine ⟨_, .agg ((List.range n).map fun j => f (off + j)).toArray, ?_, ?_, hq⟩
      · simp [loadVar, run_isAgg_true hu h1, sizeOf, typeInfo, hi, hs, hl]
      · refine .agg (by simp; omega) fun j c v hj hv => ?_
        simp only [List.getElem?_take, List.getElem?_drop] at hj
        split at hj
        · next hjn =>
          simp [hjn] at hv
          subst hv
          exact (hc (off + j) c hj).2
        · cases hj
    · exact hq.elim

/-- what is known of a pointer's cells -/
theorem ptr_cells (hr : HR P M L w h) {cells : List AV} {off : Nat} {cv : Value} (hv : VR M L (.ptr cells off) cv) :
    ∃ (b o : Nat) (f : Nat → Value), cv = .pointer (some ⟨b, o + off, none⟩) ∧ ∀ (i : Nat) (c : AV), cells[i]? = some c → w.cell? ⟨b, o + i, none⟩ = some (f i) ∧ VR M L c (f i) := by
  cases hv with
  | @ptr _ _ b o cs t fz f hm hvc ho hrr =>
    exact ⟨b, o, f, rfl, fun i c hi => ⟨by simp [World.cell?, hr.mem _ _ hm, hvc i c hi], (hrr i c hi).toVR⟩⟩

theorem own_cells (hr : HR P M L w h) {k ver : Nat} {cs : List AV} {info : Info} (ho : getH h k = .cells ver cs) (hl : L k ver = some info) :
    M info.blk = none ∧ ∃ c t, w.heap[info.blk]? = some (.cells c t (0, 0)) ∧ cs.length = info.n ∧ c.size = info.size ∧ info.n ≤ info.size ∧ Row M L cs c := by
  obtain ⟨i', h1, h2, h3⟩ := hr.cur k (by rw [ho]; simp)
  rw [ho] at h1 h3
  simp only [AObj.ver] at h1
  rw [hl] at h1; cases h1
  exact ⟨h2, h3⟩

theorem row_fun {cs : List AV} {c : Array Value} (hrow : Row M L cs c) : ∀ (i : Nat) (x : AV), cs[i]? = some x → c[i]? = some (c.getD i undef) ∧ (c.getD i undef).oneCell' = true ∧ VR M L x (c.getD i undef) := by
  intro i x hx
  obtain ⟨v, h1, h2, h3⟩ := hrow i x hx
  have : c.getD i undef = v := by simp [Array.getD_eq_getD_getElem?, h1]
  rw [this]; exact ⟨h1, h2, h3⟩

section ops
variable (hr : HR P M L w h) (hE : ER M L e a) (call : Caller) (key : Nat) {o : Oper}
include hr hE

theorem ok_load {grp : Option Nat} {t t' : TypeId} {x : Operand} {ix : IX} (ho : o.op = .load t x) (hg : grpOf P t = some grp) (hx : cX P t' x = some ix)
    (hq : (evOp call key (.load grp ix) e h).all Q) : OpOk P M L w h a o Q := by
  have hxv := cX_ok hE hx
  simp only [evOp] at hq
  generalize ix.ev e = av at hxv hq
  split at hq
  · next cells off =>
    rw [Res.all_bind] at hq
    obtain ⟨b, oo, f, hcv, hc⟩ := ptr_cells hr hxv
    obtain ⟨v, cv, h1, h2, h3⟩ := rd_load (R := fun v => Q (v, h)) hg hc hq
    exact .pure hr (by simp [execOp, ho, Instr.loadAt, Instr.sureAddr, hcv, h1]) h2 h3
  · next k ver off =>
    split at hq
    · next v cs hob =>
      split at hq
      · next hv =>
        subst hv
        rw [Res.all_bind] at hq
        generalize hcv : a.eval x = cv at hxv
        cases hxv with
        | @optr _ _ _ info hl =>
          obtain ⟨hmb, c, t, hb, hn, hsz, hle, hrow⟩ := own_cells hr hob hl
          have hf := row_fun hrow
          obtain ⟨v', cv, h1, h2, h3⟩ := rd_load (P := P) (w := w) (b := info.blk) (o := 0) (f := fun i => c.getD i undef) (R := fun v => Q (v, h)) hg
            (fun i x hx => by
              obtain ⟨g1, g2, g3⟩ := hf i x hx
              exact ⟨by simp only [World.cell?, hb, Nat.zero_add]; exact g1, g3⟩) hq
          rw [Nat.zero_add] at h1
          exact .pure hr (by simp [execOp, ho, Instr.loadAt, Instr.sureAddr, hcv, h1]) h2 h3
      · exact hq.elim
    · exact hq.elim
  · exact hq.elim

theorem ok_fieldAddr {s t : TypeId} {x : Operand} {n : Nat} {fs : Array Field} {fd : Field} {ix : IX} (ho : o.op = .fieldAddr s x n) (hs : P.underlying s = some (.struct fs)) (hf : fs[n]? = some fd)
    (hz : 0 < P.cellsOf fd.type) (hx : cX P t x = some ix) (hq : (evOp call key (.fieldAddr fd.offset ix) e h).all Q) : OpOk P M L w h a o Q := by
  have hxv := cX_ok hE hx
  simp only [evOp] at hq
  generalize ix.ev e = av at hxv hq
  generalize hcv : a.eval x = cv at hxv
  have hsz : ∃ i, P.info? fd.type = some i ∧ i.size ≠ 0 := by
    unfold Program.cellsOf at hz
    cases hi : P.info? fd.type with
    | none => simp [hi] at hz
    | some i => exact ⟨i, rfl, by simp [hi] at hz; omega⟩
  obtain ⟨i, hi, hi0⟩ := hsz
  split at hq
  · cases hxv with
    | @ptr _ _ b oo cs t fz f hm hv ho1 hr1 =>
      refine .pure hr (cv := .pointer (some ⟨b, oo + (_ + fd.offset), none⟩)) ?_ (.ptr hm hv ho1 hr1) hq
      simp [execOp, ho, hcv, Instr.fieldAt, Instr.sureAddr, run_underlying hs, hf, fieldPlace, sizeOf, typeInfo, hi, hi0, add_lit, Nat.add_assoc]
  · cases hxv with
    | optr hl =>
      refine .pure hr (cv := .pointer (some ⟨_, _ + fd.offset, none⟩)) ?_ (.optr hl) hq
      simp [execOp, ho, hcv, Instr.fieldAt, Instr.sureAddr, run_underlying hs, hf, fieldPlace, sizeOf, typeInfo, hi, hi0, add_lit]
  · exact hq.elim

end ops
end Go.Ev
