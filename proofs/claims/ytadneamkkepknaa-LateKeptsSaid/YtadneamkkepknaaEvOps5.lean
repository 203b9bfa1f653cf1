/- Slices: addresses of elements, parts of slices, what is appended. No condition. -/
import Derived.Test.YtadneamkkepknaaEvOps4
import Derived.Laws.Append
import Derived.Laws.AppendOwn
set_option linter.unusedSimpArgs false
set_option linter.unusedVariables false
namespace Go.Ev
open Go

variable {P : Program} {M : Mem} {L : Lay} {w : World} {h : Heap} {e : Env} {a : Act} {Q : AV × Heap → Prop}

theorem cells_of_fits {g : Option Nat} {x : AV} (hx : fits g x = true) : x.cells.length = gsize g ∧ flat g [x] = x.cells := by
  cases g with
  | none => cases x <;> first | exact ⟨rfl, rfl⟩ | (simp [fits] at hx)
  | some n =>
    cases x <;> simp [fits] at hx
    simp [AV.cells, gsize, flat, hx]

theorem flat_cons {g : Option Nat} {x : AV} {xs : List AV} (hx : fits g x = true) : flat g (x :: xs) = x.cells ++ flat g xs := by
  obtain ⟨_, h2⟩ := cells_of_fits hx
  cases g with
  | none => simp only [flat] at h2 ⊢; rw [← h2]; rfl
  | some n => simp [flat]

theorem flat_length {g : Option Nat} : ∀ {xs : List AV}, (∀ x ∈ xs, fits g x = true) → (flat g xs).length = xs.length * gsize g
  | [], _ => by cases g <;> simp [flat]
  | x :: xs, hf => by
    have hx := hf x List.mem_cons_self
    rw [flat_cons hx, List.length_append, (cells_of_fits hx).1, flat_length fun y hy => hf y (List.mem_cons_of_mem _ hy), List.length_cons, Nat.add_mul]
    omega

theorem flat_drop {g : Option Nat} : ∀ {xs : List AV} (l : Nat), (∀ x ∈ xs, fits g x = true) → flat g (xs.drop l) = (flat g xs).drop (l * gsize g)
  | [], l, _ => by cases g <;> simp [flat]
  | x :: xs, 0, _ => by simp
  | x :: xs, l + 1, hf => by
    have hx := hf x List.mem_cons_self
    have hl := (cells_of_fits hx).1
    rw [List.drop_succ_cons, flat_drop l fun y hy => hf y (List.mem_cons_of_mem _ hy), flat_cons hx, List.drop_append]
    have : (l + 1) * gsize g - x.cells.length = l * gsize g := by rw [hl, Nat.add_mul]; omega
    have h0 : x.cells.drop ((l + 1) * gsize g) = [] := List.drop_of_length_le (by rw [hl, Nat.add_mul]; omega)
    rw [this, h0]; rfl

theorem flat_get {g : Option Nat} {xs : List AV} {j : Nat} {v : AV} (hf : ∀ x ∈ xs, fits g x = true) (hj : xs[j]? = some v) (i : Nat) (hi : i < v.cells.length) :
    (flat g xs)[j * gsize g + i]? = v.cells[i]? := by
  have h1 := flat_drop j hf
  have hlt : j < xs.length := (List.getElem?_eq_some_iff.1 hj).1
  have hd : xs.drop j = v :: xs.drop (j + 1) := by
    rw [List.drop_eq_getElem_cons hlt]
    congr 1
    exact (List.getElem?_eq_some_iff.1 hj).2
  have hv := hf v (List.mem_of_getElem? hj)
  rw [hd, flat_cons hv] at h1
  rw [← List.getElem?_drop, ← h1, List.getElem?_append_left hi]

theorem flat_part {g : Option Nat} {xs : List AV} (l r : Nat) (hf : ∀ x ∈ xs, fits g x = true) (i : Nat) (c : AV) (hc : (flat g ((xs.take r).drop l))[i]? = some c) : (flat g xs)[l * gsize g + i]? = some c := by
  have hf' : ∀ x ∈ xs.take r, fits g x = true := fun x hx => hf x (List.mem_of_mem_take hx)
  rw [flat_drop l hf', List.getElem?_drop] at hc
  have hsplit : flat g xs = flat g (xs.take r) ++ flat g (xs.drop r) := by
    have : ∀ (as bs : List AV), flat g (as ++ bs) = flat g as ++ flat g bs := by
      intro as bs; cases g <;> simp [flat]
    rw [← this, List.take_append_drop]
  rw [hsplit, List.getElem?_append_left]
  · exact hc
  · exact (List.getElem?_eq_some_iff.1 hc).1

theorem boundOf_ok {v : AV} {cv : Value} {y y' : Nat} {R : Nat → Prop} {code : BoundsCode} (hv : VR M L v cv) (hy : y ≤ y') (hq : (boundOf v y).all R) :
    ∃ n, R n ∧ (Instr.sliceBound cv y' code).run P w = .ok n w ∧ n ≤ y := by
  unfold boundOf at hq
  split at hq
  · next k i =>
    split at hq
    · next hc =>
      have := hv.int_inv
      refine ⟨i.toNat, hq, ?_, by omega⟩
      subst this
      have hc' : 0 ≤ i ∧ i ≤ (y' : Int) := ⟨hc.1, by omega⟩
      simp [Instr.sliceBound, asIntOf, hc']
    · exact hq.elim
  · exact hq.elim

theorem optX_ok {x : Option Operand} {ix : Option IX} (hE : ER M L e a) (hx : optX P x = some ix) :
    (x = none ∧ ix = none) ∨ ∃ y iy, x = some y ∧ ix = some iy ∧ VR M L (iy.ev e) (a.eval y) := by
  cases x with
  | none => simp [optX] at hx; exact .inl ⟨rfl, hx.symm⟩
  | some y =>
    simp only [optX, Option.map_eq_some_iff] at hx
    obtain ⟨iy, hy, rfl⟩ := hx
    exact .inr ⟨y, iy, rfl, rfl, cX_ok hE hy⟩

theorem sliceB_ok (hE : ER M L e a) {lo hi mx : Option Operand} {il ih im : Option IX} (hlo : optX P lo = some il) (hhi : optX P hi = some ih) (hmx : optX P mx = some im)
    {len c : Nat} {ac : Option Nat} (h1 : ac.getD len ≤ c) (h2 : len ≤ ac.getD len) {R : Nat × Nat × Option Nat → Prop} (hq : (sliceB e len ac il ih im).all R) (isS : Bool) :
    ∃ l r m cm, R (l, r, m) ∧ (Instr.sliceBounds isS len c (lo.map a.eval) (hi.map a.eval) (mx.map a.eval)).run P w = .ok (l, r, cm) w ∧ l ≤ r ∧ r ≤ cm ∧ cm ≤ c ∧ r ≤ ac.getD len ∧
      ((im = none ∧ m = ac ∧ cm = c) ∨ (im.isSome = true ∧ m = some cm ∧ cm ≤ ac.getD len)) := by
  rcases optX_ok hE hmx with ⟨rfl, rfl⟩ | ⟨y3, i3, rfl, rfl, v3⟩
  · rcases optX_ok hE hhi with ⟨rfl, rfl⟩ | ⟨y2, i2, rfl, rfl, v2⟩
    · simp only [sliceB, Res.bind] at hq
      rcases optX_ok hE hlo with ⟨rfl, rfl⟩ | ⟨y1, i1, rfl, rfl, v1⟩
      · refine ⟨0, len, ac, c, hq, ?_, Nat.zero_le _, by omega, Nat.le_refl _, h2, .inl ⟨rfl, rfl, rfl⟩⟩
        simp [Instr.sliceBounds]
      · simp only at hq
        rw [Res.all_bind] at hq
        obtain ⟨l, hl, hlrun, hlle⟩ := boundOf_ok (P := P) (w := w) (code := .sliceB) v1 (Nat.le_refl len) hq
        refine ⟨l, len, ac, c, hl, ?_, hlle, by omega, Nat.le_refl _, h2, .inl ⟨rfl, rfl, rfl⟩⟩
        simp [Instr.sliceBounds, hlrun]
    · simp only [sliceB] at hq
      rw [Res.all_bind] at hq
      obtain ⟨r, hr, hrun, hrle⟩ := boundOf_ok (P := P) (w := w) (code := if isS then .sliceAcap else .sliceAlen) v2 h1 hq
      rcases optX_ok hE hlo with ⟨rfl, rfl⟩ | ⟨y1, i1, rfl, rfl, v1⟩
      · refine ⟨0, r, ac, c, hr, ?_, Nat.zero_le _, by omega, Nat.le_refl _, hrle, .inl ⟨rfl, rfl, rfl⟩⟩
        simp [Instr.sliceBounds, hrun]
      · simp only at hr
        rw [Res.all_bind] at hr
        obtain ⟨l, hl, hlrun, hlle⟩ := boundOf_ok (P := P) (w := w) (code := .sliceB) v1 (Nat.le_refl r) hr
        refine ⟨l, r, ac, c, hl, ?_, hlle, by omega, Nat.le_refl _, hrle, .inl ⟨rfl, rfl, rfl⟩⟩
        simp [Instr.sliceBounds, hrun, hlrun]
  · rcases optX_ok hE hhi with ⟨rfl, rfl⟩ | ⟨y2, i2, rfl, rfl, v2⟩
    · simp [sliceB, Res.all] at hq
    · simp only [sliceB] at hq
      rw [Res.all_bind] at hq
      obtain ⟨m, hm, hmrun, hmle⟩ := boundOf_ok (P := P) (w := w) (code := if isS then .slice3Acap else .slice3Alen) v3 h1 hq
      rw [Res.all_bind] at hm
      obtain ⟨r, hr, hrrun, hrle⟩ := boundOf_ok (P := P) (w := w) (code := .slice3B) v2 (Nat.le_refl m) hm
      rcases optX_ok hE hlo with ⟨rfl, rfl⟩ | ⟨y1, i1, rfl, rfl, v1⟩
      · refine ⟨0, r, some m, m, hr, ?_, Nat.zero_le _, hrle, by omega, by omega, .inr ⟨rfl, rfl, hmle⟩⟩
        simp [Instr.sliceBounds, hmrun, hrrun]
      · simp only at hr
        rw [Res.all_bind] at hr
        obtain ⟨l, hl, hlrun, hlle⟩ := boundOf_ok (P := P) (w := w) (code := .slice3C) v1 (Nat.le_refl r) hr
        refine ⟨l, r, some m, m, hl, ?_, hlle, hrle, by omega, by omega, .inr ⟨rfl, rfl, hmle⟩⟩
        simp [Instr.sliceBounds, hmrun, hrrun, hlrun]

section ops
variable (hr : HR P M L w h) (hE : ER M L e a) (call : Caller) (key : Nat) {o : Oper}
include hr hE

theorem ok_len {x : Operand} {t s el : TypeId} {ats : Array TypeId} {ix : IX} (ho : o.op = .call { callee := .builtin .len, args := #[x], argTypes := ats }) (ht : ats[0]? = some s) (hs : P.underlying s = some (.slice el))
    (hx : cX P t x = some ix) (hq : (evOp call key (.len ix) e h).all Q) : OpOk P M L w h a o Q := by
  have hxv := cX_ok hE hx
  simp only [evOp] at hq
  generalize ix.ev e = av at hxv hq
  generalize hcv : a.eval x = cv at hxv
  have hrun : ∀ aa n c, cv = .slice aa n c → (execOp a.eval o).run P w = .ok (.value (.int .i64 n)) w := fun aa n c hc => by
    simp [execOp, ho, resolve, invoke, builtin, hcv, hc, Builtin.len_, ht, run_underlying hs, goInt]
  split at hq
  · cases hxv with
    | empty hh => exact .pure hr (hrun _ _ _ rfl) .int hq
    | slice a1 a2 a3 a4 a5 a6 a7 => exact .pure hr (hrun _ _ _ rfl) .int hq
  · cases hxv with
    | oslice b1 b2 b3 b4 b5 b6 b7 => exact .pure hr (hrun _ _ _ rfl) .int hq
  · exact hq.elim

theorem ok_indexAddr {s el t t' : TypeId} {x y : Operand} {ix iy : IX} (ho : o.op = .indexAddr s x y) (hs : P.underlying s = some (.slice el)) (hz : 0 < P.cellsOf el)
    (hx : cX P t x = some ix) (hy : cX P t' y = some iy) (hq : (evOp call key (.indexAddr (P.cellsOf el) ix iy) e h).all Q) : OpOk P M L w h a o Q := by
  have hxv := cX_ok hE hx
  have hyv := cX_ok hE hy
  simp only [evOp] at hq
  generalize ix.ev e = av at hxv hq
  generalize iy.ev e = bv at hyv hq
  generalize hcv : a.eval x = cv at hxv
  obtain ⟨ei, hei⟩ : ∃ ei, P.info? el = some ei := by
    unfold Program.cellsOf at hz
    cases hi : P.info? el with
    | none => simp [hi] at hz
    | some i => exact ⟨i, rfl⟩
  have hces : P.cellsOf el = ei.size := cellsOf_info hei
  split at hq
  · next grp xs ex j hj =>
    obtain ⟨k, m, he, h0, hm⟩ := asNat_inv hyv hj
    split at hq
    · next hg =>
      split at hq
      · next v hv =>
        have hjl : j < xs.length := (List.getElem?_eq_some_iff.1 hv).1
        cases hxv with
        | empty hh => simp at hjl
        | @slice _ _ _ b off cap cs t0 fz f hmm hc hcp hf hvv hoo hrr =>
          have hml : m < (xs.length : Int) := by omega
          refine .pure hr (cv := .pointer (some ⟨b, (off + j * ei.size) + 0, none⟩)) ?_ ?_ hq
          · simp [execOp, ho, hcv, he, Instr.indexAt, asIntOf, run_underlying hs, h0, hml, hm, sizeOf, typeInfo, hei, add_lit]
          · have hvc := cells_of_fits (hf v (List.mem_of_getElem? hv))
            rw [← hces, ← hg]
            refine .ptr (f := fun i => f (j * gsize grp + i)) hmm (fun i c hi => ?_) (fun i c hi => ?_) (fun i c hi => ?_)
            · have := flat_get hf hv i (List.getElem?_eq_some_iff.1 hi).1
              rw [Nat.add_assoc]; exact hvv _ c (this.trans hi)
            · exact hoo _ c ((flat_get hf hv i (List.getElem?_eq_some_iff.1 hi).1).trans hi)
            · exact hrr _ c ((flat_get hf hv i (List.getElem?_eq_some_iff.1 hi).1).trans hi)
      · exact hq.elim
    · exact hq.elim
  · next k ver grp off len cap j hj =>
    obtain ⟨k', m, he, h0, hm⟩ := asNat_inv hyv hj
    split at hq
    · next hg =>
      cases hxv with
      | @oslice _ _ _ _ _ _ info c oo hl b1 b2 b3 b4 b5 b6 =>
        have hml : m < (len : Int) := by omega
        have hoo : oo = off := b3 (by omega)
        subst hoo
        refine .pure hr (cv := .pointer (some ⟨info.blk, oo + j * ei.size, none⟩)) ?_ (by rw [← hces]; exact .optr hl) hq
        simp [execOp, ho, hcv, he, Instr.indexAt, asIntOf, run_underlying hs, h0, hml, hm, sizeOf, typeInfo, hei, add_lit]
    · exact hq.elim
  · exact hq.elim

theorem ok_indexAddrA {s el t t' : TypeId} {x y : Operand} {n : Nat} {ix iy : IX} (ho : o.op = .indexAddr s x y) (hs : P.underlying s = some (.array n el)) (hz : 0 < P.cellsOf el)
    (hx : cX P t x = some ix) (hy : cX P t' y = some iy) (hq : (evOp call key (.indexAddrA n (P.cellsOf el) ix iy) e h).all Q) : OpOk P M L w h a o Q := by
  have hxv := cX_ok hE hx
  have hyv := cX_ok hE hy
  simp only [evOp] at hq
  generalize ix.ev e = av at hxv hq
  generalize iy.ev e = bv at hyv hq
  generalize hcv : a.eval x = cv at hxv
  obtain ⟨ei, hei⟩ : ∃ ei, P.info? el = some ei := by
    unfold Program.cellsOf at hz
    cases hi : P.info? el with
    | none => simp [hi] at hz
    | some i => exact ⟨i, rfl⟩
  have hces : P.cellsOf el = ei.size := cellsOf_info hei
  split at hq
  · next cells off j hj =>
    obtain ⟨k, m, he, h0, hm⟩ := asNat_inv hyv hj
    split at hq
    · next hlt =>
      cases hxv with
      | @ptr _ _ b oo cs t0 fz f hmm hv ho1 hr1 =>
        have hml : m < (n : Int) := by omega
        refine .pure hr (cv := .pointer (some ⟨b, oo + (off + j * ei.size), none⟩)) ?_ (by rw [← hces]; exact .ptr hmm hv ho1 hr1) hq
        simp [execOp, ho, hcv, he, Instr.indexAt, Instr.sureAddr, asIntOf, run_underlying hs, h0, hml, hm, sizeOf, typeInfo, hei, add_lit, Nat.add_assoc]
    · exact hq.elim
  · next k ver off j hj =>
    obtain ⟨k', m, he, h0, hm⟩ := asNat_inv hyv hj
    split at hq
    · next hlt =>
      cases hxv with
      | @optr _ _ _ info hl =>
        have hml : m < (n : Int) := by omega
        refine .pure hr (cv := .pointer (some ⟨info.blk, off + j * ei.size, none⟩)) ?_ (by rw [← hces]; exact .optr hl) hq
        simp [execOp, ho, hcv, he, Instr.indexAt, Instr.sureAddr, asIntOf, run_underlying hs, h0, hml, hm, sizeOf, typeInfo, hei, add_lit]
    · exact hq.elim
  · exact hq.elim

theorem ok_slice {s el t : TypeId} {grp : Option Nat} {x : Operand} {lo hi mx : Option Operand} {ix : IX} {il ih im : Option IX} (ho : o.op = .slice s x lo hi mx) (hs : P.underlying s = some (.slice el))
    (hg : grpOf P el = some grp) (hpos : 0 < gsize grp) (hx : cX P t x = some ix) (hlo : optX P lo = some il) (hhi : optX P hi = some ih) (hmx : optX P mx = some im)
    (hq : (evOp call key (.slice grp ix il ih im) e h).all Q) : OpOk P M L w h a o Q := by
  have hxv := cX_ok hE hx
  obtain ⟨ei, hei, hesz⟩ := info_of_grp hg
  simp only [evOp] at hq
  generalize ix.ev e = av at hxv hq
  generalize hcv : a.eval x = cv at hxv
  have hrun : ∀ aa len cap l r cm, cv = .slice aa len cap → (Instr.sliceBounds true len cap (lo.map a.eval) (hi.map a.eval) (mx.map a.eval)).run P w = .ok (l, r, cm) w →
      (execOp a.eval o).run P w = .ok (.value (.slice (if cm = l then aa else aa.map (·.add (l * gsize grp))) (r - l) (cm - l))) w := fun aa len cap l r cm hc hb => by
    simp [execOp, ho, Instr.sliceAt, run_underlying hs, Instr.slice, hcv, hc, hb, sizeOf, typeInfo, hei, hesz]
  split at hq
  · next gx xs exact =>
    split at hq
    · exact hq.elim
    · next hgx =>
      have hgx : gx = grp := by simpa using hgx
      subst hgx
      rw [Res.all_bind] at hq
      -- the flag of what comes out
      cases hxv with
      | @empty _ _ aa cap hh =>
        obtain ⟨l, r, m, cm, hR, hb, h1, h2, h3, h4, h5⟩ := sliceB_ok (P := P) (w := w) (c := cap) hE hlo hhi hmx (by simp) (by simp) hq true
        simp only [Option.getD_some, List.length_nil] at h4
        have hr0 : r = 0 := by omega
        have hl0 : l = 0 := by omega
        subst hr0 hl0
        refine .pure hr (hrun _ _ _ _ _ _ rfl hb) ?_ hR
        simp only [List.take_zero, List.drop_nil, Nat.sub_zero]
        refine .empty fun hf => ?_
        simp only [Bool.or_eq_true, Bool.and_eq_true, beq_iff_eq] at hf
        rcases hf with ⟨hf, _⟩ | ⟨hf1, hf2⟩
        · have := hh hf; omega
        · rcases h5 with ⟨h5, _⟩ | ⟨_, h5, _⟩
          · rw [h5] at hf1; simp at hf1
          · rw [h5] at hf2; simpa using hf2
      | @slice _ _ _ b off cap cs t0 fz f hmm hc hcp hf hvv hoo hrr =>
        obtain ⟨l, r, m, cm, hR, hb, h1, h2, h3, h4, h5⟩ := sliceB_ok (P := P) (w := w) (c := cap) hE hlo hhi hmx (by simpa using hcp) (by simp) hq true
        simp only [Option.getD_some] at h4
        refine .pure hr (hrun _ _ _ _ _ _ rfl hb) ?_ hR
        have hlen : ((xs.take r).drop l).length = r - l := by simp; omega
        have hflag : (((exact && (r == xs.length)) || (im.isSome && (m == some r))) = true) → cm - l = r - l := fun hfl => by
          simp only [Bool.or_eq_true, Bool.and_eq_true, beq_iff_eq] at hfl
          rcases hfl with ⟨hf1, hf2⟩ | ⟨hf1, hf2⟩
          · have := hc hf1
            rcases h5 with ⟨_, _, h5⟩ | ⟨_, _, h5⟩
            · omega
            · simp only [Option.getD_some] at h5; omega
          · rcases h5 with ⟨h5, _⟩ | ⟨_, h5, _⟩
            · rw [h5] at hf1; simp at hf1
            · rw [h5] at hf2; simp at hf2; omega
        by_cases hcl : cm = l
        · have hrl : r - l = 0 := by omega
          rw [hrl] at hlen ⊢
          rw [List.eq_nil_of_length_eq_zero hlen]
          exact .empty fun _ => by omega
        · rw [if_neg hcl]
          simp only [Option.map_some, add_lit]
          rw [← hlen]
          refine .slice (f := fun i => f (l * gsize gx + i)) hmm (fun hfl => by rw [hlen]; exact hflag hfl) (by omega) (fun y hy => hf y (List.mem_of_mem_take (List.mem_of_mem_drop hy))) (fun i c hi => ?_) (fun i c hi => ?_) (fun i c hi => ?_)
          · rw [Nat.add_assoc]; exact hvv _ c (flat_part l r hf i c hi)
          · exact hoo _ c (flat_part l r hf i c hi)
          · exact hrr _ c (flat_part l r hf i c hi)
  · next k ver gx off len cap =>
    split at hq
    · exact hq.elim
    · next hgx =>
      have hgx : gx = grp := by simpa using hgx
      subst hgx
      rw [Res.all_bind] at hq
      cases hxv with
      | @oslice _ _ _ _ _ _ info c oo hl b1 b2 b3 b4 b5 b6 =>
        have hge : cap.getD len ≤ c := by
          cases cap with
          | none => exact b6
          | some c' => have := (b4 c' rfl).1; simp; omega
        have hlg : len ≤ cap.getD len := by
          cases cap with
          | none => exact Nat.le_refl _
          | some c' => have := (b4 c' rfl).1; simp; omega
        obtain ⟨l, r, m, cm, hR, hb, h1, h2, h3, h4, h5⟩ := sliceB_ok (P := P) (w := w) (c := c) hE hlo hhi hmx hge hlg hq true
        refine .pure hr (hrun _ _ _ _ _ _ rfl hb) ?_ hR
        have hn : ∀ q, q ≤ cap.getD len → off + q * gsize gx ≤ info.n := fun q hqq => by
          have hmul : q * gsize gx ≤ cap.getD len * gsize gx := Nat.mul_le_mul_right _ hqq
          cases cap with
          | none => simp only [Option.getD_none] at hmul; omega
          | some c' => have := (b4 c' rfl).2; simp only [Option.getD_some] at hmul; omega
        have e1 : l * gsize gx + (r - l) * gsize gx = r * gsize gx := by rw [← Nat.add_mul]; congr 1; omega
        have e2 : l * gsize gx + (cm - l) * gsize gx = cm * gsize gx := by rw [← Nat.add_mul]; congr 1; omega
        have e3 : cm * gsize gx ≤ c * gsize gx := Nat.mul_le_mul_right _ h3
        have hobj : (if cm = l then some (⟨info.blk, oo, none⟩ : Addr) else (some (⟨info.blk, oo, none⟩ : Addr)).map (·.add (l * gsize gx))) = some ⟨info.blk, if cm = l then oo else oo + l * gsize gx, none⟩ := by
          split
          · rfl
          · simp [add_lit]
        rw [hobj]
        show VR M L (.oslice k ver gx (off + l * gsize gx) (r - l) (m.map (· - l))) _
        refine .oslice hl ?_ ?_ ?_ ?_ ?_ ?_
        · have := hn r h4; omega
        · omega
        · intro hne
          rw [if_neg (by omega), b3 (by omega)]
        · intro c' hc'
          rcases h5 with ⟨_, hm, hcm⟩ | ⟨_, hm, hcm⟩
          · subst hm
            simp only [Option.map_eq_some_iff] at hc'
            obtain ⟨c2, hc2, rfl⟩ := hc'
            have := b4 c2 hc2
            refine ⟨by omega, ?_⟩
            have e4 : l * gsize gx + (c2 - l) * gsize gx = c2 * gsize gx := by rw [← Nat.add_mul]; congr 1; omega
            omega
          · subst hm
            simp only [Option.map_some, Option.some.injEq] at hc'
            subst hc'
            refine ⟨rfl, ?_⟩
            have := hn cm hcm
            omega
        · intro hmn
          rcases h5 with ⟨_, hm, hcm⟩ | ⟨_, hm, hcm⟩
          · subst hm
            simp only [Option.map_eq_none_iff] at hmn
            have := b5 hmn
            subst hcm
            omega
          · subst hm; simp at hmn
        · omega
  · exact hq.elim

end ops
end Go.Ev
