/- Slices of arrays, copy and clear. No condition. -/
import Derived.Test.YtadneamkkepknaaEvOps8
set_option linter.unusedSimpArgs false
set_option linter.unusedVariables false
namespace Go.Ev
open Go

variable {P : Program} {M : Mem} {L : Lay} {w : World} {h : Heap} {e : Env} {a : Act} {Q : AV × Heap → Prop}

theorem grouped_zero (g : Option Nat) : grouped g 0 ([] : List AV) = [] := by cases g <;> rfl

theorem RowL.take {new : List AV} {vs : List Value} (hl : RowL M L new vs) (n : Nat) : RowL M L (new.take n) (vs.take n) := by
  refine ⟨by simp [hl.1], fun i x v hx hv => ?_⟩
  rw [List.getElem?_take] at hx hv
  split at hx
  · next hi => rw [if_pos hi] at hv; exact hl.2 i x v hx hv
  · cases hx

section ops
variable (hr : HR P M L w h) (hE : ER M L e a) (call : Caller) (key : Nat) {o : Oper}
include hr hE

theorem ok_sliceA {s el t : TypeId} {n : Nat} {grp : Option Nat} {x : Operand} {lo hi mx : Option Operand} {ix : IX} {il ih im : Option IX} (ho : o.op = .slice s x lo hi mx) (hs : P.underlying s = some (.array n el))
    (hg : grpOf P el = some grp) (hpos : 0 < gsize grp) (hx : cX P t x = some ix) (hlo : optX P lo = some il) (hhi : optX P hi = some ih) (hmx : optX P mx = some im)
    (hq : (evOp call key (.sliceA grp n ix il ih im) e h).all Q) : OpOk P M L w h a o Q := by
  have hxv := cX_ok hE hx
  obtain ⟨ei, hei, hesz⟩ := info_of_grp hg
  simp only [evOp] at hq
  generalize ix.ev e = av at hxv hq
  generalize hcv : a.eval x = cv at hxv
  have hrun : ∀ aa l r cm, cv = .pointer (some aa) → (Instr.sliceBounds false n n (lo.map a.eval) (hi.map a.eval) (mx.map a.eval)).run P w = .ok (l, r, cm) w →
      (execOp a.eval o).run P w = .ok (.value (.slice (some (if cm = l then aa else aa.add (l * gsize grp))) (r - l) (cm - l))) w := fun aa l r cm hc hb => by
    simp [execOp, ho, Instr.sliceAt, Instr.sureAddr, run_underlying hs, hcv, hc, hb, sizeOf, typeInfo, hei, hesz]
  split at hq
  · next k ver off =>
    split at hq
    · next v cs hob =>
      split at hq
      · next hcond =>
        obtain ⟨hv, hle⟩ := hcond
        subst hv
        rw [Res.all_bind] at hq
        cases hxv with
        | @optr _ _ _ info hl =>
          obtain ⟨hmb, c0, t0, hb0, hn0, hs0, hle0, hrow⟩ := own_cells hr hob hl
          obtain ⟨l, r, m, cm, hR, hb, h1, h2, h3, h4, h5⟩ := sliceB_ok (P := P) (w := w) (c := n) hE hlo hhi hmx (by simp) (by simp) hq false
          refine .pure hr (hrun _ _ _ _ rfl hb) ?_ hR
          have hcm : m = some cm := by
            rcases h5 with ⟨_, h5, h6⟩ | ⟨_, h5, _⟩
            · rw [h5, h6]
            · exact h5
          subst hcm
          have e1 : l * gsize grp + (r - l) * gsize grp = r * gsize grp := by rw [← Nat.add_mul]; congr 1; omega
          have e2 : l * gsize grp + (cm - l) * gsize grp = cm * gsize grp := by rw [← Nat.add_mul]; congr 1; omega
          have e3 : cm * gsize grp ≤ n * gsize grp := Nat.mul_le_mul_right _ h3
          have e4 : r * gsize grp ≤ cm * gsize grp := Nat.mul_le_mul_right _ h2
          have hobj : (if cm = l then (⟨info.blk, off, none⟩ : Addr) else (⟨info.blk, off, none⟩ : Addr).add (l * gsize grp)) = ⟨info.blk, if cm = l then off else off + l * gsize grp, none⟩ := by
            split
            · rfl
            · simp [add_lit]
          rw [hobj]
          show VR M L (.oslice k v grp (off + l * gsize grp) (r - l) (some (cm - l))) _
          refine .oslice hl (by omega) (by omega) (fun hne => by rw [if_neg (by omega)]) (fun c' hc => ?_) (fun hc => by cases hc) (by omega)
          cases hc
          exact ⟨rfl, by omega⟩
      · exact hq.elim
    · exact hq.elim
  · next cells off =>
    split at hq
    · next hle =>
      rw [Res.all_bind] at hq
      cases hxv with
      | @ptr _ _ b oo cs t0 fz f hmm hv ho1 hr1 =>
        obtain ⟨l, r, m, cm, hR, hb, h1, h2, h3, h4, h5⟩ := sliceB_ok (P := P) (w := w) (c := n) hE hlo hhi hmx (by simp) (by simp) hq false
        refine .pure hr (hrun _ _ _ _ rfl hb) ?_ hR
        have e1 : l * gsize grp + (r - l) * gsize grp = r * gsize grp := by rw [← Nat.add_mul]; congr 1; omega
        have e3 : cm * gsize grp ≤ n * gsize grp := Nat.mul_le_mul_right _ h3
        have e4 : r * gsize grp ≤ cm * gsize grp := Nat.mul_le_mul_right _ h2
        show VR M L (.slice grp (grouped grp (r - l) ((cells.drop (off + l * gsize grp)).take ((r - l) * gsize grp))) false) _
        by_cases hcl : cm = l
        · have hrl : r - l = 0 := by omega
          rw [hrl]
          simp only [Nat.zero_mul, List.take_zero, grouped_zero]
          exact .empty fun h => by cases h
        · rw [if_neg hcl, add_lit]
          refine FR.toVR ?_
          refine slice_of_row hmm (fun h => by cases h) (by omega) (by simp; omega) fun i x hx => ?_
          simp only [List.getElem?_take, List.getElem?_drop] at hx
          split at hx
          · refine ⟨_, ?_, ho1 _ x hx, hr1 _ x hx⟩
            have := hv _ x hx
            rw [← this]; congr 1; omega
          · cases hx
    · exact hq.elim
  · exact hq.elim

theorem ok_copy {ty el t1 t2 : TypeId} {ats : Array TypeId} {x y : Operand} {ix iy : IX} {g : Option Nat} (ho : o.op = .call { callee := .builtin .copy, args := #[x, y], argTypes := ats }) (hat : ats[0]? = some ty)
    (hu : P.underlying ty = some (.slice el)) (hg : grpOf P el = some g) (hpos : 0 < gsize g) (hx : cX P t1 x = some ix) (hy : cX P t2 y = some iy)
    (hq : (evOp call key (.copy g ix iy) e h).all Q) : OpOk P M L w h a o Q := by
  have hxv := cX_ok hE hx
  have hyv := cX_ok hE hy
  obtain ⟨ei, hei, hesz⟩ := info_of_grp hg
  have hexec : (execOp a.eval o).run P w = ((Builtin.copy_ ats o.type #[a.eval x, a.eval y]).run P w).andThen fun v w' => .ok (.value v) w' := by
    simp [execOp, ho, resolve, invoke, builtin]
  simp only [evOp] at hq
  generalize ix.ev e = av at hxv hq
  generalize iy.ev e = bv at hyv hq
  split at hq
  · next k ver grp off len cap gy m new hcs =>
    split at hq
    · next v cs hob =>
      split at hq
      · next hcond =>
        obtain ⟨hgy, hgrp, hver, hle⟩ := hcond
        subst hgy hgrp hver
        obtain ⟨yb, yc, news, hcy, hnrow, hnl, hnc⟩ := source_ok hr hyv hcs
        rw [hcy] at hexec
        generalize hcx : a.eval x = cx at hxv hexec
        cases hxv with
        | @oslice _ _ _ _ _ _ info c oo hl b1 b2 b3 b4 b5 b6 =>
          split at hq
          · next hmin =>
            refine .pure hr (cv := .int .i64 0) ?_ .int hq
            rw [hexec]
            have hfc : (Builtin.firstCells (gsize grp) 0 (.slice yb m yc)).run P w = .ok #[] w := by
              cases yb <;> simp [Builtin.firstCells, loadCells, loadCellsFrom]
            simp [Builtin.copy_, hat, run_underlying hu, Builtin.lenOf, hmin, sizeOf, typeInfo, hei, hesz, hfc, storeCells, goInt]
          · next hmin =>
            have hm0 : m ≠ 0 := by intro h0; subst h0; simp at hmin
            have hl0 : len ≠ 0 := by intro h0; subst h0; simp at hmin
            obtain ⟨ad, rfl, hcells⟩ := hnc hm0
            have hoo : oo = off := b3 (by omega)
            subst hoo
            obtain ⟨hmb, c0, t0, hb0, hn0, hs0, hle0, hrow⟩ := own_cells hr hob hl
            have hmm : Nat.min m len ≤ m := Nat.min_le_left _ _
            have hml : Nat.min m len ≤ len := Nat.min_le_right _ _
            have hmul : Nat.min m len * gsize grp ≤ m * gsize grp := Nat.mul_le_mul_right _ hmm
            have hmul2 : Nat.min m len * gsize grp ≤ len * gsize grp := Nat.mul_le_mul_right _ hml
            have htl : (news.take (Nat.min m len * gsize grp)).length = Nat.min m len * gsize grp := by rw [List.length_take, hnl]; omega
            have hfc := run_loadCells_list (P := P) w ad (news.take (Nat.min m len * gsize grp)) (fun j v hv => by
              rw [List.getElem?_take] at hv
              split at hv
              · exact hcells j v hv
              · cases hv)
            rw [htl] at hfc
            have htrow := hnrow.take (Nat.min m len * gsize grp)
            obtain ⟨c1, t1, e1, e2, g1, g2⟩ := hr.write oo hob hl htrow (by omega)
            rw [hb0] at e1; cases e1
            have hst := run_storeCells_at P info.blk oo t0 (news.take (Nat.min m len * gsize grp)) 0 c0 w hb0 (by omega) htrow.one
            simp only [Nat.add_zero] at hst
            refine ⟨.int .i64 (Nat.min m len : Nat), _, .inl ?_, ⟨_, _, M, L, hq, g1, g2, .int⟩⟩
            rw [hexec]
            simp [Builtin.copy_, hat, run_underlying hu, Builtin.lenOf, Builtin.firstCells, hfc, hst, goInt, csplice, sizeOf, typeInfo, hei, hesz]
      · exact hq.elim
    · exact hq.elim
  · exact hq.elim

theorem ok_clear {ty el t1 : TypeId} {ats : Array TypeId} {x : Operand} {ix : IX} {z : AV} (ho : o.op = .call { callee := .builtin .clear, args := #[x], argTypes := ats }) (hat : ats[0]? = some ty)
    (hu : P.underlying ty = some (.slice el)) (hz : zeroOf P el = some [z]) (hx : cX P t1 x = some ix)
    (hq : (evOp call key (.clear z ix) e h).all Q) : OpOk P M L w h a o Q := by
  have hxv := cX_ok hE hx
  simp only [evOp] at hq
  generalize ix.ev e = av at hxv hq
  generalize hcx : a.eval x = cx at hxv
  have hexec : (execOp a.eval o).run P w = ((Builtin.clear_ ats o.type #[cx]).run P w).andThen fun v w' => .ok (.value v) w' := by
    simp [execOp, ho, resolve, invoke, builtin, hcx]
  split at hq
  · next k ver off len cap =>
    split at hq
    · next v cs hob =>
      split at hq
      · next hcond =>
        obtain ⟨hver, hle, hone⟩ := hcond
        subst hver
        have hone' : ([z] : List AV).all oneB = true := by simp [hone]
        obtain ⟨i, zv, hi, hzv, hsz0, hzrow⟩ := zeroOf_spec hz hone'
        have hzs : zv.cells.size = 1 := by have := (hzrow M L).1; simp at this; omega
        cases hxv with
        | @oslice _ _ _ _ _ _ info c oo hl b1 b2 b3 b4 b5 b6 =>
          split at hq
          · next hl0 =>
            subst hl0
            refine .pure hr (cv := .tuple #[]) ?_ .undef hq
            rw [hexec]
            simp [Builtin.clear_, hat, run_underlying hu]
          · next hl0 =>
            simp only [gsize, Nat.mul_one] at b1 b2
            have hoo : oo = off := b3 (by omega)
            subst hoo
            obtain ⟨hmb, c0, t0, hb0, hn0, hs0, hle0, hrow⟩ := own_cells hr hob hl
            have hzr := zeros_row hzrow len (len * zv.cells.size) (by simp [hzs]) (by simp) M L
            have hfl : (List.replicate len [z]).flatten = List.replicate len z := by simp
            rw [hfl] at hzr
            have hzl : (Builtin.zeroCells zv.cells len).toList.length = len := by simp [Builtin.zeroCells, hzs]
            obtain ⟨c1, t1, e1, e2, g1, g2⟩ := hr.write oo hob hl hzr (by have := hzr.1; simp at this; simp; omega)
            rw [hb0] at e1; cases e1
            have hst := run_storeCells_at P info.blk oo t0 (Builtin.zeroCells zv.cells len).toList 0 c0 w hb0 (by rw [hzl]; omega) (hzr.one)
            simp only [Nat.add_zero] at hst
            refine ⟨.tuple #[], _, .inl ?_, ⟨_, _, M, L, hq, g1, g2, .undef⟩⟩
            rw [hexec]
            have hne : ∃ len', len = len' + 1 := ⟨len - 1, by omega⟩
            obtain ⟨len', rfl⟩ := hne
            simp [Builtin.clear_, hat, run_underlying hu, zeroValue, typeInfo, hi, hzv, hst, csplice]
            simp [Builtin.zeroCells, Array.toList_range]
      · exact hq.elim
    · exact hq.elim
  · exact hq.elim

end ops
end Go.Ev
