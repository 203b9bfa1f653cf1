/- Slices of arrays, new slices, append, copy, clear, max and min. No condition. -/
import Derived.Test.YtadneamkkepknaaEvOps5
set_option linter.unusedSimpArgs false
set_option linter.unusedVariables false
namespace Go.Ev
open Go

variable {P : Program} {M : Mem} {L : Lay} {w : World} {h : Heap} {e : Env} {a : Act} {Q : AV × Heap → Prop}

theorem run_append_zero {t ty el : TypeId} {i : TypeInfo} (ht : P.underlying t = some (.slice el)) (hi : P.info? el = some i) (base yb : Option Addr) (sLen sCap yc : Nat) (hl : sLen ≤ sCap) :
    (Builtin.append_ #[t, t] ty #[.slice base sLen sCap, .slice yb 0 yc]).run P w = .ok (.slice base sLen sCap) w := by
  cases base <;> cases yb <;> simp [Builtin.append_, run_underlying ht, sizeOf, typeInfo, hi, Builtin.lenOf, hl, Builtin.firstCells, loadCells, loadCellsFrom, storeCells]

theorem run_append_at {t ty el : TypeId} {i : TypeInfo} (ht : P.underlying t = some (.slice el)) (hi : P.info? el = some i) {b o sLen sCap : Nat} {c : Array Value} {t0 : TypeId}
    (hb : w.heap[b]? = some (.cells c t0 (0, 0))) (ad : Addr) (n yc : Nat) (news : List Value) (hl : news.length = n * i.size) (hn : ∀ j v, news[j]? = some v → w.cell? (ad.add j) = some v)
    (h1 : ∀ u ∈ news, u.oneCell' = true) (hroom : sLen + n ≤ sCap) (hfit : o + sLen * i.size + news.length ≤ c.size) :
    (Builtin.append_ #[t, t] ty #[.slice (some ⟨b, o, none⟩) sLen sCap, .slice (some ad) n yc]).run P w =
      .ok (.slice (some ⟨b, o, none⟩) (sLen + n) sCap) (w.setRow b (csplice c (o + sLen * i.size) news)) := by
  have hf := run_firstCells_some (P := P) w i.size n ad n yc news hl hn
  have hst := run_storeCells_at P b (o + sLen * i.size) t0 news 0 c w hb (by omega) h1
  simp only [Nat.add_zero] at hst
  simp [Builtin.append_, run_underlying ht, sizeOf, typeInfo, hi, Builtin.lenOf, hroom, hf, add_lit, hst, csplice]

/-- the cells of what is appended or copied -/
theorem source_ok (hr : HR P M L w h) {y : AV} {cv : Value} {g : Option Nat} {m : Nat} {new : List AV} (hv : VR M L y cv) (hc : cellsOfSlice h y = some (g, m, new)) :
    ∃ yb yc news, cv = .slice yb m yc ∧ RowL M L new news ∧ news.length = m * gsize g ∧ (m ≠ 0 → ∃ ad, yb = some ad ∧ ∀ (j : Nat) v, news[j]? = some v → w.cell? (ad.add j) = some v) := by
  unfold cellsOfSlice at hc
  split at hc
  · next gx xs ex =>
    simp only [Option.some.injEq, Prod.mk.injEq] at hc
    obtain ⟨rfl, rfl, rfl⟩ := hc
    cases hv with
    | @empty _ _ aa cap hh =>
      refine ⟨aa, cap, [], rfl, ⟨by cases gx <;> simp [flat], fun i x v hx hv => by simp at hv⟩, by simp, fun h0 => ?_⟩
      simp at h0
    | @slice _ _ _ b off cap cs t0 fz f hmm hcx hcp hf hvv hoo hrr =>
      have hfl := flat_length hf
      refine ⟨_, cap, (List.range (xs.length * gsize gx)).map f, rfl, ⟨by simp [hfl], fun i x v hx hv => ?_⟩, by simp, fun _ => ⟨⟨b, off, none⟩, rfl, fun j v hv => ?_⟩⟩
      · have : v = f i := by
          simp only [List.getElem?_map, Option.map_eq_some_iff] at hv
          obtain ⟨j, hj, rfl⟩ := hv
          have := (List.getElem?_eq_some_iff.1 hj).2
          simp at this
          rw [this]
        subst this
        exact ⟨hoo i x hx, (hrr i x hx).toVR⟩
      · simp only [List.getElem?_map, Option.map_eq_some_iff] at hv
        obtain ⟨j', hj, rfl⟩ := hv
        have hj1 := (List.getElem?_eq_some_iff.1 hj).1
        have hj2 := (List.getElem?_eq_some_iff.1 hj).2
        simp at hj1 hj2
        subst hj2
        have hx : (flat gx xs)[j]? = some (flat gx xs)[j] := List.getElem?_eq_getElem (by omega)
        rw [add_lit]
        simp only [World.cell?, hr.mem _ _ hmm]
        exact hvv j _ hx
  · next k ver gx off len cap =>
    split at hc
    · next v cs hob =>
      split at hc
      · next hcc =>
        simp only [Option.some.injEq, Prod.mk.injEq] at hc
        obtain ⟨rfl, rfl, rfl⟩ := hc
        obtain ⟨hv1, hle⟩ := hcc
        subst hv1
        cases hv with
        | @oslice _ _ _ _ _ _ info c o hl b1 b2 b3 b4 b5 b6 =>
          obtain ⟨hmb, c0, t0, hb0, hn0, hs0, hle0, hrow⟩ := own_cells hr hob hl
          refine ⟨_, c, (c0.toList.drop off).take (len * gsize gx), rfl, ⟨by simp; omega, fun i x v hx hv => ?_⟩, by simp; omega, fun h0 => ⟨_, rfl, fun j v hv => ?_⟩⟩
          · simp only [List.getElem?_take, List.getElem?_drop] at hx hv
            split at hx
            · next hi =>
              rw [if_pos hi, Array.getElem?_toList] at hv
              obtain ⟨v', e1, e2, e3⟩ := hrow _ x hx
              rw [hv] at e1; cases e1
              exact ⟨e2, e3⟩
            · cases hx
          · simp only [List.getElem?_take, List.getElem?_drop] at hv
            split at hv
            · rw [Array.getElem?_toList] at hv
              rw [add_lit, b3 (by omega)]
              simp only [World.cell?, hb0]
              exact hv
            · cases hv
      · cases hc
    · cases hc
  · cases hc

theorem room_spec {n bytes : Nat} (hr : room n bytes = true) : n * bytes ≤ 1099511627776 := by simpa [room] using hr

theorem grownCap_size {z : Array Value} {need cap : Nat} {olds : List Value} (hl : olds.length = need * z.size) (hc : need ≤ cap) :
    (olds.toArray ++ Builtin.zeroCells z (cap - need)).size = cap * z.size := by
  simp only [Array.size_append, List.size_toArray, size_zeroCells, hl, ← Nat.add_mul]
  congr 1; omega

section ops
variable (hr : HR P M L w h) (hE : ER M L e a) (call : Caller) (key : Nat) {o : Oper}
include hr hE

omit hE in
/-- a new row under the key: the old cells and the new ones, in a block that has just been made -/
theorem grown_ok {g : Option Nat} {olds news : List Value} {old new : List AV} {n m cap : Nat} {z : Array Value} {el : TypeId} {w' : World} (hrow : RowL M L old olds) (hnew : RowL M L new news)
    (hzs : z.size = gsize g) (hlo : olds.length = n * gsize g) (hln : news.length = m * gsize g) (hcap : n + m ≤ cap)
    (hw' : w'.heap = w.heap.push (.cells (olds.toArray ++ news.toArray ++ Builtin.zeroCells z (cap - (n + m))) el)) (hso : SameOut w w')
    (hq : Q (.oslice key (getH h key).next g 0 (n + m) none, setH h key (.cells (getH h key).next (old ++ new)))) :
    Good P M L w h Q w' (.slice (some ⟨w.heap.size, 0, none⟩) (n + m) cap) := by
  have hal : (olds ++ news).length = (n + m) * z.size := by rw [List.length_append, hlo, hln, hzs, Nat.add_mul]
  have hsz : (olds.toArray ++ news.toArray ++ Builtin.zeroCells z (cap - (n + m))).size = cap * gsize g := by
    rw [← hzs]
    have := grownCap_size (z := z) hal hcap
    simpa [List.append_toArray] using this
  have hboth : RowL M L (old ++ new) (olds ++ news) := by
    refine ⟨by simp [hrow.1, hnew.1], fun i x v hx hv => ?_⟩
    by_cases hi : i < old.length
    · rw [List.getElem?_append_left hi] at hx
      rw [List.getElem?_append_left (by rw [← hrow.1]; exact hi)] at hv
      exact hrow.2 i x v hx hv
    · rw [List.getElem?_append_right (by omega)] at hx
      rw [List.getElem?_append_right (by rw [← hrow.1]; omega), ← hrow.1] at hv
      exact hnew.2 _ x v hx hv
  have hR : Row M L (old ++ new) (olds.toArray ++ news.toArray ++ Builtin.zeroCells z (cap - (n + m))) := by
    intro i x hx
    obtain ⟨v, e1, e2, e3⟩ := hboth.row i x hx
    refine ⟨v, ?_, e2, e3⟩
    have hi : i < (olds ++ news).length := by have := (Array.getElem?_eq_some_iff.1 e1).1; simpa using this
    rw [Array.getElem?_append_left (by simpa using hi)]
    simpa using e1
  have hlen : (old ++ new).length = (n + m) * gsize g := by rw [hboth.1, hal, hzs]
  have hcg : (n + m) * gsize g ≤ cap * gsize g := Nat.mul_le_mul_right _ hcap
  obtain ⟨g1, g2⟩ := hr.new_row key (old ++ new) _ el w' hw' (by rw [hlen, hsz]; exact hcg) hR hso
  refine ⟨_, _, M, _, hq, g1, g2, ?_⟩
  refine @VR.oslice M _ key _ g 0 (n + m) none ⟨w.heap.size, (old ++ new).length, (olds.toArray ++ news.toArray ++ Builtin.zeroCells z (cap - (n + m))).size⟩ cap 0 (Lay.upd_self _ _ _ _) ?_ ?_ (fun _ => rfl) (fun c' hc => by cases hc) ?_ hcap
  · simp only [Nat.zero_add]; omega
  · simp only [Nat.zero_add]; omega
  · intro _; simp only [Nat.zero_add]; omega

theorem ok_append {t ty el t1 t2 : TypeId} {x y : Operand} {ix iy : IX} {g : Option Nat} {z : List AV} (ho : o.op = .call { callee := .builtin .append, args := #[x, y], argTypes := #[ty, ty] })
    (hu : P.underlying ty = some (.slice el)) (hg : grpOf P el = some g) (hz : zeroOf P el = some z) (hzl : z.length = gsize g) (hone : z.all oneB = true) (hpos : 0 < gsize g) (hby : 0 < P.bytesOf el)
    (hx : cX P t1 x = some ix) (hy : cX P t2 y = some iy) (hq : (evOp call key (.append g (P.bytesOf el) ix iy) e h).all Q) : OpOk P M L w h a o Q := by
  have hxv := cX_ok hE hx
  have hyv := cX_ok hE hy
  obtain ⟨i, zv, hi, hzv, hsz0, hzrow⟩ := zeroOf_spec hz hone
  have hsz : i.size = gsize g := by omega
  have hzs : zv.cells.size = gsize g := by have := (hzrow M L).1; simp at this; omega
  have hbytes : P.bytesOf el = i.bytes := by simp [Program.bytesOf, hi]
  rw [hbytes] at hq hby
  have hexec : (execOp a.eval o).run P w = ((Builtin.append_ #[ty, ty] o.type #[a.eval x, a.eval y]).run P w).andThen fun v w' => .ok (.value v) w' := by
    simp [execOp, ho, resolve, invoke, builtin]
  simp only [evOp, evAppend] at hq
  generalize ix.ev e = av at hxv hq
  generalize iy.ev e = bv at hyv hq
  split at hq
  · exact hq.elim
  · next gy m new hcs =>
    split at hq
    · exact hq.elim
    · next hgy =>
      have hgy : gy = g := by simpa using hgy
      subst hgy
      obtain ⟨yb, yc, news, hcy, hnrow, hnl, hnc⟩ := source_ok hr hyv hcs
      rw [hcy] at hexec
      generalize hcx : a.eval x = cx at hxv hexec
      have small : ∀ n, room n i.bytes = true → ((n : Nat) : Int) ≤ 9223372036854775807 := fun n hn => by
        have := room_spec hn
        have : n * 1 ≤ n * i.bytes := Nat.mul_le_mul_left _ hby
        omega
      split at hq
      · next gx xs exact =>
        split at hq
        · exact hq.elim
        · next hcond =>
          simp only [not_or, Bool.not_eq_false] at hcond
          obtain ⟨hgx, hex, hroom⟩ := hcond
          have hgx : gx = gy := by simpa using hgx
          have hroom : room (xs.length + m) i.bytes = true := by simpa using hroom
          subst hgx
          split at hq
          · next hm0 =>
            subst hm0
            cases hxv with
            | empty hh =>
              exact .pure hr (by rw [hexec, run_append_zero hu hi _ _ _ _ _ (Nat.zero_le _)]; rfl) (.empty hh) hq
            | slice b1 b2 b3 b4 b5 b6 b7 =>
              exact .pure hr (by rw [hexec, run_append_zero hu hi _ _ _ _ _ b3]; rfl) (.slice b1 b2 b3 b4 b5 b6 b7) hq
          · next hm0 =>
            obtain ⟨ad, rfl, hcells⟩ := hnc hm0
            cases hxv with
            | @empty _ _ aa cap hh =>
              have hcap := hh hex
              subst hcap
              have hfl : flat gx ([] : List AV) = [] := by cases gx <;> rfl
              simp only [List.length_nil, Nat.zero_add] at hroom
              have hneed := small m hroom
              have hrun : ∃ cap' w', m ≤ cap' ∧ w'.heap = w.heap.push (.cells (([] : List Value).toArray ++ news.toArray ++ Builtin.zeroCells zv.cells (cap' - (0 + m))) el) ∧ SameOut w w' ∧
                  (Builtin.append_ #[ty, ty] o.type #[.slice aa 0 0, .slice (some ad) m yc]).run P w = .ok (.slice (some ⟨w.heap.size, 0, none⟩) m cap') w' := by
                cases aa with
                | none =>
                  have hb48 : m * i.bytes ≤ 281474976710656 := by have := room_spec hroom; omega
                  have hrn := run_append_nil (P := P) w ty o.type el i zv hu hi hzv ad m yc news (by rw [hsz]; exact hnl) hcells (by omega) hneed hb48
                  exact ⟨_, _, grownCap_ge w m 0 el, by show w.heap.push _ = w.heap.push _; simp, by exact ⟨rfl, rfl, rfl⟩, hrn⟩
                | some ab =>
                  have hrn := run_append_grow (P := P) w ty o.type el i zv hu hi hzv ab 0 0 [] (by simp) (fun j v hv => by simp at hv) ad m yc news (by rw [hsz]; exact hnl) hcells (by omega)
                    (by simpa using hneed) (growslice_fits (by omega) (by have := room_spec hroom; simp only [Nat.zero_add]; omega))
                  simp only [Nat.zero_add] at hrn
                  exact ⟨_, _, grownCap_ge w m 0 el, by show w.heap.push _ = w.heap.push _; simp, by exact ⟨rfl, rfl, rfl⟩, hrn⟩
              obtain ⟨cap', w', hge, hw', hso, hrn⟩ := hrun
              have key' := grown_ok (Q := Q) hr h.length (g := gx) (n := 0) (m := m) (old := []) (olds := []) ⟨rfl, fun i x v hx => by simp at hx⟩ hnrow hzs (by simp) hnl (by omega) hw' hso
                (by have hq2 := hq; simp only [Res.all, hfl, List.nil_append, List.length_nil, Nat.zero_add] at hq2 ⊢; exact hq2)
              rw [Nat.zero_add] at key'
              exact ⟨_, w', .inl (by rw [hexec, hrn]; rfl), key'⟩
            | @slice _ _ _ b off cap cs t0 fz f hmm hcx' hcp hf hvv hoo hrr =>
              have hcap := hcx' hex
              subst hcap
              have hfl := flat_length hf
              have hneed := small _ hroom
              have hrn := run_append_grow (P := P) w ty o.type el i zv hu hi hzv ⟨b, off, none⟩ xs.length xs.length ((List.range (xs.length * gsize gx)).map f) (by simp [hsz])
                (fun j v hv => by
                  simp only [List.getElem?_map, Option.map_eq_some_iff] at hv
                  obtain ⟨j', hj, rfl⟩ := hv
                  have hj1 := (List.getElem?_eq_some_iff.1 hj).1
                  have hj2 := (List.getElem?_eq_some_iff.1 hj).2
                  simp at hj1 hj2
                  subst hj2
                  rw [add_lit]
                  simp only [World.cell?, hr.mem _ _ hmm]
                  exact hvv j _ (List.getElem?_eq_getElem (by omega)))
                ad m yc news (by rw [hsz]; exact hnl) hcells (by omega) hneed (growslice_fits (by omega) (by have := room_spec hroom; omega))
              refine ⟨_, _, .inl (by rw [hexec, hrn]; rfl), grown_ok (Q := Q) hr h.length (g := gx) (old := flat gx xs) (new := new) (olds := (List.range (xs.length * gsize gx)).map f) ⟨by simp [hfl], fun j x v hx hv => ?_⟩ hnrow hzs (by simp) hnl (grownCap_ge w _ _ el) (by rfl) (by exact ⟨rfl, rfl, rfl⟩) hq⟩
              simp only [List.getElem?_map, Option.map_eq_some_iff] at hv
              obtain ⟨j', hj, rfl⟩ := hv
              have hj2 := (List.getElem?_eq_some_iff.1 hj).2
              simp at hj2
              subst hj2
              exact ⟨hoo j x hx, (hrr j x hx).toVR⟩
      · next k ver gx off len cap =>
        split at hq
        · next hm0 =>
          subst hm0
          cases hxv with
          | oslice b0 b1 b2 b3 b4 b5 b6 =>
            exact .pure hr (by rw [hexec, run_append_zero hu hi _ _ _ _ _ b6]; rfl) (.oslice b0 b1 b2 b3 b4 b5 b6) hq
        · next hm0 =>
          obtain ⟨ad, rfl, hcells⟩ := hnc hm0
          split at hq
          · next v cs hob =>
            split at hq
            · exact hq.elim
            · next hcond =>
              simp only [not_or] at hcond
              obtain ⟨hgx, hver, hroom, hcsl⟩ := hcond
              have hgx : gx = gy := by simpa using hgx
              have hver : v = ver := by simpa using hver
              have hroom : room (len + m) i.bytes = true := by simpa using hroom
              subst hgx
              subst hver
              have hneed := small _ hroom
              cases hxv with
              | @oslice _ _ _ _ _ _ info c oo hl b1 b2 b3 b4 b5 b6 =>
                obtain ⟨hmb, c0, t0, hb0, hn0, hs0, hle0, hrow⟩ := own_cells hr hob hl
                have hnl' : news.length = m * i.size := by rw [hsz]; exact hnl
                have hlm : (len + m) * gsize gx = len * gsize gx + m * gsize gx := Nat.add_mul _ _ _
                -- in place
                have place : ∀ cap', len + m ≤ c → off + (len + m) * gsize gx ≤ info.n → (∀ c', cap' = some c' → c = c' ∧ off + c' * gsize gx ≤ info.n) → (cap' = none → info.n ≤ off + c * gsize gx) →
                    Q (.oslice k v gx off (len + m) cap', setH h k (.cells v (splice cs (off + len * gsize gx) new))) → OpOk P M L w h a o Q := by
                  intro cap' h1 h2 h4 h5 hq'
                  have hoo : oo = off := b3 (by omega)
                  subst hoo
                  have hrn := run_append_at (P := P) (ty := o.type) hu hi (o := oo) (sLen := len) (sCap := c) hb0 ad m yc news hnl' hcells hnrow.one h1 (by rw [hsz, hnl]; omega)
                  obtain ⟨c1, t1, e1, e2, g1, g2⟩ := hr.write (oo + len * gsize gx) hob hl hnrow (by omega)
                  rw [hb0] at e1; cases e1
                  refine ⟨_, _, .inl (by rw [hexec, hrn]; rfl), ⟨_, _, M, L, hq', by rw [hsz]; exact g1, by rw [hsz]; exact g2, ?_⟩⟩
                  exact .oslice hl h2 b2 (fun _ => rfl) h4 h5 h1
                -- into a new block
                have fresh : ∀ k' u, c < len + m → (k' = k → u = v + 1) → True := fun _ _ _ _ => trivial
                have oldrow : RowL M L ((cs.drop off).take (len * gsize gx)) ((c0.toList.drop off).take (len * gsize gx)) := by
                  refine ⟨by simp; omega, fun i x u hx hv => ?_⟩
                  simp only [List.getElem?_take, List.getElem?_drop] at hx hv
                  split at hx
                  · next hi =>
                    rw [if_pos hi, Array.getElem?_toList] at hv
                    obtain ⟨v', f1, f2, f3⟩ := hrow _ x hx
                    rw [hv] at f1; cases f1
                    exact ⟨f2, f3⟩
                  · cases hx
                have oldcells : (len = 0 ∨ oo = off) → ∀ (j : Nat) u, ((c0.toList.drop off).take (len * gsize gx))[j]? = some u → w.cell? ((⟨info.blk, oo, none⟩ : Addr).add j) = some u := by
                  intro hor j u hu'
                  simp only [List.getElem?_take, List.getElem?_drop] at hu'
                  split at hu'
                  · next hj =>
                    rcases hor with h0 | h0
                    · subst h0; simp at hj
                    · rw [Array.getElem?_toList] at hu'
                      rw [add_lit, h0]
                      simp only [World.cell?, hb0]
                      exact hu'
                  · cases hu'
                have grow : c < len + m → ∃ capn w', len + m ≤ capn ∧
                    w'.heap = w.heap.push (.cells (((c0.toList.drop off).take (len * gsize gx)).toArray ++ news.toArray ++ Builtin.zeroCells zv.cells (capn - (len + m))) el) ∧ SameOut w w' ∧
                    (Builtin.append_ #[ty, ty] o.type #[.slice (some ⟨info.blk, oo, none⟩) len c, .slice (some ad) m yc]).run P w = .ok (.slice (some ⟨w.heap.size, 0, none⟩) (len + m) capn) w' := by
                  intro hlt
                  have hor : len = 0 ∨ oo = off := by
                    by_cases h0 : c = 0
                    · exact .inl (by omega)
                    · exact .inr (b3 h0)
                  have hrn := run_append_grow (P := P) w ty o.type el i zv hu hi hzv ⟨info.blk, oo, none⟩ len c _ (by simp [hsz]; omega) (oldcells hor) ad m yc news hnl' hcells hlt hneed
                    (growslice_fits (by omega) (by have := room_spec hroom; omega))
                  exact ⟨_, _, grownCap_ge w _ _ el, by rfl, by exact ⟨rfl, rfl, rfl⟩, hrn⟩
                split at hq
                · next c' =>
                  obtain ⟨hcc, hcn⟩ := b4 c' rfl
                  split at hq
                  · next hle =>
                    split at hq
                    · next hfit =>
                      exact place _ (by omega) (by omega) b4 b5 hq
                    · exact hq.elim
                  · next hgt =>
                    obtain ⟨capn, w', hge, hw', hso, hrn⟩ := grow (by omega)
                    exact ⟨_, w', .inl (by rw [hexec, hrn]; rfl), grown_ok (Q := Q) hr h.length (g := gx) oldrow hnrow hzs (by simp; omega) hnl hge hw' hso hq⟩
                · have hinfo := b5 rfl
                  split at hq
                  · next hfit =>
                    have hle : len + m ≤ c := by
                      by_cases hcl : len + m ≤ c
                      · exact hcl
                      · have : (c + 1) * gsize gx ≤ (len + m) * gsize gx := Nat.mul_le_mul_right _ (by omega)
                        have : (c + 1) * gsize gx = c * gsize gx + gsize gx := by rw [Nat.add_mul]; omega
                        omega
                    exact place _ hle (by omega) (fun c' hc => by cases hc) (fun _ => hinfo) hq
                  · split at hq
                    · next hfull =>
                      obtain ⟨hoff, hfl⟩ := hfull
                      subst hoff
                      have hLn : L k (v + 1) = none := by
                        cases hLv : L k (v + 1) with
                        | none => rfl
                        | some i' =>
                          have := (hr.ver k (v + 1) i' hLv).2
                          rw [hob] at this
                          simp [AObj.ver] at this
                          omega
                      have hne : getH h k ≠ .none := by rw [hob]; simp
                      have hkv : (getH h k).ver = v := by rw [hob]; rfl
                      have hdt : (cs.drop 0).take (len * gsize gx) = cs := by rw [List.drop_zero, List.take_of_length_le (by omega)]
                      rw [hdt] at oldrow
                      by_cases hroomc : len + m ≤ c
                      · -- there is room: the same block, a new version
                        have hoo : oo = 0 := b3 (by omega)
                        subst hoo
                        have hcg : (len + m) * gsize gx ≤ c * gsize gx := Nat.mul_le_mul_right _ hroomc
                        have hrn := run_append_at (P := P) (ty := o.type) hu hi (o := 0) (sLen := len) (sCap := c) hb0 ad m yc news hnl' hcells hnrow.one hroomc (by rw [hsz, hnl]; omega)
                        simp only [Nat.zero_add] at hrn
                        have hfitc : len * gsize gx + news.length ≤ c0.size := by omega
                        have hle' : Lay.le L (L.upd k (v + 1) ⟨info.blk, (len + m) * gsize gx, info.size⟩) := fun k' v' i' hi' => by
                          unfold Lay.upd
                          split
                          · next hc => obtain ⟨rfl, rfl⟩ := hc; rw [hLn] at hi'; cases hi'
                          · exact hi'
                        have hrow2 : Row M L (cs ++ new) (csplice c0 (len * gsize gx) news) := by
                          intro j x hx
                          rw [getElem?_csplice hfitc]
                          by_cases hj : j < cs.length
                          · rw [List.getElem?_append_left hj] at hx
                            rw [if_neg (by omega)]
                            exact hrow j x hx
                          · rw [List.getElem?_append_right (by omega)] at hx
                            have hjn := (List.getElem?_eq_some_iff.1 hx).1
                            have := hnrow.1
                            rw [if_pos ⟨by omega, by omega⟩, ← hfl]
                            have hv : news[j - cs.length]? = some (news[j - cs.length]'(by omega)) := List.getElem?_eq_getElem _
                            exact ⟨_, hv, (hnrow.2 _ x _ hx hv).1, (hnrow.2 _ x _ hx hv).2⟩
                        have kput := hr.put k (v + 1) ⟨info.blk, (len + m) * gsize gx, info.size⟩ (.cells (v + 1) (cs ++ new)) (w.setRow info.blk (csplice c0 (len * gsize gx) news)) (by simp) rfl (.inl hLn)
                          (fun _ => by omega) hmb (.inr ⟨info, hne, by rw [hkv]; exact hl, rfl⟩) (by simp [World.setRow]) (fun b _ hb' => setRow_other w info.blk b _ hb')
                          ⟨_, t0, setRow_heap w info.blk c0 _ t0 _ hb0, by have := hnrow.1; simp; omega, by rw [size_csplice hfitc]; exact hs0, by simp only; omega,
                            fun j x hx => let ⟨v', f1, f2, f3⟩ := hrow2 j x hx; ⟨v', f1, f2, f3.mono (fun _ _ h => h) hle'⟩⟩
                        refine ⟨_, _, .inl (by rw [hexec, hrn]; rfl), ⟨_, _, M, _, hq, by rw [hsz]; exact kput.1, by rw [hsz]; exact kput.2, ?_⟩⟩
                        refine @VR.oslice M _ k _ gx 0 (len + m) none ⟨info.blk, (len + m) * gsize gx, info.size⟩ c 0 (Lay.upd_self _ _ _ _) ?_ ?_ (fun _ => rfl) (fun c' hc => by cases hc) ?_ hroomc
                        · simp only [Nat.zero_add]; omega
                        · simp only; omega
                        · intro _; simp only [Nat.zero_add]; omega
                      · -- no room: a new block, a new version
                        obtain ⟨capn, w', hge, hw', hso, hrn⟩ := grow (by omega)
                        have hszn : ((((c0.toList.drop 0).take (len * gsize gx)).toArray ++ news.toArray ++ Builtin.zeroCells zv.cells (capn - (len + m)))).size = capn * gsize gx := by
                          have h0 : ((c0.toList.drop 0).take (len * gsize gx)).length = len * gsize gx := by simp; omega
                          rw [Array.size_append, Array.size_append, List.size_toArray, List.size_toArray, size_zeroCells, h0, hnl, hzs, ← Nat.add_mul, ← Nat.add_mul]
                          congr 1; omega
                        have hcg : (len + m) * gsize gx ≤ capn * gsize gx := Nat.mul_le_mul_right _ hge
                        have hle' : Lay.le L (L.upd k (v + 1) ⟨w.heap.size, (len + m) * gsize gx, capn * gsize gx⟩) := fun k' v' i' hi' => by
                          unfold Lay.upd
                          split
                          · next hc => obtain ⟨rfl, rfl⟩ := hc; rw [hLn] at hi'; cases hi'
                          · exact hi'
                        have hboth : RowL M L (cs ++ new) ((c0.toList.drop 0).take (len * gsize gx) ++ news) := by
                          refine ⟨by rw [List.length_append, List.length_append, oldrow.1, hnrow.1], fun j x u hx hv => ?_⟩
                          have hol := oldrow.1
                          by_cases hj : j < cs.length
                          · rw [List.getElem?_append_left hj] at hx
                            rw [List.getElem?_append_left (by omega)] at hv
                            exact oldrow.2 j x u hx hv
                          · rw [List.getElem?_append_right (by omega)] at hx
                            rw [List.getElem?_append_right (by omega), ← hol] at hv
                            exact hnrow.2 _ x u hx hv
                        have hrow2 : Row M L (cs ++ new) (((c0.toList.drop 0).take (len * gsize gx)).toArray ++ news.toArray ++ Builtin.zeroCells zv.cells (capn - (len + m))) := by
                          intro j x hx
                          obtain ⟨v', e1, e2, e3⟩ := hboth.row j x hx
                          refine ⟨v', ?_, e2, e3⟩
                          have hj : j < ((c0.toList.drop 0).take (len * gsize gx) ++ news).length := by have := (Array.getElem?_eq_some_iff.1 e1).1; simpa using this
                          rw [Array.getElem?_append_left (by simpa using hj)]
                          simpa using e1
                        have kput := hr.put k (v + 1) ⟨w.heap.size, (len + m) * gsize gx, capn * gsize gx⟩ (.cells (v + 1) (cs ++ new)) w' (by simp) rfl (.inl hLn)
                          (fun _ => by omega) hr.fresh (.inl rfl) (by rw [hw', Array.size_push]; omega) (fun b hb _ => by rw [hw', Array.getElem?_push, if_neg (by omega)])
                          ⟨_, el, by simp [hw'], by have := hnrow.1; simp; omega, hszn, hcg,
                            fun j x hx => let ⟨v', f1, f2, f3⟩ := hrow2 j x hx; ⟨v', f1, f2, f3.mono (fun _ _ h => h) hle'⟩⟩ hso
                        refine ⟨_, w', .inl (by rw [hexec, hrn]; rfl), ⟨_, _, M, _, hq, kput.1, kput.2, ?_⟩⟩
                        refine @VR.oslice M _ k _ gx 0 (len + m) none ⟨w.heap.size, (len + m) * gsize gx, capn * gsize gx⟩ capn 0 (Lay.upd_self _ _ _ _) ?_ ?_ (fun _ => rfl) (fun c' hc => by cases hc) ?_ hge
                        · simp only [Nat.zero_add]; omega
                        · simp only [Nat.zero_add]; omega
                        · intro _; simp only [Nat.zero_add]; omega
                    · exact hq.elim
          · exact hq.elim
      · exact hq.elim

end ops
end Go.Ev
