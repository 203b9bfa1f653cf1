/- Literals, parts of structs and arrays, addresses of elements. No condition. -/
import Derived.Test.YtadneamkkepknaaEvOps3
set_option linter.unusedSimpArgs false
set_option linter.unusedVariables false
namespace Go.Ev
open Go

variable {P : Program} {M : Mem} {L : Lay} {w : World} {h : Heap} {e : Env} {a : Act} {Q : AV × Heap → Prop}

theorem mapM_opt {α β : Type} {f : α → Option β} : ∀ (l : List α) (r : List β), l.mapM f = some r → r.length = l.length ∧ ∀ (i : Nat) x y, l[i]? = some x → r[i]? = some y → f x = some y
  | [], r, h => by
    simp at h; subst h; exact ⟨rfl, fun i x y hx => by simp at hx⟩
  | x :: l, r, h => by
    simp only [List.mapM_cons, Option.bind_eq_bind, Option.bind_eq_some_iff, Option.pure_def, Option.some.injEq] at h
    obtain ⟨b, hb, bs, hbs, rfl⟩ := h
    obtain ⟨h1, h2⟩ := mapM_opt l bs hbs
    refine ⟨by simp [h1], fun i y z hy hz => ?_⟩
    cases i with
    | zero => simp at hy hz; subst hy hz; exact hb
    | succ i => simp at hy hz; exact h2 i y z hy hz

theorem run_mapM_list {α β : Type} {f : α → Sem β} {g : α → β} (w : World) : ∀ (l : List α), (∀ x ∈ l, (f x).run P w = .ok (g x) w) → (l.mapM f).run P w = .ok (l.map g) w
  | [], _ => rfl
  | x :: l, h => by
    have ih := run_mapM_list w l fun y hy => h y (List.mem_cons_of_mem _ hy)
    simp [List.mapM_cons, h x List.mem_cons_self, ih]

theorem run_mapM_array {α β : Type} {f : α → Sem β} {g : α → β} (w : World) (l : Array α) (h : ∀ x ∈ l.toList, (f x).run P w = .ok (g x) w) : (l.mapM f).run P w = .ok (l.map g) w := by
  rw [Array.mapM_eq_mapM_toList, Sem.run_map, run_mapM_list w l.toList h]
  simp only [Result.andThen_ok]
  congr 1
  apply Array.ext'
  simp

theorem cellsOf_info {t : TypeId} {i : TypeInfo} (hi : P.info? t = some i) : P.cellsOf t = i.size := by simp [Program.cellsOf, hi]

theorem getElem?_flatten_replicate (z : List AV) : ∀ (n i : Nat), i < n * z.length → (List.replicate n z).flatten[i]? = z[i % z.length]?
  | 0, i, h => by simp at h
  | n + 1, i, h => by
    rw [List.replicate_succ, List.flatten_cons]
    by_cases hi : i < z.length
    · rw [List.getElem?_append_left hi, Nat.mod_eq_of_lt hi]
    · have h' : i - z.length < n * z.length := by rw [Nat.add_mul] at h; omega
      rw [List.getElem?_append_right (by omega), getElem?_flatten_replicate z n _ h']
      congr 1
      rw [← Nat.mod_eq_sub_mod (by omega)]

/-- a row of zeros -/
theorem zeros_row {z : List AV} {zv : Array Value} (hz : ∀ (M : Mem) (L : Lay), RowL M L z zv.toList) (n m : Nat) (hm : m = n * z.length) (hp : 0 < z.length) (M : Mem) (L : Lay) :
    RowL M L (List.replicate n z).flatten ((Array.range m).map (zv[· % zv.size]!)).toList := by
  have hl : z.length = zv.size := by simpa using (hz M L).1
  refine ⟨by simp [hm], fun i x v hx hv => ?_⟩
  have hi : i < n * z.length := by
    have := (List.getElem?_eq_some_iff.1 hx).1
    simpa using this
  rw [getElem?_flatten_replicate z n i hi] at hx
  have hmod : i % zv.size < zv.size := Nat.mod_lt _ (by omega)
  have hv' : v = zv[i % zv.size] := by
    have : i < m := by omega
    simp [Array.getElem?_range, this] at hv
    rw [← hv]
    simp [hmod]
  rw [hl] at hx
  exact (hz M L).2 (i % zv.size) x v hx (by rw [hv']; simp)

theorem not_agg_of_one {cs : List AV} {v : Value} (ho : v.oneCell' = true) (hv : VR M L (.agg cs) v) : False := by
  cases hv; simp [Value.oneCell'] at ho

theorem numB_FR {x : AV} {v : Value} {M' : Mem} (hn : numB x = true) (h : VR M L x v) : FR M' x v := by
  cases h <;> first | exact .int | exact .bool | (simp [numB] at hn)

theorem fits_none {x : AV} (hx : ∀ cs, x ≠ .agg cs) : fits none x = true := by
  cases x <;> first | rfl | exact (hx _ rfl).elim

/-- cells in groups, and flat again -/
theorem flat_grouped {g : Option Nat} {len : Nat} {cs : List AV} (hl : cs.length = len * gsize g) (hn : ∀ x ∈ cs, ∀ ds, g = none → x ≠ .agg ds) :
    flat g (grouped g len cs) = cs ∧ (grouped g len cs).length = len ∧ ∀ x ∈ grouped g len cs, fits g x = true := by
  cases g with
  | none =>
    simp only [gsize, Nat.mul_one] at hl
    exact ⟨rfl, hl, fun x hx => fits_none fun ds => hn x hx ds rfl⟩
  | some n =>
    simp only [gsize] at hl
    refine ⟨?_, by simp [grouped], fun x hx => ?_⟩
    · simp only [flat, grouped, List.flatMap_map, AV.cells]
      clear hn
      induction len generalizing cs with
      | zero => simp at hl; subst hl; rfl
      | succ len ih =>
        rw [List.range_succ_eq_map, List.flatMap_cons, List.flatMap_map]
        have h1 : (cs.drop n).length = len * n := by simp [hl, Nat.add_mul]
        have := ih h1
        simp only [List.drop_drop] at this
        have hrw : (List.flatMap (fun a => List.take n (List.drop (n * 1 + a * n) cs)) (List.range len)) = List.flatMap (fun a => List.take n (List.drop ((a + 1) * n) cs)) (List.range len) := by
          congr 1; funext a; congr 2; rw [Nat.add_mul]; omega
        simp only [Nat.mul_one] at hrw
        rw [hrw] at this
        simp only [Nat.succ_eq_add_one, Nat.zero_mul, List.drop_zero]
        rw [this, List.take_append_drop]
    · simp only [grouped, List.mem_map, List.mem_range] at hx
      obtain ⟨i, hi, rfl⟩ := hx
      simp only [fits, beq_iff_eq, List.length_take, List.length_drop, hl]
      have : i * n + n ≤ len * n := by rw [← Nat.succ_mul]; exact Nat.mul_le_mul_right _ hi
      omega

/-- a slice over a row that nobody writes -/
theorem slice_of_row {g : Option Nat} {len cap b off : Nat} {cs : List AV} {c : Array Value} {t : TypeId} {fz : Nat × Nat} {ex : Bool} (hm : M b = some (.cells c t fz)) (hex : ex = true → cap = len) (hcp : len ≤ cap) (hl : cs.length = len * gsize g)
    (hv : ∀ (i : Nat) (x : AV), cs[i]? = some x → ∃ v, c[off + i]? = some v ∧ v.oneCell' = true ∧ FR M x v) : FR M (.slice g (grouped g len cs) ex) (.slice (some ⟨b, off, none⟩) len cap) := by
  have hn : ∀ x ∈ cs, ∀ ds, g = none → x ≠ .agg ds := fun x hx ds _ he => by
    obtain ⟨i, hi⟩ := List.mem_iff_getElem?.1 hx
    obtain ⟨v, _, h2, h3⟩ := hv i x hi
    rw [he] at h3
    exact not_agg_of_one h2 (h3.toVR (L := fun _ _ => none))
  obtain ⟨h1, h2, h3⟩ := flat_grouped hl hn
  have key := @FR.slice M g (grouped g len cs) ex b off cap c t fz (fun i => c.getD (off + i) undef) hm (fun he => by rw [h2]; exact hex he) (by rw [h2]; exact hcp) h3
  rw [h1, h2] at key
  have hg : ∀ (i : Nat) (x : AV), cs[i]? = some x → c[off + i]? = some (c.getD (off + i) undef) ∧ (c.getD (off + i) undef).oneCell' = true ∧ FR M x (c.getD (off + i) undef) := fun i x hx => by
    obtain ⟨v, e1, e2, e3⟩ := hv i x hx
    have : c.getD (off + i) undef = v := by simp [Array.getD_eq_getD_getElem?, e1]
    rw [this]; exact ⟨e1, e2, e3⟩
  exact key (fun i x hx => (hg i x hx).1) (fun i x hx => (hg i x hx).2.1) (fun i x hx => (hg i x hx).2.2)

theorem rd_part {grp : Option Nat} {t : TypeId} {cs : List AV} {vs : Array Value} {off : Nat} {R : AV → Prop} (hg : grpOf P t = some grp) (hl : cs.length = vs.size)
    (hh : ∀ (i : Nat) (c : AV) (v : Value), cs[i]? = some c → vs[i]? = some v → VR M L c v) (hq : (rd grp cs off).all R) :
    ∃ v cv, (part t vs off).run P w = .ok cv w ∧ VR M L v cv ∧ R v := by
  cases grp with
  | none =>
    obtain ⟨d, i, hu, h1, h2, hi, hs⟩ := grpOf_none hg
    obtain ⟨v, hv, hq⟩ := Res.all_ofOpt hq
    have ho : off < vs.size := by rw [← hl]; exact (List.getElem?_eq_some_iff.1 hv).1
    have hvo : vs[off]? = some vs[off] := Array.getElem?_eq_getElem ho
    exact ⟨v, vs[off], by simp [part, run_isAgg_false hu h1 h2, hvo], hh off v _ hv hvo, hq⟩
  | some n =>
    obtain ⟨d, i, hu, h1, hi, hs, hn⟩ := grpOf_some hg
    simp only [rd] at hq
    split at hq
    · next hle =>
      refine ⟨_, .agg (vs.extract off (off + n)), ?_, ?_, hq⟩
      · simp [part, run_isAgg_true hu h1, sizeOf, typeInfo, hi, hs]
      · refine .agg (by simp; omega) fun j c v hj hv => ?_
        simp only [List.getElem?_take, List.getElem?_drop] at hj
        split at hj
        · next hjn =>
          rw [Array.getElem?_extract] at hv
          split at hv
          · exact hh (off + j) c v hj hv
          · cases hv
        · cases hj
    · exact hq.elim

section ops
variable (hr : HR P M L w h) (hE : ER M L e a) (call : Caller) (key : Nat) {o : Oper}
include hr hE

theorem ok_field {grp : Option Nat} {s t : TypeId} {x : Operand} {n : Nat} {fs : Array Field} {fd : Field} {ix : IX} (ho : o.op = .field s x n) (hs : P.underlying s = some (.struct fs)) (hf : fs[n]? = some fd)
    (hg : grpOf P fd.type = some grp) (hx : cX P t x = some ix) (hq : (evOp call key (.field grp fd.offset ix) e h).all Q) : OpOk P M L w h a o Q := by
  have hxv := cX_ok hE hx
  simp only [evOp] at hq
  generalize ix.ev e = av at hxv hq
  generalize hcv : a.eval x = cv at hxv
  split at hq
  · cases hxv with
    | agg hl hh =>
      rw [Res.all_bind] at hq
      obtain ⟨v, cv, h1, h2, h3⟩ := rd_part (w := w) (R := fun v => Q (v, h)) hg hl hh hq
      exact .pure hr (by simp [execOp, ho, hcv, Instr.field, run_underlying hs, hf, asAgg, h1]) h2 h3
  · exact hq.elim

omit hr hE in
theorem asNat_inv {v : AV} {cv : Value} {j : Nat} (hv : VR M L v cv) (hj : asNat v = some j) : ∃ k i, cv = .int k i ∧ 0 ≤ i ∧ i.toNat = j := by
  unfold asNat at hj
  split at hj
  · next k i =>
    split at hj
    · next h0 => cases hj; exact ⟨k, i, hv.int_inv, h0, rfl⟩
    · cases hj
  · cases hj

theorem ok_index {grp : Option Nat} {s el t t' : TypeId} {x y : Operand} {n : Nat} {ix iy : IX} (ho : o.op = .index s x y) (hs : P.underlying s = some (.array n el))
    (hg : grpOf P el = some grp) (hx : cX P t x = some ix) (hy : cX P t' y = some iy) (hq : (evOp call key (.index grp n ix iy) e h).all Q) : OpOk P M L w h a o Q := by
  have hxv := cX_ok hE hx
  have hyv := cX_ok hE hy
  obtain ⟨i, hi, hsz⟩ := info_of_grp hg
  simp only [evOp] at hq
  generalize ix.ev e = av at hxv hq
  generalize iy.ev e = bv at hyv hq
  generalize hcv : a.eval x = cv at hxv
  split at hq
  · next cs j hj =>
    obtain ⟨k, m, he, h0, hm⟩ := asNat_inv hyv hj
    split at hq
    · next hlt =>
      cases hxv with
      | agg hl hh =>
        rw [Res.all_bind] at hq
        obtain ⟨v, cv, h1, h2, h3⟩ := rd_part (w := w) (R := fun v => Q (v, h)) hg hl hh hq
        have hml : m < (n : Int) := by omega
        exact .pure hr (by simp [execOp, ho, hcv, he, Instr.index, asIntOf, run_underlying hs, h0, hml, hm, sizeOf, typeInfo, hi, hsz, h1]) h2 h3
    · exact hq.elim
  · exact hq.elim

theorem ok_build {t : TypeId} {parts : Array (Nat × Operand)} {z : List AV} {ps : List (Nat × Nat × IX)} (ho : o.op = .build t parts) (hz : zeroOf P t = some z)
    (hp : (∃ fs, P.underlying t = some (.struct fs) ∧ (fs.toList.all fun f => (P.info? f.type).isSome) = true ∧
        (parts.toList.mapM fun ((i, x) : Nat × Operand) => (fs[i]?).bind fun (f : Field) => (cX P f.type x).map fun x => (f.offset, P.cellsOf f.type, x)) = some ps) ∨
      (∃ n el, P.underlying t = some (.array n el) ∧ (P.info? el).isSome = true ∧ (parts.toList.mapM fun ((i, x) : Nat × Operand) => (cX P el x).map fun x => (i * P.cellsOf el, P.cellsOf el, x)) = some ps))
    (hq : (evOp call key (.build z ps) e h).all Q) : OpOk P M L w h a o Q := by
  simp only [evOp] at hq
  split at hq
  · next hone =>
    obtain ⟨i, zv, hi, hzv, hsz, hrow⟩ := zeroOf_spec hz hone
    rw [Res.all_bind] at hq
    rcases hp with ⟨fs, hu, hall, hm⟩ | ⟨n, el, hu, hall, hm⟩
    · obtain ⟨hl, hel⟩ := mapM_opt _ _ hm
      obtain ⟨cs', c', h1, h2, h3, h4⟩ := fill_ok (place := fun i => (fs.map fun f => (f.offset, P.cellsOf f.type))[i]?) hE parts.toList ps z zv.cells _ hl (fun i j x off sz ix e1 e2 => by
        have hd := hel i (j, x) _ e1 e2
        simp only [Option.bind_eq_some_iff, Option.map_eq_some_iff, Prod.mk.injEq] at hd
        obtain ⟨f, hf, y, hy, rfl, rfl, rfl⟩ := hd
        exact ⟨by simp [hf], f.type, hy⟩) (hrow M L) hq
      refine .pure hr (cv := .agg c') ?_ (.agg (by simpa using h2.1) fun i x v hx hv => (h2.2 i x v hx (by rw [Array.getElem?_toList]; exact hv)).2) h3
      have hmm := run_mapM_array (P := P) (f := fun f : Field => (do pure (f.offset, ← sizeOf f.type) : Sem (Nat × Nat))) (g := fun f => (f.offset, P.cellsOf f.type)) w fs (fun f hf => by
        have := List.all_eq_true.1 hall f hf
        obtain ⟨fi, hfi⟩ := Option.isSome_iff_exists.1 this
        simp [sizeOf, typeInfo, hfi, cellsOf_info hfi])
      have h1' : Instr.fill (fun i => (fs.map fun f => (f.offset, P.cellsOf f.type))[i]?) zv.cells (parts.map fun (i, x) => (i, a.eval x)).toList = some c' := by
        rw [Array.toList_map]; exact h1
      simp only [execOp, ho, Instr.build, zeroValue, typeInfo, Sem.run_bind, run_program, Result.andThen_ok, hi, Sem.run_pure, hzv, run_underlying hu, hmm, h1']
    · obtain ⟨hl, hel⟩ := mapM_opt _ _ hm
      obtain ⟨ei, hei⟩ := Option.isSome_iff_exists.1 hall
      obtain ⟨cs', c', h1, h2, h3, h4⟩ := fill_ok (place := fun i => some (i * P.cellsOf el, P.cellsOf el)) hE parts.toList ps z zv.cells _ hl (fun i j x off sz ix e1 e2 => by
        have hd := hel i (j, x) _ e1 e2
        simp only [Option.map_eq_some_iff, Prod.mk.injEq] at hd
        obtain ⟨y, hy, rfl, rfl, rfl⟩ := hd
        exact ⟨rfl, el, hy⟩) (hrow M L) hq
      refine .pure hr (cv := .agg c') ?_ (.agg (by simpa using h2.1) fun i x v hx hv => (h2.2 i x v hx (by rw [Array.getElem?_toList]; exact hv)).2) h3
      have h1' : Instr.fill (fun i => some (i * ei.size, ei.size)) zv.cells (parts.map fun (i, x) => (i, a.eval x)).toList = some c' := by
        rw [Array.toList_map, ← cellsOf_info hei]; exact h1
      simp only [execOp, ho, Instr.build, zeroValue, sizeOf, typeInfo, Sem.run_bind, run_program, Result.andThen_ok, hi, Sem.run_pure, hzv, run_underlying hu, hei, h1']
  · exact hq.elim

theorem ok_buildSlice {grp : Option Nat} {t el : TypeId} {len : Nat} {parts : Array (Nat × Operand)} {z : List AV} {ps : List (Nat × Nat × IX)} (ho : o.op = .buildSlice t len parts) (hu : P.underlying t = some (.slice el))
    (hg : grpOf P el = some grp) (hz : zeroOf P el = some z) (h24 : len * gsize grp ≤ 16777216) (hzl : z.length = gsize grp) (hpos : 0 < gsize grp)
    (hm : (parts.toList.mapM fun ((i, x) : Nat × Operand) => (cX P el x).map fun x => (i * gsize grp, gsize grp, x)) = some ps)
    (hq : (evOp call key (.buildSlice grp (List.replicate len z).flatten ps) e h).all Q) : OpOk P M L w h a o Q := by
  simp only [evOp] at hq
  obtain ⟨i, hi, hsz⟩ := info_of_grp hg
  split at hq
  · next hone =>
    have hlen : (List.replicate len z).flatten.length = len * gsize grp := by simp [hzl]
    rw [hlen, Nat.mul_div_cancel _ hpos, Res.all_bind] at hq
    replace hq := Res.all_mono _ hq (R := fun cs => cs.all numB = true ∧ Q (.slice grp (grouped grp len cs) true, h)) fun cs hcs => by
      split at hcs
      · next hn => exact ⟨hn, hcs⟩
      · exact hcs.elim
    have hz0 : ∀ (c0 : Array Value), (len * gsize grp = 0 → c0 = #[]) → (len * gsize grp ≠ 0 → ∀ M L, RowL M L z c0.toList) → ∀ M L, RowL M L (List.replicate len z).flatten ((Array.range (len * gsize grp)).map (c0[· % c0.size]!)).toList := by
      intro c0 hc1 hc2 M L
      by_cases h0 : len * gsize grp = 0
      · rw [h0]
        have : (List.replicate len z).flatten = [] := List.eq_nil_of_length_eq_zero (by omega)
        rw [this]
        exact ⟨by simp, fun i x v hx => by simp at hx⟩
      · exact zeros_row (hc2 h0) len (len * gsize grp) (by rw [hzl]) (by omega) M L
    obtain ⟨c0, hc0, hrun⟩ : ∃ c0 : Array Value, (∀ M L, RowL M L (List.replicate len z).flatten ((Array.range (len * gsize grp)).map (c0[· % c0.size]!)).toList) ∧
        (∀ (pp : Array (Nat × Value)) c', Instr.fill (fun i => some (i * gsize grp, gsize grp)) ((Array.range (len * gsize grp)).map (c0[· % c0.size]!)) pp.toList = some c' →
          (Instr.buildSlice t len pp).run P w = .ok (.slice (some ⟨w.heap.size, 0, none⟩) len len) { w with heap := w.heap.push (.cells c' el) }) := by
      by_cases h0 : len * gsize grp = 0
      · refine ⟨#[], hz0 #[] (fun _ => rfl) (fun h => (h h0).elim), fun pp c' hf => ?_⟩
        rw [h0] at hf
        have hr0 : (Array.range 0).map (((#[] : Array Value))[· % (#[] : Array Value).size]!) = #[] := by simp
        rw [hr0] at hf
        have hl0 : len = 0 := by
          rcases Nat.mul_eq_zero.1 h0 with h | h
          · exact h
          · omega
        subst hl0
        have hrg : Array.range 0 = #[] := by decide
        simp [Instr.buildSlice, run_underlying hu, sizeOf, typeInfo, hi, hsz, hf, newRow, hrg]
      · have hone' : z.all oneB = true := by
          rw [List.all_eq_true]
          intro x hx
          refine List.all_eq_true.1 hone x ?_
          rw [List.mem_flatten]
          refine ⟨z, ?_, hx⟩
          rw [List.mem_replicate]
          refine ⟨fun hl0 => h0 (by rw [hl0, Nat.zero_mul]), rfl⟩
        obtain ⟨i', zv, hi', hzv, hsz', hrow⟩ := zeroOf_spec hz hone'
        rw [hi] at hi'; cases hi'
        refine ⟨zv.cells, hz0 zv.cells (fun h => (h0 h).elim) (fun _ => hrow), fun pp c' hf => ?_⟩
        have h24' : ¬ len * gsize grp > 2 ^ 24 := by omega
        simp [Instr.buildSlice, run_underlying hu, sizeOf, typeInfo, zeroValue, hi, hzv, hsz, h0, h24', hf, newRow]
    obtain ⟨hl, hel⟩ := mapM_opt _ _ hm
    obtain ⟨cs', c', h1, h2, h3, h4⟩ := fill_ok (place := fun i => some (i * gsize grp, gsize grp)) hE parts.toList ps _ _ _ hl (fun i j x off sz ix e1 e2 => by
        have hd := hel i (j, x) _ e1 e2
        simp only [Option.map_eq_some_iff, Prod.mk.injEq] at hd
        obtain ⟨y, hy, rfl, rfl, rfl⟩ := hd
        exact ⟨rfl, el, hy⟩) (hc0 M L) hq
    have h1' : Instr.fill (fun i => some (i * gsize grp, gsize grp)) ((Array.range (len * gsize grp)).map (c0[· % c0.size]!)) (parts.map fun (i, x) => (i, a.eval x)).toList = some c' := by
      rw [Array.toList_map]; exact h1
    obtain ⟨g1, g2⟩ := hr.freeze_new (w' := { w with heap := w.heap.push (.cells c' el) }) (.cells c' el) rfl
    have hle : Mem.le M (fun b => if b = w.heap.size then some (Obj.cells c' el) else M b) := g2.mem
    obtain ⟨hnum, h3⟩ := h3
    refine ⟨.slice (some ⟨w.heap.size, 0, none⟩) len len, _, .inl ?_, ⟨_, _, _, _, h3, g1, g2, FR.toVR ?_⟩⟩
    · simp only [execOp, ho, Sem.run_bind, hrun _ _ h1', Result.andThen_ok, Sem.run_pure]
    · refine slice_of_row (c := c') (t := el) (fz := (0, 0)) (by simp) (fun _ => rfl) (Nat.le_refl _) (by rw [h4, hlen]) fun i x hx => ?_
      rw [Nat.zero_add]
      obtain ⟨v, e1, e2, e3⟩ := h2.row i x hx
      exact ⟨v, by simpa using e1, e2, numB_FR (List.all_eq_true.1 hnum x (List.mem_of_getElem? hx)) e3⟩
  · exact hq.elim

theorem ok_buildSliceO {grp : Option Nat} {t el : TypeId} {len : Nat} {parts : Array (Nat × Operand)} {z : List AV} {ps : List (Nat × Nat × IX)} (ho : o.op = .buildSlice t len parts) (hu : P.underlying t = some (.slice el))
    (hg : grpOf P el = some grp) (hz : zeroOf P el = some z) (h24 : len * gsize grp ≤ 16777216) (hzl : z.length = gsize grp) (hpos : 0 < gsize grp)
    (hm : (parts.toList.mapM fun ((i, x) : Nat × Operand) => (cX P el x).map fun x => (i * gsize grp, gsize grp, x)) = some ps)
    (hq : (evOp call key (.buildSliceO grp (List.replicate len z).flatten ps) e h).all Q) : OpOk P M L w h a o Q := by
  simp only [evOp] at hq
  obtain ⟨i, hi, hsz⟩ := info_of_grp hg
  split at hq
  · next hone =>
    have hlen : (List.replicate len z).flatten.length = len * gsize grp := by simp [hzl]
    rw [hlen, Nat.mul_div_cancel _ hpos, Res.all_bind] at hq
    have hz0 : ∀ (c0 : Array Value), (len * gsize grp = 0 → c0 = #[]) → (len * gsize grp ≠ 0 → ∀ M L, RowL M L z c0.toList) → ∀ M L, RowL M L (List.replicate len z).flatten ((Array.range (len * gsize grp)).map (c0[· % c0.size]!)).toList := by
      intro c0 hc1 hc2 M L
      by_cases h0 : len * gsize grp = 0
      · rw [h0]
        have : (List.replicate len z).flatten = [] := List.eq_nil_of_length_eq_zero (by omega)
        rw [this]
        exact ⟨by simp, fun i x v hx => by simp at hx⟩
      · exact zeros_row (hc2 h0) len (len * gsize grp) (by rw [hzl]) (by omega) M L
    obtain ⟨c0, hc0, hrun⟩ : ∃ c0 : Array Value, (∀ M L, RowL M L (List.replicate len z).flatten ((Array.range (len * gsize grp)).map (c0[· % c0.size]!)).toList) ∧
        (∀ (pp : Array (Nat × Value)) c', Instr.fill (fun i => some (i * gsize grp, gsize grp)) ((Array.range (len * gsize grp)).map (c0[· % c0.size]!)) pp.toList = some c' →
          (Instr.buildSlice t len pp).run P w = .ok (.slice (some ⟨w.heap.size, 0, none⟩) len len) { w with heap := w.heap.push (.cells c' el) }) := by
      by_cases h0 : len * gsize grp = 0
      · refine ⟨#[], hz0 #[] (fun _ => rfl) (fun h => (h h0).elim), fun pp c' hf => ?_⟩
        rw [h0] at hf
        have hr0 : (Array.range 0).map (((#[] : Array Value))[· % (#[] : Array Value).size]!) = #[] := by simp
        rw [hr0] at hf
        have hl0 : len = 0 := by
          rcases Nat.mul_eq_zero.1 h0 with h | h
          · exact h
          · omega
        subst hl0
        have hrg : Array.range 0 = #[] := by decide
        simp [Instr.buildSlice, run_underlying hu, sizeOf, typeInfo, hi, hsz, hf, newRow, hrg]
      · have hone' : z.all oneB = true := by
          rw [List.all_eq_true]
          intro x hx
          refine List.all_eq_true.1 hone x ?_
          rw [List.mem_flatten]
          refine ⟨z, ?_, hx⟩
          rw [List.mem_replicate]
          refine ⟨fun hl0 => h0 (by rw [hl0, Nat.zero_mul]), rfl⟩
        obtain ⟨i', zv, hi', hzv, hsz', hrow⟩ := zeroOf_spec hz hone'
        rw [hi] at hi'; cases hi'
        refine ⟨zv.cells, hz0 zv.cells (fun h => (h0 h).elim) (fun _ => hrow), fun pp c' hf => ?_⟩
        have h24' : ¬ len * gsize grp > 2 ^ 24 := by omega
        simp [Instr.buildSlice, run_underlying hu, sizeOf, typeInfo, zeroValue, hi, hzv, hsz, h0, h24', hf, newRow]
    obtain ⟨hl, hel⟩ := mapM_opt _ _ hm
    obtain ⟨cs', c', h1, h2, h3, h4⟩ := fill_ok (place := fun i => some (i * gsize grp, gsize grp)) hE parts.toList ps _ _ _ hl (fun i j x off sz ix e1 e2 => by
        have hd := hel i (j, x) _ e1 e2
        simp only [Option.map_eq_some_iff, Prod.mk.injEq] at hd
        obtain ⟨y, hy, rfl, rfl, rfl⟩ := hd
        exact ⟨rfl, el, hy⟩) (hc0 M L) hq
    have h1' : Instr.fill (fun i => some (i * gsize grp, gsize grp)) ((Array.range (len * gsize grp)).map (c0[· % c0.size]!)) (parts.map fun (i, x) => (i, a.eval x)).toList = some c' := by
      rw [Array.toList_map]; exact h1
    obtain ⟨g1, g2⟩ := hr.new_row h.length cs' c' el { w with heap := w.heap.push (.cells c' el) } rfl (by have := h2.1; simp at this; omega) (by simpa using h2.row)
    refine ⟨.slice (some ⟨w.heap.size, 0, none⟩) len len, _, .inl ?_, ⟨_, _, M, _, h3, g1, g2, ?_⟩⟩
    · simp only [execOp, ho, Sem.run_bind, hrun _ _ h1', Result.andThen_ok, Sem.run_pure]
    · have hc2 : c'.size = len * gsize grp := by have := h2.1; simp at this; omega
      refine @VR.oslice M _ h.length _ grp 0 len (some len) ⟨w.heap.size, cs'.length, c'.size⟩ len 0 (Lay.upd_self _ _ _ _) ?_ ?_ (fun _ => rfl) (fun c2 hc => ?_) (fun hc => by cases hc) (Nat.le_refl _)
      · simp only [Nat.zero_add]; omega
      · simp only [Nat.zero_add]; omega
      · cases hc; exact ⟨rfl, by simp only [Nat.zero_add]; omega⟩
  · exact hq.elim

end ops
end Go.Ev
