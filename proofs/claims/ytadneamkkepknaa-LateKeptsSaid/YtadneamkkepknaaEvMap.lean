/- Maps: making, looking, writing, deleting, and going over them. No condition. -/
import Derived.Test.YtadneamkkepknaaEvOps9
import Derived.MapKept
set_option linter.unusedSimpArgs false
set_option linter.unusedVariables false
namespace Go.Ev
open Go

variable {P : Program} {M : Mem} {L : Lay} {w : World} {h : Heap} {e : Env} {a : Act} {Q : AV × Heap → Prop}

theorem keyT_spec {kt : TypeId} {kn : Option Nat} (h : keyT P kt = some kn) :
    (kn = none ∧ ∃ kk, P.underlying kt = some (.int kk)) ∨ (kn = some (P.cellsOf kt) ∧ intsOnly P kt = true) := by
  unfold keyT at h
  split at h
  · next hi =>
    cases h
    unfold isIntT at hi
    split at hi
    · next kk hu => exact .inl ⟨rfl, kk, hu⟩
    · cases hi
  · split at h
    · next hi => cases h; exact .inr ⟨rfl, hi⟩
    · cases h

/-- two keys of integers: what the model says of them -/
theorem run_equal_ints {kt : TypeId} (hio : intsOnly P kt = true) {cs ds : List AV} {vs us : Array Value} {b : Bool} (hlen : cs.length = P.cellsOf kt)
    (hl1 : cs.length = vs.size) (hh1 : ∀ (i : Nat) (c : AV) (v : Value), cs[i]? = some c → vs[i]? = some v → VR M L c v)
    (hl2 : ds.length = us.size) (hh2 : ∀ (i : Nat) (c : AV) (v : Value), ds[i]? = some c → us[i]? = some v → VR M L c v) (hb : eqInts cs ds = some b) (w : World) :
    (Op.equal kt (.agg vs) (.agg us)).run P w = .ok b w := by
  unfold intsOnly at hio
  simp only [Bool.and_eq_true, Bool.not_eq_true'] at hio
  obtain ⟨⟨hst, hgt⟩, hkind⟩ := hio
  show (Op.equalIn 10000 kt (.agg vs) (.agg us)).run P w = .ok b w
  split at hkind
  · next n el hu =>
    simp only [Bool.and_eq_true, beq_iff_eq] at hkind
    obtain ⟨⟨hit, hc1⟩, hcn⟩ := hkind
    obtain ⟨kk, hue⟩ : ∃ kk, P.underlying el = some (.int kk) := by
      unfold isIntT at hit
      split at hit
      · next kk hu => exact ⟨kk, hu⟩
      · cases hit
    obtain ⟨ei, hei⟩ : ∃ ei, P.info? el = some ei := by
      unfold Program.cellsOf at hc1
      cases hi : P.info? el with
      | none => simp [hi] at hc1
      | some i => exact ⟨i, rfl⟩
    rw [run_equalIn_array (P := P) w 9999 vs us hu hei, hc1, List.range_eq_range']
    exact eqItems_ints hue 9998 hl1 hl2 hh1 hh2 n 0 b (by omega) (by simpa using hb)
  · next fs hu =>
    simp only [Bool.and_eq_true, beq_iff_eq] at hkind
    obtain ⟨hall, hcn⟩ := hkind
    have hfo : P.fieldsOf kt = fs := by simp [Program.fieldsOf, hu]
    rw [run_equalIn_struct (P := P) w 9999 kt vs us (by rw [hfo]; exact hu) hst, hfo]
    refine eqFields_ints 9998 hl1 hl2 hh1 hh2 fs.toList 0 b (by simp; omega) (fun i f hf => ?_) (by simpa using hb)
    have := all_zipIdx fs.toList hall i f hf
    simp only [Bool.and_eq_true, beq_iff_eq, bne_iff_ne] at this
    exact ⟨this.1.1, by omega, this.2⟩
  · cases hkind

/-- the entries' keys and values -/
def Rows (M : Mem) (L : Lay) (ks vs : List AV) (es : List MapEntry) : Prop :=
  ks.length = es.length ∧ vs.length = es.length ∧ (∀ (i : Nat) (c : AV) (e : MapEntry), ks[i]? = some c → es[i]? = some e → VR M L c e.key) ∧
    (∀ (i : Nat) (c : AV) (e : MapEntry), vs[i]? = some c → es[i]? = some e → VR M L c e.val)

theorem keyOk_none {v : AV} (h : keyOk none v = true) : ∃ k n, v = .int k n := by
  cases v <;> simp [keyOk] at h
  exact ⟨_, _, rfl⟩

theorem keyOk_some {n : Nat} {v : AV} (h : keyOk (some n) v = true) : ∃ cs, v = .agg cs ∧ cs.length = n ∧ cs.all isIntB = true := by
  cases v <;> simp [keyOk] at h
  exact ⟨_, rfl, h.1, by simpa using h.2⟩

theorem findNow_ok {kk : IntKind} {k0 : IntKind} {n0 : Int} : ∀ (ks : List AV) (es : List MapEntry) (i : Nat) (r : Option Nat), ks.length = es.length →
    (∀ (i : Nat) (c : AV) (e : MapEntry), ks[i]? = some c → es[i]? = some e → VR M L c e.key) → findK none (.int k0 n0) ks i = some r →
    ∃ q, Instr.findNow (.int kk) (.int k0 n0) es i = some q ∧ (r = none → q = none) ∧ (∀ j, r = some j → i ≤ j ∧ ∃ e, es[j - i]? = some e ∧ q = some (j, e.val))
  | [], [], i, r, _, _, hq => by
    simp only [findK, Option.some.injEq] at hq
    subst hq
    exact ⟨none, rfl, fun _ => rfl, fun j hj => by cases hj⟩
  | [], _ :: _, i, r, hl, _, _ => by simp at hl
  | _ :: _, [], i, r, hl, _, _ => by simp at hl
  | k :: ks, e :: es, i, r, hl, hh, hq => by
    simp only [findK] at hq
    split at hq
    · next hk =>
      obtain ⟨k1, n1, rfl⟩ := keyOk_none hk
      have hv := (hh 0 _ e rfl rfl).int_inv
      split at hq
      · next he =>
        obtain ⟨k2, x, y, h1, h2, hor⟩ := eqInts_cons (r := []) (s := []) he
        cases h1; cases h2
        rcases hor with ⟨hxy, _⟩ | ⟨_, hf⟩
        · subst hxy
          cases hq
          refine ⟨some (i, e.val), by simp [Instr.findNow, Instr.sameNow, hv], nofun, fun j hj => ?_⟩
          cases hj
          exact ⟨Nat.le_refl _, e, by simp, rfl⟩
        · cases hf
      · next he =>
        obtain ⟨k2, x, y, h1, h2, hor⟩ := eqInts_cons (r := []) (s := []) he
        cases h1; cases h2
        rcases hor with ⟨hxy, hf⟩ | ⟨hne, _⟩
        · simp [eqInts] at hf
        · obtain ⟨q, h1, h2, h3⟩ := findNow_ok (kk := kk) ks es (i + 1) r (by simpa using hl) (fun j c e' a b => hh (j + 1) c e' a b) hq
          refine ⟨q, ?_, h2, fun j hj => ?_⟩
          · have : (n0 == n1) = false := by simpa using hne
            simp [Instr.findNow, Instr.sameNow, hv, this, h1]
          · obtain ⟨g1, e', g2, g3⟩ := h3 j hj
            exact ⟨by omega, e', by rw [show j - i = (j - (i + 1)) + 1 from by omega]; exact g2, g3⟩
      · cases hq
    · cases hq

theorem findAsking_ok {kt : TypeId} (hio : intsOnly P kt = true) {cs : List AV} {ku : Array Value} (hlen : cs.length = P.cellsOf kt) (hkv : VR M L (.agg cs) (.agg ku)) (w : World) : ∀ (ks : List AV) (es : List MapEntry) (i : Nat) (r : Option Nat), ks.length = es.length →
    (∀ (i : Nat) (c : AV) (e : MapEntry), ks[i]? = some c → es[i]? = some e → VR M L c e.key) → findK (some (P.cellsOf kt)) (.agg cs) ks i = some r →
    ∃ q, (Instr.findAsking kt (.agg ku) es i).run P w = .ok q w ∧ (r = none → q = none) ∧ (∀ j, r = some j → i ≤ j ∧ ∃ e, es[j - i]? = some e ∧ q = some (j, e.val))
  | [], [], i, r, _, _, hq => by
    simp only [findK, Option.some.injEq] at hq
    subst hq
    exact ⟨none, rfl, fun _ => rfl, fun j hj => by cases hj⟩
  | [], _ :: _, i, r, hl, _, _ => by simp at hl
  | _ :: _, [], i, r, hl, _, _ => by simp at hl
  | k :: ks, e :: es, i, r, hl, hh, hq => by
    simp only [findK] at hq
    split at hq
    · next hk =>
      obtain ⟨ds, rfl, hdl, hdi⟩ := keyOk_some hk
      have hv := hh 0 _ e rfl rfl
      generalize hek : e.key = ek at hv
      cases hv with
      | @agg _ us hl2 hh2 =>
        cases hkv with
        | @agg _ _ hl1 hh1 =>
        split at hq
        · next he =>
          cases hq
          have := run_equal_ints hio hlen hl1 hh1 hl2 hh2 he w
          refine ⟨some (i, e.val), by simp [Instr.findAsking, hek, this], nofun, fun j hj => ?_⟩
          cases hj
          exact ⟨Nat.le_refl _, e, by simp, rfl⟩
        · next he =>
          have := run_equal_ints hio hlen hl1 hh1 hl2 hh2 he w
          obtain ⟨q, h1, h2, h3⟩ := findAsking_ok hio hlen (.agg hl1 hh1) w ks es (i + 1) r (by simpa using hl) (fun j c e' a b => hh (j + 1) c e' a b) hq
          refine ⟨q, by simp [Instr.findAsking, hek, this, h1], h2, fun j hj => ?_⟩
          obtain ⟨g1, e', g2, g3⟩ := h3 j hj
          exact ⟨by omega, e', by rw [show j - i = (j - (i + 1)) + 1 from by omega]; exact g2, g3⟩
        · cases hq
    · cases hq

/-- where a key is: the model's word -/
theorem findKey_ok {kt : TypeId} {kn : Option Nat} (hkt : keyT P kt = some kn) {k : AV} {kv : Value} (hk : keyOk kn k = true) (hv : VR M L k kv) {ks vs : List AV} {es : List MapEntry} (hrow : Rows M L ks vs es) {r : Option Nat}
    (hq : findK kn k ks 0 = some r) (w : World) :
    ∃ q, (Instr.findKey kt kv es).run P w = .ok q w ∧ (r = none → q = none) ∧ (∀ j, r = some j → ∃ e, es[j]? = some e ∧ q = some (j, e.val)) := by
  obtain ⟨hl, hl2, hks, _⟩ := hrow
  rcases keyT_spec hkt with ⟨rfl, kk, hu⟩ | ⟨rfl, hio⟩
  · obtain ⟨k0, n0, rfl⟩ := keyOk_none hk
    have := hv.int_inv
    subst this
    obtain ⟨q, h1, h2, h3⟩ := findNow_ok (kk := kk) ks es 0 r hl hks hq
    refine ⟨q, by simp [Instr.findKey, run_underlying hu, h1], h2, fun j hj => ?_⟩
    obtain ⟨_, e, g2, g3⟩ := h3 j hj
    exact ⟨e, by simpa using g2, g3⟩
  · obtain ⟨cs, rfl, hlen, hci⟩ := keyOk_some hk
    have hdesc : ∃ d, P.underlying kt = some d ∧ (∀ k, d ≠ .int k) ∧ d ≠ .string ∧ d ≠ .bool := by
      unfold intsOnly at hio
      simp only [Bool.and_eq_true] at hio
      obtain ⟨_, hkind⟩ := hio
      split at hkind
      · next n el hu => exact ⟨_, hu, nofun, nofun, nofun⟩
      · next fs hu => exact ⟨_, hu, nofun, nofun, nofun⟩
      · cases hkind
    obtain ⟨d, hu, hd1, hd2, hd3⟩ := hdesc
    have hv0 := hv
    cases hv with
    | @agg _ ku hl1 hh1 =>
      obtain ⟨q, h1, h2, h3⟩ := findAsking_ok hio hlen hv0 w ks es 0 r hl hks hq
      refine ⟨q, ?_, h2, fun j hj => ?_⟩
      · cases es with
        | nil =>
          have : q = none := by
            cases ks with
            | nil => simp only [findK, Option.some.injEq] at hq; exact h2 hq.symm
            | cons _ _ => simp at hl
          subst this
          simp [Instr.findKey, run_underlying hu, Instr.findNow]
        | cons e es =>
          have hnow : Instr.findNow d (.agg ku) (e :: es) 0 = none := by
            have hs : Instr.sameNow d (.agg ku) e.key = none := by
              cases d <;> first | rfl | (exact (hd1 _ rfl).elim) | (exact (hd2 rfl).elim) | (exact (hd3 rfl).elim)
            simp [Instr.findNow, hs]
          simp [Instr.findKey, run_underlying hu, hnow, h1]
      · obtain ⟨_, e, g2, g3⟩ := h3 j hj
        exact ⟨e, by simpa using g2, g3⟩

/-- a key of integers is one that can be a key -/
theorem checkKey_ok {kt : TypeId} {kn : Option Nat} (hkt : keyT P kt = some kn) {k : AV} {kv : Value} (hk : keyOk kn k = true) (hv : VR M L k kv) (em : Bool) (w : World) :
    (Instr.checkKey em 10000 kt kv).run P w = .ok () w := by
  have hint : ∀ (n : Nat) (t : TypeId) (kk k0 : IntKind) (n0 : Int), P.underlying t = some (.int kk) → (Instr.checkKey em (n + 1) t (.int k0 n0)).run P w = .ok () w := fun n t kk k0 n0 hu => by
    simp [Instr.checkKey, run_underlying hu]
  rcases keyT_spec hkt with ⟨rfl, kk, hu⟩ | ⟨rfl, hio⟩
  · obtain ⟨k0, n0, rfl⟩ := keyOk_none hk
    have := hv.int_inv
    subst this
    exact hint 9999 _ _ _ _ hu
  · obtain ⟨cs, rfl, hlen, hci⟩ := keyOk_some hk
    cases hv with
    | @agg _ ku hl1 hh1 =>
      have hcell : ∀ i, i < cs.length → ∃ k0 n0, ku[i]? = some (.int k0 n0) := fun i hi => by
        have h1 := List.getElem?_eq_getElem hi
        have h2 : ku[i]? = some ku[i] := Array.getElem?_eq_getElem (by omega)
        have h3 := hh1 i _ _ h1 h2
        have h4 := List.all_eq_true.1 hci cs[i] (List.getElem_mem _)
        cases hc : cs[i] <;> simp [hc, isIntB] at h4
        rw [hc] at h3
        exact ⟨_, _, by rw [h2, h3.int_inv]⟩
      unfold intsOnly at hio
      simp only [Bool.and_eq_true, Bool.not_eq_true'] at hio
      obtain ⟨_, hkind⟩ := hio
      show (Instr.checkKey em (9999 + 1) kt (.agg ku)).run P w = .ok () w
      rw [Instr.checkKey]
      split at hkind
      · next n el hu =>
        simp only [Bool.and_eq_true, beq_iff_eq] at hkind
        obtain ⟨⟨hit, hc1⟩, hcn⟩ := hkind
        obtain ⟨kk, hue⟩ : ∃ kk, P.underlying el = some (.int kk) := by
          unfold isIntT at hit
          split at hit
          · next kk hu => exact ⟨kk, hu⟩
          · cases hit
        obtain ⟨ei, hei, hes⟩ : ∃ ei, P.info? el = some ei ∧ ei.size = 1 := by
          unfold Program.cellsOf at hc1
          cases hi : P.info? el with
          | none => simp [hi] at hc1
          | some i => exact ⟨i, rfl, by simpa [hi] using hc1⟩
        simp only [Sem.run_bind, run_underlying hu, Result.andThen_ok]
        simp only [Std.Legacy.Range.forIn_eq_forIn_range', Std.Legacy.Range.size, Nat.sub_zero, Nat.add_one_sub_one, Nat.div_one]
        have each : ∀ j ∈ List.range' 0 n, j < cs.length := fun j hj => by
          rw [List.mem_range'_1] at hj; omega
        generalize List.range' 0 n = is at each
        induction is with
        | nil => simp
        | cons j is ih =>
          obtain ⟨k0, n0, hj⟩ := hcell j (each j (by simp))
          have p1 := run_part_int (w := w) hue (xs := ku) (off := j * 1) (v := .int k0 n0) (by rw [Nat.mul_one]; exact hj)
          have p2 := hint 9998 el kk k0 n0 hue
          have hsz : (sizeOf el).run P w = .ok 1 w := by simp [sizeOf, typeInfo, hei, hes]
          simp only [List.forIn_cons, Sem.run_bind, hsz, Result.andThen_ok, p1, p2, Sem.run_pure]
          exact ih (fun y hy => each y (by simp [hy]))
      · next fs hu =>
        simp only [Bool.and_eq_true, beq_iff_eq] at hkind
        obtain ⟨hall, hcn⟩ := hkind
        simp only [Sem.run_bind, run_underlying hu, Result.andThen_ok]
        rw [← Array.forIn_toList]
        have each : ∀ f ∈ fs.toList, isIntT P f.type = true ∧ f.offset < cs.length := fun f hf => by
          obtain ⟨i, hi⟩ := List.mem_iff_getElem?.1 hf
          have := all_zipIdx fs.toList hall i f hi
          simp only [Bool.and_eq_true, beq_iff_eq, bne_iff_ne] at this
          have hlt : i < fs.toList.length := (List.getElem?_eq_some_iff.1 hi).1
          simp at hlt
          exact ⟨this.1.1, by omega⟩
        clear hall
        generalize fs.toList = fl at each
        induction fl with
        | nil => simp
        | cons f fl ih =>
          obtain ⟨hit, hoff⟩ := each f (by simp)
          obtain ⟨kk, hue⟩ : ∃ kk, P.underlying f.type = some (.int kk) := by
            unfold isIntT at hit
            split at hit
            · next kk hu => exact ⟨kk, hu⟩
            · cases hit
          obtain ⟨k0, n0, hj⟩ := hcell f.offset hoff
          have p1 := run_part_int (w := w) hue (xs := ku) (off := f.offset) (v := .int k0 n0) hj
          have p2 := hint 9998 f.type kk k0 n0 hue
          by_cases hn : f.name = "_"
          · simp only [List.forIn_cons, Sem.run_bind, hn, ne_eq, not_true, if_false, Result.andThen_ok, Sem.run_pure]
            exact ih (fun y hy => each y (by simp [hy]))
          · simp only [List.forIn_cons, Sem.run_bind, hn, ne_eq, not_false_eq_true, if_true, Result.andThen_ok, p1, p2, Sem.run_pure]
            exact ih (fun y hy => each y (by simp [hy]))
      · cases hkind

end Go.Ev
