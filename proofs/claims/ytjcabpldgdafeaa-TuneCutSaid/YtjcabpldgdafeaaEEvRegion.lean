/- A statement's operations, in whatever order: the evaluator's word on them is the model's. No condition but those that stand in each. -/
import Derived.Test.YtjcabpldgdafeaaEEvOrder
set_option linter.unusedSimpArgs false
set_option linter.unusedVariables false
namespace Go.Ev
open Go
variable {P : Program} {M : Mem} {L : Lay} {w : World} {a : Act}
def Marks (M : Mem) (L : Lay) (w : World) (h : Heap) (b0 : Nat) (ds : List Deferred) : Prop :=
 ∃ rs : List Nat, ds = rs.map (fun r => { target := .collected r, args := #[] }) ∧ rs.Nodup ∧ ∀ r ∈ rs, b0 ≤ r ∧ w.heap[r]? = some (.deferred (some [])) ∧ ¬ Im h L r ∧ M r = none
theorem Marks.nil {h : Heap} {b0 : Nat} : Marks M L w h b0 [] := ⟨[], rfl, List.nodup_nil, fun r hr => by cases hr⟩
theorem Marks.mono {M' : Mem} {L' : Lay} {w' : World} {h h' : Heap} {b0 : Nat} {ds : List Deferred} (hf : Fr w h L M w' h' L' M') (hd : Marks M L w h b0 ds) : Marks M' L' w' h' b0 ds := by
 obtain ⟨rs, h1, h2, h3⟩ := hd
 refine ⟨rs, h1, h2, fun r hr => ?_⟩
 obtain ⟨g1, g2, g3, g4⟩ := h3 r hr
 have hlt : r < w.heap.size := (Array.getElem?_eq_some_iff.1 g2).1
 refine ⟨g1, by rw [hf.kept r hlt g3]; exact g2, fun hi => ?_, ?_⟩
 ·rcases hf.im r hi with hi | hi
  ·exact g3 hi
  ·omega
 ·cases hm : M' r with
  | none => rfl
  | some o =>
   rcases hf.memNew r o hm with hh | hh
   ·rw [g4] at hh; cases hh
   ·omega
structure SR (P : Program) (M : Mem) (L : Lay) (w : World) (n b0 : Nat) (s : St) (a : Act) : Prop where
 hr : HR P M L w s.heap
 he : ER M L s.env a
 df : Marks M L w s.heap b0 a.defers
 sz : n ≤ a.tmps.size
theorem SR.put {n b0 : Nat} {s : St} {M' : Mem} {L' : Lay} {w' : World} {h' : Heap} {v : AV} {cv : Value} {dst : Option Nat} (hs : SR P M L w n b0 s a) (hd : dst.getD 0 < n) (hr : HR P M' L' w' h')
  (hf : Fr w s.heap L M w' h' L' M') (hv : VR M' L' v cv) : SR P M' L' w' n b0 ⟨setDst s.env dst v, h'⟩ (a.put dst cv) := by
 have hM := hf.mem
 have hL := hf.lay
 refine ⟨hr, fun t => ?_, ?_, ?_⟩
 ·cases dst with
  | none => exact (hs.he t).mono hM hL
  | some d =>
   have hdt : d < a.tmps.size := Nat.lt_of_lt_of_le hd hs.sz
   simp only [setDst, Act.put]
   rw [getE_setE]
   by_cases h : d = t
   ·subst h
    rw [if_pos rfl]
    simp [Array.getD_eq_getD_getElem?, hdt]
    exact hv
   ·rw [if_neg h]
    have : (a.tmps.setIfInBounds d cv).getD t undef = a.tmps.getD t undef := by
     simp [Array.getD_eq_getD_getElem?, h]
    rw [this]
    exact (hs.he t).mono hM hL
 ·have : (a.put dst cv).defers = a.defers := by cases dst <;> rfl
  rw [this]
  exact hs.df.mono hf
 ·cases dst with
  | none => exact hs.sz
  | some d => simp [Act.put]; exact hs.sz
theorem oper_ok {call : Caller} (hcall : CallOk P call) {byr : FuncId → Bool} {r : Option Nat} {n b0 base i : Nat} {ops : Array Oper} {o : Oper} {s : St} {R : St → Prop} {K : Act → World → Prop} {Qx : Exit → Act → World → Prop}
  (ho : ops[i]? = some o) (hs : SR P M L w n b0 s a) (hq : (evOper call base (cOper P byr n ops o) s).all R)
  (hK : ∀ s' M' L' w' a', R s' → SR P M' L' w' n b0 s' a' → Fr w s.heap L M w' s'.heap L' M' → K a' w') : wpOpIn (W r) 0 P ops Qx i K a w := by
 rw [evOper_eq, Res.all_bind] at hq
 unfold cOper at hq
 split at hq
 ·simp only [stepVal, evOp, Res.all] at hq
 ·next op hop =>
  split at hop
  ·next hdn =>
   have run : ∀ key, (evOp call key op s.env s.heap).all (fun p => R ⟨setDst s.env o.dst p.1, p.2⟩) → o.wpIn (W r) 0 P a w K Qx := by
    intro key hq'
    have fin : ∀ w' cv, Good P M L w s.heap (fun p => R ⟨setDst s.env o.dst p.1, p.2⟩) w' cv → K (a.put o.dst cv) w' := by
     rintro w' cv ⟨v, h', M', L', h1, h2, h3, h4⟩
     exact hK _ _ _ _ _ h1 (hs.put hdn h2 h3 h4) h3
    refine ⟨fun _ _ => trivial, ?_⟩
    rw [Oper.semAt_eq _ _ _ (cOp_no_defer hop)]
    rcases op_ok hs.hr hs.he hcall key hop hq' with ⟨cv, w', hrun, hgood⟩ | ⟨f, vs, hrun, hcl⟩ | ⟨l, f, tmps, x, y, hrun, hrd⟩
    ·rcases hrun with hrun | ⟨hrun, rfl⟩
     ·rw [hrun]; exact fin w' cv hgood
     ·rw [hrun]; exact fin w' undef hgood
    ·rw [hrun, Oper.uponIn_enter]
     refine ⟨(fun h => by cases h), callsIn_W.2 (hcl.mono ?_)⟩
     rintro en w' ⟨cv, rfl, hgood⟩
     exact fin w' cv hgood
    ·rw [hrun, Oper.uponIn_round]
     refine ⟨(fun h => by cases h), RoundIn.mono (F := W r) (n := 0) hrd ?_⟩
     rintro en w' ⟨cv, rfl, hgood⟩
     exact fin w' cv hgood
   unfold wpOpIn
   rw [ho]
   simp only
   cases hg : o.guard with
   | none =>
    simp only [hg, stepVal] at hq
    have hw : Region.wanted o (yielded ops a.tmps) = true := by simp [Region.wanted, hg]
    rw [if_pos hw]
    exact run _ hq
   | some p =>
    obtain ⟨j, want⟩ := p
    simp only [hg] at hq
    split at hq
    ·next t ht =>
     simp only [stepVal] at hq
     have htv := hs.he t
     split at hq
     ·next b hb =>
      rw [hb] at htv
      have hcv := htv.bool_inv
      have hy : yielded ops a.tmps j = some b := by
       unfold yielded
       rw [ht]
       simp only [Option.bind_some]
       rw [Array.getD_eq_getD_getElem?] at hcv
       cases hat : a.tmps[t]? with
       | none => rw [hat] at hcv; simp [undef] at hcv
       | some v => rw [hat] at hcv; simp at hcv; rw [hcv]
      have hw : Region.wanted o (yielded ops a.tmps) = (b == want) := by
       simp [Region.wanted, hg, hy]
      split at hq
      ·next hbw =>
       rw [if_pos (by rw [hw]; simp [hbw])]
       exact run _ hq
      ·next hbw =>
       rw [if_neg (by rw [hw]; simp [hbw])]
       exact ⟨fun _ _ => trivial, hK _ M L w _ hq (hs.put hdn hs.hr (.refl _ _ _ _) .skip) (.refl _ _ _ _)⟩
     ·next hb =>
      rw [hb] at htv
      have hcv : a.tmps.getD t undef = undef := by
       generalize a.tmps.getD t undef = u at htv
       cases htv; rfl
      have hy : yielded ops a.tmps j = none := by
       unfold yielded
       rw [ht]
       simp only [Option.bind_some]
       rw [Array.getD_eq_getD_getElem?] at hcv
       cases hat : a.tmps[t]? with
       | none => rfl
       | some v => rw [hat] at hcv; simp at hcv; rw [hcv]; rfl
      have hw : Region.wanted o (yielded ops a.tmps) = false := by
       simp [Region.wanted, hg, hy]
      rw [if_neg (by rw [hw]; simp)]
      exact ⟨fun _ _ => trivial, hK _ M L w _ hq (hs.put hdn hs.hr (.refl _ _ _ _) .skip) (.refl _ _ _ _)⟩
     ·exact hq.elim
    ·simp only [stepVal, evOp, Res.all] at hq
  ·cases hop
def evIdx (call : Caller) (base : Nat) (l : List IOper) : List Nat → St → Res St
 | [], s => .ret s
 | i :: r, s =>
  match l[i]? with
  | some o => (evOper call base o s).bind fun s => evIdx call base l r s
  | none => .fail
theorem evIdx_range (call : Caller) (base : Nat) (l : List IOper) : ∀ (m k : Nat) (s : St), k + m = l.length → evIdx call base l (List.range' k m) s = evOps call base (l.drop k) s
 | 0, k, s, hk => by
  rw [List.drop_of_length_le (by omega)]; rfl
 | m + 1, k, s, hk => by
  have hlt : k < l.length := by omega
  rw [List.range'_succ, List.drop_eq_getElem_cons hlt]
  simp only [evIdx, List.getElem?_eq_getElem hlt, evOps]
  congr 1
  funext s'
  exact evIdx_range call base l m (k + 1) s' (by omega)
theorem evOps_idx (call : Caller) (base : Nat) (l : List IOper) (s : St) : evOps call base l s = evIdx call base l (List.range l.length) s := by
 rw [List.range_eq_range', evIdx_range call base l l.length 0 s (by omega)]; rfl
theorem ops_ok {call : Caller} (hcall : CallOk P call) {byr : FuncId → Bool} {r : Option Nat} {n b0 base : Nat} {ops : Array Oper} {Qx : Exit → Act → World → Prop} {R : St → Prop} : ∀ (idx : List Nat) (M : Mem) (L : Lay) (w : World) (a : Act) (s : St),
  SR P M L w n b0 s a → (evIdx call base (ops.toList.map (cOper P byr n ops)) idx s).all R →
  (∀ s' M' L' w' a', R s' → SR P M' L' w' n b0 s' a' → Fr w s.heap L M w' s'.heap L' M' → Qx .normal a' w') → wpOpsIn (W r) 0 P ops Qx idx a w
 | [], M, L, w, a, s, hs, hq, hK => hK s M L w a hq hs (.refl _ _ _ _)
 | i :: r, M, L, w, a, s, hs, hq, hK => by
  rw [wpOpsIn_cons]
  simp only [evIdx] at hq
  split at hq
  ·next io hio =>
   rw [List.getElem?_map, Option.map_eq_some_iff] at hio
   obtain ⟨o, ho, rfl⟩ := hio
   rw [Array.getElem?_toList] at ho
   rw [Res.all_bind] at hq
   refine oper_ok hcall ho hs hq fun s' M' L' w' a' h1 h2 h3 => ?_
   exact ops_ok hcall r M' L' w' a' s' h2 h1 fun s2 M2 L2 w2 a2 g1 g2 g3 => hK s2 M2 L2 w2 a2 g1 g2 (h3.trans g3)
  ·exact hq.elim
def bitsOf (acc : List Nat) (o : Oper) : Nat := o.after.toList.foldl (fun s e => if Region.binds .any e then s ||| 2 ^ e.on ||| acc.getD e.on 0 else s) 0
theorem testBit_foldl (acc : List Nat) (j : Nat) : ∀ (es : List Edge) (s : Nat), (es.foldl (fun s e => if Region.binds .any e then s ||| 2 ^ e.on ||| acc.getD e.on 0 else s) s).testBit j = true →
  s.testBit j = true ∨ ∃ e ∈ es, Region.binds .any e = true ∧ (e.on = j ∨ (acc.getD e.on 0).testBit j = true)
 | [], s, h => .inl h
 | e :: es, s, h => by
  rw [List.foldl_cons] at h
  rcases testBit_foldl acc j es _ h with h | ⟨e', h1, h2, h3⟩
  ·split at h
   ·next hb =>
    rw [Nat.testBit_or, Nat.testBit_or] at h
    simp only [Bool.or_eq_true] at h
    rcases h with (h | h) | h
    ·exact .inl h
    ·rw [Nat.testBit_two_pow] at h
     exact .inr ⟨e, List.mem_cons_self, hb, .inl (by simpa using h)⟩
    ·exact .inr ⟨e, List.mem_cons_self, hb, .inr h⟩
   ·exact .inl h
  ·exact .inr ⟨e', List.mem_cons_of_mem _ h1, h2, h3⟩
theorem befL_spec : ∀ (ops : List Oper) (acc : List Nat), ∃ r, befL ops acc = acc ++ r ∧ r.length = ops.length ∧ ∀ (k : Nat) o, ops[k]? = some o → (befL ops acc)[acc.length + k]? = some (bitsOf ((befL ops acc).take (acc.length + k)) o)
 | [], acc => ⟨[], by simp [befL], rfl, fun k o h => by simp at h⟩
 | o :: ops, acc => by
  obtain ⟨r, h1, h2, h3⟩ := befL_spec ops (acc ++ [bitsOf acc o])
  have hb : befL (o :: ops) acc = befL ops (acc ++ [bitsOf acc o]) := rfl
  rw [hb]
  refine ⟨bitsOf acc o :: r, by rw [h1]; simp, by simp [h2], fun k o' hk => ?_⟩
  cases k with
  | zero =>
   simp at hk; subst hk
   rw [h1]
   simp
  | succ k =>
   simp at hk
   have := h3 k o' hk
   simp only [List.length_append, List.length_cons, List.length_nil] at this
   have he : acc.length + (k + 1) = acc.length + (0 + 1) + k := by omega
   rw [he]; exact this
theorem bef_bits {ops : List Oper} {i j : Nat} {o : Oper} (ho : ops[i]? = some o) (hon : ∀ e ∈ o.after.toList, Region.binds .any e = true → e.on < i) (hb : ((befL ops []).getD i 0).testBit j = true) :
  ∃ e ∈ o.after.toList, Region.binds .any e = true ∧ (e.on = j ∨ ((befL ops []).getD e.on 0).testBit j = true) := by
 obtain ⟨r, h1, h2, h3⟩ := befL_spec ops []
 have := h3 i o ho
 simp only [List.length_nil, Nat.zero_add] at this
 rw [List.getD_eq_getElem?_getD, this] at hb
 simp only [Option.getD_some] at hb
 rcases testBit_foldl _ j _ 0 hb with h | ⟨e, he, hbd, hor⟩
 ·simp at h
 ·refine ⟨e, he, hbd, ?_⟩
  rcases hor with hor | hor
  ·exact .inl hor
  ·right
   have hlt := hon e he hbd
   rw [List.getD_eq_getElem?_getD, List.getElem?_take, if_pos hlt, ← List.getD_eq_getElem?_getD] at hor
   exact hor
theorem front {call : Caller} (hcalm : Calm call) {base : Nat} {l : List IOper} {i : Nat} {o : IOper} (hi : l[i]? = some o) {R : St → Prop} : ∀ (pre post : List Nat) (s : St),
  (∀ j ∈ pre, ∀ x, l[j]? = some x → apart x o = true ∨ apartS x o = true) → (evIdx call base l (pre ++ i :: post) s).all R → (evIdx call base l (i :: (pre ++ post)) s).all R
 | [], post, s, _, hq => hq
 | j :: pre, post, s, hap, hq => by
  simp only [List.cons_append, evIdx] at hq
  split at hq
  ·next x hx =>
   rw [Res.all_bind] at hq
   have hq' := Res.all_mono _ hq fun s' hs' => front hcalm hi pre post s' (fun k hk => hap k (List.mem_cons_of_mem _ hk)) hs'
   simp only [evIdx, hi, Res.all_bind] at hq'
   have := (hap j List.mem_cons_self x hx).elim (fun h => apart_swap hcalm base h hq') (fun h => apartS_swap hcalm base h hq')
   simp only [List.cons_append, evIdx, hi, hx, Res.all_bind]
   exact this
  ·exact hq.elim
theorem draw_ok {call : Caller} (hcall : CallOk P call) (hcalm : Calm call) {byr : FuncId → Bool} {r : Option Nat} {n b0 base : Nat} {ops : Array Oper} {l : List IOper} (hll : l.length = ops.size) (href : ∀ (i : Nat) o io, ops[i]? = some o → l[i]? = some io → ∀ (s : St) (Q : St → Prop), (evOper call base io s).all Q → (evOper call base (cOper P byr n ops o) s).all Q) (hok : orderOk ops l = true)
  {Qx : Exit → Act → World → Prop} {R : St → Prop} : ∀ (fuel : Nat) (listed : Array Bool) (M : Mem) (L : Lay) (w : World) (a : Act) (s : St),
  listed.size = ops.size → (((List.range ops.size).filter fun i => !listed.getD i true).length ≤ fuel) →
  (∀ k o, ops[k]? = some o → listed.getD k true = true → ∀ e ∈ o.after, Region.binds .any e = true → listed.getD e.on false = true) →
  SR P M L w n b0 s a → (evIdx call base l ((List.range ops.size).filter fun i => !listed.getD i true) s).all R →
  (∀ s' M' L' w' a', R s' → SR P M' L' w' n b0 s' a' → Fr w s.heap L M w' s'.heap L' M' → Qx .normal a' w') → wpAnyIn (W r) 0 P .any ops Qx fuel listed a w := by
 have hget : ∀ (i : Nat) o, ops[i]? = some o → ∃ io, l[i]? = some io := fun i o ho => by
  have hlt : i < ops.size := (Array.getElem?_eq_some_iff.1 ho).1
  exact ⟨l[i], List.getElem?_eq_getElem (by omega)⟩
 have hok' : ∀ (i : Nat) (o : Oper), ops[i]? = some o → (∀ e ∈ o.after.toList, Region.binds .any e = true → e.on < i) ∧
   ∀ j x y, j < i → l[j]? = some x → l[i]? = some y → ((befL ops.toList []).getD i 0).testBit j = true ∨ (apart x y = true ∨ apartS x y = true) := by
  intro i o ho
  unfold orderOk at hok
  have hlt : i < ops.size := (Array.getElem?_eq_some_iff.1 ho).1
  obtain ⟨io, hio⟩ := hget i o ho
  have h1 := all_zipIdx _ hok i io hio
  simp only [Bool.and_eq_true] at h1
  obtain ⟨h2, h3⟩ := h1
  refine ⟨fun e he hb => ?_, fun j x y hj hx hy => ?_⟩
  ·rw [ho] at h2
   simp only [Option.map_some, Option.getD_some] at h2
   have := List.all_eq_true.1 h2 e he
   simp only [Bool.or_eq_true, Bool.not_eq_true', decide_eq_true_eq] at this
   rcases this with this | this
   ·rw [hb] at this; cases this
   ·exact this
  ·rw [hio] at hy
   cases hy
   have := all_zipIdx _ h3 j x (by rw [List.getElem?_take, if_pos hj, hx])
   simp only [Bool.or_eq_true] at this
   rcases this with (h | h) | h
   ·exact .inl h
   ·exact .inr (.inl h)
   ·exact .inr (.inr h)
 -- what stands before an operation that is listed is listed
 have closed : ∀ (listed : Array Bool), (∀ k o, ops[k]? = some o → listed.getD k true = true → ∀ e ∈ o.after, Region.binds .any e = true → listed.getD e.on false = true) →
   ∀ (i : Nat), ∀ (o : Oper), ops[i]? = some o → (∀ e ∈ o.after, Region.binds .any e = true → listed.getD e.on false = true) → ∀ j, ((befL ops.toList []).getD i 0).testBit j = true → listed.getD j false = true := by
  intro listed hcl i
  induction i using Nat.strongRecOn with
  | _ i ih =>
   intro o ho hdeps j hb
   obtain ⟨e, he, hbd, hor⟩ := bef_bits (by rw [Array.getElem?_toList]; exact ho) (hok' i o ho).1 hb
   have hle := hdeps e (by simpa using he) hbd
   rcases hor with rfl | hor
   ·exact hle
   ·have hlt := (hok' i o ho).1 e he hbd
    have hos : e.on < ops.size := Nat.lt_trans hlt (Array.getElem?_eq_some_iff.1 ho).1
    have hoe : ops[e.on]? = some ops[e.on] := Array.getElem?_eq_getElem hos
    have hlt' : listed.getD e.on true = true := by
     rw [Array.getD_eq_getD_getElem?] at hle ⊢
     cases hle' : listed[e.on]? with
     | none => rw [hle'] at hle; simp at hle
     | some v => rw [hle'] at hle; simpa using hle
    exact ih e.on hlt _ hoe (hcl e.on _ hoe hlt') j hor
 intro fuel
 induction fuel with
 | zero =>
  intro listed M L w a s hsz hlen hcl hs hq hK
  have hnil : ((List.range ops.size).filter fun i => !listed.getD i true) = [] := List.eq_nil_of_length_eq_zero (by omega)
  rw [hnil] at hq
  refine ⟨?_, hK s M L w a hq hs (.refl _ _ _ _)⟩
  rw [List.eq_nil_iff_forall_not_mem]
  intro i hi
  rw [mem_ready] at hi
  obtain ⟨h1, o, ho, _⟩ := hi
  have : i ∈ ((List.range ops.size).filter fun i => !listed.getD i true) := by
   simp only [List.mem_filter, List.mem_range]
   exact ⟨(Array.getElem?_eq_some_iff.1 ho).1, by rw [h1]; rfl⟩
  rw [hnil] at this; cases this
 | succ fuel ih =>
  intro listed M L w a s hsz hlen hcl hs hq hK
  refine ⟨fun hnr => ?_, fun i hi => ?_⟩
  ·-- nothing is ready: nothing is left
   cases hR : ((List.range ops.size).filter fun i => !listed.getD i true) with
   | nil => rw [hR] at hq; exact hK s M L w a hq hs (.refl _ _ _ _)
   | cons i0 rest =>
    exfalso
    have hmem : i0 ∈ ((List.range ops.size).filter fun i => !listed.getD i true) := by rw [hR]; exact List.mem_cons_self
    simp only [List.mem_filter, List.mem_range, Bool.not_eq_true'] at hmem
    obtain ⟨hlt, hun⟩ := hmem
    have hsorted : List.Pairwise (· < ·) ((List.range ops.size).filter fun i => !listed.getD i true) := List.Pairwise.filter _ List.pairwise_lt_range
    rw [hR] at hsorted
    have hmin := (List.pairwise_cons.1 hsorted).1
    have ho : ops[i0]? = some ops[i0] := Array.getElem?_eq_getElem hlt
    have : i0 ∈ Region.ready .any ops listed := by
     rw [mem_ready]
     refine ⟨hun, _, ho, fun e he hb => ?_⟩
     have hon := (hok' i0 _ ho).1 e (by simpa using he) hb
     have hls : e.on < listed.size := by omega
     rw [Array.getD_eq_getD_getElem?, Array.getElem?_eq_getElem hls]
     simp only [Option.getD_some]
     cases hv : listed[e.on] with
     | true => rfl
     | false =>
      have hm : e.on ∈ ((List.range ops.size).filter fun i => !listed.getD i true) := by
       simp only [List.mem_filter, List.mem_range, Bool.not_eq_true']
       exact ⟨by omega, by rw [Array.getD_eq_getD_getElem?, Array.getElem?_eq_getElem hls]; simpa using hv⟩
      rw [hR] at hm
      rcases List.mem_cons.1 hm with hm | hm
      ·omega
      ·have := hmin e.on hm; omega
    rw [hnr] at this; cases this
  ·rw [mem_ready] at hi
   obtain ⟨hun, o, ho, hdeps⟩ := hi
   have hlt : i < ops.size := (Array.getElem?_eq_some_iff.1 ho).1
   have hmem : i ∈ ((List.range ops.size).filter fun i => !listed.getD i true) := by
    simp only [List.mem_filter, List.mem_range]; exact ⟨hlt, by rw [hun]; rfl⟩
   obtain ⟨pre, post, hsplit⟩ := List.append_of_mem hmem
   have hsorted : List.Pairwise (· < ·) ((List.range ops.size).filter fun i => !listed.getD i true) := List.Pairwise.filter _ List.pairwise_lt_range
   rw [hsplit] at hsorted hq
   have hpre : ∀ j ∈ pre, j < i := fun j hj => (List.pairwise_append.1 hsorted).2.2 j hj i List.mem_cons_self
   have hpost : ∀ j ∈ post, i < j := (List.pairwise_cons.1 (List.pairwise_append.1 hsorted).2.1).1
   obtain ⟨io, hli⟩ := hget i o ho
   have hfr := front hcalm hli pre post s (fun j hj x hx => by
    rcases (hok' i o ho).2 j x io (hpre j hj) hx hli with hb | hap
    ·exfalso
     have hl := closed listed hcl i o ho hdeps j hb
     have hjm : j ∈ ((List.range ops.size).filter fun i => !listed.getD i true) := by rw [hsplit]; exact List.mem_append_left _ hj
     simp only [List.mem_filter, List.mem_range, Bool.not_eq_true'] at hjm
     have hjs : j < listed.size := by omega
     rw [Array.getD_eq_getD_getElem?, Array.getElem?_eq_getElem hjs] at hl
     have h2 := hjm.2
     rw [Array.getD_eq_getD_getElem?, Array.getElem?_eq_getElem hjs] at h2
     simp only [Option.getD_some] at hl h2
     rw [hl] at h2; cases h2
    ·exact hap) hq
   simp only [evIdx, hli, Res.all_bind] at hfr
   have hlsz : i < listed.size := by omega
   have hnew : ((List.range ops.size).filter fun k => !(listed.setIfInBounds i true).getD k true) = pre ++ post := by
    have hg : ∀ k, (listed.setIfInBounds i true).getD k true = (listed.getD k true || decide (k = i)) := fun k => by
     simp only [Array.getD_eq_getD_getElem?, Array.getElem?_setIfInBounds]
     by_cases hk : i = k
     ·subst hk; simp [hlsz]
     ·have : ¬ k = i := fun h => hk h.symm
      simp [hk, this]
    have h1 : ((List.range ops.size).filter fun k => !(listed.setIfInBounds i true).getD k true) = (((List.range ops.size).filter fun k => !listed.getD k true).filter fun k => !decide (k = i)) := by
     rw [List.filter_filter]
     congr 1
     funext k
     rw [hg, Bool.not_or, Bool.and_comm]
    rw [h1, hsplit, List.filter_append, List.filter_cons]
    simp only [decide_true, Bool.not_true, Bool.false_eq_true, if_false]
    congr 1
    ·rw [List.filter_eq_self]
     intro k hk
     have := hpre k hk
     simp; omega
    ·rw [List.filter_eq_self]
     intro k hk
     have := hpost k hk
     simp; omega
   refine oper_ok hcall ho hs (href i o io ho hli _ _ hfr) fun s' M' L' w' a' h1 h2 h3 => ?_
   refine ih (listed.setIfInBounds i true) M' L' w' a' s' (by simp [hsz]) ?_ ?_ h2 (by rw [hnew]; exact h1) fun s2 M2 L2 w2 a2 g1 g2 g3 => hK s2 M2 L2 w2 a2 g1 g2 (h3.trans g3)
   ·rw [hnew]
    rw [hsplit] at hlen
    simp at hlen ⊢; omega
   ·intro k ok hok2 hlk e he hb
    by_cases hk : k = i
    ·subst hk
     rw [ho] at hok2; cases hok2
     exact getD_set_true (hdeps e he hb)
    ·rw [getD_set_ne true (fun h => hk h.symm)] at hlk
     exact getD_set_true (hcl k ok hok2 hlk e he hb)
end Go.Ev
