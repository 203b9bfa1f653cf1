/- One operation, whatever it is: the evaluator's word on it is the model's. No condition but those that stand in each. -/
import Derived.Test.YtjcabpldgdafeaaEEvMap
import Derived.RangeFuncLeaves
import Derived.OrdersIn
import Derived.LoopNIn
set_option linter.unusedSimpArgs false
set_option linter.unusedVariables false
namespace Go.Ev
open Go
variable {P : Program} {M : Mem} {L : Lay} {w : World} {h : Heap} {e : Env} {a : Act} {Q : AV × Heap → Prop}
def W (r : Option Nat) : Fence := { Fence.wide with round := r }
theorem callsIn_W {r : Option Nat} {n : Nat} {f : FuncId} {args : Array Value} {R : Ending → World → Prop} : CallsIn (W r) n P f args w R ↔ Calls P f args w R :=
 callsIn_wide (n := n)
def CallFn (P : Program) (call : Caller) : Prop :=
 ∀ (raw : Bool) (f : FuncId) (as : List AV) (h : Heap) (Q : AV × Heap → Prop), (call raw (.fn f) as h).all Q →
  (∃ fn, P.funcs[f]? = some fn ∧ (fn.name == "runtime.NumGoroutine") = false ∧ fn.body.isNone = false) ∧
  ∀ (M : Mem) (L : Lay) (w : World) (vs : Array Value), HR P M L w h → VRs M L as vs →
   Calls P f vs w fun en w' => ∃ cv, en = .returned cv ∧ Good P M L w h Q w' cv
def CallYld (P : Program) (call : Caller) : Prop :=
 ∀ (raw : Bool) (key ver : Nat) (as : List AV) (h : Heap) (Q : AV × Heap → Prop), (call raw (.yld key ver) as h).all Q →
  ∀ (M : Mem) (L : Lay) (w : World) (vs : Array Value) (info : Info), HR P M L w h → VRs M L as vs → L key ver = some info →
   ∃ lr : Loop, w.heap[info.blk]? = some (.loop lr) ∧ vs.size = lr.params.size ∧
    RoundIn Fence.wide 0 P info.blk lr.fn ((lr.params.zip vs).foldl (fun tmps (t, a) => tmps.setIfInBounds t a) lr.tmps) lr.assign lr.body w
     fun en w' => ∃ cv, en = .returned cv ∧ Good P M L w h Q w' cv
structure CallOk (P : Program) (call : Caller) : Prop where
 fn : CallFn P call
 yld : CallYld P call
def StepOk (P : Program) (M : Mem) (L : Lay) (w : World) (h : Heap) (a : Act) (o : Oper) (Q : AV × Heap → Prop) : Prop :=
 OpOk P M L w h a o Q ∨ (∃ f vs, (execOp a.eval o).run P w = .ok (.enter f vs) w ∧ Calls P f vs w fun en w' => ∃ cv, en = .returned cv ∧ Good P M L w h Q w' cv) ∨
  ∃ l f tmps x y, (execOp a.eval o).run P w = .ok (.round l f tmps x y) w ∧ RoundIn Fence.wide 0 P l f tmps x y w fun en w' => ∃ cv, en = .returned cv ∧ Good P M L w h Q w' cv
theorem cOp_no_defer {byr : FuncId → Bool} {o : Oper} {op : IOp} (hc : cOp P byr o = some op) : ∀ c, o.op ≠ .defer c := by
 intro c ho
 unfold cOp at hc
 rw [ho] at hc
 cases hc
theorem VRs.append {as bs : List AV} {vs us : Array Value} (h1 : VRs M L as vs) (h2 : VRs M L bs us) : VRs M L (as ++ bs) (vs ++ us) := by
 refine ⟨by simp [h1.1, h2.1], fun i x v hx hv => ?_⟩
 by_cases hi : i < as.length
 ·rw [List.getElem?_append_left hi] at hx
  rw [Array.getElem?_append_left (by rw [← h1.1]; exact hi)] at hv
  exact h1.2 i x v hx hv
 ·rw [List.getElem?_append_right (by omega)] at hx
  rw [Array.getElem?_append_right (by rw [← h1.1]; omega), ← h1.1] at hv
  exact h2.2 _ x v hx hv
theorem run_callFunc {f : FuncId} {fn : Func} {args : Array Value} (hf : P.funcs[f]? = some fn) (hn : (fn.name == "runtime.NumGoroutine") = false) (hb : fn.body.isNone = false) :
  (callFunc f args).run P w = .ok (.enter f args) w := by
 simp only [callFunc, Sem.run_bind, run_program, Result.andThen_ok, hf, hn, hb, Bool.false_eq_true, if_false, Sem.run_pure]
theorem op_ok (hr : HR P M L w h) (hE : ER M L e a) {call : Caller} (hcall : CallOk P call) (key : Nat) {o : Oper} {op : IOp} {byr : FuncId → Bool} (hc : cOp P byr o = some op)
  (hq : (evOp call key op e h).all Q) : StepOk P M L w h a o Q := by
 unfold cOp at hc
 cases hop : o.op with
 | move x =>
  simp only [hop, Option.map_eq_some_iff] at hc
  obtain ⟨ix, hx, rfl⟩ := hc
  exact .inl (ok_mv hr hE call key (.inl hop) hx hq)
 | assign x =>
  simp only [hop, Option.map_eq_some_iff] at hc
  obtain ⟨ix, hx, rfl⟩ := hc
  exact .inl (ok_mv hr hE call key (.inr hop) hx hq)
 | pick c x y =>
  simp only [hop, Option.bind_eq_some_iff, Option.map_eq_some_iff] at hc
  obtain ⟨ic, hic, ix, hx, iy, hy, rfl⟩ := hc
  exact .inl (ok_pick hr hE call key hop hic hx hy hq)
 | alloc t =>
  simp only [hop] at hc
  split at hc
  ·simp only [Option.map_eq_some_iff] at hc
   obtain ⟨z, hz, rfl⟩ := hc
   exact .inl (ok_alloc hr call key hop hz hq)
  ·cases hc
 | box t x =>
  simp only [hop] at hc
  split at hc
  ·simp only [Option.map_eq_some_iff] at hc
   obtain ⟨ix, hx, rfl⟩ := hc
   exact .inl (ok_box hr hE call key hop hx hq)
  ·cases hc
 | build t parts =>
  simp only [hop, Option.bind_eq_some_iff] at hc
  obtain ⟨z, hz, hc⟩ := hc
  split at hc
  ·next fs hu =>
   split at hc
   ·cases hc
   ·next hall =>
    simp only [Option.map_eq_some_iff] at hc
    obtain ⟨ps, hm, rfl⟩ := hc
    exact .inl (ok_build hr hE call key hop hz (.inl ⟨fs, hu, by simpa only [Bool.not_eq_true', Bool.not_eq_false] using hall, hm⟩) hq)
  ·next n el hu =>
   split at hc
   ·cases hc
   ·next hall =>
    simp only [Option.map_eq_some_iff] at hc
    obtain ⟨ps, hm, rfl⟩ := hc
    exact .inl (ok_build hr hE call key hop hz (.inr ⟨n, el, hu, by simpa only [Bool.not_eq_true', Bool.not_eq_false] using hall, hm⟩) hq)
  ·cases hc
 | buildSlice t len parts =>
  simp only [hop] at hc
  split at hc
  ·next el hu =>
   simp only [Option.bind_eq_some_iff] at hc
   obtain ⟨g, hg, z, hz, hc⟩ := hc
   split at hc
   ·next hcond =>
    obtain ⟨c1, c2, c3⟩ := hcond
    simp only [Option.bind_eq_some_iff] at hc
    obtain ⟨ps, hm, hc⟩ := hc
    split at hc
    ·cases hc
     exact .inl (ok_buildSlice hr hE call key hop hu hg hz c1 c2 c3 hm hq)
    ·split at hc
     ·cases hc
      exact .inl (ok_buildSliceO hr hE call key hop hu hg hz c1 c2 c3 hm hq)
     ·cases hc
   ·cases hc
  ·cases hc
 | load t x =>
  simp only [hop, Option.bind_eq_some_iff, Option.map_eq_some_iff] at hc
  obtain ⟨g, hg, ix, hx, rfl⟩ := hc
  exact .inl (ok_load hr hE call key hop hg hx hq)
 | store t x y =>
  simp only [hop, Option.bind_eq_some_iff, Option.map_eq_some_iff] at hc
  obtain ⟨g, hg, ix, hx, iy, hy, rfl⟩ := hc
  exact .inl (ok_store hr hE call key hop hg hx hy hq)
 | nilCheck x =>
  simp only [hop, Option.map_eq_some_iff] at hc
  obtain ⟨ix, hx, rfl⟩ := hc
  exact .inl (ok_nilCheck hr hE call key hop hx hq)
 | binOp op' t x y t2 =>
  simp only [hop] at hc
  split at hc
  ·next hn =>
   simp only [Option.map_eq_some_iff] at hc
   obtain ⟨ix, hx, rfl⟩ := hc
   exact .inl (ok_isNil hr hE call key hop hx hn hq)
  simp only [Option.bind_eq_some_iff] at hc
  obtain ⟨ix, hx, iy, hy, hc⟩ := hc
  split at hc
  ·cases hc; exact .inl (ok_bin hr hE call key hop hx hy hq)
  ·next hu =>
   split at hc
   ·cases hc; exact .inl (ok_eqB hr hE call key hop hx hy (.inl ⟨rfl, rfl⟩) hu hq)
   ·cases hc; exact .inl (ok_eqB hr hE call key hop hx hy (.inr ⟨rfl, rfl⟩) hu hq)
   ·cases hc
  ·split at hc
   ·next hio =>
    split at hc
    ·cases hc; exact .inl (ok_eqAgg hr hE call key hop hx hy (.inl ⟨rfl, rfl⟩) hio hq)
    ·cases hc; exact .inl (ok_eqAgg hr hE call key hop hx hy (.inr ⟨rfl, rfl⟩) hio hq)
    ·cases hc
   ·cases hc
  ·split at hc
   ·next hio =>
    split at hc
    ·cases hc; exact .inl (ok_eqAgg hr hE call key hop hx hy (.inl ⟨rfl, rfl⟩) hio hq)
    ·cases hc; exact .inl (ok_eqAgg hr hE call key hop hx hy (.inr ⟨rfl, rfl⟩) hio hq)
    ·cases hc
   ·cases hc
  ·cases hc
 | unOp op' t x =>
  simp only [hop, Option.map_eq_some_iff] at hc
  obtain ⟨ix, hx, rfl⟩ := hc
  exact .inl (ok_un hr hE call key hop hx hq)
 | convert s d x =>
  simp only [hop] at hc
  split at hc
  ·next k hd =>
   simp only [Option.bind_eq_some_iff, Option.map_eq_some_iff] at hc
   obtain ⟨ds, hs, ix, hx, rfl⟩ := hc
   exact .inl (ok_conv hr hE call key hop hd ⟨ds, hs⟩ hx hq)
  ·cases hc
 | makeFunc fn first captured =>
  cases fn with
  | func f =>
   simp only [hop, Option.bind_eq_some_iff, Option.map_eq_some_iff] at hc
   obtain ⟨i1, h1, i2, h2, rfl⟩ := hc
   exact .inl (ok_mkFunc hr hE call key hop h1 h2 hq)
  | method _ => simp [hop] at hc
  | methodOf _ _ => simp [hop] at hc
  | via _ _ _ _ => simp [hop] at hc
  | yield _ => simp [hop] at hc
 | makeSlice t l c =>
  simp only [hop] at hc
  split at hc
  ·next el hu =>
   simp only [Option.bind_eq_some_iff] at hc
   obtain ⟨g, hg, z, hz, il, hl, ic, hic, hc⟩ := hc
   split at hc
   ·next hcond =>
    obtain ⟨_, c2, c3, c4⟩ := hcond
    cases hc
    split at hq
    ·exact .inl (ok_mkSliceK hr hE call key hop hu hg hz c2 hl hic c3 c4 hq)
    ·exact .inl (ok_mkSlice hr hE call key hop hu hg hz c2 hl hic c3 c4 hq)
   ·cases hc
  ·cases hc
 | slice t x lo hi mx =>
  simp only [hop, Option.bind_eq_some_iff] at hc
  obtain ⟨ix, hx, il, hlo, ih, hhi, im, hmx, hc⟩ := hc
  split at hc
  ·next el hu =>
   simp only [Option.bind_eq_some_iff] at hc
   obtain ⟨g, hg, hc⟩ := hc
   split at hc
   ·next hpos => cases hc; exact .inl (ok_slice hr hE call key hop hu hg hpos hx hlo hhi hmx hq)
   ·cases hc
  ·next n el hu =>
   simp only [Option.bind_eq_some_iff] at hc
   obtain ⟨g, hg, hc⟩ := hc
   split at hc
   ·next hpos => cases hc; exact .inl (ok_sliceA hr hE call key hop hu hg hpos hx hlo hhi hmx hq)
   ·cases hc
  ·cases hc
 | fieldAddr s x n =>
  simp only [hop] at hc
  split at hc
  ·next fs hu =>
   simp only [Option.bind_eq_some_iff] at hc
   obtain ⟨f, hf, hc⟩ := hc
   split at hc
   ·next hz =>
    simp only [Option.map_eq_some_iff] at hc
    obtain ⟨ix, hx, rfl⟩ := hc
    exact .inl (ok_fieldAddr hr hE call key hop hu hf hz hx hq)
   ·cases hc
  ·cases hc
 | field s x n =>
  simp only [hop] at hc
  split at hc
  ·next fs hu =>
   simp only [Option.bind_eq_some_iff, Option.map_eq_some_iff] at hc
   obtain ⟨f, hf, g, hg, ix, hx, rfl⟩ := hc
   exact .inl (ok_field hr hE call key hop hu hf hg hx hq)
  ·cases hc
 | indexAddr t x i =>
  simp only [hop] at hc
  split at hc
  ·next el hu =>
   split at hc
   ·next hz =>
    simp only [Option.bind_eq_some_iff, Option.map_eq_some_iff] at hc
    obtain ⟨ix, hx, ii, hi, rfl⟩ := hc
    exact .inl (ok_indexAddr hr hE call key hop hu hz hx hi hq)
   ·cases hc
  ·next n el hu =>
   split at hc
   ·next hz =>
    simp only [Option.bind_eq_some_iff, Option.map_eq_some_iff] at hc
    obtain ⟨ix, hx, ii, hi, rfl⟩ := hc
    exact .inl (ok_indexAddrA hr hE call key hop hu hz hx hi hq)
   ·cases hc
  ·cases hc
 | index t x i =>
  simp only [hop] at hc
  split at hc
  ·next n el hu =>
   simp only [Option.bind_eq_some_iff, Option.map_eq_some_iff] at hc
   obtain ⟨g, hg, ix, hx, ii, hi, rfl⟩ := hc
   exact .inl (ok_index hr hE call key hop hu hg hx hi hq)
  ·cases hc
 | extract x i =>
  simp only [hop, Option.map_eq_some_iff] at hc
  obtain ⟨ix, hx, rfl⟩ := hc
  exact .inl (ok_extract hr hE call key hop hx hq)
 | makeMap t r =>
  simp only [hop] at hc
  split at hc
  ·next hcond =>
   cases hc
   have : r = none := by simpa using hcond.2
   subst this
   exact .inl (ok_mkMap hr call key hop hq)
  ·cases hc
 | lookup t x k ok =>
  simp only [hop] at hc
  split at hc
  ·next kt et hu =>
   simp only [Option.bind_eq_some_iff, Option.map_eq_some_iff] at hc
   obtain ⟨kn, hkn, z, hz, ix, hx, ik, hk, rfl⟩ := hc
   exact .inl (ok_lookup hr hE call key hop hu hkn hz hx hk hq)
  ·cases hc
 | mapUpdate t m k x =>
  simp only [hop] at hc
  split at hc
  ·next kt et hu =>
   simp only [Option.bind_eq_some_iff, Option.map_eq_some_iff] at hc
   obtain ⟨kn, hkn, im, hm, ik, hk, ix, hx, rfl⟩ := hc
   exact .inl (ok_mapUpdate hr hE call key (.inl hop) hu hkn hm hk hx hq)
  ·cases hc
 | insert t m k x =>
  simp only [hop] at hc
  split at hc
  ·next kt et hu =>
   simp only [Option.bind_eq_some_iff, Option.map_eq_some_iff] at hc
   obtain ⟨kn, hkn, im, hm, ik, hk, ix, hx, rfl⟩ := hc
   exact .inl (ok_mapUpdate hr hE call key (.inr hop) hu hkn hm hk hx hq)
  ·cases hc
 | mapEntry t m k =>
  simp only [hop] at hc
  split at hc
  ·next kt et hu =>
   simp only [Option.bind_eq_some_iff, Option.map_eq_some_iff] at hc
   obtain ⟨kn, hkn, z, hz, im, hm, ik, hk, rfl⟩ := hc
   exact .inl (ok_mapEntry hr hE call key hop hu hkn hz hm hk hq)
  ·cases hc
 | entryStore t m s x =>
  simp only [hop] at hc
  split at hc
  ·next kt et hu =>
   simp only [Option.bind_eq_some_iff, Option.map_eq_some_iff] at hc
   obtain ⟨im, hm, is, hs, ix, hx, rfl⟩ := hc
   exact .inl (ok_entryStore hr hE call key hop hu hm hs hx hq)
  ·cases hc
 | range t x =>
  simp only [hop] at hc
  split at hc
  ·next kt et hu =>
   split at hc
   ·simp only [Option.map_eq_some_iff] at hc
    obtain ⟨ix, hx, rfl⟩ := hc
    exact .inl (ok_range hr hE call key hop hu hx hq)
   ·cases hc
  ·cases hc
 | next x isS =>
  cases isS with
  | true => simp [hop] at hc
  | false =>
   simp only [hop, Option.map_eq_some_iff] at hc
   obtain ⟨ix, hx, rfl⟩ := hc
   exact .inl (ok_next hr hE call key hop hx hq)
 | entry x =>
  simp only [hop, Option.map_eq_some_iff] at hc
  obtain ⟨ix, hx, rfl⟩ := hc
  exact .inl (ok_entry hr hE call key hop hx hq)
 | call c =>
  obtain ⟨callee, cargs, ats⟩ := c
  simp only [hop] at hc
  cases callee with
  | invoke r m => simp at hc
  | value f =>
   cases f with
   | const v => simp at hc
   | global g => simp at hc
   | func f =>
    simp only [Option.map_eq_some_iff] at hc
    obtain ⟨xs, hxs, rfl⟩ := hc
    simp only [evOp] at hq
    have hv := allX_vrs hE hxs
    obtain ⟨⟨fn, hf, hn, hb⟩, hcl⟩ := hcall.fn _ f _ h Q hq
    refine .inr (.inl ⟨f, cargs.map a.eval, ?_, hcl M L w _ hr hv⟩)
    simp [execOp, hop, resolve, invoke, Act.eval, Deferred.ofValue, run_callFunc hf hn hb]
   | tmp t =>
    simp only [Option.map_eq_some_iff] at hc
    obtain ⟨xs, hxs, rfl⟩ := hc
    have hv := allX_vrs hE hxs
    have hfv := hE t
    simp only [evOp, IX.ev] at hq
    generalize getE e t = fv at hfv hq
    generalize hcv : a.tmps.getD t undef = cv at hfv
    split at hq
    ·next g fst cpt =>
     cases hfv with
     | @clo _ _ _ vf vc hl hk hh1 hh2 =>
      obtain ⟨⟨fn, hf, hn, hb⟩, hcl⟩ := hcall.fn _ _ _ h Q hq
      have hvv := (VRs.append (VRs.append (⟨hl, hh1⟩ : VRs M L fst vf) hv) (⟨hk, hh2⟩ : VRs M L cpt vc))
      refine .inr (.inl ⟨_, vf ++ cargs.map a.eval ++ vc, ?_, hcl M L w _ hr hvv⟩)
      simp [execOp, hop, resolve, invoke, Act.eval, hcv, Deferred.ofValue, run_callFunc hf hn hb]
    ·next k ver =>
     cases hfv with
     | @yld _ _ info hl =>
      obtain ⟨lr, hb, hsz, hround⟩ := hcall.yld _ _ _ _ h Q hq M L w _ info hr hv hl
      refine .inr (.inr ⟨_, _, _, _, _, ?_, hround⟩)
      have hsz' : ¬ (cargs.map a.eval).size ≠ lr.params.size := by omega
      simp only [execOp, hop, resolve, invoke, Act.eval, hcv, Deferred.ofValue, Sem.run_bind, Sem.run_pure, Result.andThen_ok, Instr.yield, Instr.getLoop, getObj, Sem.run, hb, Result.andThen, hsz', if_false]
      simp [hcv, hb, Sem.run]
      simpa using hsz
    ·exact hq.elim
  | builtin b =>
   cases b with
   | len =>
    simp only at hc
    split at hc
    ·next el x hu hxs =>
     simp only [Option.bind_eq_some_iff] at hu
     obtain ⟨s, hs, hu⟩ := hu
     have hx1 : cargs = #[x] := by apply Array.ext'; simpa using hxs
     subst hx1
     simp only [Option.map_eq_some_iff] at hc
     obtain ⟨ix, hx, rfl⟩ := hc
     exact .inl (ok_len hr hE call key hop hs hu hx hq)
    ·next n el x hu hxs =>
     simp only [Option.bind_eq_some_iff] at hu
     obtain ⟨s, hs, hu⟩ := hu
     have hx1 : cargs = #[x] := by apply Array.ext'; simpa using hxs
     subst hx1
     cases hc
     refine .inl (.pure hr (cv := .int .i64 n) ?_ .int hq)
     simp [execOp, hop, resolve, invoke, builtin, Builtin.len_, hs, run_underlying hu, goInt]
    ·next kt et x hu hxs =>
     simp only [Option.bind_eq_some_iff] at hu
     obtain ⟨s, hs, hu⟩ := hu
     have hx1 : cargs = #[x] := by apply Array.ext'; simpa using hxs
     subst hx1
     simp only [Option.map_eq_some_iff] at hc
     obtain ⟨ix, hx, rfl⟩ := hc
     exact .inl (ok_lenM hr hE call key hop hs hu hx hq)
    ·cases hc
    ·cases hc
   | delete =>
    simp only at hc
    split at hc
    ·next kt et x k hu hxs =>
     simp only [Option.bind_eq_some_iff] at hu
     obtain ⟨s, hs, hu⟩ := hu
     have hx1 : cargs = #[x, k] := by apply Array.ext'; simpa using hxs
     subst hx1
     simp only [Option.bind_eq_some_iff, Option.map_eq_some_iff] at hc
     obtain ⟨kn, hkn, ix, hx, ik, hk, rfl⟩ := hc
     exact .inl (ok_delete hr hE call key hop hs hu hkn hx hk hq)
    ·cases hc
   | append =>
    simp only at hc
    split at hc
    ·next el e2 x y hu hu2 hxs =>
     simp only [Option.bind_eq_some_iff] at hc
     obtain ⟨g, hg, z, hz, ix, hx, iy, hy, hc⟩ := hc
     split at hc
     ·next hcond =>
      obtain ⟨_, c2, c3, c4, c5, c6⟩ := hcond
      have hats : ats = #[ats.getD 0 0, ats.getD 0 0] := by apply Array.ext'; simpa using c2
      have hx1 : cargs = #[x, y] := by apply Array.ext'; simpa using hxs
      generalize ats.getD 0 0 = ty at hats
      subst hats
      subst hx1
      cases hc
      exact .inl (ok_append (t := 0) hr hE call key hop (by simpa using hu) hg hz c3 c6 c4 c5 hx hy hq)
     ·cases hc
    ·cases hc
   | copy =>
    simp only at hc
    split at hc
    ·next el x y hu hxs =>
     simp only [Option.bind_eq_some_iff] at hu
     obtain ⟨s, hs, hu⟩ := hu
     have hx1 : cargs = #[x, y] := by apply Array.ext'; simpa using hxs
     subst hx1
     simp only [Option.bind_eq_some_iff] at hc
     obtain ⟨g, hg, hc⟩ := hc
     split at hc
     ·next hpos =>
      simp only [Option.bind_eq_some_iff, Option.map_eq_some_iff] at hc
      obtain ⟨ix, hx, iy, hy, rfl⟩ := hc
      exact .inl (ok_copy hr hE call key hop hs hu hg hpos hx hy hq)
     ·cases hc
    ·cases hc
   | clear =>
    simp only at hc
    split at hc
    ·next el x hu hxs =>
     simp only [Option.bind_eq_some_iff] at hu
     obtain ⟨s, hs, hu⟩ := hu
     have hx1 : cargs = #[x] := by apply Array.ext'; simpa using hxs
     subst hx1
     split at hc
     ·next z hg hz =>
      simp only [Option.map_eq_some_iff] at hc
      obtain ⟨ix, hx, rfl⟩ := hc
      exact .inl (ok_clear hr hE call key hop hs hu hz hx hq)
     ·cases hc
    ·cases hc
   | max =>
    simp only [Option.map_eq_some_iff] at hc
    obtain ⟨xs, hxs, rfl⟩ := hc
    exact .inl (ok_max hr hE call key hop hxs hq)
   | min =>
    simp only [Option.map_eq_some_iff] at hc
    obtain ⟨xs, hxs, rfl⟩ := hc
    exact .inl (ok_min hr hE call key hop hxs hq)
   | _ => simp at hc
 | _ => simp [hop] at hc
end Go.Ev
