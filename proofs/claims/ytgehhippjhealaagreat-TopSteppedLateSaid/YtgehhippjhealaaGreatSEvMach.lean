/- Walking the evaluator as a machine: code, what is still to do, slots, heap; one rule for each form of code and each operation. No condition but those that stand in each. -/
import Derived.Test.YtgehhippjhealaaGreatSEvWalk
set_option linter.unusedSimpArgs false
set_option linter.unusedVariables false
namespace Go.Ev
open Go
inductive Kont where
 | seq (c : IC)
 | block (id : Nat)
 | inv (P : St → Prop)
def kont (call : Caller) (base : Nat) (Q : EX × St → Prop) : List Kont → EX × St → Prop
 | [] => Q
 | .seq c :: ks => after (kont call base Q ks) fun s => (evC call base c s).all (kont call base Q ks)
 | .block id :: ks => inBlk id (kont call base Q ks)
 | .inv P :: ks => after (kont call base Q ks) P
def lenA : AV → Option Nat
 | .slice _ xs _ => some xs.length
 | .oslice _ _ _ _ len _ => some len
 | _ => none
theorem lenA_slice (g : Option Nat) (xs : List AV) (ex : Bool) : lenA (.slice g xs ex) = some xs.length := rfl
theorem lenA_oslice (a b : Nat) (g : Option Nat) (c len : Nat) (f : Option Nat) : lenA (.oslice a b g c len f) = some len := rfl
def G (call : Caller) (base : Nat) (Q : EX × St → Prop) (c : IC) (ks : List Kont) (s : St) : Prop := (evC call base c s).all (kont call base Q ks)
def R (call : Caller) (base : Nat) (Q : EX × St → Prop) (x : EX) (ks : List Kont) (s : St) : Prop := kont call base Q ks (x, s)
def GO (call : Caller) (base : Nat) (Q : EX × St → Prop) (l : List IOper) (ks : List Kont) (s : St) : Prop := (evOps call base l s).all fun s => kont call base Q ks (.normal, s)
def GV (call : Caller) (base : Nat) (Q : EX × St → Prop) (d : Option Nat) (l : List IOper) (ks : List Kont) (e : Env) (h : Heap) (r : Res AV) : Prop := r.all fun v => GO call base Q l ks ⟨setDst e d v, h⟩
def GP (call : Caller) (base : Nat) (Q : EX × St → Prop) (d : Option Nat) (l : List IOper) (ks : List Kont) (e : Env) (r : Res (AV × Heap)) : Prop := r.all fun p => GO call base Q l ks ⟨setDst e d p.1, p.2⟩
def GC (call : Caller) (base : Nat) (Q : EX × St → Prop) (f : List AV → Prop) (r : Res (List AV)) : Prop := r.all f
section
variable {call : Caller} {base : Nat} {Q : EX × St → Prop} {ks : List Kont} {s : St} {e : Env} {h : Heap} {l : List IOper} {d : Option Nat}
theorem m_seq (a b : IC) : G call base Q (.seq a b) ks s = G call base Q a (.seq b :: ks) s := by
 simp only [G, w_seq, kont]
theorem m_block (id : Nat) (c : IC) : G call base Q (.block id c) ks s = G call base Q c (.block id :: ks) s := by
 simp only [G, w_block, kont]
theorem m_skip : G call base Q .skip ks s = R call base Q .normal ks s := rfl
theorem m_exit (id : Nat) : G call base Q (.exit id) ks s = R call base Q (.exit id) ks s := rfl
theorem m_ret : G call base Q .ret ks s = R call base Q .ret ks s := rfl
theorem m_ops : G call base Q (.ops l) ks s = GO call base Q l ks s := by simp only [G, GO, w_ops]
theorem m_cond (c : IX) (a b : IC) : G call base Q (.cond c a b) ks ⟨e, h⟩ = (match c.ev e with | .bool t => if t then G call base Q a ks ⟨e, h⟩ else G call base Q b ks ⟨e, h⟩ | _ => False) := by
 simp only [G, w_cond]
 cases c.ev e <;> rfl
theorem m_nil : GO call base Q [] ks s = R call base Q .normal ks s := rfl
theorem r_nil (x : EX) : R call base Q x [] s = Q (x, s) := rfl
theorem r_seq (c : IC) : R call base Q .normal (.seq c :: ks) s = G call base Q c ks s := rfl
theorem r_seqE (c : IC) (id : Nat) : R call base Q (.exit id) (.seq c :: ks) s = R call base Q (.exit id) ks s := rfl
theorem r_seqR (c : IC) : R call base Q .ret (.seq c :: ks) s = R call base Q .ret ks s := rfl
theorem r_blk (id : Nat) : R call base Q .normal (.block id :: ks) s = R call base Q .normal ks s := rfl
theorem r_blkE (id id' : Nat) : R call base Q (.exit id') (.block id :: ks) s = if id' = id then R call base Q .normal ks s else R call base Q (.exit id') ks s := by
 simp only [R, kont, inBlk]
theorem r_blkR (id : Nat) : R call base Q .ret (.block id :: ks) s = R call base Q .ret ks s := rfl
theorem r_inv (P : St → Prop) : R call base Q .normal (.inv P :: ks) s = P s := rfl
theorem r_invE (P : St → Prop) (id : Nat) : R call base Q (.exit id) (.inv P :: ks) s = R call base Q (.exit id) ks s := rfl
theorem r_invR (P : St → Prop) : R call base Q .ret (.inv P :: ks) s = R call base Q .ret ks s := rfl
theorem gv_ret (v : AV) : GV call base Q d l ks e h (.ret v) = GO call base Q l ks ⟨setDst e d v, h⟩ := rfl
theorem gv_fail : GV call base Q d l ks e h .fail = False := rfl
theorem gv_some (v : AV) : GV call base Q d l ks e h (Res.ofOpt (some v)) = GO call base Q l ks ⟨setDst e d v, h⟩ := rfl
theorem gv_ite (c : Prop) [Decidable c] (x y : Res AV) : GV call base Q d l ks e h (if c then x else y) = if c then GV call base Q d l ks e h x else GV call base Q d l ks e h y := by split <;> rfl
theorem gp_ret (v : AV) : GP call base Q d l ks e (.ret (v, h)) = GO call base Q l ks ⟨setDst e d v, h⟩ := rfl
theorem gp_fail : GP call base Q d l ks e .fail = False := rfl
theorem gp_ite (c : Prop) [Decidable c] (x y : Res (AV × Heap)) : GP call base Q d l ks e (if c then x else y) = if c then GP call base Q d l ks e x else GP call base Q d l ks e y := by split <;> rfl
theorem gc_ret (f : List AV → Prop) (cs : List AV) : GC call base Q f (.ret cs) = f cs := rfl
theorem gc_ite (f : List AV → Prop) (c : Prop) [Decidable c] (x y : Res (List AV)) : GC call base Q f (if c then x else y) = if c then GC call base Q f x else GC call base Q f y := by split <;> rfl
theorem go_all (o : IOper) : GO call base Q (o :: l) ks s = (evOper call base o s).all fun s => GO call base Q l ks s := by simp only [GO, w_cons]
theorem go_op (op : IOp) : GO call base Q (⟨d, op, none⟩ :: l) ks ⟨e, h⟩ = (evOp call (base + d.getD 0) op e h).all fun p => GO call base Q l ks ⟨setDst e d p.1, p.2⟩ := by rw [go_all, w_oper]
theorem m_guard (op : IOp) (t : Nat) (want : Bool) : GO call base Q (⟨d, op, some (t, want)⟩ :: l) ks ⟨e, h⟩ = (match getE e t with
  | .bool b => if b = want then GO call base Q (⟨d, op, none⟩ :: l) ks ⟨e, h⟩ else GO call base Q l ks ⟨setDst e d .skip, h⟩
  | .skip => GO call base Q l ks ⟨setDst e d .skip, h⟩
  | _ => False) := by
 rw [go_all, w_guard]
 cases getE e t <;> simp only [go_op]
theorem m_mv (x : IX) : GO call base Q (⟨d, .mv x, none⟩ :: l) ks ⟨e, h⟩ = GO call base Q l ks ⟨setDst e d (x.ev e), h⟩ := by rw [go_op, w_mv] <;> rfl
theorem m_bin (op : BinOp) (x y : IX) : GO call base Q (⟨d, .bin op x y, none⟩ :: l) ks ⟨e, h⟩ = GV call base Q d l ks e h (binA op (x.ev e) (y.ev e)) := by rw [go_op, w_bin] <;> rfl
theorem m_un (op : UnOp) (x : IX) : GO call base Q (⟨d, .un op x, none⟩ :: l) ks ⟨e, h⟩ = GV call base Q d l ks e h (unA op (x.ev e)) := by rw [go_op, w_un] <;> rfl
theorem m_indexAddr (sz : Nat) (x i : IX) : GO call base Q (⟨d, .indexAddr sz x i, none⟩ :: l) ks ⟨e, h⟩ = (match asNat (i.ev e) with | some j => GV call base Q d l ks e h (ixA sz (x.ev e) j) | none => False) := by rw [go_op, w_indexAddr] <;> rfl
theorem m_load (g : Option Nat) (x : IX) : GO call base Q (⟨d, .load g x, none⟩ :: l) ks ⟨e, h⟩ = GV call base Q d l ks e h (ldA g h (x.ev e)) := by rw [go_op, w_load] <;> rfl
theorem m_fieldAddr (off : Nat) (x : IX) : GO call base Q (⟨d, .fieldAddr off x, none⟩ :: l) ks ⟨e, h⟩ = (match x.ev e with | .ptr cells o => GO call base Q l ks ⟨setDst e d (.ptr cells (o + off)), h⟩ | .optr k ver o => GO call base Q l ks ⟨setDst e d (.optr k ver (o + off)), h⟩ | _ => False) := by rw [go_op, w_fieldAddr] <;> rfl
theorem m_nilCheck (x : IX) : GO call base Q (⟨d, .nilCheck x, none⟩ :: l) ks ⟨e, h⟩ = (match x.ev e with | .ptr cells o => GO call base Q l ks ⟨setDst e d (.ptr cells o), h⟩ | .optr k ver o => GO call base Q l ks ⟨setDst e d (.optr k ver o), h⟩ | .clo f a b => GO call base Q l ks ⟨setDst e d (.clo f a b), h⟩ | _ => False) := by rw [go_op, w_nilCheck] <;> rfl
theorem m_len (x : IX) : GO call base Q (⟨d, .len x, none⟩ :: l) ks ⟨e, h⟩ = (match lenA (x.ev e) with | some n => GO call base Q l ks ⟨setDst e d (.int .i64 n), h⟩ | none => False) := by
 rw [go_op, w_len]
 cases x.ev e <;> rfl
theorem m_store (sz : Nat) (a v : IX) : GO call base Q (⟨d, .store sz a v, none⟩ :: l) ks ⟨e, h⟩ = (match a.ev e with
  | .optr k ver off =>
   (match getH h k with
   | .cells u cs => if u = ver ∧ (v.ev e).cells.length = sz ∧ off + sz ≤ cs.length ∧ (v.ev e).cells.all oneB then GO call base Q l ks ⟨setDst e d .undef, setH h k (.cells u (splice cs off (v.ev e).cells))⟩ else False
   | _ => False)
  | _ => False) := by rw [go_op, w_store] <;> rfl
theorem m_conv (k : IntKind) (x : IX) : GO call base Q (⟨d, .conv k x, none⟩ :: l) ks ⟨e, h⟩ = (match x.ev e with | .int _ n => GO call base Q l ks ⟨setDst e d (.int k (k.wrap n)), h⟩ | _ => False) := by rw [go_op, w_conv] <;> rfl
theorem m_extract (x : IX) (i : Nat) : GO call base Q (⟨d, .extract x i, none⟩ :: l) ks ⟨e, h⟩ = (match x.ev e with | .tuple vs => (match vs[i]? with | some v => GO call base Q l ks ⟨setDst e d v, h⟩ | none => False) | _ => False) := by rw [go_op, w_extract] <;> rfl
theorem m_pick (c a b : IX) : GO call base Q (⟨d, .pick c a b, none⟩ :: l) ks ⟨e, h⟩ = (match c.ev e with | .bool t => GO call base Q l ks ⟨setDst e d (if t then a.ev e else b.ev e), h⟩ | _ => False) := by rw [go_op, w_pick] <;> rfl
theorem m_mkFunc (f : FuncId) (first captured : List IX) : GO call base Q (⟨d, .mkFunc f first captured, none⟩ :: l) ks ⟨e, h⟩ = GO call base Q l ks ⟨setDst e d (.clo f (first.map (IX.ev e)) (captured.map (IX.ev e))), h⟩ := by rw [go_op, w_mkFunc] <;> rfl
theorem m_callF (raw : Bool) (f : FuncId) (args : List IX) : GO call base Q (⟨d, .callF raw f args, none⟩ :: l) ks ⟨e, h⟩ = GP call base Q d l ks e (call raw (.fn f) (args.map (IX.ev e)) h) := by rw [go_op, w_callF] <;> rfl
theorem m_alloc (z : List AV) : GO call base Q (⟨d, .alloc z, none⟩ :: l) ks ⟨e, h⟩ = if z.all oneB then GO call base Q l ks ⟨setDst e d (.optr (base + d.getD 0) (getH h (base + d.getD 0)).next 0), setH h (base + d.getD 0) (.cells (getH h (base + d.getD 0)).next z)⟩ else False := by rw [go_op, w_alloc] <;> rfl
theorem m_box (x : IX) : GO call base Q (⟨d, .box x, none⟩ :: l) ks ⟨e, h⟩ = if (x.ev e).cells.all oneB then GO call base Q l ks ⟨setDst e d (.optr (base + d.getD 0) (getH h (base + d.getD 0)).next 0), setH h (base + d.getD 0) (.cells (getH h (base + d.getD 0)).next (x.ev e).cells)⟩ else False := by rw [go_op, w_box] <;> rfl
theorem m_build (z : List AV) (ps : List (Nat × Nat × IX)) : GO call base Q (⟨d, .build z ps, none⟩ :: l) ks ⟨e, h⟩ = if z.all oneB then GC call base Q (fun cs => GO call base Q l ks ⟨setDst e d (.agg cs), h⟩) (fillParts e ps z) else False := by rw [go_op, w_build] <;> rfl
theorem m_field (g : Option Nat) (off : Nat) (x : IX) : GO call base Q (⟨d, .field g off x, none⟩ :: l) ks ⟨e, h⟩ = (match x.ev e with | .agg cs => GV call base Q d l ks e h (rd g cs off) | _ => False) := by rw [go_op, w_field] <;> rfl
theorem m_index (g : Option Nat) (n : Nat) (x i : IX) : GO call base Q (⟨d, .index g n x i, none⟩ :: l) ks ⟨e, h⟩ = (match x.ev e, asNat (i.ev e) with | .agg cs, some j => if j < n then GV call base Q d l ks e h (rd g cs (j * gsize g)) else False | _, _ => False) := by rw [go_op, w_index] <;> rfl
theorem m_mkSlice (g : Option Nat) (z : List AV) (b : Nat) (le c : IX) : GO call base Q (⟨d, .mkSlice g z b le c, none⟩ :: l) ks ⟨e, h⟩ = (match asNat (le.ev e), asNat (c.ev e) with
  | some n, some c => if n ≤ c ∧ room c b ∧ z.all oneB then GO call base Q l ks ⟨setDst e d (.oslice h.length (getH h h.length).next g 0 n (some c)), setH h h.length (.cells (getH h h.length).next (List.replicate c z).flatten)⟩ else False
  | _, _ => False) := by rw [go_op, w_mkSlice] <;> rfl
theorem m_append (g : Option Nat) (b : Nat) (x y : IX) : GO call base Q (⟨d, .append g b x y, none⟩ :: l) ks ⟨e, h⟩ = GP call base Q d l ks e (evAppend h.length g b (x.ev e) (y.ev e) h) := by rw [go_op, w_append] <;> rfl
theorem m_call (raw : Bool) (f : IX) (args : List IX) : GO call base Q (⟨d, .call raw f args, none⟩ :: l) ks ⟨e, h⟩ = (match f.ev e with
  | .clo g first captured => GP call base Q d l ks e (call raw (.fn g) (first ++ args.map (IX.ev e) ++ captured) h)
  | .yld k ver => GP call base Q d l ks e (call raw (.yld k ver) (args.map (IX.ev e)) h)
  | _ => False) := by rw [go_op, w_call] <;> rfl
theorem m_max (xs : List IX) : GO call base Q (⟨d, .max xs, none⟩ :: l) ks ⟨e, h⟩ = (match xs.map (IX.ev e) with | .int k a :: r => GV call base Q d l ks e h (maxOf k a r) | _ => False) := by rw [go_op, w_max] <;> rfl
theorem m_min (xs : List IX) : GO call base Q (⟨d, .min xs, none⟩ :: l) ks ⟨e, h⟩ = (match xs.map (IX.ev e) with | .int k a :: r => GV call base Q d l ks e h (minOf k a r) | _ => False) := by rw [go_op, w_min] <;> rfl
theorem m_buildSlice (g : Option Nat) (z : List AV) (ps : List (Nat × Nat × IX)) : GO call base Q (⟨d, .buildSlice g z ps, none⟩ :: l) ks ⟨e, h⟩ = if z.all oneB then GC call base Q (fun cs => if cs.all numB then GO call base Q l ks ⟨setDst e d (.slice g (grouped g (z.length / gsize g) cs) true), h⟩ else False) (fillParts e ps z) else False := by
 rw [go_op, w_buildSlice]
 split
 ·rfl
 ·rfl
theorem m_buildSliceO (g : Option Nat) (z : List AV) (ps : List (Nat × Nat × IX)) : GO call base Q (⟨d, .buildSliceO g z ps, none⟩ :: l) ks ⟨e, h⟩ = if z.all oneB then GC call base Q (fun cs => GO call base Q l ks ⟨setDst e d (.oslice h.length (getH h h.length).next g 0 (z.length / gsize g) (some (z.length / gsize g))), setH h h.length (.cells (getH h h.length).next cs)⟩) (fillParts e ps z) else False := by
 rw [go_op]
 simp only [evOp]
 split
 ·simp only [all_bind, all_ret, GC]
 ·rfl
theorem m_isNil (neg : Bool) (x : IX) : GO call base Q (⟨d, .isNil neg x, none⟩ :: l) ks ⟨e, h⟩ = (match x.ev e with
  | .slice _ (_ :: _) _ => GO call base Q l ks ⟨setDst e d (.bool neg), h⟩
  | .oslice _ _ _ _ (_ + 1) _ => GO call base Q l ks ⟨setDst e d (.bool neg), h⟩
  | _ => False) := by
 rw [go_op]
 simp only [evOp]
 cases x.ev e with
 | slice g xs ex => cases xs <;> rfl
 | oslice k v g o n c => cases n <;> rfl
 | _ => rfl
theorem m_loadL (g : Option Nat) (x : IX) (d0 n : Nat) (ds : List Nat) : GO call base Q (⟨d, .loadL g x d0 n ds, none⟩ :: l) ks ⟨e, h⟩ = (match x.ev e with
  | .ptr _ _ => GO call base Q (⟨d, .load g x, none⟩ :: l) ks ⟨e, h⟩
  | .optr k _ _ => if decide (k + d0 < base + d.getD 0 + n) && ds.all (fun d' => base + d.getD 0 + d' != k + d0) then GO call base Q (⟨d, .load g x, none⟩ :: l) ks ⟨e, h⟩ else False
  | _ => False) := by
 rw [go_op, go_op]
 simp only [evOp]
 cases x.ev e with
 | ptr cells off => rfl
 | optr k ver off => simp only; split <;> rfl
 | _ => rfl
theorem m_storeL (n sz : Nat) (a v : IX) : GO call base Q (⟨d, .storeL n sz a v, none⟩ :: l) ks ⟨e, h⟩ = (match a.ev e with
  | .optr k _ _ => if base + d.getD 0 + n ≤ k then GO call base Q (⟨d, .store sz a v, none⟩ :: l) ks ⟨e, h⟩ else False
  | _ => False) := by
 rw [go_op, go_op]
 simp only [evOp]
 cases a.ev e with
 | optr k ver off => simp only; split <;> rfl
 | _ => rfl
theorem m_appendL (d0 n : Nat) (g : Option Nat) (b : Nat) (x y : IX) : GO call base Q (⟨d, .appendL d0 n g b x y, none⟩ :: l) ks ⟨e, h⟩ =
  if lateB (base + d.getD 0) d0 n (x.ev e) && lateB (base + d.getD 0) d0 n (y.ev e) && decide (base + d.getD 0 + n ≤ h.length + d0) then GO call base Q (⟨d, .append g b x y, none⟩ :: l) ks ⟨e, h⟩ else False := by
 rw [go_op, go_op]
 simp only [evOp]
 split <;> rfl
theorem m_mkSliceK (g : Option Nat) (z : List AV) (b : Nat) (le c : IX) : GO call base Q (⟨d, .mkSliceK g z b le c, none⟩ :: l) ks ⟨e, h⟩ = (match asNat (le.ev e), asNat (c.ev e) with
  | some n, some c => if n ≤ c ∧ room c b ∧ z.all oneB then GO call base Q l ks ⟨setDst e d (.oslice (base + d.getD 0) (getH h (base + d.getD 0)).next g 0 n (some c)), setH h (base + d.getD 0) (.cells (getH h (base + d.getD 0)).next (List.replicate c z).flatten)⟩ else False
  | _, _ => False) := by
 rw [go_op]
 simp only [evOp]
 cases asNat (le.ev e) with
 | none => rfl
 | some l =>
  cases asNat (c.ev e) with
  | none => rfl
  | some c => simp only; split <;> rfl
theorem m_callC (d0 n : Nat) (f : FuncId) (args : List IX) : GO call base Q (⟨d, .callC d0 n f args, none⟩ :: l) ks ⟨e, h⟩ =
  if (args.map (IX.ev e)).all (cloneB (base + d.getD 0) d0) && decide (base + d.getD 0 + n ≤ h.length + d0) then GP call base Q d l ks e (call true (.clone f) (args.map (IX.ev e)) h) else False := by
 rw [go_op]
 simp only [evOp]
 split <;> rfl
theorem m_mapEntry (kn : Option Nat) (z : AV) (x k : IX) : GO call base Q (⟨d, .mapEntry kn z x k, none⟩ :: l) ks ⟨e, h⟩ = (match x.ev e with
  | .omap key ver =>
   (match getH h key with
   | .map u clock mk vs bs =>
    if u = ver ∧ keyOk kn (k.ev e) then
     (match findK kn (k.ev e) mk 0 with
     | none => False
     | some none => if mk.length = vs.length then GO call base Q l ks ⟨setDst e d (.tuple [z, .int .i64 clock]), setH h key (.map u (clock + 1) (mk ++ [k.ev e]) (vs ++ [z]) (bs ++ [clock]))⟩ else False
     | some (some i) =>
      (match vs[i]?, bs[i]? with
      | some v, some b => GO call base Q l ks ⟨setDst e d (.tuple [v, .int .i64 b]), setH h key (.map u clock (mk.set i (k.ev e)) vs bs)⟩
      | _, _ => False))
    else False
   | _ => False)
  | _ => False) := by
 rw [go_op]
 simp only [evOp]
 cases x.ev e with
 | omap key ver =>
  simp only
  cases getH h key with
  | map u clock mk vs bs =>
   simp only
   split
   ·cases findK kn (k.ev e) mk 0 with
    | none => rfl
    | some r =>
     cases r with
     | none => simp only; split <;> rfl
     | some i =>
      simp only
      cases vs[i]? with
      | none => rfl
      | some v => cases bs[i]? <;> rfl
   ·rfl
  | _ => rfl
 | _ => rfl
theorem m_entryStore (x s v : IX) : GO call base Q (⟨d, .entryStore x s v, none⟩ :: l) ks ⟨e, h⟩ = (match x.ev e, asNat (s.ev e) with
  | .omap key ver, some b =>
   (match getH h key with
   | .map u clock mk vs bs =>
    if u = ver then
     (match findB b bs 0 with
     | some i => GO call base Q l ks ⟨setDst e d .undef, setH h key (.map u clock mk (vs.set i (v.ev e)) bs)⟩
     | none => False)
    else False
   | _ => False)
  | _, _ => False) := by
 rw [go_op]
 simp only [evOp]
 cases x.ev e with
 | omap key ver =>
  cases asNat (s.ev e) with
  | none => rfl
  | some b =>
   simp only
   cases getH h key with
   | map u clock mk vs bs =>
    simp only
    split
    ·cases findB b bs 0 <;> rfl
    ·rfl
   | _ => rfl
 | _ => rfl
def slA (g : Option Nat) (e : Env) (lo hi mx : Option IX) : AV → Res AV
 | .slice gx xs exact =>
  if gx ≠ g then .fail else
  (sliceB e xs.length (some xs.length) lo hi mx).bind fun (l, r, m) => .ret (.slice g ((xs.take r).drop l) ((exact && (r == xs.length)) || (mx.isSome && (m == some r))))
 | .oslice k ver gx off len cap =>
  if gx ≠ g then .fail else
  (sliceB e len cap lo hi mx).bind fun (l, r, m) => .ret (.oslice k ver g (off + l * gsize g) (r - l) (m.map (· - l)))
 | _ => .fail
theorem m_slice (g : Option Nat) (x : IX) (lo hi mx : Option IX) : GO call base Q (⟨d, .slice g x lo hi mx, none⟩ :: l) ks ⟨e, h⟩ = GV call base Q d l ks e h (slA g e lo hi mx (x.ev e)) := by
 rw [go_op]
 simp only [evOp]
 cases x.ev e with
 | slice gx xs ex =>
  simp only [slA]
  split
  ·rfl
  ·simp only [GV, all_bind, all_ret]
 | oslice k ver gx off len cap =>
  simp only [slA]
  split
  ·rfl
  ·simp only [GV, all_bind, all_ret]
 | _ => rfl
def ixAA (len sz : Nat) : AV → Nat → Res AV
 | .ptr cells o, j => if j < len then .ret (.ptr cells (o + j * sz)) else .fail
 | .optr k ver o, j => if j < len then .ret (.optr k ver (o + j * sz)) else .fail
 | _, _ => .fail
theorem m_indexAddrA (n sz : Nat) (x i : IX) : GO call base Q (⟨d, .indexAddrA n sz x i, none⟩ :: l) ks ⟨e, h⟩ = (match asNat (i.ev e) with | some j => GV call base Q d l ks e h (ixAA n sz (x.ev e) j) | none => False) := by
 rw [go_op]
 simp only [evOp, GV]
 cases asNat (i.ev e) with
 | none => cases x.ev e <;> rfl
 | some j =>
  cases x.ev e with
  | ptr cells o => simp only [ixAA]; split <;> rfl
  | optr k ver o => simp only [ixAA]; split <;> rfl
  | _ => rfl
def cpA (g : Option Nat) (h : Heap) : AV → Option (Option Nat × Nat × List AV) → Res (AV × Heap)
 | .oslice k ver grp off len _, some (gy, m, new) =>
  match getH h k with
  | .cells v cs =>
   if gy = g ∧ grp = g ∧ v = ver ∧ off + len * gsize g ≤ cs.length then
    if Nat.min m len = 0 then .ret (.int .i64 0, h)
    else .ret (.int .i64 (Nat.min m len : Nat), setH h k (.cells v (splice cs off (new.take (Nat.min m len * gsize g)))))
   else .fail
  | _ => .fail
 | _, _ => .fail
theorem m_copy (g : Option Nat) (x y : IX) : GO call base Q (⟨d, .copy g x y, none⟩ :: l) ks ⟨e, h⟩ = GP call base Q d l ks e (cpA g h (x.ev e) (cellsOfSlice h (y.ev e))) := by
 rw [go_op]; rfl
def clA (zero : AV) (h : Heap) : AV → Res (AV × Heap)
 | .oslice k ver none off len _ =>
  match getH h k with
  | .cells v cs =>
   if v = ver ∧ off + len ≤ cs.length ∧ oneB zero then
    if len = 0 then .ret (.undef, h)
    else .ret (.undef, setH h k (.cells v (splice cs off (List.replicate len zero))))
   else .fail
  | _ => .fail
 | _ => .fail
theorem m_clear (zero : AV) (x : IX) : GO call base Q (⟨d, .clear zero x, none⟩ :: l) ks ⟨e, h⟩ = GP call base Q d l ks e (clA zero h (x.ev e)) := by
 rw [go_op]; rfl
def eaA (n : Nat) (neg : Bool) : AV → AV → Res AV
 | .agg cs, .agg ds =>
  if cs.length = n then
   match eqInts cs ds with
   | some b => .ret (.bool (b != neg))
   | none => .fail
  else .fail
 | _, _ => .fail
theorem m_eqAgg (n : Nat) (neg : Bool) (x y : IX) : GO call base Q (⟨d, .eqAgg n neg x y, none⟩ :: l) ks ⟨e, h⟩ = GV call base Q d l ks e h (eaA n neg (x.ev e) (y.ev e)) := by
 rw [go_op]
 simp only [evOp, GV]
 cases x.ev e with
 | agg cs =>
  cases y.ev e with
  | agg ds =>
   simp only [eaA]
   split
   ·cases eqInts cs ds <;> rfl
   ·rfl
  | _ => rfl
 | _ => rfl
theorem m_eqB (neg : Bool) (x y : IX) : GO call base Q (⟨d, .eqB neg x y, none⟩ :: l) ks ⟨e, h⟩ = (match x.ev e, y.ev e with | .bool b, .bool c => GO call base Q l ks ⟨setDst e d (.bool ((b == c) != neg)), h⟩ | _, _ => False) := by
 rw [go_op]
 simp only [evOp]
 cases x.ev e with
 | bool b => cases y.ev e <;> rfl
 | _ => rfl
def ldS (g : Option Nat) (h : Heap) (v : AV) (c : Nat → Bool) : Res AV :=
 match v with
 | .ptr cells off => rd g cells off
 | .optr k ver off => if c k then ldA g h (.optr k ver off) else .fail
 | _ => .fail
def sepT (e : Env) (k : Nat) : List Nat → Bool
 | [] => true
 | t :: r => (match getE e t with | .optr k' _ _ => decide (¬ k' = k) | _ => false) && sepT e k r
def sepD (key k d0 : Nat) : List Nat → Bool
 | [] => true
 | d :: r => decide (¬ key + d = k + d0) && sepD key k d0 r
theorem sepB_eq (e : Env) (key k d0 : Nat) (ts ds : List Nat) : sepB e key k d0 ts ds = (sepT e k ts && sepD key k d0 ds) := by
 unfold sepB
 congr 1
 ·induction ts with
  | nil => rfl
  | cons t r ih =>
   rw [List.all_cons, sepT, ih]
   congr 1
   cases getE e t <;> try rfl
   next k' v o => simp only [bne, BEq.beq]; rw [decide_not]
 ·induction ds with
  | nil => rfl
  | cons d r ih =>
   rw [List.all_cons, sepD, ih]
   congr 1
   simp only [bne, BEq.beq]; rw [decide_not]
theorem sepT_nil (e : Env) (k : Nat) : sepT e k [] = true := rfl
theorem sepT_cons (e : Env) (k t : Nat) (r : List Nat) : sepT e k (t :: r) = ((match getE e t with | .optr k' _ _ => decide (¬ k' = k) | _ => false) && sepT e k r) := rfl
theorem sepD_nil (key k d0 : Nat) : sepD key k d0 [] = true := rfl
theorem sepD_cons (key k d0 d : Nat) (r : List Nat) : sepD key k d0 (d :: r) = (decide (¬ key + d = k + d0) && sepD key k d0 r) := rfl
theorem ldS_ptr (g : Option Nat) (h : Heap) (cs : List AV) (off : Nat) (c : Nat → Bool) : ldS g h (.ptr cs off) c = rd g cs off := rfl
theorem ldS_optr (g : Option Nat) (h : Heap) (k ver off : Nat) (c : Nat → Bool) : ldS g h (.optr k ver off) c = if c k then ldA g h (.optr k ver off) else .fail := rfl
theorem m_loadS (g : Option Nat) (x : IX) (d0 : Nat) (ts ds : List Nat) : GO call base Q (⟨d, .loadS g x d0 ts ds, none⟩ :: l) ks ⟨e, h⟩ = GV call base Q d l ks e h (ldS g h (x.ev e) fun k => sepT e k ts && sepD (base + d.getD 0) k d0 ds) := by
 rw [go_op]
 simp only [evOp, GV, ldS]
 cases x.ev e with
 | ptr cells off => simp only [all_bind, all_ret]
 | optr k ver off =>
  simp only [sepB_eq, ldA]
  split
  ·cases getH h k with
   | cells v cs =>
    simp only
    split
    ·simp only [all_bind, all_ret]
    ·rfl
   | _ => rfl
  ·rfl
 | _ => rfl
theorem m_storeS (t sz : Nat) (a v : IX) : GO call base Q (⟨none, .storeS t sz a v, none⟩ :: l) ks ⟨e, h⟩ = (match a.ev e with | .optr k _ _ => if k = base + t then GO call base Q (⟨none, .store sz a v, none⟩ :: l) ks ⟨e, h⟩ else False | _ => False) := by
 rw [go_op]
 simp only [evOp, Option.getD_none, Nat.add_zero]
 cases ha : a.ev e with
 | optr k ver off =>
  simp only
  split
  ·rw [m_store, ha]
   simp only
   cases getH h k with
   | cells u cs =>
    simp only
    split <;> rfl
   | _ => rfl
  ·rfl
 | _ => rfl
theorem m_callS (f : FuncId) (args : List IX) : GO call base Q (⟨d, .callS f args, none⟩ :: l) ks ⟨e, h⟩ = if (args.map (IX.ev e)).all (freeB depth) then GP call base Q d l ks e (call false (.fn f) (args.map (IX.ev e)) h) else False := by
 rw [go_op]
 simp only [evOp]
 split
 ·rfl
 ·rfl
theorem free_int (k : IntKind) (n : Int) : freeB depth (.int k n) = true := rfl
theorem free_bool (b : Bool) : freeB depth (.bool b) = true := rfl
theorem free_slice (g : Option Nat) (xs : List AV) (ex : Bool) : freeB depth (.slice g xs ex) = true := rfl
theorem free_ptr (cs : List AV) (o : Nat) : freeB depth (.ptr cs o) = true := rfl
theorem free_agg (cs : List AV) : freeB depth (.agg cs) = cs.all (freeB 7) := rfl
theorem free7_int (k : IntKind) (n : Int) : freeB 7 (.int k n) = true := rfl
theorem free7_bool (b : Bool) : freeB 7 (.bool b) = true := rfl
theorem free7_slice (g : Option Nat) (xs : List AV) (ex : Bool) : freeB 7 (.slice g xs ex) = true := rfl
theorem m_loop {c : IC} (I : Nat → St → Prop) (N : Nat) (hN : N < 1152921504606846976) (h0 : I N s)
  (hb : ∀ M e h, M ≤ N → I M ⟨e, h⟩ → ∀ P : St → Prop, (∀ K s', K < M → I K s' → P s') → G call base Q c (.inv P :: ks) ⟨e, h⟩) : G call base Q (.loop c) ks s := by
 have main : ∀ (n k : Nat) (s : St), n ≤ N → n < k → I n s → (evLoop (evC call base c) k s).all (kont call base Q ks) := by
  intro n
  induction n using Nat.strongRecOn with
  | _ n ih =>
   intro k s hn hk hi
   match k, hk with
   | k + 1, hk =>
    simp only [evLoop, Res.all_bind]
    refine Res.all_mono _ (hb n s.env s.heap hn hi (fun s' => ∃ K, K < n ∧ I K s') fun K s' a b => ⟨K, a, b⟩) ?_
    rintro ⟨x, s'⟩ hp
    cases x with
    | normal =>
     obtain ⟨K, hK, hI⟩ := hp
     exact ih K hK k s' (by omega) (by omega) hI
    | exit id => exact hp
    | ret => exact hp
 exact main N rounds s (Nat.le_refl _) hN h0
end
theorem m_loop1 {call : Caller} {base : Nat} {Q : EX × St → Prop} {ks : List Kont} {e : Env} {h : Heap} {c : IC} (hb : ∀ P : St → Prop, G call base Q c (.inv P :: ks) ⟨e, h⟩) : G call base Q (.loop c) ks ⟨e, h⟩ :=
 m_loop (fun M s' => M = 0 ∧ s' = ⟨e, h⟩) 0 (by omega) ⟨rfl, rfl⟩ fun M e' h' _ hi P _ => by
  obtain ⟨_, hi⟩ := hi
  cases hi
  exact hb P
def At (e : Env) : List (Nat × AV) → Prop
 | [] => True
 | p :: r => getE e p.1 = p.2 ∧ At e r
theorem At_nil (e : Env) : At e [] = True := rfl
theorem At_cons (e : Env) (k : Nat) (v : AV) (r : List (Nat × AV)) : At e ((k, v) :: r) = (getE e k = v ∧ At e r) := rfl
def fz (h : Heap) (as : List AV) : Res (List AV) := mapR (freeze h depth) as
def Con (T : Cfg) (k f : Nat) (as : List AV) (r : AV) : Prop :=
 ∀ (n : Nat) (h : Heap) (as0 : List AV) (V : AV × Heap → Prop), k ≤ n → fz h as0 = .ret as → (as0.all (freeB depth) || plainB depth r) = true → V (r, h) → (evCall T n false (.fn f) as0 h).all V
def resV (s : St) (rs : List IRes) : Res AV := (mapR (readResult s) rs).bind fun vs => .ret (pack vs)
def Fin (rs : List IRes) (V : AV × Heap → Prop) (p : EX × St) : Prop :=
 match p.1 with
 | .exit _ => False
 | _ => (resV p.2 rs).all fun v => V (v, p.2.heap)
theorem fin_ret (rs : List IRes) (V : AV × Heap → Prop) (s : St) : Fin rs V (.ret, s) = (resV s rs).all fun v => V (v, s.heap) := rfl
theorem fin_normal (rs : List IRes) (V : AV × Heap → Prop) (s : St) : Fin rs V (.normal, s) = (resV s rs).all fun v => V (v, s.heap) := rfl
theorem resV_nil (s : St) : resV s [] = .ret (.tuple []) := rfl
theorem resV_one (s : St) (t : Nat) : resV s [.tmp t] = .ret (getE s.env t) := rfl
theorem resV_two (s : St) (t u : Nat) : resV s [.tmp t, .tmp u] = .ret (.tuple [getE s.env t, getE s.env u]) := rfl
theorem one_pack : ∀ x : Res AV, ((x.bind fun b => (Res.ret ([] : List AV)).bind fun bs => .ret (b :: bs)).bind fun vs => .ret (pack vs)) = x
 | .fail => rfl
 | .ret _ => rfl
 | .choice n k => by
  simp only [Res.bind]
  congr 1
  funext i
  exact one_pack (k i)
theorem resV_cell (s : St) (t : Nat) (g : Option Nat) : resV s [.cell t g] = ldA g s.heap (getE s.env t) := by
 simp only [resV, mapR]
 rw [one_pack]
 simp only [readResult]
 cases getE s.env t <;> rfl
theorem resV_three (s : St) (t u v : Nat) : resV s [.tmp t, .tmp u, .tmp v] = .ret (.tuple [getE s.env t, getE s.env u, getE s.env v]) := rfl
theorem m_fn {call : Caller} {c : IFunc} {as : List AV} {h : Heap} {V : AV × Heap → Prop} : (evFn call c as h).all V = G call h.length (Fin c.results V) c.body [] ⟨as, h ++ List.replicate c.ntmps .none⟩ := by
 simp only [evFn, G, kont, all_bind]
 congr 1
 funext p
 obtain ⟨x, s⟩ := p
 cases x <;> simp only [Fin, resV, all_bind, all_ret] <;> rfl
theorem con_intro {T : Cfg} {k f : Nat} {c : IFunc} {as : List AV} {r : AV} (hc : T.fns f = some c)
  (hq : ∀ n, k ≤ n → ∀ V : AV × Heap → Prop, (∀ v h, freeze h 8 v = .ret r → V (v, h)) → G (evCall T n) 0 (Fin c.results V) c.body [] ⟨as, List.replicate c.ntmps .none⟩) : Con T (k + 1) f as r := by
 intro n h as0 V hn hz hp hV
 obtain ⟨m, rfl⟩ : ∃ m, n = m + 1 := ⟨n - 1, by omega⟩
 simp only [evCall, hc, Bool.false_eq_true, if_false]
 have hz' : mapR (freeze h depth) as0 = .ret as := hz
 rw [hz']
 simp only [Res.bind, Res.all_bind]
 have := hq m (by omega) (fun p => freeze p.2 depth p.1 = .ret r) fun v h hv => hv
 rw [show List.replicate c.ntmps AObj.none = [] ++ List.replicate c.ntmps .none from rfl, show (0 : Nat) = ([] : Heap).length from rfl, ← m_fn] at this
 refine Res.all_mono _ this ?_
 rintro ⟨v, h'⟩ hv
 simp only at hv
 rw [hv]
 simp only [Res.all, hp, Bool.true_or, if_true, reduceIte]
 exact hV
theorem gp_con {T : Cfg} {k f n : Nat} {as as0 : List AV} {r : AV} {h : Heap} {base : Nat} {Q : EX × St → Prop} {d : Option Nat} {l : List IOper} {ks : List Kont} {e : Env} (hc : Con T k f as r) (hk : k ≤ n) (hz : fz h as0 = .ret as) (hp : (as0.all (freeB depth) || plainB depth r) = true)
  (hV : GO (evCall T n) base Q l ks ⟨setDst e d r, h⟩) : GP (evCall T n) base Q d l ks e (evCall T n false (.fn f) as0 h) := hc n h as0 _ hk hz hp hV
theorem wrap64 {x : Int} (h1 : -9223372036854775808 ≤ x) (h2 : x ≤ 9223372036854775807) : IntKind.i64.wrap x = x := by
 simp only [IntKind.wrap, IntKind.signed, IntKind.bits]
 simp
 omega
theorem next_none : AObj.none.next = 0 := rfl
theorem next_cells (v : Nat) (cs : List AV) : (AObj.cells v cs).next = v + 1 := rfl
theorem room_ok {n b : Nat} (h : n * b ≤ 1099511627776) : room n b = true := by simp [room, h]
theorem len_le {α : Type} (l : List α) : (l.length ≤ l.length) = True := eq_true (Nat.le_refl _)
theorem get_ex {α : Type} {l : List α} {i : Nat} (h : i < l.length) : ∃ x, l[i]? = some x := ⟨l[i], List.getElem?_eq_getElem h⟩
theorem drop_cons {α : Type} {l : List α} {i : Nat} {x : α} (h : l[i]? = some x) : l.drop i = x :: l.drop (i + 1) := by
 obtain ⟨hi, rfl⟩ := List.getElem?_eq_some_iff.1 h
 exact List.drop_eq_getElem_cons hi
theorem ite_and (c p : Prop) [Decidable c] : (if c then p else False) = (c ∧ p) := by split <;> simp_all
theorem set_map {α β : Type} (f : α → β) (l : List α) (i : Nat) (a : α) : (l.map f).set i (f a) = (l.set i a).map f := List.map_set.symm
theorem mapR_map {α β : Type} (f : α → Res β) (g : α → β) : ∀ l : List α, (∀ x ∈ l, f x = .ret (g x)) → mapR f l = .ret (l.map g)
 | [], _ => rfl
 | a :: r, h => by
  simp only [mapR, h a List.mem_cons_self, mapR_map f g r fun x hx => h x (List.mem_cons_of_mem _ hx)]
  rfl
theorem freeze_ints (h : Heap) (n : Nat) (k : IntKind) (l : List Int) : mapR (freeze h (n + 1)) (l.map (.int k)) = .ret (l.map (.int k)) := by
 rw [mapR_map (freeze h (n + 1)) id _ fun x hx => ?_, List.map_id]
 obtain ⟨a, _, rfl⟩ := List.mem_map.1 hx
 rfl
theorem frz_own {h : Heap} {key ver len : Nat} {cap : Option Nat} {k : IntKind} {l : List Int} {n : Nat} (hH : getH h key = .cells ver (l.map (.int k))) (hl : len = l.length) : freeze h (n + 2) (.oslice key ver none 0 len cap) = .ret (.slice none (l.map (.int k)) false) := by
 subst hl
 have e : ((l.map (AV.int k)).drop 0).take (l.length * gsize none) = l.map (.int k) := by rw [List.drop_zero, List.take_of_length_le (by simp [gsize])]
 rw [freeze]
 simp only [hH]
 rw [if_pos ⟨trivial, by simp [gsize]⟩, e, freeze_ints]
 rfl
theorem frz_int (h : Heap) (n : Nat) (k : IntKind) (v : Int) : freeze h (n + 1) (.int k v) = .ret (.int k v) := rfl
theorem frz_bool (h : Heap) (n : Nat) (b : Bool) : freeze h (n + 1) (.bool b) = .ret (.bool b) := rfl
theorem frz_slice (h : Heap) (n : Nat) (g : Option Nat) (xs : List AV) (ex : Bool) : freeze h (n + 1) (.slice g xs ex) = .ret (.slice g xs false) := rfl
theorem frz_ptr (h : Heap) (n : Nat) (cs : List AV) (off : Nat) : freeze h (n + 1) (.ptr cs off) = .ret (.ptr cs off) := rfl
theorem frz_two {h : Heap} {n : Nat} {a b a' b' : AV} (ha : freeze h n a = .ret a') (hb : freeze h n b = .ret b') : freeze h (n + 1) (.tuple [a, b]) = .ret (.tuple [a', b']) := by
 rw [freeze]
 simp only [mapR, ha, hb]
 rfl
theorem frz_three {h : Heap} {n : Nat} {a b c a' b' c' : AV} (ha : freeze h n a = .ret a') (hb : freeze h n b = .ret b') (hc : freeze h n c = .ret c') : freeze h (n + 1) (.tuple [a, b, c]) = .ret (.tuple [a', b', c']) := by
 rw [freeze]
 simp only [mapR, ha, hb, hc]
 rfl
theorem fz_nil (h : Heap) : fz h [] = .ret [] := rfl
theorem fz_cons {h : Heap} {a b : AV} {as bs : List AV} (ha : freeze h 8 a = .ret b) (hs : fz h as = .ret bs) : fz h (a :: as) = .ret (b :: bs) := by
 unfold fz at hs ⊢
 simp only [mapR, depth] at hs ⊢
 rw [ha, hs]
 rfl
theorem fz_int (h : Heap) (k : IntKind) (v : Int) {as bs : List AV} (hs : fz h as = .ret bs) : fz h (.int k v :: as) = .ret (.int k v :: bs) := fz_cons rfl hs
theorem fz_slice (h : Heap) (g : Option Nat) (xs : List AV) (ex : Bool) {as bs : List AV} (hs : fz h as = .ret bs) : fz h (.slice g xs ex :: as) = .ret (.slice g xs false :: bs) := fz_cons rfl hs
theorem gp_eq {T : Cfg} {k f n : Nat} {as as0 : List AV} {r : AV} {h : Heap} {base : Nat} {Q : EX × St → Prop} {d : Option Nat} {l : List IOper} {ks : List Kont} {e : Env} (hc : Con T k f as r) (hk : k ≤ n) (hz : fz h as0 = .ret as) (hp : (as0.all (freeB depth) || plainB depth r) = true) :
  GP (evCall T n) base Q d l ks e (evCall T n false (.fn f) as0 h) = GO (evCall T n) base Q l ks ⟨setDst e d r, h⟩ := by
 have h1 := hc n h as0 (fun p => p = (r, h)) hk hz hp rfl
 refine propext ⟨fun hg => ?_, fun hg => gp_con hc hk hz hp hg⟩
 obtain ⟨p, h2, h3⟩ := Res.all_some _ (Res.all_and _ h1 hg)
 subst h2
 exact h3
def ConF (T : Cfg) (k f : Nat) (as : List AV) (r : AV) : Prop :=
 ∀ (n : Nat) (h : Heap) (as0 : List AV) (V : AV × Heap → Prop), k ≤ n → fz h as0 = .ret as → V (r, h) → (evCall T n false (.fn f) as0 h).all V
theorem conF_intro {T : Cfg} {k f : Nat} {c : IFunc} {as : List AV} {r : AV} (hc : T.fns f = some c)
  (hq : ∀ n, k ≤ n → ∀ V : AV × Heap → Prop, (∀ v h, freeze h 8 v = .ret r → freshB h 8 v = true → V (v, h)) → G (evCall T n) 0 (Fin c.results V) c.body [] ⟨as, List.replicate c.ntmps .none⟩) : ConF T (k + 1) f as r := by
 intro n h as0 V hn hz hV
 obtain ⟨m, rfl⟩ : ∃ m, n = m + 1 := ⟨n - 1, by omega⟩
 simp only [evCall, hc, Bool.false_eq_true, if_false]
 have hz' : mapR (freeze h depth) as0 = .ret as := hz
 rw [hz']
 simp only [Res.bind, Res.all_bind]
 have := hq m (by omega) (fun p => freeze p.2 depth p.1 = .ret r ∧ freshB p.2 depth p.1 = true) fun v h hv hw => ⟨hv, hw⟩
 rw [show List.replicate c.ntmps AObj.none = [] ++ List.replicate c.ntmps .none from rfl, show (0 : Nat) = ([] : Heap).length from rfl, ← m_fn] at this
 refine Res.all_mono _ this ?_
 rintro ⟨v, h'⟩ ⟨hv, hw⟩
 simp only at hv hw
 rw [hv]
 simp only [Res.all, hw, Bool.or_true, if_true, reduceIte]
 exact hV
theorem gpF_con {T : Cfg} {k f n : Nat} {as as0 : List AV} {r : AV} {h : Heap} {base : Nat} {Q : EX × St → Prop} {d : Option Nat} {l : List IOper} {ks : List Kont} {e : Env} (hc : ConF T k f as r) (hk : k ≤ n) (hz : fz h as0 = .ret as)
  (hV : GO (evCall T n) base Q l ks ⟨setDst e d r, h⟩) : GP (evCall T n) base Q d l ks e (evCall T n false (.fn f) as0 h) := hc n h as0 _ hk hz hV
theorem fresh_int (h : Heap) (n : Nat) (k : IntKind) (v : Int) : freshB h (n + 1) (.int k v) = true := rfl
theorem fresh_two {h : Heap} {n : Nat} {a b : AV} (ha : freshB h n a = true) (hb : freshB h n b = true) : freshB h (n + 1) (.tuple [a, b]) = true := by simp [freshB, ha, hb]
theorem fresh_own {h : Heap} {key ver off len : Nat} {cap : Option Nat} {k : IntKind} {l : List Int} {n : Nat} (hH : getH h key = .cells ver (l.map (.int k))) : freshB h (n + 2) (.oslice key ver none off len cap) = true := by
 simp only [freshB, hH]
 rw [List.all_map]
 exact List.all_eq_true.2 fun _ _ => rfl
def Raw (T : Cfg) (k f : Nat) (as : List AV) (P : Heap → AV → Heap → Prop) : Prop :=
 ∀ (n : Nat) (h : Heap) (V : AV × Heap → Prop), k ≤ n → (∀ v h', P h v h' → V (v, h')) → (evCall T n true (.fn f) as h).all V
theorem raw_intro {T : Cfg} {k f : Nat} {c : IFunc} {as : List AV} {P : Heap → AV → Heap → Prop} (hc : T.fns f = some c)
  (hq : ∀ n, k ≤ n → ∀ (h : Heap) (V : AV × Heap → Prop), (∀ v h', P h v h' → V (v, h')) → G (evCall T n) h.length (Fin c.results V) c.body [] ⟨as, h ++ List.replicate c.ntmps .none⟩) : Raw T (k + 1) f as P := by
 intro n h V hn hV
 obtain ⟨m, rfl⟩ : ∃ m, n = m + 1 := ⟨n - 1, by omega⟩
 simp only [evCall, hc, if_true, reduceIte]
 rw [m_fn]
 exact hq m (by omega) h V hV
theorem raw_enter {T : Cfg} {f n : Nat} {c : IFunc} {as : List AV} {h : Heap} {V : AV × Heap → Prop} (hc : T.fns f = some c) : (evCall T (n + 1) true (.fn f) as h).all V = G (evCall T n) h.length (Fin c.results V) c.body [] ⟨as, h ++ List.replicate c.ntmps .none⟩ := by
 simp only [evCall, hc, if_true, reduceIte]
 rw [m_fn]
theorem gp_of {call : Caller} {base : Nat} {Q : EX × St → Prop} {d : Option Nat} {l : List IOper} {ks : List Kont} {e : Env} {r : Res (AV × Heap)} (h : r.all fun p => GO call base Q l ks ⟨setDst e d p.1, p.2⟩) : GP call base Q d l ks e r := h
theorem gp_raw {T : Cfg} {k f n : Nat} {as : List AV} {P : Heap → AV → Heap → Prop} {h : Heap} {base : Nat} {Q : EX × St → Prop} {d : Option Nat} {l : List IOper} {ks : List Kont} {e : Env} (hc : Raw T k f as P) (hk : k ≤ n)
  (hV : ∀ v h', P h v h' → GO (evCall T n) base Q l ks ⟨setDst e d v, h'⟩) : GP (evCall T n) base Q d l ks e (evCall T n true (.fn f) as h) := hc n h _ hk hV
theorem frz_optr {h : Heap} {k ver off n : Nat} {cs cs' : List AV} (hH : getH h k = .cells ver cs) (hcs : mapR (freeze h n) cs = .ret cs') : freeze h (n + 1) (.optr k ver off) = .ret (.ptr cs' off) := by
 rw [freeze]
 simp only [hH]
 rw [if_pos trivial, hcs]
 rfl
theorem frz_clo {h : Heap} {f n : Nat} {a b a' b' : List AV} (ha : mapR (freeze h n) a = .ret a') (hb : mapR (freeze h n) b = .ret b') : freeze h (n + 1) (.clo f a b) = .ret (.clo f a' b') := by
 rw [freeze]
 simp only [ha, hb]
 rfl
theorem mz_nil (h : Heap) (n : Nat) : mapR (freeze h n) [] = .ret [] := rfl
theorem mz_cons {h : Heap} {n : Nat} {a b : AV} {as bs : List AV} (ha : freeze h n a = .ret b) (hs : mapR (freeze h n) as = .ret bs) : mapR (freeze h n) (a :: as) = .ret (b :: bs) := by
 simp only [mapR, ha, hs]
 rfl
theorem cells_agg (cs : List AV) : AV.cells (.agg cs) = cs := rfl
theorem cells_int (k : IntKind) (n : Int) : AV.cells (.int k n) = [.int k n] := rfl
theorem cells_bool (b : Bool) : AV.cells (.bool b) = [.bool b] := rfl
theorem cells_slice (g : Option Nat) (xs : List AV) (ex : Bool) : AV.cells (.slice g xs ex) = [.slice g xs ex] := rfl
theorem cells_oslice (a b : Nat) (g : Option Nat) (c d : Nat) (f : Option Nat) : AV.cells (.oslice a b g c d f) = [.oslice a b g c d f] := rfl
theorem cells_ptr (cs : List AV) (o : Nat) : AV.cells (.ptr cs o) = [.ptr cs o] := rfl
theorem cells_optr (a b c : Nat) : AV.cells (.optr a b c) = [.optr a b c] := rfl
theorem cells_nilptr : AV.cells .nilptr = [.nilptr] := rfl
theorem cells_omap (a b : Nat) : AV.cells (.omap a b) = [.omap a b] := rfl
theorem cells_fmap (a b : List AV) : AV.cells (.fmap a b) = [.fmap a b] := rfl
theorem cells_clo (f : FuncId) (a b : List AV) : AV.cells (.clo f a b) = [.clo f a b] := rfl
theorem one_int (k : IntKind) (n : Int) : oneB (.int k n) = true := rfl
theorem one_bool (b : Bool) : oneB (.bool b) = true := rfl
theorem one_slice (g : Option Nat) (xs : List AV) (ex : Bool) : oneB (.slice g xs ex) = true := rfl
theorem one_oslice (a b : Nat) (g : Option Nat) (c d : Nat) (f : Option Nat) : oneB (.oslice a b g c d f) = true := rfl
theorem one_ptr (cs : List AV) (o : Nat) : oneB (.ptr cs o) = true := rfl
theorem one_optr (a b c : Nat) : oneB (.optr a b c) = true := rfl
theorem one_nilptr : oneB .nilptr = true := rfl
theorem one_omap (a b : Nat) : oneB (.omap a b) = true := rfl
theorem one_fmap (a b : List AV) : oneB (.fmap a b) = true := rfl
theorem one_clo (f : FuncId) (a b : List AV) : oneB (.clo f a b) = true := rfl
theorem num_int (k : IntKind) (n : Int) : numB (.int k n) = true := rfl
theorem num_bool (b : Bool) : numB (.bool b) = true := rfl
def Own (lo : Nat) (h : Heap) (v : AV) (k : IntKind) (l : List Int) : Prop :=
 (l = [] ∧ v = .slice none [] true) ∨ ∃ key ver, lo ≤ key ∧ v = .oslice key ver none 0 l.length none ∧ getH h key = .cells ver (l.map (.int k))
def keyOf : AV → Option Nat
 | .oslice key .. => some key
 | _ => none
theorem getH_lt {h : Heap} {k : Nat} {o : AObj} (hk : getH h k = o) (ho : o ≠ .none) : k < h.length := by
 apply Nat.lt_of_not_le
 intro hle
 exact ho (hk ▸ getH_ge h k hle)
theorem own_nil (lo : Nat) (h : Heap) (k : IntKind) : Own lo h (.slice none [] true) k [] := .inl ⟨rfl, rfl⟩
theorem frz_Own {lo : Nat} {h : Heap} {v : AV} {k : IntKind} {l : List Int} {n : Nat} (ho : Own lo h v k l) : freeze h (n + 2) v = .ret (.slice none (l.map (.int k)) false) := by
 rcases ho with ⟨rfl, rfl⟩ | ⟨key, ver, _, rfl, hH⟩
 ·rfl
 ·exact frz_own hH rfl
theorem fresh_Own {lo : Nat} {h : Heap} {v : AV} {k : IntKind} {l : List Int} {n : Nat} (ho : Own lo h v k l) : freshB h (n + 2) v = true := by
 rcases ho with ⟨rfl, rfl⟩ | ⟨key, ver, _, rfl, hH⟩
 ·rfl
 ·exact fresh_own hH
theorem Own.other {lo : Nat} {h h' : Heap} {v : AV} {k : IntKind} {l : List Int} (ho : Own lo h v k l) (hf : ∀ j, keyOf v = some j → getH h' j = getH h j) : Own lo h' v k l := by
 rcases ho with ⟨rfl, rfl⟩ | ⟨key, ver, hk, rfl, hH⟩
 ·exact own_nil ..
 ·exact .inr ⟨key, ver, hk, rfl, by rw [hf key rfl, hH]⟩
theorem Own.setH {lo : Nat} {h : Heap} {v : AV} {k : IntKind} {l : List Int} {j : Nat} {o : AObj} (ho : Own lo h v k l) (hj : j < lo) : Own lo (setH h j o) v k l := by
 rcases ho with ⟨rfl, rfl⟩ | ⟨key, ver, hk, rfl, hH⟩
 ·exact own_nil ..
 ·exact .inr ⟨key, ver, hk, rfl, by rw [getH_setH_ne _ _ _ _ (by omega), hH]⟩
theorem Own.cells {lo : Nat} {h : Heap} {v : AV} {k : IntKind} {l : List Int} (ho : Own lo h v k l) : v.cells = [v] := by
 rcases ho with ⟨_, rfl⟩ | ⟨_, _, _, rfl, _⟩ <;> rfl
theorem Own.oneB {lo : Nat} {h : Heap} {v : AV} {k : IntKind} {l : List Int} (ho : Own lo h v k l) : oneB v = true := by
 rcases ho with ⟨_, rfl⟩ | ⟨_, _, _, rfl, _⟩ <;> rfl
theorem Own.lenA {lo : Nat} {h : Heap} {v : AV} {k : IntKind} {l : List Int} (ho : Own lo h v k l) : lenA v = some l.length := by
 rcases ho with ⟨rfl, rfl⟩ | ⟨_, _, _, rfl, _⟩ <;> rfl
theorem gp_append {call : Caller} {base : Nat} {Q : EX × St → Prop} {d : Option Nat} {L : List IOper} {ks : List Kont} {e : Env} {h : Heap} {lo b m kk : Nat} {x y : AV} {k : IntKind} {l l2 : List Int} (hkk : kk = h.length) (hx : Own lo h x k l) (hlo : lo ≤ h.length) (hy : cellsOfSlice h y = some (none, m, l2.map (.int k))) (hm : m = l2.length) (hm0 : 0 < m) (hr : (l.length + m) * b ≤ 1099511627776)
  (H : ∀ x' h', Own lo h' x' k (l ++ l2) → (∀ j, j < lo → getH h' j = getH h j) → h.length ≤ h'.length → (∀ j, j < h.length → keyOf x ≠ some j → getH h' j = getH h j) → (∀ j, keyOf x' = some j → keyOf x = some j ∨ j = h.length) → GO call base Q L ks ⟨setDst e d x', h'⟩) :
  GP call base Q d L ks e (evAppend kk none b x y h) := by
 subst hm
 subst hkk
 have hroom := room_ok hr
 rcases hx with ⟨rfl, rfl⟩ | ⟨key, ver, hk, rfl, hH⟩
 ·have : evAppend h.length none b (.slice none [] true) y h = .ret (.oslice h.length (getH h h.length).next none 0 l2.length none, setH h h.length (.cells (getH h h.length).next (l2.map (.int k)))) := by
   have h1 : ¬ l2.length = 0 := by omega
   rw [List.length_nil, Nat.zero_add] at hroom
   simp only [evAppend, hy, List.length_nil, hroom, ne_eq, not_true_eq_false, if_false, Bool.true_eq_false, or_self, h1, Nat.zero_add, flat, List.nil_append]
  rw [this, gp_ret]
  refine H _ _ (.inr ⟨h.length, _, hlo, rfl, by simp⟩) (fun j hj => getH_setH_ne _ _ _ _ (by omega)) (by rw [length_setH]; omega) (fun j hj _ => getH_setH_ne _ _ _ _ (by omega)) (fun j hj => .inr (by simpa [keyOf] using hj.symm))
 ·have hlt := getH_lt hH (by simp)
  have : evAppend h.length none b (.oslice key ver none 0 l.length none) y h = .ret (.oslice key (ver + 1) none 0 (l.length + l2.length) none, setH h key (.cells (ver + 1) ((l ++ l2).map (.int k)))) := by
   have h1 : ¬ l2.length = 0 := by omega
   have h2 : ¬ l.length + l2.length ≤ l.length := by omega
   simp only [evAppend, hy, hH, hroom, gsize, List.length_map, ne_eq, not_true_eq_false, if_false, or_self, h1, Nat.zero_add, Nat.mul_one, Nat.lt_irrefl, h2, and_self, if_true, List.map_append]
  rw [this, gp_ret, ← List.length_append]
  refine H _ _ (.inr ⟨key, _, hk, rfl, by simp⟩) (fun j hj => getH_setH_ne _ _ _ _ (by omega)) (by rw [length_setH]; omega) (fun j hj hne => getH_setH_ne _ _ _ _ (fun h => hne (by rw [h]; rfl))) (fun j hj => .inl (by simpa [keyOf] using hj))
theorem gp_append1 {call : Caller} {base : Nat} {Q : EX × St → Prop} {d : Option Nat} {L : List IOper} {ks : List Kont} {e : Env} {h : Heap} {lo b kk : Nat} {x : AV} {k : IntKind} {l : List Int} {a : Int} {ex : Bool} (hkk : kk = h.length) (hx : Own lo h x k l) (hlo : lo ≤ h.length) (hr : (l.length + 1) * b ≤ 1099511627776)
  (H : ∀ x' h', Own lo h' x' k (l ++ [a]) → (∀ j, j < lo → getH h' j = getH h j) → h.length ≤ h'.length → (∀ j, j < h.length → keyOf x ≠ some j → getH h' j = getH h j) → (∀ j, keyOf x' = some j → keyOf x = some j ∨ j = h.length) → GO call base Q L ks ⟨setDst e d x', h'⟩) :
  GP call base Q d L ks e (evAppend kk none b x (.slice none [.int k a] ex) h) :=
 gp_append (l2 := [a]) hkk hx hlo rfl rfl Nat.one_pos hr H
def OwnG (lo : Nat) (h : Heap) (v : AV) (g : Option Nat) (n : Nat) (cs : List AV) : Prop :=
 (n = 0 ∧ cs = [] ∧ v = .slice g [] true) ∨ ∃ key ver, lo ≤ key ∧ v = .oslice key ver g 0 n none ∧ getH h key = .cells ver cs ∧ cs.length = n * gsize g
theorem ownG_nil (lo : Nat) (h : Heap) (g : Option Nat) : OwnG lo h (.slice g [] true) g 0 [] := .inl ⟨rfl, rfl, rfl⟩
theorem OwnG.setH {lo : Nat} {h : Heap} {v : AV} {g : Option Nat} {n : Nat} {cs : List AV} {j : Nat} {o : AObj} (ho : OwnG lo h v g n cs) (hj : j < lo) : OwnG lo (setH h j o) v g n cs := by
 rcases ho with h1 | ⟨key, ver, hk, h1, hH, h2⟩
 ·exact .inl h1
 ·exact .inr ⟨key, ver, hk, h1, by rw [getH_setH_ne _ _ _ _ (by omega), hH], h2⟩
theorem OwnG.other {lo : Nat} {h h' : Heap} {v : AV} {g : Option Nat} {n : Nat} {cs : List AV} (ho : OwnG lo h v g n cs) (hf : ∀ j, keyOf v = some j → getH h' j = getH h j) : OwnG lo h' v g n cs := by
 rcases ho with h1 | ⟨key, ver, hk, rfl, hH, h2⟩
 ·exact .inl h1
 ·exact .inr ⟨key, ver, hk, rfl, by rw [hf key rfl, hH], h2⟩
theorem frz_OwnG {lo : Nat} {h : Heap} {v : AV} {n m : Nat} {g : Nat} {cs : List AV} (ho : OwnG lo h v (some g) n cs) (hcs : mapR (freeze h m) cs = .ret cs) : freeze h (m + 1) v = .ret (.slice (some g) (grouped (some g) n cs) false) := by
 rcases ho with ⟨rfl, rfl, rfl⟩ | ⟨key, ver, _, rfl, hH, h2⟩
 ·rfl
 ·have e : (cs.drop 0).take (n * gsize (some g)) = cs := by rw [List.drop_zero, List.take_of_length_le (by omega)]
  rw [freeze]
  simp only [hH]
  rw [if_pos ⟨trivial, by omega⟩, e, hcs]
  rfl
theorem gp_appendG {call : Caller} {base : Nat} {Q : EX × St → Prop} {d : Option Nat} {L : List IOper} {ks : List Kont} {e : Env} {h : Heap} {lo b m n kk : Nat} {g : Option Nat} {x y : AV} {cs c2 : List AV} (hkk : kk = h.length) (hx : OwnG lo h x g n cs) (hg : 0 < gsize g) (hlo : lo ≤ h.length) (hy : cellsOfSlice h y = some (g, m, c2)) (hm : c2.length = m * gsize g) (hm0 : 0 < m) (hr : (n + m) * b ≤ 1099511627776)
  (H : ∀ x' h', OwnG lo h' x' g (n + m) (cs ++ c2) → (∀ j, j < lo → getH h' j = getH h j) → h.length ≤ h'.length → (∀ j, j < h.length → keyOf x ≠ some j → getH h' j = getH h j) → (∀ j, keyOf x' = some j → keyOf x = some j ∨ j = h.length) → GO call base Q L ks ⟨setDst e d x', h'⟩) :
  GP call base Q d L ks e (evAppend kk g b x y h) := by
 subst hkk
 have hroom := room_ok hr
 rcases hx with ⟨rfl, rfl, rfl⟩ | ⟨key, ver, hk, rfl, hH, hcl⟩
 ·have : evAppend h.length g b (.slice g [] true) y h = .ret (.oslice h.length (getH h h.length).next g 0 m none, setH h h.length (.cells (getH h h.length).next c2)) := by
   have h1 : ¬ m = 0 := by omega
   have hf : flat g [] = [] := by cases g <;> rfl
   rw [Nat.zero_add] at hroom
   simp only [evAppend, hy, List.length_nil, hroom, ne_eq, not_true_eq_false, if_false, Bool.true_eq_false, or_self, h1, Nat.zero_add, hf, List.nil_append]
  rw [this, gp_ret]
  rw [Nat.zero_add] at H
  refine H _ _ (.inr ⟨h.length, _, hlo, rfl, by simp, hm⟩) (fun j hj => getH_setH_ne _ _ _ _ (by omega)) (by rw [length_setH]; omega) (fun j hj _ => getH_setH_ne _ _ _ _ (by omega)) (fun j hj => .inr (by simpa [keyOf] using hj.symm))
 ·have hlt := getH_lt hH (by simp)
  have : evAppend h.length g b (.oslice key ver g 0 n none) y h = .ret (.oslice key (ver + 1) g 0 (n + m) none, setH h key (.cells (ver + 1) (cs ++ c2))) := by
   have h1 : ¬ m = 0 := by omega
   have h2 : ¬ (n + m) * gsize g ≤ cs.length := by
    rw [hcl, Nat.add_mul]
    have : 0 < m * gsize g := Nat.mul_pos hm0 hg
    omega
   have h3 : ¬ cs.length < n * gsize g := by omega
   simp only [evAppend, hy, hH, hroom, ne_eq, not_true_eq_false, if_false, or_self, h1, Nat.zero_add, h2, h3, hcl, Nat.lt_irrefl, and_self, if_true]
   rw [hcl] at h2
   rw [if_neg h2]
  rw [this, gp_ret]
  refine H _ _ (.inr ⟨key, _, hk, rfl, by simp, by rw [List.length_append, hcl, hm, Nat.add_mul]⟩) (fun j hj => getH_setH_ne _ _ _ _ (by omega)) (by rw [length_setH]; omega) (fun j hj hne => getH_setH_ne _ _ _ _ (fun h => hne (by rw [h]; rfl))) (fun j hj => .inl (by simpa [keyOf] using hj))
def capped : AV → AV
 | .oslice key ver g off len _ => .oslice key ver g off len (some len)
 | v => v
theorem slA_full {lo : Nat} {h : Heap} {v : AV} {k : IntKind} {l : List Int} (ho : Own lo h v k l) {e : Env} {hi mx : IX} {k1 k2 : IntKind} (h1 : hi.ev e = .int k1 l.length) (h2 : mx.ev e = .int k2 l.length) : slA none e none (some hi) (some mx) v = .ret (capped v) := by
 rcases ho with ⟨rfl, rfl⟩ | ⟨key, ver, _, rfl, hH⟩
 ·simp [slA, sliceB, h1, h2, boundOf, Res.bind, capped]
 ·simp [slA, sliceB, h1, h2, boundOf, Res.bind, capped, gsize]
theorem gp_append_capped {call : Caller} {base : Nat} {Q : EX × St → Prop} {d : Option Nat} {L : List IOper} {ks : List Kont} {e : Env} {h : Heap} {lo b m kk : Nat} {x y : AV} {k : IntKind} {l l2 : List Int} (hkk : kk = h.length) (hx : Own lo h x k l) (hlo : lo ≤ h.length) (hy : cellsOfSlice h y = some (none, m, l2.map (.int k))) (hm : m = l2.length) (hm0 : 0 < m) (hr : (l.length + m) * b ≤ 1099511627776)
  (H : ∀ x' h', Own lo h' x' k (l ++ l2) → (∀ j, j < h.length → getH h' j = getH h j) → h.length ≤ h'.length → keyOf x' = some h.length → GO call base Q L ks ⟨setDst e d x', h'⟩) :
  GP call base Q d L ks e (evAppend kk none b (capped x) y h) := by
 subst hm
 subst hkk
 have hroom := room_ok hr
 have h1 : ¬ l2.length = 0 := by omega
 rcases hx with ⟨rfl, rfl⟩ | ⟨key, ver, hk, rfl, hH⟩
 ·have : evAppend h.length none b (capped (.slice none [] true)) y h = .ret (.oslice h.length (getH h h.length).next none 0 l2.length none, setH h h.length (.cells (getH h h.length).next (l2.map (.int k)))) := by
   rw [List.length_nil, Nat.zero_add] at hroom
   simp only [capped, evAppend, hy, List.length_nil, hroom, ne_eq, not_true_eq_false, if_false, Bool.true_eq_false, or_self, h1, Nat.zero_add, flat, List.nil_append]
  rw [this, gp_ret]
  exact H _ _ (.inr ⟨h.length, _, hlo, rfl, by simp⟩) (fun j hj => getH_setH_ne _ _ _ _ (by omega)) (by rw [length_setH]; omega) rfl
 ·have hlt := getH_lt hH (by simp)
  have : evAppend h.length none b (capped (.oslice key ver none 0 l.length none)) y h = .ret (.oslice h.length (getH h h.length).next none 0 (l.length + l2.length) none, setH h h.length (.cells (getH h h.length).next ((l ++ l2).map (.int k)))) := by
   have h2 : ¬ l.length + l2.length ≤ l.length := by omega
   simp only [capped, evAppend, hy, hH, hroom, gsize, List.length_map, ne_eq, not_true_eq_false, if_false, or_self, h1, Nat.zero_add, Nat.mul_one, Nat.lt_irrefl, h2, List.map_append, List.drop_zero]
   rw [List.take_of_length_le (by simp)]
  rw [this, gp_ret, ← List.length_append]
  exact H _ _ (.inr ⟨h.length, _, hlo, rfl, by simp⟩) (fun j hj => getH_setH_ne _ _ _ _ (by omega)) (by rw [length_setH]; omega) rfl
def slF (g : Option Nat) (xs : List AV) (ex : Bool) : AV → Res AV
 | .int _ n => if 0 ≤ n ∧ n ≤ xs.length then .ret (.slice g (xs.drop n.toNat) ex) else .fail
 | _ => .fail
theorem slA_from (g : Option Nat) (e : Env) (lo : IX) (xs : List AV) (ex : Bool) : slA g e (some lo) none none (.slice g xs ex) = slF g xs ex (lo.ev e) := by
 simp only [slA, sliceB, ne_eq, not_true_eq_false, if_false, Res.bind]
 cases lo.ev e with
 | int k n =>
  simp only [boundOf, slF]
  split
  ·simp [Res.bind]
  ·rfl
 | _ => rfl
def slT (g : Option Nat) (xs : List AV) (ex : Bool) : AV → Res AV
 | .int _ n => if 0 ≤ n ∧ n ≤ xs.length then .ret (.slice g (xs.take n.toNat) (ex && (n.toNat == xs.length))) else .fail
 | _ => .fail
theorem slA_to (g : Option Nat) (e : Env) (hi : IX) (xs : List AV) (ex : Bool) : slA g e none (some hi) none (.slice g xs ex) = slT g xs ex (hi.ev e) := by
 simp only [slA, sliceB, ne_eq, not_true_eq_false, if_false, Res.bind]
 cases hi.ev e with
 | int k n =>
  simp only [boundOf, slT, Option.getD_some]
  split
  ·simp [Res.bind]
  ·rfl
 | _ => rfl
theorem asNat_succ (k : IntKind) (n : Nat) : asNat (.int k ((n : Int) + 1)) = some (n + 1) := asNat_nat k (n + 1)
theorem asNat_0 (k : IntKind) : asNat (.int k 0) = some 0 := rfl
theorem asNat_1 (k : IntKind) : asNat (.int k 1) = some 1 := rfl
theorem asNat_2 (k : IntKind) : asNat (.int k 2) = some 2 := rfl
theorem or_pb (a b : Bool) : (a || plainB depth (.bool b)) = true := by cases a <;> rfl
theorem or_pi (a : Bool) (k : IntKind) (v : Int) : (a || plainB depth (.int k v)) = true := by cases a <;> rfl
def idxB {α : Type} (p : α → Bool) : List α → Int → Int
 | [], _ => -1
 | x :: r, i => if p x then i else idxB p r (i + 1)
theorem idxB_any {α : Type} (p : α → Bool) : ∀ (l : List α) (i : Int), 0 ≤ i → decide (idxB p l i ≥ 0) = l.any p
 | [], _, _ => rfl
 | x :: r, i, hi => by
  unfold idxB
  rw [List.any_cons]
  split
  ·next h => simp [h, hi]
  ·next h => rw [idxB_any p r (i + 1) (by omega)]; simp [h]
theorem max_two (k : IntKind) (a b : Int) : maxOf k a [.int k b] = .ret (.int k (if b > a then b else a)) := by simp [maxOf]
theorem min_two (k : IntKind) (a b : Int) : minOf k a [.int k b] = .ret (.int k (if b < a then b else a)) := by simp [minOf]
theorem ixA_slice (sz : Nat) (g : Option Nat) (xs : List AV) (ex : Bool) (j : Nat) : ixA sz (.slice g xs ex) j = if gsize g = sz then (match xs[j]? with | some v => .ret (.ptr v.cells 0) | none => .fail) else .fail := rfl
theorem ixA_oslice (sz k ver off len j : Nat) (g : Option Nat) (c : Option Nat) : ixA sz (.oslice k ver g off len c) j = if gsize g = sz ∧ j < len then .ret (.optr k ver (off + j * sz)) else .fail := rfl
theorem ldA_ptr (g : Option Nat) (h : Heap) (cs : List AV) (off : Nat) : ldA g h (.ptr cs off) = rd g cs off := rfl
theorem ldA_optr (g : Option Nat) (h : Heap) (k ver off : Nat) : ldA g h (.optr k ver off) = (match getH h k with | .cells v cs => if v = ver then rd g cs off else .fail | _ => .fail) := rfl
theorem ixAA_ptr (n sz o j : Nat) (cs : List AV) : ixAA n sz (.ptr cs o) j = if j < n then .ret (.ptr cs (o + j * sz)) else .fail := rfl
theorem ixAA_optr (n sz k ver o j : Nat) : ixAA n sz (.optr k ver o) j = if j < n then .ret (.optr k ver (o + j * sz)) else .fail := rfl
attribute [go_sem] m_loadS
 m_callS
 m_storeS
 ldS_ptr
 ldS_optr
 sepT_nil
 sepT_cons
 sepD_nil
 sepD_cons
 free_int
 free_bool
 free_slice
 free_ptr
 free_agg
 free7_int
 free7_bool
 free7_slice
 m_seq
 m_block
 m_skip
 m_exit
 m_ret
 m_ops
 m_cond
 m_nil
 r_seq
 r_seqE
 r_seqR
 r_blk
 r_blkE
 r_blkR
 r_inv
 r_invE
 r_invR
 r_nil
 gv_ret
 gv_fail
 gv_some
 gv_ite
 gp_ret
 gp_fail
 gp_ite
 gc_ret
 gc_ite
 m_guard
 m_mv
 m_bin
 m_un
 m_indexAddr
 m_load
 m_fieldAddr
 m_nilCheck
 m_len
 m_store
 m_conv
 m_extract
 m_pick
 m_mkFunc
 m_callF
 m_alloc
 m_box
 m_build
 m_field
 m_index
 m_mkSlice
 m_isNil m_loadL m_storeL m_appendL m_mkSliceK m_callC m_mapEntry m_entryStore
 m_append
 m_call
 m_max
 m_min
 m_buildSlice
 m_buildSliceO
 m_slice
 m_indexAddrA
 m_copy
 m_clear
 m_eqAgg
 m_eqB
 ixAA_ptr
 ixAA_optr
 ix_tmp
 ix_const
 dst_some
 dst_none
 b_add
 b_sub
 b_mul
 b_eql
 b_neq
 b_lss
 b_leq
 b_gtr
 b_geq
 u_not
 u_neg
 getE_setE
 getH_setH
 asNat_nat
 asNat_succ
 asNat_0
 asNat_1
 asNat_2
 getH_replicate
 next_none
 next_cells
 List.length_replicate
 length_setH
 len_le
 room_ok
 wrap64
 max_two
 min_two
 Nat.max_eq_left
 At_nil
 At_cons
 and_true
 true_and
 List.map_cons
 List.map_nil
 List.all_cons
 List.all_nil
 List.length_map
 List.length_nil
 List.length_cons
 Bool.and_true
 Bool.true_and
 decide_true
 decide_false
 Bool.false_eq_true
 Bool.true_eq_false
 Bool.not_true
 Bool.not_false
 one_int
 one_bool
 one_slice
 one_oslice
 one_ptr
 one_optr
 one_nilptr
 one_omap
 one_fmap
 one_clo
 num_int
 num_bool
 cells_agg
 cells_int
 cells_bool
 cells_slice
 cells_oslice
 cells_ptr
 cells_optr
 cells_nilptr
 cells_omap
 cells_fmap
 cells_clo
 gsize
 ixA_slice
 ixA_oslice
 ldA_ptr
 ldA_optr
 rd
 List.getElem?_map
 Option.map_some
 Option.map_none
 List.getElem?_cons_zero
 List.getElem?_cons_succ
 List.nil_append
 List.append_nil
 List.cons_append
 List.length_append
 Nat.add_left_cancel_iff
 Nat.add_assoc
 fillParts
 Nat.div_one
 grouped
 getE
 Int.ofNat_lt
 Option.getD_some
 Option.getD_none
 ite_and
 lenA_slice
 lenA_oslice
 slA_from
 slF
 slA_to
 slT
 fin_ret
 fin_normal
 resV_nil
 resV_cell
 resV_one
 resV_two
 resV_three
 all_ret
 splice
 set_map
 List.take_succ_cons
 List.take_zero
 List.take_nil
 List.drop_zero
 List.drop_nil
 List.drop_succ_cons
 List.set_cons_zero
 List.set_cons_succ
 eq_self
 List.all_nil
 Nat.mul_one
 Nat.zero_add
 Nat.add_zero
 Int.natCast_add
 Int.cast_ofNat_Int
 Int.natCast_zero
 Int.zero_add
attribute [go_sem] Nat.reduceEqDiff Nat.reduceAdd Nat.reduceMul reduceCtorEq Nat.reduceDiv Nat.reduceLeDiff Nat.reduceLT Nat.reduceSub reduceIte
end Go.Ev
