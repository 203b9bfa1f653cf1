/- From the translated code to the evaluator's code: types resolved, places left out. No condition but those that stand in each. -/
import Derived.Test.YtjcabpldgdafeaaEEvDefs
set_option linter.unusedSimpArgs false
set_option linter.unusedVariables false
namespace Go.Ev
def grpOf (P : Program) (t : TypeId) : Option (Option Nat) :=
 match P.underlying t with
 | some (.struct _) | some (.array _ _) =>
  match P.info? t with
  | some i => if 0 < i.size then some (some i.size) else none
  | none => none
 | some _ =>
  match P.info? t with
  | some i => if i.size = 1 then some none else none
  | none => none
 | none => none
def zeroAV (P : Program) : Nat → TypeId → Option (List AV)
 | 0, _ => none
 | n + 1, t =>
  match P.underlying t with
  | some .bool => some [.bool false]
  | some (.int k) => some [.int k 0]
  | some (.pointer _) => some [.nilptr]
  | some (.slice e) => (grpOf P e).map fun g => [.slice g [] true]
  | some (.map _ _) => some [.fmap [] []]
  | some (.func _ _ _) => some [.nilfn]
  | some (.array len e) => (zeroAV P n e).map fun z => (List.replicate len z).flatten
  | some (.struct fs) => (fs.toList.mapM fun f => zeroAV P n f.type).map List.flatten
  | _ => none
def constRel : Nat → AV → Value → Bool
 | _, .bool a, .bool b => a == b
 | _, .int k a, .int k' b => k == k' && a == b
 | _, .slice _ [] _, .slice none 0 0 => true
 | _, .nilptr, .pointer none => true
 | _, .nilfn, .nilFunc => true
 | _, .fmap [] [], .map none => true
 | n + 1, .agg cs, .agg vs => cs.length == vs.size && (cs.zip vs.toList).all fun (a, b) => constRel n a b
 | _, _, _ => false
def constAV (P : Program) (t : TypeId) (v : Value) : Option AV :=
 let a : Option AV :=
  match v with
  | .bool b => some (.bool b)
  | .int k n => some (.int k n)
  | .slice none 0 0 =>
   match P.underlying t with
   | some (.slice e) => (grpOf P e).map fun g => .slice g [] true
   | _ => none
  | .pointer none => some .nilptr
  | .nilFunc => some .nilfn
  | .map none => some (.fmap [] [])
  | _ => none
 match a with
 | some a => if constRel 3 a v then some a else none
 | none => none
def cX (P : Program) (t : TypeId) : Operand → Option IX
 | .tmp t => some (.tmp t)
 | .const v => (constAV P t v).map .const
 | .func f => some (.const (.clo f [] []))
 | .global _ => none
def zeroOf (P : Program) (t : TypeId) : Option (List AV) :=
 match zeroAV P 12 t, (P.info? t).bind (·.zero) with
 | some z, some v =>
  if z.length = v.cells.size ∧ (P.info? t).map (·.size) = some z.length ∧ (z.zip v.cells.toList).all (fun (a, b) => constRel 3 a b) then some z else none
 | _, _ => none
def isIntT (P : Program) (t : TypeId) : Bool := match P.underlying t with | some (.int _) => true | _ => false
def intsOnly (P : Program) (t : TypeId) : Bool :=
 !(P.stoodInHeld t) && !(P.eqGuardType P.depth t) &&
 match P.underlying t with
 | some (.array n e) => isIntT P e && P.cellsOf e == 1 && P.cellsOf t == n
 | some (.struct fs) => (fs.toList.zipIdx.all fun (f, i) => isIntT P f.type && f.offset == i && f.name != "_") && P.cellsOf t == fs.size
 | _ => false
def keyT (P : Program) (t : TypeId) : Option (Option Nat) :=
 if isIntT P t then some none
 else if intsOnly P t then some (some (P.cellsOf t)) else none
def zVal (g : Option Nat) (z : List AV) : AV :=
 match g with
 | none => z.getD 0 .undef
 | some _ => .agg z
def zeroOne (P : Program) (t : TypeId) : Option AV :=
 match zeroAV P 12 t, (P.info? t).bind (·.zero), grpOf P t with
 | some z, some v, some g =>
  if constRel 3 (zVal g z) v then some (zVal g z) else none
 | _, _, _ => none
def optX (P : Program) (x : Option Operand) : Option (Option IX) :=
 match x with
 | none => some none
 | some x => (cX P 0 x).map some
def allX (P : Program) (ts : List TypeId) (xs : List Operand) : Option (List IX) :=
 match xs, ts with
 | [], _ => some []
 | x :: r, t :: ts => (cX P t x).bind fun a => (allX P ts r).map (a :: ·)
 | x :: r, [] => (cX P 0 x).bind fun a => (allX P [] r).map (a :: ·)
def isNeq : BinOp → Bool
 | .neq => true
 | _ => false
def nilCmp (P : Program) (op : BinOp) (t : TypeId) (y : Operand) : Bool :=
 (match P.underlying t with | some (.slice _) => true | _ => false) && (match y with | .const (.slice none 0 0) => true | _ => false) && (match op with | .eql | .neq => true | _ => false)
def cOp (P : Program) (byr : FuncId → Bool) (o : Oper) : Option IOp :=
 match o.op with
 | .move x | .assign x => (cX P o.type x).map .mv
 | .pick c a b => (cX P 0 c).bind fun c => (cX P o.type a).bind fun a => (cX P o.type b).map fun b => .pick c a b
 | .alloc t => if o.dst.isSome then (zeroOf P t).map .alloc else none
 | .box t x => if o.dst.isSome ∧ (grpOf P t).isSome then (cX P t x).map .box else none
 | .build t parts =>
  (zeroOf P t).bind fun z =>
  match P.underlying t with
  | some (.struct fs) =>
   if !(fs.toList.all fun f => (P.info? f.type).isSome) then none else
   (parts.toList.mapM fun ((i, x) : Nat × Operand) => (fs[i]?).bind fun (f : Field) => (cX P f.type x).map fun x => (f.offset, P.cellsOf f.type, x)).map fun ps => .build z ps
  | some (.array _ e) =>
   if !(P.info? e).isSome then none else
   (parts.toList.mapM fun ((i, x) : Nat × Operand) => (cX P e x).map fun x => (i * P.cellsOf e, P.cellsOf e, x)).map fun ps => .build z ps
  | _ => none
 | .buildSlice t len parts =>
  match P.underlying t with
  | some (.slice e) =>
   (grpOf P e).bind fun g => (zeroOf P e).bind fun z =>
   if len * gsize g ≤ 16777216 ∧ z.length = gsize g ∧ 0 < gsize g then
    (parts.toList.mapM fun ((i, x) : Nat × Operand) => (cX P e x).map fun x => (i * gsize g, gsize g, x)).bind fun ps =>
     if z.all numB && !byr 1000001 then some (.buildSlice g (List.replicate len z).flatten ps) else if o.dst.isSome then some (.buildSliceO g (List.replicate len z).flatten ps) else none
   else none
  | _ => none
 | .load t x => (grpOf P t).bind fun g => (cX P 0 x).map fun x => .load g x
 | .store t a x => (grpOf P t).bind fun g => (cX P 0 a).bind fun a => (cX P t x).map fun x => .store (gsize g) a x
 | .nilCheck x => (cX P 0 x).map .nilCheck
 | .binOp op t x y _ =>
  if nilCmp P op t y then (cX P 0 x).map (.isNil (isNeq op)) else
  (cX P 0 x).bind fun a => (cX P 0 y).bind fun b =>
  match P.underlying t with
  | some (.int _) => some (.bin op a b)
  | some .bool =>
   match op with
   | .eql => some (.eqB false a b)
   | .neq => some (.eqB true a b)
   | _ => none
  | some (.array _ _) | some (.struct _) =>
   if intsOnly P t then
    match op with
    | .eql => some (.eqAgg (P.cellsOf t) false a b)
    | .neq => some (.eqAgg (P.cellsOf t) true a b)
    | _ => none
   else none
  | _ => none
 | .unOp op _ x => (cX P 0 x).map fun x => .un op x
 | .convert src dst x =>
  match P.underlying dst with
  | some (.int k) => (P.underlying src).bind fun _ => (cX P 0 x).map fun x => .conv k x
  | _ => none
 | .makeFunc (.func f) first captured =>
  (allX P [] first.toList).bind fun a => (allX P [] captured.toList).map fun b => .mkFunc f a b
 | .makeSlice t l c =>
  match P.underlying t with
  | some (.slice e) =>
   (grpOf P e).bind fun g => (zeroOf P e).bind fun z => (cX P 0 l).bind fun l => (cX P 0 c).bind fun c =>
   if o.dst.isSome ∧ z.length = gsize g ∧ 0 < gsize g ∧ 0 < P.bytesOf e then some (if byr 1000002 then .mkSliceK g z (P.bytesOf e) l c else .mkSlice g z (P.bytesOf e) l c) else none
  | _ => none
 | .slice t x lo hi mx =>
  (cX P 0 x).bind fun x => (optX P lo).bind fun lo => (optX P hi).bind fun hi => (optX P mx).bind fun mx =>
  match P.underlying t with
  | some (.slice e) => (grpOf P e).bind fun g => if 0 < gsize g then some (.slice g x lo hi mx) else none
  | some (.array n e) => (grpOf P e).bind fun g => if 0 < gsize g then some (.sliceA g n x lo hi mx) else none
  | _ => none
 | .fieldAddr s x f =>
  match P.underlying s with
  | some (.struct fs) =>
   (fs[f]?).bind fun (f : Field) => if 0 < P.cellsOf f.type then (cX P 0 x).map fun x => .fieldAddr f.offset x else none
  | _ => none
 | .field s x f =>
  match P.underlying s with
  | some (.struct fs) => (fs[f]?).bind fun (f : Field) => (grpOf P f.type).bind fun g => (cX P 0 x).map fun x => .field g f.offset x
  | _ => none
 | .indexAddr t x i =>
  match P.underlying t with
  | some (.slice e) => if 0 < P.cellsOf e then (cX P 0 x).bind fun x => (cX P 0 i).map fun i => .indexAddr (P.cellsOf e) x i else none
  | some (.array n e) => if 0 < P.cellsOf e then (cX P 0 x).bind fun x => (cX P 0 i).map fun i => .indexAddrA n (P.cellsOf e) x i else none
  | _ => none
 | .index t x i =>
  match P.underlying t with
  | some (.array n e) => (grpOf P e).bind fun g => (cX P 0 x).bind fun x => (cX P 0 i).map fun i => .index g n x i
  | _ => none
 | .extract x i => (cX P 0 x).map fun x => .extract x i
 | .makeMap _ r => if o.dst.isSome ∧ r.isNone then some .mkMap else none
 | .lookup t x k ok =>
  match P.underlying t with
  | some (.map kt et) => (keyT P kt).bind fun kn => (zeroOne P et).bind fun z => (cX P t x).bind fun x => (cX P kt k).map fun k => .lookup kn z ok x k
  | _ => none
 | .mapUpdate t m k x | .insert t m k x =>
  match P.underlying t with
  | some (.map kt et) => (keyT P kt).bind fun kn => (cX P t m).bind fun m => (cX P kt k).bind fun k => (cX P et x).map fun x => .mapUpdate kn m k x
  | _ => none
 | .mapEntry t m k =>
  match P.underlying t with
  | some (.map kt et) => (keyT P kt).bind fun kn => (zeroOne P et).bind fun z => (cX P t m).bind fun m => (cX P kt k).map fun k => .mapEntry kn z m k
  | _ => none
 | .entryStore t m s x =>
  match P.underlying t with
  | some (.map _ et) => (cX P t m).bind fun m => (cX P 0 s).bind fun s => (cX P et x).map fun x => .entryStore m s x
  | _ => none
 | .range t x =>
  match P.underlying t with
  | some (.map _ _) => if o.dst.isSome then (cX P t x).map .range else none
  | _ => none
 | .next x false => (cX P 0 x).map .next
 | .entry x => (cX P 0 x).map .entry
 | .call c =>
  match c.callee with
  | .builtin .len =>
   match (c.argTypes[0]?).bind P.underlying, c.args.toList with
   | some (.slice _), [x] => (cX P (c.argTypes.getD 0 0) x).map .len
   | some (.array n _), [_] => some (.mv (.const (.int .i64 n)))
   | some (.map _ _), [x] => (cX P (c.argTypes.getD 0 0) x).map .lenM
   | some (.pointer _), _ => none
   | _, _ => none
  | .builtin .append =>
   match (c.argTypes[0]?).bind P.underlying, (c.argTypes[1]?).bind P.underlying, c.args.toList with
   | some (.slice e), some (.slice _), [x, y] =>
    (grpOf P e).bind fun g => (zeroOf P e).bind fun z => (cX P (c.argTypes.getD 0 0) x).bind fun x => (cX P (c.argTypes.getD 1 0) y).bind fun y =>
    if o.dst.isSome ∧ c.argTypes.toList = [c.argTypes.getD 0 0, c.argTypes.getD 0 0] ∧ z.length = gsize g ∧ 0 < gsize g ∧ 0 < P.bytesOf e ∧ z.all oneB then some (.append g (P.bytesOf e) x y) else none
   | _, _, _ => none
  | .builtin .copy =>
   match (c.argTypes[0]?).bind P.underlying, c.args.toList with
   | some (.slice e), [x, y] => (grpOf P e).bind fun g => if 0 < gsize g then (cX P (c.argTypes.getD 0 0) x).bind fun x => (cX P (c.argTypes.getD 1 0) y).map fun y => .copy g x y else none
   | _, _ => none
  | .builtin .clear =>
   match (c.argTypes[0]?).bind P.underlying, c.args.toList with
   | some (.slice e), [x] =>
    match grpOf P e, zeroOf P e with
    | some none, some [z] => (cX P (c.argTypes.getD 0 0) x).map fun x => .clear z x
    | _, _ => none
   | _, _ => none
  | .builtin .delete =>
   match (c.argTypes[0]?).bind P.underlying, c.args.toList with
   | some (.map kt _), [x, k] => (keyT P kt).bind fun kn => (cX P (c.argTypes.getD 0 0) x).bind fun x => (cX P kt k).map fun k => .delete kn x k
   | _, _ => none
  | .builtin .max => (allX P c.argTypes.toList c.args.toList).map .max
  | .builtin .min => (allX P c.argTypes.toList c.args.toList).map .min
  | .value (.func f) => (allX P c.argTypes.toList c.args.toList).map fun xs => .callF (byr f) f xs
  | .value (.tmp t) => (allX P c.argTypes.toList c.args.toList).map fun xs => .call (byr 1000000) (.tmp t) xs
  | _ => none
 | _ => none
def cOper (P : Program) (byr : FuncId → Bool) (n : Nat) (ops : Array Oper) (o : Oper) : IOper :=
 match (if (o.dst.getD 0) < n then cOp P byr o else none) with
 | none => { dst := o.dst, op := .bad, guard := none }
 | some op =>
  match o.guard with
  | none => { dst := o.dst, op, guard := none }
  | some (j, want) =>
   match (ops[j]?).bind (·.dst) with
   | some t => { dst := o.dst, op, guard := some (t, want) }
   | none => { dst := o.dst, op := .bad, guard := none }
inductive Touch where
 | not | reads | writes
 deriving DecidableEq
def IOp.touch : IOp → Touch
 | .mv _ | .pick .. | .build .. | .buildSlice .. | .bin .. | .eqB .. | .eqAgg .. | .un .. | .conv .. | .mkFunc .. | .field .. | .index .. | .extract .. | .max _ | .min _ | .bad
 | .nilCheck _ | .fieldAddr .. | .indexAddr .. | .indexAddrA .. | .len _ | .slice .. | .isNil .. => .not
 | .load .. | .loadS .. | .loadL .. | .callS .. | .sliceA .. | .lookup .. | .lenM _ | .entry _ => .reads
 | .callF raw _ _ => if raw then .writes else .reads
 | .call raw _ _ => if raw then .writes else .reads
 | _ => .writes
def IX.tmps : IX → List Nat
 | .tmp t => [t]
 | .const _ => []
def optTmps : Option IX → List Nat
 | some x => x.tmps
 | none => []
def IOp.tmps : IOp → List Nat
 | .mv x | .box x | .load _ x | .nilCheck x | .un _ x | .conv _ x | .fieldAddr _ x | .field _ _ x | .extract x _ | .len x | .clear _ x => x.tmps
 | .lenM x | .range x | .next x | .entry x | .isNil _ x | .loadL _ x _ _ _ => x.tmps
 | .storeL _ _ a v => a.tmps ++ v.tmps
 | .appendL _ _ _ _ x y => x.tmps ++ y.tmps
 | .mkSliceK _ _ _ l c => l.tmps ++ c.tmps
 | .callC _ _ _ xs => xs.flatMap (·.tmps)
 | .mapEntry _ _ x k => x.tmps ++ k.tmps
 | .entryStore x s v => x.tmps ++ s.tmps ++ v.tmps
 | .loadS _ x _ ts _ => x.tmps ++ ts
 | .callS _ xs => xs.flatMap (·.tmps)
 | .lookup _ _ _ x k | .delete _ x k => x.tmps ++ k.tmps
 | .mapUpdate _ x k v => x.tmps ++ k.tmps ++ v.tmps
 | .pick c a b => c.tmps ++ a.tmps ++ b.tmps
 | .build _ ps | .buildSlice _ _ ps | .buildSliceO _ _ ps => ps.flatMap fun p => p.2.2.tmps
 | .store _ a v | .storeS _ _ a v => a.tmps ++ v.tmps
 | .bin _ x y | .eqB _ x y | .eqAgg _ _ x y | .append _ _ x y | .copy _ x y => x.tmps ++ y.tmps
 | .mkFunc _ a b => a.flatMap (·.tmps) ++ b.flatMap (·.tmps)
 | .mkSlice _ _ _ l c => l.tmps ++ c.tmps
 | .slice _ x lo hi mx | .sliceA _ _ x lo hi mx => x.tmps ++ optTmps lo ++ optTmps hi ++ optTmps mx
 | .indexAddr _ x i | .indexAddrA _ _ x i | .index _ _ x i => x.tmps ++ i.tmps
 | .max xs | .min xs | .callF _ _ xs => xs.flatMap (·.tmps)
 | .call _ f xs => f.tmps ++ xs.flatMap (·.tmps)
 | .alloc _ | .mkMap | .bad => []
def IOper.looks (o : IOper) : List Nat := o.op.tmps ++ (match o.guard with | some (t, _) => [t] | none => [])
def apart (x y : IOper) : Bool :=
 (match x.op.touch, y.op.touch with
  | .not, _ | _, .not | .reads, .reads => true
  | _, _ => false) &&
 (match x.dst with | some d => !(y.looks.contains d) && y.dst != some d | none => true) &&
 (match y.dst with | some d => !(x.looks.contains d) | none => true)
def befL : List Oper → List Nat → List Nat
 | [], acc => acc
 | o :: r, acc => befL r (acc ++ [o.after.toList.foldl (fun s e => if Region.binds .any e then s ||| 2 ^ e.on ||| acc.getD e.on 0 else s) 0])
def ixEq : IX → IX → Bool
 | .tmp a, .tmp b => a == b
 | _, _ => false
def intEq : AV → AV → Bool
 | .int k a, .int k' b => k == k' && a == b
 | _, _ => false
def apartS (x y : IOper) : Bool :=
 (match x.op, y.op with
  | .loadS _ _ d0 ts _, .store _ (.tmp t) _ => ts.contains t && d0 == x.dst.getD 0
  | .loadS _ _ d0 _ ds, .alloc _ => (match y.dst with | some d => ds.contains d | none => false) && d0 == x.dst.getD 0
  | .loadS _ _ d0 _ ds, .storeS t _ _ _ => ds.contains t && d0 == x.dst.getD 0 && y.dst.getD 0 == 0
  | .callS .., .storeS .. => true
  | .callS .., .store .. => true
  | .callS .., .alloc _ => true
  | .alloc _, .alloc _ => x.dst.isSome && y.dst.isSome
  | .load .., .mkSlice .. => true
  | .loadL _ _ d0 n _, .appendL d1 m _ _ _ _ => n == m && d0 == x.dst.getD 0 && d1 == y.dst.getD 0
  | .loadL _ _ d0 _ ds, .alloc _ => (match y.dst with | some d => ds.contains d | none => false) && d0 == x.dst.getD 0
  | .loadL _ _ d0 n _, .storeL m _ _ _ => n == m && d0 == x.dst.getD 0 && y.dst.getD 0 == 0
  | .appendL d0 n _ _ _ _, .alloc _ => decide (y.dst.getD 0 < n) && d0 == x.dst.getD 0 && x.guard.isNone
  | .appendL d0 n _ _ _ _, .loadL _ _ d1 m _ => n == m && d0 == x.dst.getD 0 && d1 == y.dst.getD 0 && x.guard.isNone
  | .callC d0 n _ _, .mkSliceK .. => decide (y.dst.getD 0 < n) && d0 == x.dst.getD 0 && x.guard.isNone
  | .lookup kn z false a k, .mapEntry kn' z' a' k' => kn == kn' && ixEq a a' && ixEq k k' && intEq z z' && x.guard.isNone
  | _, _ => false) && y.guard.isNone &&
 (match x.dst with | some d => !(y.looks.contains d) && y.dst != some d | none => true) &&
 (match y.dst with | some d => !(x.looks.contains d) | none => true)
def allocsOf (l : List IOper) : List Nat := l.filterMap fun y => match y.op with | .alloc _ => y.dst | _ => none
def sepTs (b : List Nat) (l : List IOper) (i : Nat) : List Nat :=
 l.zipIdx.filterMap fun (y, j) => if i < j && !((b.getD j 0).testBit i) then (match y.op with | .store _ (.tmp t) _ => if (allocsOf (l.drop i)).contains t then none else some t | _ => none) else none
def sepDs (b : List Nat) (l : List IOper) (i : Nat) : List Nat :=
 l.zipIdx.filterMap fun (y, j) => if i < j && !((b.getD j 0).testBit i) then (match y.op with | .alloc _ => y.dst | .store _ (.tmp t) _ => if (allocsOf (l.drop i)).contains t then some t else none | _ => none) else none
def sepLate (b : List Nat) (l : List IOper) (j : Nat) (y : IOper) : Bool :=
 match y.op with
 | .store _ (.tmp t) _ => l.zipIdx.any fun (x, i) => i < j && !((b.getD j 0).testBit i) && (allocsOf (l.drop i)).contains t && (match x.op with | .load .. => true | _ => false)
 | _ => false
def sepSt (late : Bool) (x : IOper) : IOper :=
 if late then
  match x.op with
  | .store sz (.tmp t) v => { x with op := .storeS t sz (.tmp t) v }
  | _ => x
 else x
def sepOne (ts ds : List Nat) (x : IOper) : IOper :=
 if ts.isEmpty && ds.isEmpty then x else
 match x.op with
 | .load g a => { x with op := .loadS g a (x.dst.getD 0) ts ds }
 | .callF false f as => { x with op := .callS f as }
 | _ => x
def sepPass (ops : Array Oper) (l : List IOper) : List IOper :=
 l.mapIdx fun i x => sepSt (sepLate (befL ops.toList []) l i x) (sepOne (sepTs (befL ops.toList []) l i) (sepDs (befL ops.toList []) l i) x)
def freeOf (b : List Nat) (l : List IOper) (i : Nat) : List IOper × List IOper :=
 (l.zipIdx.filterMap fun (y, j) => if i < j && !((b.getD j 0).testBit i) then some y else none,
  l.zipIdx.filterMap fun (y, j) => if j < i && !((b.getD i 0).testBit j) then some y else none)
def sepTwo (n : Nat) (late early : List IOper) (x : IOper) : IOper :=
 match x.op with
 | .load g a =>
  if late.any (fun y => match y.op with | .append .. | .alloc _ | .store .. => true | _ => false) || early.any (fun y => match y.op with | .append .. => true | _ => false) then { x with op := .loadL g a (x.dst.getD 0) n (late.filterMap fun y => match y.op with | .alloc _ => y.dst | _ => none) } else x
 | .append g b a c =>
  if late.any (fun y => match y.op with | .alloc _ | .load .. => true | _ => false) || early.any (fun y => match y.op with | .load .. => true | _ => false) then { x with op := .appendL (x.dst.getD 0) n g b a c } else x
 | .store sz a v => if early.any (fun y => match y.op with | .load .. => true | _ => false) then { x with op := .storeL n sz a v } else x
 | .callF true f xs => if late.any (fun y => match y.op with | .mkSliceK .. => true | _ => false) then { x with op := .callC (x.dst.getD 0) n f xs } else x
 | _ => x
def sepPass2 (n : Nat) (ops : Array Oper) (l : List IOper) : List IOper :=
 l.mapIdx fun i x => sepTwo n (freeOf (befL ops.toList []) l i).1 (freeOf (befL ops.toList []) l i).2 x
def orderOk (ops : Array Oper) (l : List IOper) : Bool :=
 let b := befL ops.toList []
 l.zipIdx.all fun (o, i) =>
  (((ops[i]?).map (·.after.toList)).getD []).all (fun e => !Region.binds .any e || e.on < i) &&
  (l.take i).zipIdx.all fun (x, j) => (b.getD i 0).testBit j || apart x o || apartS x o
def cCode (P : Program) (n : Nat) (byr : FuncId → Bool) (nest : Bool) : Code → IC
 | .skip => .skip
 | .region _ ops draw =>
  let l := ops.toList.map (cOper P byr n ops)
  if draw && !orderOk ops l then
   if !orderOk ops (sepPass ops l) then
    if !orderOk ops (sepPass2 n ops l) then .bad else .ops (sepPass2 n ops l)
   else .ops (sepPass ops l)
  else .ops l
 | .seq a b => .seq (cCode P n byr nest a) (cCode P n byr nest b)
 | .cond c a b =>
  match cX P 0 c with
  | some c => .cond c (cCode P n byr nest a) (cCode P n byr nest b)
  | none => .bad
 | .block id c => .block id (cCode P n byr nest c)
 | .loop c => .loop (cCode P n byr nest c)
 | .scope c => cCode P n byr nest c
 | .exit id => .exit id
 | .label _ => .skip
 | .ret => .ret
 | .rangeFunc g ps a b =>
  if nest || !(ps.all fun t => decide (t < n)) then .bad else
  match cX P 0 g with
  | some g => .rangeF g ps.toList (cCode P n byr true a) (cCode P n byr true b)
  | none => .bad
 | _ => .bad
def cFunc (P : Program) (byr : FuncId → Bool) (f : Func) : Option IFunc :=
 match f.body with
 | none => none
 | some c =>
  (f.results.toList.mapM fun r =>
   match (r : ResultVar) with
   | .tmp t => some (IRes.tmp t)
   | .cell t ty => (grpOf P ty).map fun g => IRes.cell t g).map fun rs => { ntmps := f.ntmps, results := rs, body := cCode P f.ntmps byr false c }
end Go.Ev
