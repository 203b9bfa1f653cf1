/- An evaluator of the translated code over plain values: lists in the place of slices that nobody writes any more, and a small heap for what a call still writes. No condition but those that stand in each. -/
import GoSem.Step
import GoSem.Core.View
set_option linter.unusedSimpArgs false
set_option linter.unusedVariables false
namespace Go.Ev
inductive AV where
 | undef
 | skip
 | bool (b : Bool)
 | int (k : IntKind) (n : Int)
 | agg (cs : List AV)
 | tuple (vs : List AV)
 | slice (grp : Option Nat) (xs : List AV) (exact : Bool)
 | ptr (cells : List AV) (off : Nat)
 | nilptr
 | clo (f : FuncId) (first captured : List AV)
 | nilfn
 | fmap (ks vs : List AV)
 | optr (key ver off : Nat)
 | oslice (key ver : Nat) (grp : Option Nat) (off len : Nat) (cap : Option Nat)
 | omap (key ver : Nat)
 | iter (key ver : Nat)
 | yld (key ver : Nat)
 deriving Inhabited
abbrev Env := List AV
inductive Res (α : Type) where
 | fail
 | ret (a : α)
 | choice (n : Nat) (k : Nat → Res α)
def Res.bind {α β : Type} : Res α → (α → Res β) → Res β
 | .fail, _ => .fail
 | .ret a, f => f a
 | .choice n k, f => .choice n fun i => (k i).bind f
def Res.all {α : Type} (Q : α → Prop) : Res α → Prop
 | .fail => False
 | .ret a => Q a
 | .choice n k => 0 < n ∧ ∀ i, i < n → (k i).all Q
def Res.ofOpt {α : Type} : Option α → Res α
 | some a => .ret a
 | none => .fail
def AV.cells : AV → List AV
 | .agg cs => cs
 | v => [v]
def gsize : Option Nat → Nat
 | .none => 1
 | .some n => n
def getE : Env → Nat → AV
 | [], _ => .undef
 | v :: _, 0 => v
 | _ :: r, n + 1 => getE r n
def setE : Env → Nat → AV → Env
 | [], 0, v => [v]
 | [], n + 1, v => .undef :: setE [] n v
 | _ :: r, 0, v => v :: r
 | x :: r, n + 1, v => x :: setE r n v
inductive IX where
 | tmp (t : Nat)
 | const (v : AV)
def IX.ev (e : Env) : IX → AV
 | .tmp t => getE e t
 | .const v => v
inductive IOp where
 | mv (x : IX)
 | pick (c a b : IX)
 | alloc (zero : List AV)
 | box (x : IX)
 | build (zero : List AV) (parts : List (Nat × Nat × IX))
 | buildSlice (grp : Option Nat) (zero : List AV) (parts : List (Nat × Nat × IX))
 | buildSliceO (grp : Option Nat) (zero : List AV) (parts : List (Nat × Nat × IX))
 | load (grp : Option Nat) (x : IX)
 | loadS (grp : Option Nat) (x : IX) (d0 : Nat) (ts ds : List Nat)
 | callS (f : FuncId) (args : List IX)
 | storeS (t sz : Nat) (a v : IX)
 | store (sz : Nat) (a v : IX)
 | nilCheck (x : IX)
 | bin (op : BinOp) (x y : IX)
 | eqB (neg : Bool) (x y : IX)
 | eqAgg (n : Nat) (neg : Bool) (x y : IX)
 | un (op : UnOp) (x : IX)
 | conv (k : IntKind) (x : IX)
 | mkFunc (f : FuncId) (first captured : List IX)
 | mkSlice (grp : Option Nat) (zero : List AV) (bytes : Nat) (len cap : IX)
 | slice (grp : Option Nat) (x : IX) (lo hi mx : Option IX)
 | sliceA (grp : Option Nat) (n : Nat) (x : IX) (lo hi mx : Option IX)
 | fieldAddr (off : Nat) (x : IX)
 | field (grp : Option Nat) (off : Nat) (x : IX)
 | indexAddr (sz : Nat) (x i : IX)
 | indexAddrA (len sz : Nat) (x i : IX)
 | index (grp : Option Nat) (len : Nat) (x i : IX)
 | extract (x : IX) (i : Nat)
 | len (x : IX)
 | append (grp : Option Nat) (bytes : Nat) (x y : IX)
 | copy (grp : Option Nat) (x y : IX)
 | clear (zero : AV) (x : IX)
 | max (xs : List IX)
 | min (xs : List IX)
 | call (raw : Bool) (f : IX) (args : List IX)
 | callF (raw : Bool) (f : FuncId) (args : List IX)
 | mkMap
 | lookup (kn : Option Nat) (zero : AV) (ok : Bool) (x k : IX)
 | mapUpdate (kn : Option Nat) (x k v : IX)
 | delete (kn : Option Nat) (x k : IX)
 | lenM (x : IX)
 | range (x : IX)
 | next (x : IX)
 | entry (x : IX)
 | isNil (neg : Bool) (x : IX)
 | loadL (grp : Option Nat) (x : IX) (d0 n : Nat) (ds : List Nat)
 | storeL (n sz : Nat) (a v : IX)
 | appendL (d0 n : Nat) (grp : Option Nat) (bytes : Nat) (x y : IX)
 | mkSliceK (grp : Option Nat) (zero : List AV) (bytes : Nat) (len cap : IX)
 | callC (d0 n : Nat) (f : FuncId) (args : List IX)
 | mapEntry (kn : Option Nat) (zero : AV) (x k : IX)
 | entryStore (x s v : IX)
 | bad
 deriving Inhabited
structure IOper where
 dst : Option Nat
 op : IOp
 guard : Option (Nat × Bool)
 deriving Inhabited
inductive IC where
 | skip
 | ops (l : List IOper)
 | seq (a b : IC)
 | cond (c : IX) (a b : IC)
 | block (id : Nat) (c : IC)
 | loop (c : IC)
 | exit (id : Nat)
 | ret
 | rangeF (f : IX) (params : List Nat) (asg body : IC)
 | sortA
 | bad
 deriving Inhabited
inductive EX where
 | normal
 | exit (id : Nat)
 | ret
structure LoopF where
 base : Nat
 env : Env
 params : List Nat
 asg : IC
 body : IC
inductive AObj where
 | none
 | cells (ver : Nat) (cs : List AV)
 | map (ver clock : Nat) (ks vs : List AV) (bs : List Nat)
 | iter (ver mkey mver since : Nat) (seen : List Nat) (stepped : Nat)
 | loop (ver : Nat) (st : LoopState) (pend : Option EX) (lf : LoopF)
instance : Inhabited AObj := ⟨.none⟩
abbrev Heap := List AObj
def getH : Heap → Nat → AObj
 | [], _ => .none
 | v :: _, 0 => v
 | _ :: r, n + 1 => getH r n
def setH : Heap → Nat → AObj → Heap
 | [], 0, v => [v]
 | [], n + 1, v => .none :: setH [] n v
 | _ :: r, 0, v => v :: r
 | x :: r, n + 1, v => x :: setH r n v
def AObj.ver : AObj → Nat
 | .none => 0
 | .cells v _ => v
 | .map v _ _ _ _ => v
 | .iter v _ _ _ _ _ => v
 | .loop v _ _ _ => v
def AObj.next : AObj → Nat
 | .none => 0
 | o => o.ver + 1
structure St where
 env : Env
 heap : Heap
def splice (cs : List AV) (off : Nat) : List AV → List AV
 | [] => cs
 | c :: r => splice (cs.set off c) (off + 1) r
def oneB : AV → Bool
 | .undef => false
 | .skip => false
 | .agg _ => false
 | .tuple _ => false
 | _ => true
def numB : AV → Bool
 | .int _ _ => true
 | .bool _ => true
 | _ => false
def rd (grp : Option Nat) (cs : List AV) (off : Nat) : Res AV :=
 match grp with
 | none => Res.ofOpt cs[off]?
 | some n => if off + n ≤ cs.length then .ret (.agg ((cs.drop off).take n)) else .fail
def fits (grp : Option Nat) (v : AV) : Bool :=
 match grp, v with
 | none, .agg _ => false
 | none, _ => true
 | some n, .agg cs => cs.length == n
 | some _, _ => false
def flat (grp : Option Nat) (xs : List AV) : List AV :=
 match grp with
 | none => xs
 | some _ => xs.flatMap AV.cells
def grouped (grp : Option Nat) (len : Nat) (cs : List AV) : List AV :=
 match grp with
 | none => cs
 | some n => (List.range len).map fun i => .agg ((cs.drop (i * n)).take n)
def fillParts (e : Env) : List (Nat × Nat × IX) → List AV → Res (List AV)
 | [], cs => .ret cs
 | (off, sz, x) :: r, cs =>
  let new := (x.ev e).cells
  if new.length = sz ∧ off + sz ≤ cs.length ∧ new.all oneB then fillParts e r (splice cs off new) else .fail
def binI (op : BinOp) (k : IntKind) (a b : Int) : Res AV :=
 match op with
 | .add => .ret (.int k (k.wrap (a + b)))
 | .sub => .ret (.int k (k.wrap (a - b)))
 | .mul => .ret (.int k (k.wrap (a * b)))
 | .quo => if b = 0 then .fail else .ret (.int k (k.wrap (a.tdiv b)))
 | .rem => if b = 0 then .fail else .ret (.int k (a.tmod b))
 | .and => .ret (.int k (k.wrap ((BitVec.ofInt k.bits a &&& BitVec.ofInt k.bits b).toNat : Int)))
 | .or => .ret (.int k (k.wrap ((BitVec.ofInt k.bits a ||| BitVec.ofInt k.bits b).toNat : Int)))
 | .xor => .ret (.int k (k.wrap ((BitVec.ofInt k.bits a ^^^ BitVec.ofInt k.bits b).toNat : Int)))
 | .eql => .ret (.bool (a == b))
 | .neq => .ret (.bool (a != b))
 | .lss => .ret (.bool (decide (a < b)))
 | .leq => .ret (.bool (decide (a ≤ b)))
 | .gtr => .ret (.bool (decide (a > b)))
 | .geq => .ret (.bool (decide (a ≥ b)))
 | _ => .fail
def binA (op : BinOp) (x y : AV) : Res AV :=
 match op, x, y with
 | .shl, .int k a, .int _ b => if b < 0 then .fail else .ret (.int k (k.wrap (a * 2 ^ (Nat.min b.toNat k.bits))))
 | .shr, .int k a, .int _ b => if b < 0 then .fail else .ret (.int k (a.fdiv (2 ^ (Nat.min b.toNat k.bits))))
 | op, .int k a, .int k' b => if k = k' then binI op k a b else .fail
 | _, _, _ => .fail
def eqInts : List AV → List AV → Option Bool
 | [], [] => some true
 | .int k a :: r, .int k' b :: s => if k = k' then (if a = b then eqInts r s else some false) else none
 | _, _ => none
def unA (op : UnOp) (x : AV) : Res AV :=
 match op, x with
 | .neg, .int k n => .ret (.int k (k.wrap (0 - n)))
 | .not, .bool b => .ret (.bool !b)
 | _, _ => .fail
def asNat : AV → Option Nat
 | .int _ i => if 0 ≤ i then some i.toNat else none
 | _ => none
def boundOf (x : AV) (y : Nat) : Res Nat :=
 match x with
 | .int _ i => if 0 ≤ i ∧ i ≤ y then .ret i.toNat else .fail
 | _ => .fail
def sliceB (e : Env) (len : Nat) (cap : Option Nat) (lo hi mx : Option IX) : Res (Nat × Nat × Option Nat) :=
 match mx, hi with
 | some m, some h =>
  -- the capacity may be unknown: the length is a bound that is known to do
  (boundOf (m.ev e) (cap.getD len)).bind fun m =>
  (boundOf (h.ev e) m).bind fun h =>
  match lo with
  | none => .ret (0, h, some m)
  | some l => (boundOf (l.ev e) h).bind fun l => .ret (l, h, some m)
 | some _, none => .fail
 | none, hi =>
  (match hi with
   | none => (Res.ret len : Res Nat)
   | some h => boundOf (h.ev e) (cap.getD len)).bind fun h =>
  match lo with
  | none => .ret (0, h, cap)
  | some l => (boundOf (l.ev e) h).bind fun l => .ret (l, h, cap)
def cellsOfSlice (h : Heap) : AV → Option (Option Nat × Nat × List AV)
 | .slice grp xs _ => some (grp, xs.length, flat grp xs)
 | .oslice key ver grp off len _ =>
  match getH h key with
  | .cells v cs => if v = ver ∧ off + len * gsize grp ≤ cs.length then some (grp, len, (cs.drop off).take (len * gsize grp)) else none
  | _ => none
 | _ => none
def maxOf (k : IntKind) : Int → List AV → Res AV
 | a, [] => .ret (.int k a)
 | a, .int k' b :: r => if k = k' then maxOf k (if b > a then b else a) r else .fail
 | _, _ => .fail
def minOf (k : IntKind) : Int → List AV → Res AV
 | a, [] => .ret (.int k a)
 | a, .int k' b :: r => if k = k' then minOf k (if b < a then b else a) r else .fail
 | _, _ => .fail
def room (n bytes : Nat) : Bool := n * bytes ≤ 1099511627776
inductive Tgt where
 | fn (f : FuncId)
 | yld (key ver : Nat)
 | clone (f : FuncId)
abbrev Caller := Bool → Tgt → List AV → Heap → Res (AV × Heap)
def evAppend (key : Nat) (grp : Option Nat) (bytes : Nat) (x y : AV) (h : Heap) : Res (AV × Heap) :=
 match cellsOfSlice h y with
 | none => .fail
 | some (gy, m, new) =>
  if gy ≠ grp then .fail else
  match x with
  | .slice gx xs exact =>
   if gx ≠ grp ∨ exact = false ∨ ¬ room (xs.length + m) bytes then .fail
   else if m = 0 then .ret (x, h)
   else
    let v := (getH h key).next
    .ret (.oslice key v grp 0 (xs.length + m) none, setH h key (.cells v (flat grp xs ++ new)))
  | .oslice k ver gx off len cap =>
   if m = 0 then .ret (x, h) else
   match getH h k with
   | .cells v cs =>
    if gx ≠ grp ∨ v ≠ ver ∨ ¬ room (len + m) bytes ∨ cs.length < off + len * gsize grp then .fail
    else
     match cap with
     | some c =>
      if len + m ≤ c then
       if off + (len + m) * gsize grp ≤ cs.length then
        .ret (.oslice k ver grp off (len + m) cap, setH h k (.cells v (splice cs (off + len * gsize grp) new)))
       else .fail
      else
       let u := (getH h key).next
       .ret (.oslice key u grp 0 (len + m) none, setH h key (.cells u ((cs.drop off).take (len * gsize grp) ++ new)))
     | none =>
      if off + (len + m) * gsize grp ≤ cs.length then
       .ret (.oslice k ver grp off (len + m) none, setH h k (.cells v (splice cs (off + len * gsize grp) new)))
      else if off = 0 ∧ cs.length = len * gsize grp then
       .ret (.oslice k (v + 1) grp 0 (len + m) none, setH h k (.cells (v + 1) (cs ++ new)))
      else .fail
   | _ => .fail
  | _ => .fail
def insI (a : Int) : List Int → List Int
 | [] => [a]
 | b :: r => if a ≤ b then a :: b :: r else b :: insI a r
def isort : List Int → List Int
 | [] => []
 | a :: r => insI a (isort r)
def intsOf : List AV → Option (List Int)
 | [] => some []
 | .int .i64 n :: r => (intsOf r).map (n :: ·)
 | _ => none
def isIntB : AV → Bool
 | .int _ _ => true
 | _ => false
def keyOk (kn : Option Nat) (v : AV) : Bool :=
 match kn, v with
 | none, .int _ _ => true
 | some n, .agg cs => cs.length == n && cs.all isIntB
 | _, _ => false
def findK (kn : Option Nat) (key : AV) : List AV → Nat → Option (Option Nat)
 | [], _ => some none
 | k :: r, i =>
  if keyOk kn k then
   match eqInts key.cells k.cells with
   | some true => some (some i)
   | some false => findK kn key r (i + 1)
   | none => none
  else none
def mapOf (h : Heap) : AV → Option (List AV × List AV)
 | .fmap ks vs => some (ks, vs)
 | .omap k ver =>
  match getH h k with
  | .map v _ ks vs _ => if v = ver then some (ks, vs) else none
  | _ => none
 | _ => none
def freeB : Nat → AV → Bool
 | 0, _ => false
 | n + 1, .agg cs => cs.all (freeB n)
 | n + 1, .tuple cs => cs.all (freeB n)
 | n + 1, .clo _ a b => a.all (freeB n) && b.all (freeB n)
 | _ + 1, .optr .. => false
 | _ + 1, .oslice .. => false
 | _ + 1, .omap .. => false
 | _ + 1, .iter .. => false
 | _ + 1, .yld .. => false
 | _ + 1, _ => true
def depth : Nat := 8
def sepB (e : Env) (key k d0 : Nat) (ts ds : List Nat) : Bool :=
 ts.all (fun t => match getE e t with | .optr k' _ _ => k' != k | _ => false) && ds.all fun d => key + d != k + d0
def lateB (key d0 n : Nat) : AV → Bool
 | .slice .. => true
 | .oslice k .. => decide (key + n ≤ k + d0)
 | _ => false
def frozenB : AV → Bool
 | .slice .. => true
 | _ => false
def cloneB (key d0 : Nat) : AV → Bool
 | .slice .. => true
 | .oslice k .. => decide (k + d0 < key)
 | _ => false
def evClone : List AV → Heap → Res (AV × Heap)
 | [.oslice k ver none off (len + 1) _], h =>
  match getH h k with
  | .cells v cs =>
   if v = ver ∧ off + (len + 1) ≤ cs.length ∧ room (len + 1) 8 then .ret (.oslice (h.length + 8) 0 none 0 (len + 1) none, setH (h ++ List.replicate 8 .none) (h.length + 8) (.cells 0 ((cs.drop off).take (len + 1)))) else .fail
  | _ => .fail
 | [.slice none (a :: r) _], h =>
  if room (r.length + 1) 8 then .ret (.oslice (h.length + 8) 0 none 0 (r.length + 1) none, setH (h ++ List.replicate 8 .none) (h.length + 8) (.cells 0 (a :: r))) else .fail
 | _, _ => .fail
def findB (b : Nat) : List Nat → Nat → Option Nat
 | [], _ => none
 | c :: r, i => if c = b then some i else findB b r (i + 1)
def evOp (call : Caller) (key : Nat) (op : IOp) (e : Env) (h : Heap) : Res (AV × Heap) :=
 match op with
 | .mv x => .ret (x.ev e, h)
 | .pick c a b =>
  match c.ev e with
  | .bool t => .ret (if t then a.ev e else b.ev e, h)
  | _ => .fail
 | .alloc zero =>
  if zero.all oneB then
   let v := (getH h key).next
   .ret (.optr key v 0, setH h key (.cells v zero))
  else .fail
 | .box x =>
  if (x.ev e).cells.all oneB then
   let v := (getH h key).next
   .ret (.optr key v 0, setH h key (.cells v (x.ev e).cells))
  else .fail
 | .build zero parts => if zero.all oneB then (fillParts e parts zero).bind fun cs => .ret (.agg cs, h) else .fail
 | .buildSlice grp zero parts =>
  if zero.all oneB then (fillParts e parts zero).bind fun cs =>
   if cs.all numB then .ret (.slice grp (grouped grp (zero.length / gsize grp) cs) true, h) else .fail
  else .fail
 | .buildSliceO grp zero parts =>
  if zero.all oneB then (fillParts e parts zero).bind fun cs =>
   let v := (getH h h.length).next
   .ret (.oslice h.length v grp 0 (zero.length / gsize grp) (some (zero.length / gsize grp)), setH h h.length (.cells v cs))
  else .fail
 | .load grp x =>
  match x.ev e with
  | .ptr cells off => (rd grp cells off).bind fun v => .ret (v, h)
  | .optr k ver off =>
   match getH h k with
   | .cells v cs => if v = ver then (rd grp cs off).bind fun v => .ret (v, h) else .fail
   | _ => .fail
  | _ => .fail
 | .loadS grp x d0 ts ds =>
  match x.ev e with
  | .ptr cells off => (rd grp cells off).bind fun v => .ret (v, h)
  | .optr k ver off =>
   if sepB e key k d0 ts ds then
    match getH h k with
    | .cells v cs => if v = ver then (rd grp cs off).bind fun v => .ret (v, h) else .fail
    | _ => .fail
   else .fail
  | _ => .fail
 | .callS f args => if (args.map (IX.ev e)).all (freeB depth) then call false (.fn f) (args.map (IX.ev e)) h else .fail
 | .storeS t sz a v =>
  match a.ev e with
  | .optr k ver off =>
   if k = key + t then
    match getH h k with
    | .cells u cs =>
     let new := (v.ev e).cells
     if u = ver ∧ new.length = sz ∧ off + sz ≤ cs.length ∧ new.all oneB then .ret (.undef, setH h k (.cells u (splice cs off new))) else .fail
    | _ => .fail
   else .fail
  | _ => .fail
 | .store sz a v =>
  match a.ev e with
  | .optr k ver off =>
   match getH h k with
   | .cells u cs =>
    let new := (v.ev e).cells
    if u = ver ∧ new.length = sz ∧ off + sz ≤ cs.length ∧ new.all oneB then .ret (.undef, setH h k (.cells u (splice cs off new))) else .fail
   | _ => .fail
  | _ => .fail
 | .nilCheck x =>
  match x.ev e with
  | .ptr cells off => .ret (.ptr cells off, h)
  | .optr k ver off => .ret (.optr k ver off, h)
  | .clo f a b => .ret (.clo f a b, h)
  | _ => .fail
 | .bin op x y => (binA op (x.ev e) (y.ev e)).bind fun v => .ret (v, h)
 | .eqB neg x y =>
  match x.ev e, y.ev e with
  | .bool b, .bool c => .ret (.bool ((b == c) != neg), h)
  | _, _ => .fail
 | .eqAgg n neg x y =>
  match x.ev e, y.ev e with
  | .agg cs, .agg ds =>
   if cs.length = n then
    match eqInts cs ds with
    | some b => .ret (.bool (b != neg), h)
    | none => .fail
   else .fail
  | _, _ => .fail
 | .un op x => (unA op (x.ev e)).bind fun v => .ret (v, h)
 | .conv k x =>
  match x.ev e with
  | .int _ n => .ret (.int k (k.wrap n), h)
  | _ => .fail
 | .mkFunc f first captured => .ret (.clo f (first.map (IX.ev e)) (captured.map (IX.ev e)), h)
 | .mkSlice grp zero bytes len cap =>
  match asNat (len.ev e), asNat (cap.ev e) with
  | some l, some c =>
   if l ≤ c ∧ room c bytes ∧ zero.all oneB then
    let v := (getH h h.length).next
    .ret (.oslice h.length v grp 0 l (some c), setH h h.length (.cells v (List.replicate c zero).flatten))
   else .fail
  | _, _ => .fail
 | .slice grp x lo hi mx =>
  match x.ev e with
  | .slice gx xs exact =>
   if gx ≠ grp then .fail else
   (sliceB e xs.length (some xs.length) lo hi mx).bind fun (l, r, m) =>
    .ret (.slice grp ((xs.take r).drop l) ((exact && (r == xs.length)) || (mx.isSome && (m == some r))), h)
  | .oslice k ver gx off len cap =>
   if gx ≠ grp then .fail else
   (sliceB e len cap lo hi mx).bind fun (l, r, m) =>
    .ret (.oslice k ver grp (off + l * gsize grp) (r - l) (m.map (· - l)), h)
  | _ => .fail
 | .sliceA grp n x lo hi mx =>
  match x.ev e with
  | .optr k ver off =>
   match getH h k with
   | .cells v cs =>
    if v = ver ∧ off + n * gsize grp ≤ cs.length then
     (sliceB e n (some n) lo hi mx).bind fun (l, r, m) =>
      .ret (.oslice k ver grp (off + l * gsize grp) (r - l) (m.map (· - l)), h)
    else .fail
   | _ => .fail
  | .ptr cells off =>
   if off + n * gsize grp ≤ cells.length then
    (sliceB e n (some n) lo hi mx).bind fun (l, r, _) =>
     .ret (.slice grp (grouped grp (r - l) ((cells.drop (off + l * gsize grp)).take ((r - l) * gsize grp))) false, h)
   else .fail
  | _ => .fail
 | .fieldAddr off x =>
  match x.ev e with
  | .ptr cells o => .ret (.ptr cells (o + off), h)
  | .optr k ver o => .ret (.optr k ver (o + off), h)
  | _ => .fail
 | .field grp off x =>
  match x.ev e with
  | .agg cs => (rd grp cs off).bind fun v => .ret (v, h)
  | _ => .fail
 | .indexAddr sz x i =>
  match x.ev e, asNat (i.ev e) with
  | .slice grp xs _, some j =>
   if gsize grp = sz then
    match xs[j]? with
    | some v => .ret (.ptr v.cells 0, h)
    | none => .fail
   else .fail
  | .oslice k ver grp off len _, some j =>
   if gsize grp = sz ∧ j < len then .ret (.optr k ver (off + j * sz), h) else .fail
  | _, _ => .fail
 | .indexAddrA len sz x i =>
  match x.ev e, asNat (i.ev e) with
  | .ptr cells o, some j => if j < len then .ret (.ptr cells (o + j * sz), h) else .fail
  | .optr k ver o, some j => if j < len then .ret (.optr k ver (o + j * sz), h) else .fail
  | _, _ => .fail
 | .index grp len x i =>
  match x.ev e, asNat (i.ev e) with
  | .agg cs, some j => if j < len then (rd grp cs (j * gsize grp)).bind fun v => .ret (v, h) else .fail
  | _, _ => .fail
 | .extract x i =>
  match x.ev e with
  | .tuple vs => (Res.ofOpt vs[i]?).bind fun v => .ret (v, h)
  | _ => .fail
 | .len x =>
  match x.ev e with
  | .slice _ xs _ => .ret (.int .i64 xs.length, h)
  | .oslice _ _ _ _ len _ => .ret (.int .i64 len, h)
  | _ => .fail
 | .append grp bytes x y => evAppend h.length grp bytes (x.ev e) (y.ev e) h
 | .copy g x y =>
  match x.ev e, cellsOfSlice h (y.ev e) with
  | .oslice k ver grp off len _, some (gy, m, new) =>
   match getH h k with
   | .cells v cs =>
    if gy = g ∧ grp = g ∧ v = ver ∧ off + len * gsize g ≤ cs.length then
     if Nat.min m len = 0 then .ret (.int .i64 0, h)
     else .ret (.int .i64 (Nat.min m len : Nat), setH h k (.cells v (splice cs off (new.take (Nat.min m len * gsize g)))))
    else .fail
   | _ => .fail
  | _, _ => .fail
 | .clear zero x =>
  match x.ev e with
  | .oslice k ver none off len _ =>
   match getH h k with
   | .cells v cs =>
    if v = ver ∧ off + len ≤ cs.length ∧ oneB zero then
     if len = 0 then .ret (.undef, h)
     else .ret (.undef, setH h k (.cells v (splice cs off (List.replicate len zero))))
    else .fail
   | _ => .fail
  | _ => .fail
 | .max xs =>
  match xs.map (IX.ev e) with
  | .int k a :: r => (maxOf k a r).bind fun v => .ret (v, h)
  | _ => .fail
 | .min xs =>
  match xs.map (IX.ev e) with
  | .int k a :: r => (minOf k a r).bind fun v => .ret (v, h)
  | _ => .fail
 | .call raw f args =>
  match f.ev e with
  | .clo g first captured => call raw (.fn g) (first ++ args.map (IX.ev e) ++ captured) h
  | .yld k ver => call raw (.yld k ver) (args.map (IX.ev e)) h
  | _ => .fail
 | .callF raw f args => call raw (.fn f) (args.map (IX.ev e)) h
 | .mkMap =>
  let v := (getH h h.length).next
  .ret (.omap h.length v, setH h h.length (.map v 0 [] [] []))
 | .lookup kn zero ok x k =>
  match mapOf h (x.ev e) with
  | some (ks, vs) =>
   if keyOk kn (k.ev e) then
    match findK kn (k.ev e) ks 0 with
    | none => .fail
    | some none => .ret (if ok then .tuple [zero, .bool false] else zero, h)
    | some (some i) =>
     match vs[i]? with
     | some v => .ret (if ok then .tuple [v, .bool true] else v, h)
     | none => .fail
   else .fail
  | none => .fail
 | .mapUpdate kn x k v =>
  match x.ev e with
  | .omap key ver =>
   match getH h key with
   | .map u clock ks vs bs =>
    if u = ver ∧ keyOk kn (k.ev e) then
     match findK kn (k.ev e) ks 0 with
     | none => .fail
     | some none => .ret (.undef, setH h key (.map u (clock + 1) (ks ++ [k.ev e]) (vs ++ [v.ev e]) (bs ++ [clock])))
     | some (some i) => .ret (.undef, setH h key (.map u clock (ks.set i (k.ev e)) (vs.set i (v.ev e)) bs))
    else .fail
   | _ => .fail
  | _ => .fail
 | .delete kn x k =>
  match x.ev e with
  | .omap key ver =>
   match getH h key with
   | .map u clock ks vs bs =>
    if u = ver ∧ keyOk kn (k.ev e) then
     match findK kn (k.ev e) ks 0 with
     | none => .fail
     | some none => .ret (.undef, h)
     | some (some i) => .ret (.undef, setH h key (.map u clock (ks.eraseIdx i) (vs.eraseIdx i) (bs.eraseIdx i)))
    else .fail
   | _ => .fail
  | _ => .fail
 | .lenM x =>
  match mapOf h (x.ev e) with
  | some (ks, _) => .ret (.int .i64 ks.length, h)
  | none => .fail
 | .range x =>
  match x.ev e with
  | .omap key ver =>
   match getH h key with
   | .map u clock _ _ _ =>
    if u = ver then
     let v := (getH h h.length).next
     .ret (.iter h.length v, setH h h.length (.iter v key ver clock [] clock))
    else .fail
   | _ => .fail
  | _ => .fail
 | .next x =>
  match x.ev e with
  | .iter key ver =>
   match getH h key with
   | .iter u mk mv since seen stepped =>
    match getH h mk with
    | .map w clock ks vs bs =>
     if u = ver ∧ w = mv ∧ bs.all (fun b => decide (b < since)) ∧ since ≤ stepped then
      let left := (ks.zip (vs.zip bs)).filter fun t => !seen.contains t.2.2
      if left.isEmpty then .ret (.tuple [.bool false], h)
      else .choice left.length fun j =>
       match left[j]? with
       | some (k, v, b) => .ret (.tuple [.bool true, k, v], setH h key (.iter u mk mv since (seen ++ [b]) clock))
       | none => .fail
     else .fail
    | _ => .fail
   | _ => .fail
  | _ => .fail
 | .entry x =>
  match x.ev e with
  | .iter key ver =>
   match getH h key with
   | .iter u mk mv _ seen stepped =>
    match getH h mk, seen.getLast? with
    | .map w clock ks vs bs, some s =>
     if u = ver ∧ w = mv ∧ clock = stepped then
      match (ks.zip (vs.zip bs)).find? fun t => t.2.2 == s with
      | some (k, v, _) => .ret (.tuple [k, v], h)
      | none => .fail
     else .fail
    | _, _ => .fail
   | _ => .fail
  | _ => .fail
 | .isNil neg x =>
  match x.ev e with
  | .slice _ (_ :: _) _ => .ret (.bool neg, h)
  | .oslice _ _ _ _ (_ + 1) _ => .ret (.bool neg, h)
  | _ => .fail
 | .loadL grp x d0 n ds =>
  match x.ev e with
  | .ptr cells off => (rd grp cells off).bind fun v => .ret (v, h)
  | .optr k ver off =>
   if decide (k + d0 < key + n) && ds.all (fun d => key + d != k + d0) then
    match getH h k with
    | .cells v cs => if v = ver then (rd grp cs off).bind fun v => .ret (v, h) else .fail
    | _ => .fail
   else .fail
  | _ => .fail
 | .storeL n sz a v =>
  match a.ev e with
  | .optr k ver off =>
   if key + n ≤ k then
    match getH h k with
    | .cells u cs =>
     let new := (v.ev e).cells
     if u = ver ∧ new.length = sz ∧ off + sz ≤ cs.length ∧ new.all oneB then .ret (.undef, setH h k (.cells u (splice cs off new))) else .fail
    | _ => .fail
   else .fail
  | _ => .fail
 | .appendL d0 n grp bytes x y =>
  if lateB key d0 n (x.ev e) && frozenB (y.ev e) && decide (key + n ≤ h.length + d0) then evAppend h.length grp bytes (x.ev e) (y.ev e) h else .fail
 | .mkSliceK grp zero bytes len cap =>
  match asNat (len.ev e), asNat (cap.ev e) with
  | some l, some c =>
   if l ≤ c ∧ room c bytes ∧ zero.all oneB then
    let v := (getH h key).next
    .ret (.oslice key v grp 0 l (some c), setH h key (.cells v (List.replicate c zero).flatten))
   else .fail
  | _, _ => .fail
 | .callC d0 n f args => if (args.map (IX.ev e)).all (cloneB key d0) && decide (key + n ≤ h.length + d0) then call true (.clone f) (args.map (IX.ev e)) h else .fail
 | .mapEntry kn zero x k =>
  match x.ev e with
  | .omap key ver =>
   match getH h key with
   | .map u clock ks vs bs =>
    if u = ver ∧ keyOk kn (k.ev e) then
     match findK kn (k.ev e) ks 0 with
     | none => .fail
     | some none => if ks.length = vs.length then .ret (.tuple [zero, .int .i64 clock], setH h key (.map u (clock + 1) (ks ++ [k.ev e]) (vs ++ [zero]) (bs ++ [clock]))) else .fail
     | some (some i) =>
      match vs[i]?, bs[i]? with
      | some v, some b => .ret (.tuple [v, .int .i64 b], setH h key (.map u clock (ks.set i (k.ev e)) vs bs))
      | _, _ => .fail
    else .fail
   | _ => .fail
  | _ => .fail
 | .entryStore x s v =>
  match x.ev e, asNat (s.ev e) with
  | .omap key ver, some b =>
   match getH h key with
   | .map u clock ks vs bs =>
    if u = ver then
     match findB b bs 0 with
     | some i => .ret (.undef, setH h key (.map u clock ks (vs.set i (v.ev e)) bs))
     | none => .fail
    else .fail
   | _ => .fail
  | _, _ => .fail
 | .bad => .fail
def evSort (h : Heap) : List AV → Res Heap
 | [.oslice k ver none off len _] =>
  match getH h k with
  | .cells v cs =>
   if v = ver ∧ off + len ≤ cs.length ∧ 0 < len ∧ len < 1099511627776 then
    match intsOf ((cs.drop off).take len) with
    | some l => .ret (setH h k (.cells v (splice cs off ((isort l).map (.int .i64)))))
    | none => .fail
   else .fail
  | _ => .fail
 | _ => .fail
def setDst (e : Env) (dst : Option Nat) (v : AV) : Env :=
 match dst with
 | some d => setE e d v
 | none => e
def evOper (call : Caller) (base : Nat) (o : IOper) (s : St) : Res St :=
 match o.guard with
 | none => (evOp call (base + o.dst.getD 0) o.op s.env s.heap).bind fun (v, h) => .ret ⟨setDst s.env o.dst v, h⟩
 | some (t, want) =>
  match getE s.env t with
  | .bool b =>
   if b = want then (evOp call (base + o.dst.getD 0) o.op s.env s.heap).bind fun (v, h) => .ret ⟨setDst s.env o.dst v, h⟩
   else .ret ⟨setDst s.env o.dst .skip, s.heap⟩
  | .skip => .ret ⟨setDst s.env o.dst .skip, s.heap⟩
  | _ => .fail
def evOps (call : Caller) (base : Nat) : List IOper → St → Res St
 | [], s => .ret s
 | o :: r, s => (evOper call base o s).bind fun s => evOps call base r s
def evLoop (body : St → Res (EX × St)) : Nat → St → Res (EX × St)
 | 0, _ => .fail
 | n + 1, s => (body s).bind fun (x, s) =>
  match x with
  | .normal => evLoop body n s
  | x => .ret (x, s)
def rounds : Nat := 1152921504606846976
def evC (call : Caller) (base : Nat) : IC → St → Res (EX × St)
 | .skip, s => .ret (.normal, s)
 | .ops l, s => (evOps call base l s).bind fun s => .ret (.normal, s)
 | .seq a b, s => (evC call base a s).bind fun (x, s) =>
  match x with
  | .normal => evC call base b s
  | x => .ret (x, s)
 | .cond c a b, s =>
  match c.ev s.env with
  | .bool t => if t then evC call base a s else evC call base b s
  | _ => .fail
 | .block id c, s => (evC call base c s).bind fun (x, s) =>
  match x with
  | .exit id' => if id' = id then .ret (.normal, s) else .ret (.exit id', s)
  | x => .ret (x, s)
 | .loop c, s => evLoop (evC call base c) rounds s
 | .exit id, s => .ret (.exit id, s)
 | .ret, s => .ret (.ret, s)
 | .rangeF f params asg body, s =>
  match f.ev s.env with
  | .clo g first captured =>
   let k := s.heap.length
   let v := (getH s.heap k).next
   (call true (.fn g) (first ++ [.yld k v] ++ captured) (setH s.heap k (.loop v .ready none ⟨base, s.env, params, asg, body⟩))).bind fun (_, h) =>
   match getH h k with
   | .loop u st pend lf =>
    if u = v ∧ st ≠ .busy then .ret (pend.getD .normal, ⟨s.env, setH h k (.loop u .exhausted pend lf)⟩) else .fail
   | _ => .fail
  | _ => .fail
 | .sortA, s => (evSort s.heap s.env).bind fun h => .ret (.normal, ⟨s.env, h⟩)
 | .bad, _ => .fail
inductive IRes where
 | tmp (t : Nat)
 | cell (t : Nat) (grp : Option Nat)
structure IFunc where
 ntmps : Nat
 results : List IRes
 body : IC
structure Cfg where
 fns : FuncId → Option IFunc
 clones : FuncId → Bool := fun _ => false
def cloneFn : IFunc := ⟨8, [(.tmp 2)], (.seq (.ops [⟨(some 2), (.mv (.const (.slice none [] true))), none⟩]) (.seq (.seq (.ops [⟨(some 3), (.mv (.tmp 0)), none⟩, ⟨(some 4), (.isNil false (.tmp 3)), none⟩]) (.cond (.tmp 4) (.seq (.ops [⟨(some 2), (.mv (.const (.slice none [] true))), none⟩]) .ret) .skip)) (.seq (.ops [⟨(some 5), (.buildSlice none [] []), none⟩, ⟨(some 6), (.mv (.tmp 0)), none⟩, ⟨(some 7), (.append none 8 (.tmp 5) (.tmp 6)), none⟩, ⟨(some 2), (.mv (.tmp 7)), none⟩]) .ret)))⟩
def mapR {α β : Type} (f : α → Res β) : List α → Res (List β)
 | [] => .ret []
 | a :: r => (f a).bind fun b => (mapR f r).bind fun bs => .ret (b :: bs)
def readResult (s : St) : IRes → Res AV
 | .tmp t => .ret (getE s.env t)
 | .cell t grp =>
  match getE s.env t with
  | .optr k ver off =>
   match getH s.heap k with
   | .cells v cs => if v = ver then rd grp cs off else .fail
   | _ => .fail
  | .ptr cells off => rd grp cells off
  | _ => .fail
def pack : List AV → AV
 | [v] => v
 | vs => .tuple vs
def evFn (call : Caller) (fn : IFunc) (args : List AV) (h : Heap) : Res (AV × Heap) :=
 (evC call h.length fn.body ⟨args, h ++ List.replicate fn.ntmps .none⟩).bind fun (x, s) =>
 match x with
 | .exit _ => .fail
 | _ => (mapR (readResult s) fn.results).bind fun vs => .ret (pack vs, s.heap)
def plainB : Nat → AV → Bool
 | 0, _ => false
 | n + 1, .agg cs => cs.all (plainB n)
 | n + 1, .tuple cs => cs.all (plainB n)
 | _ + 1, .undef => true
 | _ + 1, .bool _ => true
 | _ + 1, .int _ _ => true
 | _ + 1, .slice _ [] _ => true
 | _ + 1, .nilptr => true
 | _ + 1, .nilfn => true
 | _ + 1, _ => false
def freeze (h : Heap) : Nat → AV → Res AV
 | 0, _ => .fail
 | n + 1, v =>
  match v with
  | .agg cs => (mapR (freeze h n) cs).bind fun cs => .ret (.agg cs)
  | .tuple cs => (mapR (freeze h n) cs).bind fun cs => .ret (.tuple cs)
  | .clo f a b => (mapR (freeze h n) a).bind fun a => (mapR (freeze h n) b).bind fun b => .ret (.clo f a b)
  | .slice grp xs _ => .ret (.slice grp xs false)
  | .optr k ver off =>
   match getH h k with
   | .cells v cs => if v = ver then (mapR (freeze h n) cs).bind fun cs => .ret (.ptr cs off) else .fail
   | _ => .fail
  | .oslice k ver grp off len _ =>
   match getH h k with
   | .cells v cs =>
    if v = ver ∧ off + len * gsize grp ≤ cs.length then
     (mapR (freeze h n) ((cs.drop off).take (len * gsize grp))).bind fun cs => .ret (.slice grp (grouped grp len cs) false)
    else .fail
   | _ => .fail
  | .omap k ver =>
   match getH h k with
   | .map v _ ks vs _ =>
    if v = ver then (mapR (freeze h n) ks).bind fun ks => (mapR (freeze h n) vs).bind fun vs => .ret (.fmap ks vs) else .fail
   | _ => .fail
  | .iter .. => .fail
  | .yld .. => .fail
  | .skip => .ret .undef
  | v => .ret v
def freshB (h : Heap) : Nat → AV → Bool
 | 0, _ => false
 | n + 1, v =>
  match v with
  | .agg cs => cs.all (freshB h n)
  | .tuple cs => cs.all (freshB h n)
  | .optr k _ _ =>
   match getH h k with
   | .cells _ cs => cs.all (freshB h n)
   | _ => false
  | .oslice k _ _ _ _ _ =>
   match getH h k with
   | .cells _ cs => cs.all (freshB h n)
   | _ => false
  | .omap k _ =>
   match getH h k with
   | .map _ _ ks vs _ => ks.all (freshB h n) && vs.all (freshB h n)
   | _ => false
  | .slice _ xs _ => xs.isEmpty
  | .ptr .. => false
  | .clo .. => false
  | .fmap .. => false
  | .iter .. => false
  | .yld .. => false
  | _ => true
def setPs : Env → List Nat → List AV → Env
 | e, t :: ts, v :: vs => setPs (setE e t v) ts vs
 | e, _, _ => e
def evRound (call : Caller) (key ver : Nat) (args : List AV) (h : Heap) : Res (AV × Heap) :=
 match getH h key with
 | .loop u _ _ lf =>
  if u = ver ∧ args.length = lf.params.length then
   (evC call lf.base lf.asg ⟨setPs lf.env lf.params args, h⟩).bind fun (x, s) =>
   match x, getH s.heap key with
   | .normal, .loop u2 .ready pend2 lf2 =>
    if u2 = ver then
     (evC call lf.base lf.body ⟨s.env, setH s.heap key (.loop u2 .busy pend2 lf2)⟩).bind fun (x, s) =>
     match getH s.heap key with
     | .loop u3 _ _ lf3 =>
      if u3 = ver then
       match x with
       | .normal => .ret (.bool true, setH s.heap key (.loop u3 .ready none lf3))
       | x => .ret (.bool false, setH s.heap key (.loop u3 .done (some x) lf3))
      else .fail
     | _ => .fail
    else .fail
   | _, _ => .fail
  else .fail
 | _ => .fail
def evCall (cfg : Cfg) : Nat → Caller
 | 0, _, _, _, _ => .fail
 | n + 1, raw, .fn f, args, h =>
  match cfg.fns f with
  | none => .fail
  | some fn =>
   if raw then evFn (evCall cfg n) fn args h
   else
    (mapR (freeze h depth) args).bind fun args' =>
    (evFn (evCall cfg n) fn args' []).bind fun (r, h') =>
    (freeze h' depth r).bind fun fr =>
    if args.all (freeB depth) || plainB depth fr || freshB h' depth r then .ret (fr, h) else .fail
 | n + 1, raw, .yld key ver, args, h => if raw then evRound (evCall cfg n) key ver args h else .fail
 | n + 1, raw, .clone f, args, h => if raw && cfg.clones f then evClone args h else .fail
end Go.Ev
