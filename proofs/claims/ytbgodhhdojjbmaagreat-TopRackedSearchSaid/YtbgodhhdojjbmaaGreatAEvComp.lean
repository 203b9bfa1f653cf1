/- An evaluator of the translated code over plain values: lists in the place of slices that nobody writes any more, and a small heap for what a call still writes. From the translated code to the evaluator's code: types resolved, places left out. No condition but those that stand in each. -/
import GoSem.Step
import GoSem.Core.View
set_option linter.unusedSimpArgs false
set_option linter.unusedVariables false
namespace Go.Ev
inductive AV where
 | undef
 | skip
 | bool (b:Bool)
 | int (k:IntKind) (n:Int)
 | agg (cs:List AV)
 | tuple (vs:List AV)
 | slice (grp:Option Nat) (xs:List AV) (exact:Bool)
 | ptr (cells:List AV) (off:Nat)
 | nilptr
 | clo (f:FuncId) (first captured:List AV)
 | nilfn
 | fmap (ks vs:List AV)
 | optr (key ver off:Nat)
 | oslice (key ver:Nat) (grp:Option Nat) (off len:Nat) (cap:Option Nat)
 | omap (key ver:Nat)
 | iter (key ver:Nat)
 | yld (key ver:Nat)
 deriving Inhabited
abbrev Env:=List AV
inductive Res (α:Type) where
 | fail
 | ret (a:α)
 | choice (n:Nat) (k:Nat->Res α)
def Res.bind {α β:Type}:Res α->(α->Res β)->Res β
 | .fail,_ => .fail
 | .ret a,f=>f a
 | .choice n k,f => .choice n fun i=>(k i).bind f
def Res.all {α:Type} (Q:α->Prop):Res α->Prop
 | .fail=>False
 | .ret a=>Q a
 | .choice n k=>0<n/\∀i,i<n->(k i).all Q
def Res.ofOpt {α:Type}:Option α->Res α
 | some a => .ret a
 | none => .fail
def AV.cells:AV->List AV
 | .agg cs=>cs
 | v=>[v]
def Be:Option Nat->Nat
 | .none=>1
 | .some n=>n
def Bs:Env->Nat->AV
 | [],_ => .undef
 | v::_,0=>v
 | _::r,n+1=>Bs r n
def Gk:Env->Nat->AV->Env
 | [],0,v=>[v]
 | [],n+1,v => .undef::Gk [] n v
 | _::r,0,v=>v::r
 | x::r,n+1,v=>x::Gk r n v
inductive IX where
 | tmp (t:Nat)
 | const (v:AV)
def IX.ev (e:Env):IX->AV
 | .tmp t=>Bs e t
 | .const v=>v
inductive IOp where
 | mv (x:IX)
 | pick (c a b:IX)
 | alloc (zero:List AV)
 | box (x:IX)
 | build (zero:List AV) (parts:List (Nat×Nat×IX))
 | buildSlice (grp:Option Nat) (zero:List AV) (parts:List (Nat×Nat×IX))
 | buildSliceO (grp:Option Nat) (zero:List AV) (parts:List (Nat×Nat×IX))
 | load (grp:Option Nat) (x:IX)
 | loadS (grp:Option Nat) (x:IX) (d0:Nat) (ts ds:List Nat)
 | callS (f:FuncId) (args:List IX)
 | storeS (t sz:Nat) (a v:IX)
 | store (sz:Nat) (a v:IX)
 | nilCheck (x:IX)
 | bin (op:BinOp) (x y:IX)
 | eqB (neg:Bool) (x y:IX)
 | eqAgg (n:Nat) (neg:Bool) (x y:IX)
 | un (op:UnOp) (x:IX)
 | conv (k:IntKind) (x:IX)
 | mkFunc (f:FuncId) (first captured:List IX)
 | mkSlice (grp:Option Nat) (zero:List AV) (bytes:Nat) (len cap:IX)
 | slice (grp:Option Nat) (x:IX) (lo hi mx:Option IX)
 | sliceA (grp:Option Nat) (n:Nat) (x:IX) (lo hi mx:Option IX)
 | fieldAddr (off:Nat) (x:IX)
 | field (grp:Option Nat) (off:Nat) (x:IX)
 | indexAddr (sz:Nat) (x i:IX)
 | indexAddrA (len sz:Nat) (x i:IX)
 | index (grp:Option Nat) (len:Nat) (x i:IX)
 | extract (x:IX) (i:Nat)
 | len (x:IX)
 | append (grp:Option Nat) (bytes:Nat) (x y:IX)
 | copy (grp:Option Nat) (x y:IX)
 | clear (zero:AV) (x:IX)
 | max (xs:List IX)
 | min (xs:List IX)
 | call (raw:Bool) (f:IX) (args:List IX)
 | callF (raw:Bool) (f:FuncId) (args:List IX)
 | mkMap
 | lookup (kn:Option Nat) (zero:AV) (ok:Bool) (x k:IX)
 | mapUpdate (kn:Option Nat) (x k v:IX)
 | delete (kn:Option Nat) (x k:IX)
 | lenM (x:IX)
 | range (x:IX)
 | next (x:IX)
 | entry (x:IX)
 | isNil (neg:Bool) (x:IX)
 | strIdx (l:List Nat) (x:IX)
 | loadL (grp:Option Nat) (x:IX) (d0 n:Nat) (ds:List Nat)
 | storeL (n sz:Nat) (a v:IX)
 | appendL (d0 n:Nat) (grp:Option Nat) (bytes:Nat) (x y:IX)
 | mkSliceK (grp:Option Nat) (zero:List AV) (bytes:Nat) (len cap:IX)
 | callC (d0 n:Nat) (f:FuncId) (args:List IX)
 | mapEntry (kn:Option Nat) (zero:AV) (x k:IX)
 | entryStore (x s v:IX)
 | sliceW (grp:Option Nat) (x:IX) (lo hi mx:Option IX)
 | clearG (grp:Option Nat) (zs:List AV) (x:IX)
 | callD (d0 n:Nat) (f:FuncId) (args:List IX)
 | mkSliceD (d0 n:Nat) (grp:Option Nat) (zero:List AV) (bytes:Nat) (len cap:IX)
 | cap (x:IX)
 | appendZ (grp:Option Nat) (zero:List AV) (bytes:Nat) (x n:IX)
 | callW (ts:List Nat) (f:FuncId) (args:List IX)
 | callV (d0 n:Nat) (f:FuncId) (args:List IX)
 | loadU (grp:Option Nat) (x:IX) (t:Nat)
 | appendU (t:Nat) (grp:Option Nat) (bytes:Nat) (x y:IX)
 | bad
 deriving Inhabited
structure IOper where
 dst:Option Nat
 op:IOp
 guard:Option (Nat×Bool)
 deriving Inhabited
inductive IC where
 | skip
 | ops (l:List IOper)
 | seq (a b:IC)
 | cond (c:IX) (a b:IC)
 | block (id:Nat) (c:IC)
 | loop (c:IC)
 | exit (id:Nat)
 | ret
 | rangeF (f:IX) (params:List Nat) (asg body:IC)
 | sortA
 | bad
 deriving Inhabited
inductive EX where
 | normal
 | exit (id:Nat)
 | ret
structure LoopF where
 base:Nat
 env:Env
 params:List Nat
 asg:IC
 body:IC
inductive AObj where
 | none
 | cells (ver:Nat) (cs:List AV)
 | map (ver clock:Nat) (ks vs:List AV) (bs:List Nat)
 | iter (ver mkey mver since:Nat) (seen:List Nat) (stepped:Nat)
 | nit (ver:Nat)
 | loop (ver:Nat) (st:LoopState) (pend:Option EX) (lf:LoopF)
instance:Inhabited AObj:=⟨.none⟩
abbrev Bc:=List AObj
def Bb:Bc->Nat->AObj
 | [],_ => .none
 | v::_,0=>v
 | _::r,n+1=>Bb r n
def setH:Bc->Nat->AObj->Bc
 | [],0,v=>[v]
 | [],n+1,v => .none::setH [] n v
 | _::r,0,v=>v::r
 | x::r,n+1,v=>x::setH r n v
def AObj.ver:AObj->Nat
 | .none=>0
 | .cells v _=>v
 | .map v _ _ _ _=>v
 | .iter v _ _ _ _ _=>v
 | .nit v=>v
 | .loop v _ _ _=>v
def AObj.next:AObj->Nat
 | .none=>0
 | o=>o.ver+1
structure St where
 env:Env
 heap:Bc
def Dk (cs:List AV) (off:Nat):List AV->List AV
 | []=>cs
 | c::r=>Dk (cs.set off c) (off+1) r
def oneB:AV->Bool
 | .undef=>false
 | .skip=>false
 | .agg _=>false
 | .tuple _=>false
 | _=>true
def Gz:AV->Bool
 | .int _ _=>true
 | .bool _=>true
 | _=>false
def rd (grp:Option Nat) (cs:List AV) (off:Nat):Res AV:=
 match grp with
 | none=>Res.ofOpt cs[off]?
 | some n=>if off+n<=cs.length then .ret (.agg ((cs.drop off).take n)) else .fail
def Ju (grp:Option Nat) (v:AV):Bool:=
 match grp,v with
 | none,.agg _=>false
 | none,_=>true
 | some n,.agg cs=>cs.length==n
 | some _,_=>false
def Ek (grp:Option Nat) (xs:List AV):List AV:=
 match grp with
 | none=>xs
 | some _=>xs.flatMap AV.cells
def Ej (grp:Option Nat) (len:Nat) (cs:List AV):List AV:=
 match grp with
 | none=>cs
 | some n=>(List.range len).map fun i => .agg ((cs.drop (i*n)).take n)
def Eg (e:Env):List (Nat×Nat×IX)->List AV->Res (List AV)
 | [],cs => .ret cs
 | (off,sz,x)::r,cs =>
  let new:=(x.ev e).cells
  if new.length=sz/\off+sz<=cs.length/\new.all oneB then Eg e r (Dk cs off new) else .fail
def Kg (op:BinOp) (k:IntKind) (a b:Int):Res AV:=
 match op with
 | .add => .ret (.int k (k.wrap (a+b)))
 | .sub => .ret (.int k (k.wrap (a-b)))
 | .mul => .ret (.int k (k.wrap (a*b)))
 | .quo=>if b=0 then .fail else .ret (.int k (k.wrap (a.tdiv b)))
 | .rem=>if b=0 then .fail else .ret (.int k (a.tmod b))
 | .and => .ret (.int k (k.wrap ((BitVec.ofInt k.bits a &&& BitVec.ofInt k.bits b).toNat:Int)))
 | .or => .ret (.int k (k.wrap ((BitVec.ofInt k.bits a ||| BitVec.ofInt k.bits b).toNat:Int)))
 | .xor => .ret (.int k (k.wrap ((BitVec.ofInt k.bits a ^^^ BitVec.ofInt k.bits b).toNat:Int)))
 | .eql => .ret (.bool (a==b))
 | .neq => .ret (.bool (a != b))
 | .lss => .ret (.bool (decide (a<b)))
 | .leq => .ret (.bool (decide (a<=b)))
 | .gtr => .ret (.bool (decide (a>b)))
 | .geq => .ret (.bool (decide (a>=b)))
 | _ => .fail
def Ef (op:BinOp) (x y:AV):Res AV:=
 match op,x,y with
 | .shl,.int k a,.int _ b=>if b<0 then .fail else .ret (.int k (k.wrap (a*2 ^ (Nat.min b.toNat k.bits))))
 | .shr,.int k a,.int _ b=>if b<0 then .fail else .ret (.int k (a.fdiv (2 ^ (Nat.min b.toNat k.bits))))
 | op,.int k a,.int k' b=>if k=k' then Kg op k a b else .fail
 | _,_,_ => .fail
def Ec:List AV->List AV->Option Bool
 | [],[]=>some true
 | .int k a::r,.int k' b::s=>if k=k' then (if a=b then Ec r s else some false) else none
 | _,_=>none
def unA (op:UnOp) (x:AV):Res AV:=
 match op,x with
 | .neg,.int k n => .ret (.int k (k.wrap (0-n)))
 | .not,.bool b => .ret (.bool !b)
 | _,_ => .fail
def Df:AV->Option Nat
 | .int _ i=>if 0<=i then some i.toNat else none
 | _=>none
def Gd (x:AV) (y:Nat):Res Nat:=
 match x with
 | .int _ i=>if 0<=i/\i<=y then .ret i.toNat else .fail
 | _ => .fail
def sliceB (e:Env) (len:Nat) (cap:Option Nat) (lo hi mx:Option IX):Res (Nat×Nat×Option Nat):=
 match mx,hi with
 | some m,some h =>
  -- the capacity may be unknown: the length is a bound that is known to do
  (Gd (m.ev e) (cap.getD len)).bind fun m =>
  (Gd (h.ev e) m).bind fun h =>
  match lo with
  | none => .ret (0,h,some m)
  | some l=>(Gd (l.ev e) h).bind fun l => .ret (l,h,some m)
 | some _,none => .fail
 | none,hi =>
  (match hi with
   | none=>(Res.ret len:Res Nat)
   | some h=>Gd (h.ev e) (cap.getD len)).bind fun h =>
  match lo with
  | none => .ret (0,h,cap)
  | some l=>(Gd (l.ev e) h).bind fun l => .ret (l,h,cap)
def De (h:Bc):AV->Option (Option Nat×Nat×List AV)
 | .slice grp xs _=>some (grp,xs.length,Ek grp xs)
 | .oslice key ver grp off len _ =>
  match Bb h key with
  | .cells v cs=>if v=ver/\off+len*Be grp<=cs.length then some (grp,len,(cs.drop off).take (len*Be grp)) else none
  | _=>none
 | _=>none
def Mh (k:IntKind):Int->List AV->Res AV
 | a,[] => .ret (.int k a)
 | a,.int k' b::r=>if k=k' then Mh k (if b>a then b else a) r else .fail
 | _,_ => .fail
def Mi (k:IntKind):Int->List AV->Res AV
 | a,[] => .ret (.int k a)
 | a,.int k' b::r=>if k=k' then Mi k (if b<a then b else a) r else .fail
 | _,_ => .fail
def Et (n bytes:Nat):Bool:=n*bytes<=1099511627776
inductive Tgt where
 | fn (f:FuncId)
 | yld (key ver:Nat)
 | clone (f:FuncId)
abbrev Bf:=Bool->Tgt->List AV->Bc->Res (AV×Bc)
def Dh (key:Nat) (grp:Option Nat) (bytes:Nat) (x y:AV) (h:Bc):Res (AV×Bc):=
 match De h y with
 | none => .fail
 | some (gy,m,new) =>
  if gy≠grp then .fail else
  match x with
  | .slice gx xs exact =>
   if gx≠grp\/exact=false\/¬Et (xs.length+m) bytes then .fail
   else if m=0 then .ret (x,h)
   else
    let v:=(Bb h key).next
    .ret (.oslice key v grp 0 (xs.length+m) none,setH h key (.cells v (Ek grp xs++new)))
  | .oslice k ver gx off len cap =>
   if m=0 then .ret (x,h) else
   match Bb h k with
   | .cells v cs =>
    if gx≠grp\/v≠ver\/¬Et (len+m) bytes\/cs.length<off+len*Be grp then .fail
    else
     match cap with
     | some c =>
      if len+m<=c then
       if off+(len+m)*Be grp<=cs.length then
        .ret (.oslice k ver grp off (len+m) cap,setH h k (.cells v (Dk cs (off+len*Be grp) new)))
       else .fail
      else
       let u:=(Bb h key).next
       .ret (.oslice key u grp 0 (len+m) none,setH h key (.cells u ((cs.drop off).take (len*Be grp)++new)))
     | none =>
      if off+(len+m)*Be grp<=cs.length then
       .ret (.oslice k ver grp off (len+m) none,setH h k (.cells v (Dk cs (off+len*Be grp) new)))
      else if off=0/\cs.length=len*Be grp then
       .ret (.oslice k (v+1) grp 0 (len+m) none,setH h k (.cells (v+1) (cs++new)))
      else .fail
   | _ => .fail
  | _ => .fail
def Sh (a:Int):List Int->List Int
 | []=>[a]
 | b::r=>if a<=b then a::b::r else b::Sh a r
def Fa:List Int->List Int
 | []=>[]
 | a::r=>Sh a (Fa r)
def Oa:List AV->Option (List Int)
 | []=>some []
 | .int .i64 n::r=>(Oa r).map (n::·)
 | _=>none
def Wp:AV->Bool
 | .int _ _=>true
 | _=>false
def Ei (kn:Option Nat) (v:AV):Bool:=
 match kn,v with
 | none,.int _ _=>true
 | some n,.agg cs=>cs.length==n&&cs.all Wp
 | _,_=>false
def Du (kn:Option Nat) (key:AV):List AV->Nat->Option (Option Nat)
 | [],_=>some none
 | k::r,i =>
  if Ei kn k then
   match Ec key.cells k.cells with
   | some true=>some (some i)
   | some false=>Du kn key r (i+1)
   | none=>none
  else none
def Gb (h:Bc):AV->Option (List AV×List AV)
 | .fmap ks vs=>some (ks,vs)
 | .omap k ver =>
  match Bb h k with
  | .map v _ ks vs _=>if v=ver then some (ks,vs) else none
  | _=>none
 | _=>none
def Dy:Nat->AV->Bool
 | 0,_=>false
 | n+1,.agg cs=>cs.all (Dy n)
 | n+1,.tuple cs=>cs.all (Dy n)
 | n+1,.clo _ a b=>a.all (Dy n)&&b.all (Dy n)
 | _+1,.optr ..=>false
 | _+1,.oslice ..=>false
 | _+1,.omap ..=>false
 | _+1,.iter ..=>false
 | _+1,.yld ..=>false
 | _+1,_=>true
def depth:Nat:=8
def Ly (e:Env) (key k d0:Nat) (ts ds:List Nat):Bool:=
 ts.all (fun t=>match Bs e t with | .optr k' _ _=>k' != k | _=>false)&&ds.all fun d=>key+d != k+d0
def A5v:List AV->List AV->Bool
 | [],[]=>true
 | .int k a::r,.int k' b::s=>decide (k=k')&&decide (a=b)&&A5v r s
 | _,_=>false
def A5u:AObj->AObj->Bool
 | .cells u cs,.cells u' cs'=>u==u'&&A5v cs cs'
 | _,_=>false
def Rz (f:AV->AV->Bool):List AV->List AV->Bool
 | [],[]=>true
 | a::r,b::s=>f a b&&Rz f r s
 | _,_=>false
def eqW:Nat->AV->AV->Bool
 | 0,_,_=>false
 | _+1,.bool a,.bool b=>a==b
 | _+1,.int k a,.int k' b=>decide (k=k')&&decide (a=b)
 | n+1,.agg a,.agg b=>Rz (eqW n) a b
 | n+1,.slice g a x,.slice g' b y=>decide (g=g')&&Rz (eqW n) a b&&(x==y)
 | n+1,.ptr a i,.ptr b j=>Rz (eqW n) a b&&decide (i=j)
 | n+1,.fmap a b,.fmap c d=>Rz (eqW n) a c&&Rz (eqW n) b d
 | _+1,.optr a b c,.optr a' b' c'=>decide (a=a')&&decide (b=b')&&decide (c=c')
 | _+1,.omap a b,.omap a' b'=>decide (a=a')&&decide (b=b')
 | _+1,_,_=>false
def Nf:AObj->AObj->Bool
 | .cells u cs,.cells u' cs'=>u==u'&&Rz (eqW 8) cs cs'
 | .cells ..,_=>false
 | _,.cells ..=>false
 | _,_=>true
def A1f (h h':Bc) (n:Nat):Bool:=(List.range n).all fun k=>Nf (Bb h k) (Bb h' k)
def Mt (e:Env) (h h':Bc) (ts:List Nat):Bool:=ts.all fun t=>match Bs e t with | .optr k _ _=>A5u (Bb h k) (Bb h' k) | _=>false
def Nq:AV->Nat->Bool
 | .slice ..,_=>true
 | .oslice k' ..,k=>k' != k
 | _,_=>false
def A5w:AV->Nat->Bool
 | .oslice k' ..,k=>k'==k
 | _,_=>false
def Gs (key d0 n:Nat):AV->Bool
 | .slice ..=>true
 | .oslice k ..=>decide (key+n<=k+d0)
 | _=>false
def Kv (key d0:Nat):AV->Bool
 | .slice ..=>true
 | .oslice k ..=>decide (k+d0<key)
 | _=>false
def Ga:List AV->Bc->Res (AV×Bc)
 | [.oslice k ver none off (len+1) _],h =>
  match Bb h k with
  | .cells v cs =>
   if v=ver/\off+(len+1)<=cs.length/\Et (len+1) 8 then .ret (.oslice (h.length+8) 0 none 0 (len+1) none,setH (h++List.replicate 8 .none) (h.length+8) (.cells 0 ((cs.drop off).take (len+1)))) else .fail
  | _ => .fail
 | [.slice none (a::r) _],h =>
  if Et (r.length+1) 8 then .ret (.oslice (h.length+8) 0 none 0 (r.length+1) none,setH (h++List.replicate 8 .none) (h.length+8) (.cells 0 (a::r))) else .fail
 | _,_ => .fail
def Ji (b:Nat):List Nat->Nat->Option Nat
 | [],_=>none
 | c::r,i=>if c=b then some i else Ji b r (i+1)
def Bd (call:Bf) (key:Nat) (op:IOp) (e:Env) (h:Bc):Res (AV×Bc):=
 match op with
 | .mv x => .ret (x.ev e,h)
 | .pick c a b =>
  match c.ev e with
  | .bool t => .ret (if t then a.ev e else b.ev e,h)
  | _ => .fail
 | .alloc zero =>
  if zero.all oneB then
   let v:=(Bb h key).next
   .ret (.optr key v 0,setH h key (.cells v zero))
  else .fail
 | .box x =>
  if (x.ev e).cells.all oneB then
   let v:=(Bb h key).next
   .ret (.optr key v 0,setH h key (.cells v (x.ev e).cells))
  else .fail
 | .build zero parts=>if zero.all oneB then (Eg e parts zero).bind fun cs => .ret (.agg cs,h) else .fail
 | .buildSlice grp zero parts =>
  if zero.all oneB then (Eg e parts zero).bind fun cs =>
   if cs.all Gz then .ret (.slice grp (Ej grp (zero.length/Be grp) cs) true,h) else .fail
  else .fail
 | .buildSliceO grp zero parts =>
  if zero.all oneB then (Eg e parts zero).bind fun cs =>
   let v:=(Bb h h.length).next
   .ret (.oslice h.length v grp 0 (zero.length/Be grp) (some (zero.length/Be grp)),setH h h.length (.cells v cs))
  else .fail
 | .load grp x =>
  match x.ev e with
  | .ptr cells off=>(rd grp cells off).bind fun v => .ret (v,h)
  | .optr k ver off =>
   match Bb h k with
   | .cells v cs=>if v=ver then (rd grp cs off).bind fun v => .ret (v,h) else .fail
   | _ => .fail
  | _ => .fail
 | .loadS grp x d0 ts ds =>
  match x.ev e with
  | .ptr cells off=>(rd grp cells off).bind fun v => .ret (v,h)
  | .optr k ver off =>
   if Ly e key k d0 ts ds then
    match Bb h k with
    | .cells v cs=>if v=ver then (rd grp cs off).bind fun v => .ret (v,h) else .fail
    | _ => .fail
   else .fail
  | _ => .fail
 | .callS f args=>if (args.map (IX.ev e)).all (Dy depth) then call false (.fn f) (args.map (IX.ev e)) h else .fail
 | .storeS t sz a v =>
  match a.ev e with
  | .optr k ver off =>
   if k=key+t then
    match Bb h k with
    | .cells u cs =>
     let new:=(v.ev e).cells
     if u=ver/\new.length=sz/\off+sz<=cs.length/\new.all oneB then .ret (.undef,setH h k (.cells u (Dk cs off new))) else .fail
    | _ => .fail
   else .fail
  | _ => .fail
 | .store sz a v =>
  match a.ev e with
  | .optr k ver off =>
   match Bb h k with
   | .cells u cs =>
    let new:=(v.ev e).cells
    if u=ver/\new.length=sz/\off+sz<=cs.length/\new.all oneB then .ret (.undef,setH h k (.cells u (Dk cs off new))) else .fail
   | _ => .fail
  | _ => .fail
 | .nilCheck x =>
  match x.ev e with
  | .ptr cells off => .ret (.ptr cells off,h)
  | .optr k ver off => .ret (.optr k ver off,h)
  | .clo f a b => .ret (.clo f a b,h)
  | _ => .fail
 | .bin op x y=>(Ef op (x.ev e) (y.ev e)).bind fun v => .ret (v,h)
 | .eqB neg x y =>
  match x.ev e,y.ev e with
  | .bool b,.bool c => .ret (.bool ((b==c) != neg),h)
  | _,_ => .fail
 | .eqAgg n neg x y =>
  match x.ev e,y.ev e with
  | .agg cs,.agg ds =>
   if cs.length=n then
    match Ec cs ds with
    | some b => .ret (.bool (b != neg),h)
    | none => .fail
   else .fail
  | _,_ => .fail
 | .un op x=>(unA op (x.ev e)).bind fun v => .ret (v,h)
 | .conv k x =>
  match x.ev e with
  | .int _ n => .ret (.int k (k.wrap n),h)
  | _ => .fail
 | .mkFunc f first captured => .ret (.clo f (first.map (IX.ev e)) (captured.map (IX.ev e)),h)
 | .mkSlice grp zero bytes len cap =>
  match Df (len.ev e),Df (cap.ev e) with
  | some l,some c =>
   if l<=c/\Et c bytes/\zero.all oneB then
    let v:=(Bb h h.length).next
    .ret (.oslice h.length v grp 0 l (some c),setH h h.length (.cells v (List.replicate c zero).flatten))
   else .fail
  | _,_ => .fail
 | .slice grp x lo hi mx =>
  match x.ev e with
  | .slice gx xs exact =>
   if gx≠grp then .fail else
   (sliceB e xs.length (some xs.length) lo hi mx).bind fun (l,r,m) =>
    .ret (.slice grp ((xs.take r).drop l) ((exact&&(r==xs.length))||(mx.isSome&&(m==some r))),h)
  | .oslice k ver gx off len cap =>
   if gx≠grp then .fail else
   (sliceB e len cap lo hi mx).bind fun (l,r,m) =>
    .ret (.oslice k ver grp (off+l*Be grp) (r-l) (m.map (·-l)),h)
  | _ => .fail
 | .sliceA grp n x lo hi mx =>
  match x.ev e with
  | .optr k ver off =>
   match Bb h k with
   | .cells v cs =>
    if v=ver/\off+n*Be grp<=cs.length then
     (sliceB e n (some n) lo hi mx).bind fun (l,r,m) =>
      .ret (.oslice k ver grp (off+l*Be grp) (r-l) (m.map (·-l)),h)
    else .fail
   | _ => .fail
  | .ptr cells off =>
   if off+n*Be grp<=cells.length then
    (sliceB e n (some n) lo hi mx).bind fun (l,r,_) =>
     .ret (.slice grp (Ej grp (r-l) ((cells.drop (off+l*Be grp)).take ((r-l)*Be grp))) false,h)
   else .fail
  | _ => .fail
 | .fieldAddr off x =>
  match x.ev e with
  | .ptr cells o => .ret (.ptr cells (o+off),h)
  | .optr k ver o => .ret (.optr k ver (o+off),h)
  | _ => .fail
 | .field grp off x =>
  match x.ev e with
  | .agg cs=>(rd grp cs off).bind fun v => .ret (v,h)
  | _ => .fail
 | .indexAddr sz x i =>
  match x.ev e,Df (i.ev e) with
  | .slice grp xs _,some j =>
   if Be grp=sz then
    match xs[j]? with
    | some v => .ret (.ptr v.cells 0,h)
    | none => .fail
   else .fail
  | .oslice k ver grp off len _,some j =>
   if Be grp=sz/\j<len then .ret (.optr k ver (off+j*sz),h) else .fail
  | _,_ => .fail
 | .indexAddrA len sz x i =>
  match x.ev e,Df (i.ev e) with
  | .ptr cells o,some j=>if j<len then .ret (.ptr cells (o+j*sz),h) else .fail
  | .optr k ver o,some j=>if j<len then .ret (.optr k ver (o+j*sz),h) else .fail
  | _,_ => .fail
 | .index grp len x i =>
  match x.ev e,Df (i.ev e) with
  | .agg cs,some j=>if j<len then (rd grp cs (j*Be grp)).bind fun v => .ret (v,h) else .fail
  | _,_ => .fail
 | .extract x i =>
  match x.ev e with
  | .tuple vs=>(Res.ofOpt vs[i]?).bind fun v => .ret (v,h)
  | _ => .fail
 | .len x =>
  match x.ev e with
  | .slice _ xs _ => .ret (.int .i64 xs.length,h)
  | .oslice _ _ _ _ len _ => .ret (.int .i64 len,h)
  | _ => .fail
 | .append grp bytes x y=>Dh h.length grp bytes (x.ev e) (y.ev e) h
 | .copy g x y =>
  match x.ev e,De h (y.ev e) with
  | .oslice k ver grp off len _,some (gy,m,new) =>
   match Bb h k with
   | .cells v cs =>
    if gy=g/\grp=g/\v=ver/\off+len*Be g<=cs.length then
     if Nat.min m len=0 then .ret (.int .i64 0,h)
     else .ret (.int .i64 (Nat.min m len:Nat),setH h k (.cells v (Dk cs off (new.take (Nat.min m len*Be g)))))
    else .fail
   | _ => .fail
  | _,_ => .fail
 | .clear zero x =>
  match x.ev e with
  | .oslice k ver none off len _ =>
   match Bb h k with
   | .cells v cs =>
    if v=ver/\off+len<=cs.length/\oneB zero then
     if len=0 then .ret (.undef,h)
     else .ret (.undef,setH h k (.cells v (Dk cs off (List.replicate len zero))))
    else .fail
   | _ => .fail
  | _ => .fail
 | .max xs =>
  match xs.map (IX.ev e) with
  | .int k a::r=>(Mh k a r).bind fun v => .ret (v,h)
  | _ => .fail
 | .min xs =>
  match xs.map (IX.ev e) with
  | .int k a::r=>(Mi k a r).bind fun v => .ret (v,h)
  | _ => .fail
 | .call raw f args =>
  match f.ev e with
  | .clo g first captured=>call raw (.fn g) (first++args.map (IX.ev e)++captured) h
  | .yld k ver=>call raw (.yld k ver) (args.map (IX.ev e)) h
  | _ => .fail
 | .callF raw f args=>call raw (.fn f) (args.map (IX.ev e)) h
 | .mkMap =>
  let v:=(Bb h h.length).next
  .ret (.omap h.length v,setH h h.length (.map v 0 [] [] []))
 | .lookup kn zero ok x k =>
  match Gb h (x.ev e) with
  | some (ks,vs) =>
   if Ei kn (k.ev e) then
    match Du kn (k.ev e) ks 0 with
    | none => .fail
    | some none => .ret (if ok then .tuple [zero,.bool false] else zero,h)
    | some (some i) =>
     match vs[i]? with
     | some v => .ret (if ok then .tuple [v,.bool true] else v,h)
     | none => .fail
   else .fail
  | none => .fail
 | .mapUpdate kn x k v =>
  match x.ev e with
  | .omap key ver =>
   match Bb h key with
   | .map u clock ks vs bs =>
    if u=ver/\Ei kn (k.ev e) then
     match Du kn (k.ev e) ks 0 with
     | none => .fail
     | some none => .ret (.undef,setH h key (.map u (clock+1) (ks++[k.ev e]) (vs++[v.ev e]) (bs++[clock])))
     | some (some i) => .ret (.undef,setH h key (.map u clock (ks.set i (k.ev e)) (vs.set i (v.ev e)) bs))
    else .fail
   | _ => .fail
  | _ => .fail
 | .delete kn x k =>
  match x.ev e with
  | .omap key ver =>
   match Bb h key with
   | .map u clock ks vs bs =>
    if u=ver/\Ei kn (k.ev e) then
     match Du kn (k.ev e) ks 0 with
     | none => .fail
     | some none => .ret (.undef,h)
     | some (some i) => .ret (.undef,setH h key (.map u clock (ks.eraseIdx i) (vs.eraseIdx i) (bs.eraseIdx i)))
    else .fail
   | _ => .fail
  | _ => .fail
 | .lenM x =>
  match Gb h (x.ev e) with
  | some (ks,_) => .ret (.int .i64 ks.length,h)
  | none => .fail
 | .range x =>
  match x.ev e with
  | .omap key ver =>
   match Bb h key with
   | .map u clock _ _ _ =>
    if u=ver then
     let v:=(Bb h h.length).next
     .ret (.iter h.length v,setH h h.length (.iter v key ver clock [] clock))
    else .fail
   | _ => .fail
  | .fmap [] [] =>
   let v:=(Bb h h.length).next
   .ret (.iter h.length v,setH h h.length (.nit v))
  | _ => .fail
 | .next x =>
  match x.ev e with
  | .iter key ver =>
   match Bb h key with
   | .iter u mk mv since seen stepped =>
    match Bb h mk with
    | .map w clock ks vs bs =>
     if u=ver/\w=mv/\bs.all (fun b=>decide (b<since))/\since<=stepped then
      let left:=(ks.zip (vs.zip bs)).filter fun t => !seen.contains t.2.2
      if left.isEmpty then .ret (.tuple [.bool false],h)
      else .choice left.length fun j =>
       match left[j]? with
       | some (k,v,b) => .ret (.tuple [.bool true,k,v],setH h key (.iter u mk mv since (seen++[b]) clock))
       | none => .fail
     else .fail
    | _ => .fail
   | .nit u=>if u=ver then .ret (.tuple [.bool false],h) else .fail
   | _ => .fail
  | _ => .fail
 | .entry x =>
  match x.ev e with
  | .iter key ver =>
   match Bb h key with
   | .iter u mk mv _ seen stepped =>
    match Bb h mk,seen.getLast? with
    | .map w clock ks vs bs,some s =>
     if u=ver/\w=mv/\clock=stepped then
      match (ks.zip (vs.zip bs)).find? fun t=>t.2.2==s with
      | some (k,v,_) => .ret (.tuple [k,v],h)
      | none => .fail
     else .fail
    | _,_ => .fail
   | _ => .fail
  | _ => .fail
 | .strIdx l x =>
  match Df (x.ev e) with
  | some j =>
   match l[j]? with
   | some b => .ret (.int .u8 (b:Int),h)
   | none => .fail
  | none => .fail
 | .isNil neg x =>
  match x.ev e with
  | .slice _ (_::_) _ => .ret (.bool neg,h)
  | .slice _ [] _ => .choice 2 fun i => .ret (.bool (if i=0 then neg else !neg),h)
  | .oslice _ _ _ _ (_+1) _ => .ret (.bool neg,h)
  | _ => .fail
 | .loadL grp x d0 n ds =>
  match x.ev e with
  | .ptr cells off=>(rd grp cells off).bind fun v => .ret (v,h)
  | .optr k ver off =>
   if decide (k+d0<key+n)&&ds.all (fun d=>key+d != k+d0) then
    match Bb h k with
    | .cells v cs=>if v=ver then (rd grp cs off).bind fun v => .ret (v,h) else .fail
    | _ => .fail
   else .fail
  | _ => .fail
 | .storeL n sz a v =>
  match a.ev e with
  | .optr k ver off =>
   if key+n<=k then
    match Bb h k with
    | .cells u cs =>
     let new:=(v.ev e).cells
     if u=ver/\new.length=sz/\off+sz<=cs.length/\new.all oneB then .ret (.undef,setH h k (.cells u (Dk cs off new))) else .fail
    | _ => .fail
   else .fail
  | _ => .fail
 | .appendL d0 n grp bytes x y =>
  if Gs key d0 n (x.ev e)&&Gs key d0 n (y.ev e)&&decide (key+n<=h.length+d0) then Dh h.length grp bytes (x.ev e) (y.ev e) h else .fail
 | .mkSliceK grp zero bytes len cap =>
  match Df (len.ev e),Df (cap.ev e) with
  | some l,some c =>
   if l<=c/\Et c bytes/\zero.all oneB then
    let v:=(Bb h key).next
    .ret (.oslice key v grp 0 l (some c),setH h key (.cells v (List.replicate c zero).flatten))
   else .fail
  | _,_ => .fail
 | .callC d0 n f args=>if (args.map (IX.ev e)).all (Kv key d0)&&decide (key+n<=h.length+d0) then call true (.clone f) (args.map (IX.ev e)) h else .fail
 | .mapEntry kn zero x k =>
  match x.ev e with
  | .omap key ver =>
   match Bb h key with
   | .map u clock ks vs bs =>
    if u=ver/\Ei kn (k.ev e) then
     match Du kn (k.ev e) ks 0 with
     | none => .fail
     | some none=>if ks.length=vs.length then .ret (.tuple [zero,.int .i64 clock],setH h key (.map u (clock+1) (ks++[k.ev e]) (vs++[zero]) (bs++[clock]))) else .fail
     | some (some i) =>
      match vs[i]?,bs[i]? with
      | some v,some b => .ret (.tuple [v,.int .i64 b],setH h key (.map u clock (ks.set i (k.ev e)) vs bs))
      | _,_ => .fail
    else .fail
   | _ => .fail
  | _ => .fail
 | .entryStore x s v =>
  match x.ev e,Df (s.ev e) with
  | .omap key ver,some b =>
   match Bb h key with
   | .map u clock ks vs bs =>
    if u=ver then
     match Ji b bs 0 with
     | some i => .ret (.undef,setH h key (.map u clock ks (vs.set i (v.ev e)) bs))
     | none => .fail
    else .fail
   | _ => .fail
  | _,_ => .fail
 | .sliceW grp x lo hi mx =>
  match x.ev e with
  | .oslice k ver gx off len cap =>
   match Bb h k with
   | .cells v cs =>
    if gx≠grp\/v≠ver\/cap.isSome=true\/cs.length<off+len*Be grp then .fail else
    (sliceB e len (some ((cs.length-off)/Be grp)) lo hi mx).bind fun (l,r,m) =>
     .ret (.oslice k ver grp (off+l*Be grp) (r-l) (if mx.isSome then m.map (·-l) else none),h)
   | _ => .fail
  | _ => .fail
 | .clearG grp zs x =>
  match x.ev e with
  | .oslice k ver gx off len _ =>
   match Bb h k with
   | .cells v cs =>
    if v=ver/\gx=grp/\off+len*Be grp<=cs.length/\zs.all oneB=true/\zs.length=Be grp/\0<Be grp then
     if len=0 then .ret (.undef,h)
     else .ret (.undef,setH h k (.cells v (Dk cs off (List.replicate len zs).flatten)))
    else .fail
   | _ => .fail
  | _ => .fail
 | .callD d0 n f args=>if decide (key+n<=h.length+d0) then call true (.clone f) (args.map (IX.ev e)) h else .fail
 | .mkSliceD d0 n grp zero bytes len cap =>
  if decide (key+n<=h.length+d0) then
   match Df (len.ev e),Df (cap.ev e) with
   | some l,some c =>
    if l<=c/\Et c bytes/\zero.all oneB then
     let v:=(Bb h h.length).next
     .ret (.oslice h.length v grp 0 l (some c),setH h h.length (.cells v (List.replicate c zero).flatten))
    else .fail
   | _,_ => .fail
  else .fail
 | .cap x =>
  match x.ev e with
  | .slice _ xs true => .ret (.int .i64 xs.length,h)
  | _ => .fail
 | .appendZ grp zero bytes x n =>
  match x.ev e,Df (n.ev e) with
  | .slice g [] true,some m =>
   if g=grp/\0<m/\Et m bytes/\zero.all oneB then
    let v:=(Bb h h.length).next
    .ret (.oslice h.length v grp 0 m none,setH h h.length (.cells v (List.replicate m zero).flatten))
   else .fail
  | _,_ => .fail
 | .callW ts f args=>(call true (.fn f) (args.map (IX.ev e)) h).bind fun (v,h')=>if Mt e h h' ts then .ret (v,h') else .fail
 | .callV d0 n f args=>(call true (.fn f) (args.map (IX.ev e)) h).bind fun (v,h')=>if A1f h h' (key+n-d0) then .ret (v,h') else .fail
 | .loadU grp x t =>
  match x.ev e with
  | .ptr cells off=>(rd grp cells off).bind fun v => .ret (v,h)
  | .optr k ver off =>
   if Nq (Bs e t) k then
    match Bb h k with
    | .cells v cs=>if v=ver then (rd grp cs off).bind fun v => .ret (v,h) else .fail
    | _ => .fail
   else .fail
  | _ => .fail
 | .appendU t grp bytes x y =>
  match x.ev e with
  | .slice ..=>Dh h.length grp bytes (x.ev e) (y.ev e) h
  | .oslice k _ _ _ _ _=>if A5w (Bs e t) k then Dh h.length grp bytes (x.ev e) (y.ev e) h else .fail
  | _ => .fail
 | .bad => .fail
def Vz (h:Bc):List AV->Res Bc
 | [.oslice k ver none off len _] =>
  match Bb h k with
  | .cells v cs =>
   if v=ver/\off+len<=cs.length/\0<len/\len<1099511627776 then
    match Oa ((cs.drop off).take len) with
    | some l => .ret (setH h k (.cells v (Dk cs off ((Fa l).map (.int .i64)))))
    | none => .fail
   else .fail
  | _ => .fail
 | _ => .fail
def Bk (e:Env) (dst:Option Nat) (v:AV):Env:=
 match dst with
 | some d=>Gk e d v
 | none=>e
def Bv (call:Bf) (base:Nat) (o:IOper) (s:St):Res St:=
 match o.guard with
 | none=>(Bd call (base+o.dst.getD 0) o.op s.env s.heap).bind fun (v,h) => .ret ⟨Bk s.env o.dst v,h⟩
 | some (t,want) =>
  match Bs s.env t with
  | .bool b =>
   if b=want then (Bd call (base+o.dst.getD 0) o.op s.env s.heap).bind fun (v,h) => .ret ⟨Bk s.env o.dst v,h⟩
   else .ret ⟨Bk s.env o.dst .skip,s.heap⟩
  | .skip => .ret ⟨Bk s.env o.dst .skip,s.heap⟩
  | _ => .fail
def Dr (call:Bf) (base:Nat):List IOper->St->Res St
 | [],s => .ret s
 | o::r,s=>(Bv call base o s).bind fun s=>Dr call base r s
def Do (body:St->Res (EX×St)):Nat->St->Res (EX×St)
 | 0,_ => .fail
 | n+1,s=>(body s).bind fun (x,s) =>
  match x with
  | .normal=>Do body n s
  | x => .ret (x,s)
def Lg:Nat:=1152921504606846976
def evC (call:Bf) (base:Nat):IC->St->Res (EX×St)
 | .skip,s => .ret (.normal,s)
 | .ops l,s=>(Dr call base l s).bind fun s => .ret (.normal,s)
 | .seq a b,s=>(evC call base a s).bind fun (x,s) =>
  match x with
  | .normal=>evC call base b s
  | x => .ret (x,s)
 | .cond c a b,s =>
  match c.ev s.env with
  | .bool t=>if t then evC call base a s else evC call base b s
  | _ => .fail
 | .block id c,s=>(evC call base c s).bind fun (x,s) =>
  match x with
  | .exit id'=>if id'=id then .ret (.normal,s) else .ret (.exit id',s)
  | x => .ret (x,s)
 | .loop c,s=>Do (evC call base c) Lg s
 | .exit id,s => .ret (.exit id,s)
 | .ret,s => .ret (.ret,s)
 | .rangeF f params asg body,s =>
  match f.ev s.env with
  | .clo g first captured =>
   let k:=s.heap.length
   let v:=(Bb s.heap k).next
   (call true (.fn g) (first++[.yld k v]++captured) (setH s.heap k (.loop v .ready none ⟨base,s.env,params,asg,body⟩))).bind fun (_,h) =>
   match Bb h k with
   | .loop u st pend lf =>
    if u=v/\st ≠ .busy then .ret (pend.getD .normal,⟨s.env,setH h k (.loop u .exhausted pend lf)⟩) else .fail
   | _ => .fail
  | _ => .fail
 | .sortA,s=>(Vz s.heap s.env).bind fun h => .ret (.normal,⟨s.env,h⟩)
 | .bad,_ => .fail
inductive IRes where
 | tmp (t:Nat)
 | cell (t:Nat) (grp:Option Nat)
structure IFunc where
 ntmps:Nat
 results:List IRes
 body:IC
structure Cfg where
 fns:FuncId->Option IFunc
 clones:FuncId->Bool:=fun _=>false
def Jg:IFunc:=⟨8,[(.tmp 2)],(.seq (.ops [⟨(some 2),(.mv (.const (.slice none [] true))),none⟩]) (.seq (.seq (.ops [⟨(some 3),(.mv (.tmp 0)),none⟩,⟨(some 4),(.isNil false (.tmp 3)),none⟩]) (.cond (.tmp 4) (.seq (.ops [⟨(some 2),(.mv (.const (.slice none [] true))),none⟩]) .ret) .skip)) (.seq (.ops [⟨(some 5),(.buildSlice none [] []),none⟩,⟨(some 6),(.mv (.tmp 0)),none⟩,⟨(some 7),(.append none 8 (.tmp 5) (.tmp 6)),none⟩,⟨(some 2),(.mv (.tmp 7)),none⟩]) .ret)))⟩
def mapR {α β:Type} (f:α->Res β):List α->Res (List β)
 | [] => .ret []
 | a::r=>(f a).bind fun b=>(mapR f r).bind fun bs => .ret (b::bs)
def Fe (s:St):IRes->Res AV
 | .tmp t => .ret (Bs s.env t)
 | .cell t grp =>
  match Bs s.env t with
  | .optr k ver off =>
   match Bb s.heap k with
   | .cells v cs=>if v=ver then rd grp cs off else .fail
   | _ => .fail
  | .ptr cells off=>rd grp cells off
  | _ => .fail
def Gf:List AV->AV
 | [v]=>v
 | vs => .tuple vs
def Dw (call:Bf) (fn:IFunc) (args:List AV) (h:Bc):Res (AV×Bc):=
 (evC call h.length fn.body ⟨args,h++List.replicate fn.ntmps .none⟩).bind fun (x,s) =>
 match x with
 | .exit _ => .fail
 | _=>(mapR (Fe s) fn.results).bind fun vs => .ret (Gf vs,s.heap)
def En:Nat->AV->Bool
 | 0,_=>false
 | n+1,.agg cs=>cs.all (En n)
 | n+1,.tuple cs=>cs.all (En n)
 | _+1,.undef=>true
 | _+1,.bool _=>true
 | _+1,.int _ _=>true
 | _+1,.slice _ [] _=>true
 | _+1,.nilptr=>true
 | _+1,.nilfn=>true
 | _+1,_=>false
def Bj (h:Bc):Nat->AV->Res AV
 | 0,_ => .fail
 | n+1,v =>
  match v with
  | .agg cs=>(mapR (Bj h n) cs).bind fun cs => .ret (.agg cs)
  | .tuple cs=>(mapR (Bj h n) cs).bind fun cs => .ret (.tuple cs)
  | .clo f a b=>(mapR (Bj h n) a).bind fun a=>(mapR (Bj h n) b).bind fun b => .ret (.clo f a b)
  | .slice grp xs _ => .ret (.slice grp xs false)
  | .optr k ver off =>
   match Bb h k with
   | .cells v cs=>if v=ver then (mapR (Bj h n) cs).bind fun cs => .ret (.ptr cs off) else .fail
   | _ => .fail
  | .oslice k ver grp off len _ =>
   match Bb h k with
   | .cells v cs =>
    if v=ver/\off+len*Be grp<=cs.length then
     (mapR (Bj h n) ((cs.drop off).take (len*Be grp))).bind fun cs => .ret (.slice grp (Ej grp len cs) false)
    else .fail
   | _ => .fail
  | .omap k ver =>
   match Bb h k with
   | .map v _ ks vs _ =>
    if v=ver then (mapR (Bj h n) ks).bind fun ks=>(mapR (Bj h n) vs).bind fun vs => .ret (.fmap ks vs) else .fail
   | _ => .fail
  | .iter .. => .fail
  | .yld .. => .fail
  | .skip => .ret .undef
  | v => .ret v
def Er (h:Bc):Nat->AV->Bool
 | 0,_=>false
 | n+1,v =>
  match v with
  | .agg cs=>cs.all (Er h n)
  | .tuple cs=>cs.all (Er h n)
  | .optr k _ _ =>
   match Bb h k with
   | .cells _ cs=>cs.all (Er h n)
   | _=>false
  | .oslice k _ _ _ _ _ =>
   match Bb h k with
   | .cells _ cs=>cs.all (Er h n)
   | _=>false
  | .omap k _ =>
   match Bb h k with
   | .map _ _ ks vs _=>ks.all (Er h n)&&vs.all (Er h n)
   | _=>false
  | .slice _ xs _=>xs.isEmpty
  | .ptr ..=>false
  | .clo ..=>false
  | .fmap ..=>false
  | .iter ..=>false
  | .yld ..=>false
  | _=>true
def Mk:Env->List Nat->List AV->Env
 | e,t::ts,v::vs=>Mk (Gk e t v) ts vs
 | e,_,_=>e
def Ht (call:Bf) (key ver:Nat) (args:List AV) (h:Bc):Res (AV×Bc):=
 match Bb h key with
 | .loop u _ _ lf =>
  if u=ver/\args.length=lf.params.length then
   (evC call lf.base lf.asg ⟨Mk lf.env lf.params args,h⟩).bind fun (x,s) =>
   match x,Bb s.heap key with
   | .normal,.loop u2 .ready pend2 lf2 =>
    if u2=ver then
     (evC call lf.base lf.body ⟨s.env,setH s.heap key (.loop u2 .busy pend2 lf2)⟩).bind fun (x,s) =>
     match Bb s.heap key with
     | .loop u3 _ _ lf3 =>
      if u3=ver then
       match x with
       | .normal => .ret (.bool true,setH s.heap key (.loop u3 .ready none lf3))
       | x => .ret (.bool false,setH s.heap key (.loop u3 .done (some x) lf3))
      else .fail
     | _ => .fail
    else .fail
   | _,_ => .fail
  else .fail
 | _ => .fail
def Bg (cfg:Cfg):Nat->Bf
 | 0,_,_,_,_ => .fail
 | n+1,raw,.fn f,args,h =>
  match cfg.fns f with
  | none => .fail
  | some fn =>
   if raw then Dw (Bg cfg n) fn args h
   else
    (mapR (Bj h depth) args).bind fun args' =>
    (Dw (Bg cfg n) fn args' []).bind fun (r,h') =>
    (Bj h' depth r).bind fun fr =>
    if args.all (Dy depth)||En depth fr||Er h' depth r then .ret (fr,h) else .fail
 | n+1,raw,.yld key ver,args,h=>if raw then Ht (Bg cfg n) key ver args h else .fail
 | n+1,raw,.clone f,args,h=>if raw&&cfg.clones f then Ga args h else .fail
def El (P:Program) (t:TypeId):Option (Option Nat):=
 match P.underlying t with
 | some (.struct _) | some (.array _ _) =>
  match P.info? t with
  | some i=>if 0<i.size then some (some i.size) else none
  | none=>none
 | some _ =>
  match P.info? t with
  | some i=>if i.size=1 then some none else none
  | none=>none
 | none=>none
def A1v (P:Program):Nat->TypeId->Option (List AV)
 | 0,_=>none
 | n+1,t =>
  match P.underlying t with
  | some .bool=>some [.bool false]
  | some (.int k)=>some [.int k 0]
  | some (.pointer _)=>some [.nilptr]
  | some (.slice e)=>(El P e).map fun g=>[.slice g [] true]
  | some (.map _ _)=>some [.fmap [] []]
  | some (.func _ _ _)=>some [.nilfn]
  | some (.array len e)=>(A1v P n e).map fun z=>(List.replicate len z).flatten
  | some (.struct fs)=>(fs.toList.mapM fun f=>A1v P n f.type).map List.flatten
  | _=>none
def Kh:Nat->AV->Value->Bool
 | _,.bool a,.bool b=>a==b
 | _,.int k a,.int k' b=>k==k'&&a==b
 | _,.slice _ [] _,.slice none 0 0=>true
 | _,.nilptr,.pointer none=>true
 | _,.nilfn,.nilFunc=>true
 | _,.fmap [] [],.map none=>true
 | n+1,.agg cs,.agg vs=>cs.length==vs.size&&(cs.zip vs.toList).all fun (a,b)=>Kh n a b
 | _,_,_=>false
def Abv (P:Program) (t:TypeId) (v:Value):Option AV:=
 let a:Option AV:=
  match v with
  | .bool b=>some (.bool b)
  | .int k n=>some (.int k n)
  | .slice none 0 0 =>
   match P.underlying t with
   | some (.slice e)=>(El P e).map fun g => .slice g [] true
   | _=>none
  | .pointer none=>some .nilptr
  | .nilFunc=>some .nilfn
  | .map none=>some (.fmap [] [])
  | _=>none
 match a with
 | some a=>if Kh 3 a v then some a else none
 | none=>none
def cX (P:Program) (t:TypeId):Operand->Option IX
 | .tmp t=>some (.tmp t)
 | .const v=>(Abv P t v).map .const
 | .func f=>some (.const (.clo f [] []))
 | .global _=>none
def Fu (P:Program) (t:TypeId):Option (List AV):=
 match A1v P 12 t,(P.info? t).bind (·.zero) with
 | some z,some v =>
  if z.length=v.cells.size/\(P.info? t).map (·.size)=some z.length/\(z.zip v.cells.toList).all (fun (a,b)=>Kh 3 a b) then some z else none
 | _,_=>none
def Iz (P:Program) (t:TypeId):Bool:=match P.underlying t with | some (.int _)=>true | _=>false
def Hp (P:Program) (t:TypeId):Bool:=
 !(P.stoodInHeld t) && !(P.eqGuardType P.depth t) &&
 match P.underlying t with
 | some (.array n e)=>Iz P e&&P.cellsOf e==1&&P.cellsOf t==n
 | some (.struct fs) => (fs.toList.zipIdx.all fun (f, i) => Iz P f.type && f.offset == i && f.name != "_") && P.cellsOf t == fs.size
 | _=>false
def My (P:Program) (t:TypeId):Option (Option Nat):=
 if Iz P t then some none
 else if Hp P t then some (some (P.cellsOf t)) else none
def B1c (g:Option Nat) (z:List AV):AV:=
 match g with
 | none=>z.getD 0 .undef
 | some _ => .agg z
def Np (P:Program) (t:TypeId):Option AV:=
 match A1v P 12 t,(P.info? t).bind (·.zero),El P t with
 | some z,some v,some g =>
  if Kh 3 (B1c g z) v then some (B1c g z) else none
 | _,_,_=>none
def Iq (P:Program) (x:Option Operand):Option (Option IX):=
 match x with
 | none=>some none
 | some x=>(cX P 0 x).map some
def It (P:Program) (ts:List TypeId) (xs:List Operand):Option (List IX):=
 match xs,ts with
 | [],_=>some []
 | x::r,t::ts=>(cX P t x).bind fun a=>(It P ts r).map (a::·)
 | x::r,[]=>(cX P 0 x).bind fun a=>(It P [] r).map (a::·)
def Qa:BinOp->Bool
 | .neq=>true
 | _=>false
def A7z (P:Program) (op:BinOp) (t:TypeId) (y:Operand):Bool:=
 (match P.underlying t with | some (.slice _)=>true | _=>false)&&(match y with | .const (.slice none 0 0)=>true | _=>false)&&(match op with | .eql | .neq=>true | _=>false)
def cOp (P:Program) (byr:FuncId->Bool) (o:Oper):Option IOp:=
 match o.op with
 | .move x | .assign x=>(cX P o.type x).map .mv
 | .pick c a b=>(cX P 0 c).bind fun c=>(cX P o.type a).bind fun a=>(cX P o.type b).map fun b => .pick c a b
 | .alloc t=>if o.dst.isSome then (Fu P t).map .alloc else none
 | .box t x=>if o.dst.isSome/\(El P t).isSome then (cX P t x).map .box else none
 | .build t parts =>
  (Fu P t).bind fun z =>
  match P.underlying t with
  | some (.struct fs) =>
   if !(fs.toList.all fun f=>(P.info? f.type).isSome) then none else
   (parts.toList.mapM fun ((i,x):Nat×Operand)=>(fs[i]?).bind fun (f:Field)=>(cX P f.type x).map fun x=>(f.offset,P.cellsOf f.type,x)).map fun ps => .build z ps
  | some (.array _ e) =>
   if !(P.info? e).isSome then none else
   (parts.toList.mapM fun ((i,x):Nat×Operand)=>(cX P e x).map fun x=>(i*P.cellsOf e,P.cellsOf e,x)).map fun ps => .build z ps
  | _=>none
 | .buildSlice t len parts =>
  match P.underlying t with
  | some (.slice e) =>
   (El P e).bind fun g=>(Fu P e).bind fun z =>
   if len*Be g<=16777216/\z.length=Be g/\0<Be g then
    (parts.toList.mapM fun ((i,x):Nat×Operand)=>(cX P e x).map fun x=>(i*Be g,Be g,x)).bind fun ps =>
     if z.all Gz && !byr 1000001 then some (.buildSlice g (List.replicate len z).flatten ps) else if o.dst.isSome then some (.buildSliceO g (List.replicate len z).flatten ps) else none
   else none
  | _=>none
 | .load t x=>(El P t).bind fun g=>(cX P 0 x).map fun x => .load g x
 | .store t a x=>(El P t).bind fun g=>(cX P 0 a).bind fun a=>(cX P t x).map fun x => .store (Be g) a x
 | .nilCheck x=>(cX P 0 x).map .nilCheck
 | .binOp op t x y _ =>
  if A7z P op t y then (cX P 0 x).map (.isNil (Qa op)) else
  (cX P 0 x).bind fun a=>(cX P 0 y).bind fun b =>
  match P.underlying t with
  | some (.int _)=>some (.bin op a b)
  | some .bool =>
   match op with
   | .eql=>some (.eqB false a b)
   | .neq=>some (.eqB true a b)
   | _=>none
  | some (.array _ _) | some (.struct _) =>
   if Hp P t then
    match op with
    | .eql=>some (.eqAgg (P.cellsOf t) false a b)
    | .neq=>some (.eqAgg (P.cellsOf t) true a b)
    | _=>none
   else none
  | _=>none
 | .unOp op _ x=>(cX P 0 x).map fun x => .un op x
 | .convert src dst x =>
  match P.underlying dst with
  | some (.int k)=>(P.underlying src).bind fun _=>(cX P 0 x).map fun x => .conv k x
  | _=>none
 | .makeFunc (.func f) first captured =>
  (It P [] first.toList).bind fun a=>(It P [] captured.toList).map fun b => .mkFunc f a b
 | .makeSlice t l c =>
  match P.underlying t with
  | some (.slice e) =>
   (El P e).bind fun g=>(Fu P e).bind fun z=>(cX P 0 l).bind fun l=>(cX P 0 c).bind fun c =>
   if o.dst.isSome/\z.length=Be g/\0<Be g/\0<P.bytesOf e then some (if byr 1000002||byr (2000000+o.dst.getD 0) then .mkSliceK g z (P.bytesOf e) l c else .mkSlice g z (P.bytesOf e) l c) else none
  | _=>none
 | .slice t x lo hi mx =>
  (cX P 0 x).bind fun x=>(Iq P lo).bind fun lo=>(Iq P hi).bind fun hi=>(Iq P mx).bind fun mx =>
  match P.underlying t with
  | some (.slice e)=>(El P e).bind fun g=>if 0<Be g then some (if byr 1000003 then .sliceW g x lo hi mx else .slice g x lo hi mx) else none
  | some (.array n e)=>(El P e).bind fun g=>if 0<Be g then some (.sliceA g n x lo hi mx) else none
  | _=>none
 | .fieldAddr s x f =>
  match P.underlying s with
  | some (.struct fs) =>
   (fs[f]?).bind fun (f:Field)=>if 0<P.cellsOf f.type then (cX P 0 x).map fun x => .fieldAddr f.offset x else none
  | _=>none
 | .field s x f =>
  match P.underlying s with
  | some (.struct fs)=>(fs[f]?).bind fun (f:Field)=>(El P f.type).bind fun g=>(cX P 0 x).map fun x => .field g f.offset x
  | _=>none
 | .indexAddr t x i =>
  match P.underlying t with
  | some (.slice e)=>if 0<P.cellsOf e then (cX P 0 x).bind fun x=>(cX P 0 i).map fun i => .indexAddr (P.cellsOf e) x i else none
  | some (.array n e)=>if 0<P.cellsOf e then (cX P 0 x).bind fun x=>(cX P 0 i).map fun i => .indexAddrA n (P.cellsOf e) x i else none
  | _=>none
 | .index t x i =>
  match P.underlying t with
  | some (.array n e)=>(El P e).bind fun g=>(cX P 0 x).bind fun x=>(cX P 0 i).map fun i => .index g n x i
  | some .string =>
   match x with
   | .const (.string s)=>(cX P 0 i).map fun i => .strIdx (s.data.toList.map (·.toNat)) i
   | _=>none
  | _=>none
 | .extract x i=>(cX P 0 x).map fun x => .extract x i
 | .makeMap _ r=>if o.dst.isSome/\r.isNone then some .mkMap else none
 | .lookup t x k ok =>
  match P.underlying t with
  | some (.map kt et)=>(My P kt).bind fun kn=>(Np P et).bind fun z=>(cX P t x).bind fun x=>(cX P kt k).map fun k => .lookup kn z ok x k
  | _=>none
 | .mapUpdate t m k x | .insert t m k x =>
  match P.underlying t with
  | some (.map kt et)=>(My P kt).bind fun kn=>(cX P t m).bind fun m=>(cX P kt k).bind fun k=>(cX P et x).map fun x => .mapUpdate kn m k x
  | _=>none
 | .mapEntry t m k =>
  match P.underlying t with
  | some (.map kt et)=>(My P kt).bind fun kn=>(Np P et).bind fun z=>(cX P t m).bind fun m=>(cX P kt k).map fun k => .mapEntry kn z m k
  | _=>none
 | .entryStore t m s x =>
  match P.underlying t with
  | some (.map _ et)=>(cX P t m).bind fun m=>(cX P 0 s).bind fun s=>(cX P et x).map fun x => .entryStore m s x
  | _=>none
 | .range t x =>
  match P.underlying t with
  | some (.map _ _)=>if o.dst.isSome then (cX P t x).map .range else none
  | _=>none
 | .next x false=>(cX P 0 x).map .next
 | .entry x=>(cX P 0 x).map .entry
 | .call c =>
  match c.callee with
  | .builtin .len =>
   match (c.argTypes[0]?).bind P.underlying,c.args.toList with
   | some (.slice _),[x]=>(cX P (c.argTypes.getD 0 0) x).map .len
   | some (.array n _),[_]=>some (.mv (.const (.int .i64 n)))
   | some (.map _ _),[x]=>(cX P (c.argTypes.getD 0 0) x).map .lenM
   | some (.pointer _),_=>none
   | _,_=>none
  | .builtin .cap =>
   match (c.argTypes[0]?).bind P.underlying,c.args.toList with
   | some (.slice _),[x]=>(cX P (c.argTypes.getD 0 0) x).map .cap
   | _,_=>none
  | .builtin .append =>
   match (c.argTypes[0]?).bind P.underlying,(c.argTypes[1]?).bind P.underlying,c.args.toList with
   | some (.slice e),some (.int _),[x,y] =>
    (El P e).bind fun g=>(Fu P e).bind fun z=>(cX P (c.argTypes.getD 0 0) x).bind fun x=>(cX P (c.argTypes.getD 1 0) y).bind fun y =>
    if o.dst.isSome/\c.argTypes.toList=[c.argTypes.getD 0 0,c.argTypes.getD 1 0]/\z.length=Be g/\0<Be g/\0<P.bytesOf e/\z.all oneB then some (.appendZ g z (P.bytesOf e) x y) else none
   | some (.slice e),some (.slice _),[x,y] =>
    (El P e).bind fun g=>(Fu P e).bind fun z=>(cX P (c.argTypes.getD 0 0) x).bind fun x=>(cX P (c.argTypes.getD 1 0) y).bind fun y =>
    if o.dst.isSome/\c.argTypes.toList=[c.argTypes.getD 0 0,c.argTypes.getD 0 0]/\z.length=Be g/\0<Be g/\0<P.bytesOf e/\z.all oneB then some (.append g (P.bytesOf e) x y) else none
   | _,_,_=>none
  | .builtin .copy =>
   match (c.argTypes[0]?).bind P.underlying,c.args.toList with
   | some (.slice e),[x,y]=>(El P e).bind fun g=>if 0<Be g then (cX P (c.argTypes.getD 0 0) x).bind fun x=>(cX P (c.argTypes.getD 1 0) y).map fun y => .copy g x y else none
   | _,_=>none
  | .builtin .clear =>
   match (c.argTypes[0]?).bind P.underlying,c.args.toList with
   | some (.slice e),[x] =>
    match El P e,Fu P e with
    | some none,some [z]=>(cX P (c.argTypes.getD 0 0) x).map fun x => .clear z x
    | some (some n),some zs=>(cX P (c.argTypes.getD 0 0) x).map fun x => .clearG (some n) zs x
    | _,_=>none
   | _,_=>none
  | .builtin .delete =>
   match (c.argTypes[0]?).bind P.underlying,c.args.toList with
   | some (.map kt _),[x,k]=>(My P kt).bind fun kn=>(cX P (c.argTypes.getD 0 0) x).bind fun x=>(cX P kt k).map fun k => .delete kn x k
   | _,_=>none
  | .builtin .max=>(It P c.argTypes.toList c.args.toList).map .max
  | .builtin .min=>(It P c.argTypes.toList c.args.toList).map .min
  | .value (.func f)=>(It P c.argTypes.toList c.args.toList).map fun xs => .callF (byr f) f xs
  | .value (.tmp t)=>(It P c.argTypes.toList c.args.toList).map fun xs => .call (byr 1000000) (.tmp t) xs
  | _=>none
 | _=>none
def Rs (P:Program) (byr:FuncId->Bool) (n:Nat) (ops:Array Oper) (o:Oper):IOper:=
 match (if (o.dst.getD 0)<n then cOp P byr o else none) with
 | none=>{ dst:=o.dst,op:=.bad,guard:=none }
 | some op =>
  match o.guard with
  | none=>{ dst:=o.dst,op,guard:=none }
  | some (j,want) =>
   match (ops[j]?).bind (·.dst) with
   | some t=>{ dst:=o.dst,op,guard:=some (t,want) }
   | none=>{ dst:=o.dst,op:=.bad,guard:=none }
inductive Touch where
 | not | reads | writes
 deriving DecidableEq
def IOp.touch:IOp->Touch
 | .mv _ | .strIdx .. | .pick .. | .build .. | .buildSlice .. | .bin .. | .eqB .. | .eqAgg .. | .un .. | .conv .. | .mkFunc .. | .field .. | .index .. | .extract .. | .max _ | .min _ | .bad
 | .nilCheck _ | .fieldAddr .. | .indexAddr .. | .indexAddrA .. | .len _ | .cap _ | .slice .. | .isNil .. => .not
 | .load .. | .loadS .. | .loadL .. | .loadU .. | .callS .. | .sliceA .. | .sliceW .. | .lookup .. | .lenM _ | .entry _ => .reads
 | .callF raw _ _=>if raw then .writes else .reads
 | .call raw _ _=>if raw then .writes else .reads
 | _ => .writes
def IX.tmps:IX->List Nat
 | .tmp t=>[t]
 | .const _=>[]
def Lu:Option IX->List Nat
 | some x=>x.tmps
 | none=>[]
def IOp.tmps:IOp->List Nat
 | .mv x | .box x | .load _ x | .nilCheck x | .un _ x | .conv _ x | .fieldAddr _ x | .field _ _ x | .extract x _ | .len x | .clear _ x | .clearG _ _ x=>x.tmps
 | .lenM x | .strIdx _ x | .cap x | .range x | .next x | .entry x | .isNil _ x | .loadL _ x _ _ _=>x.tmps
 | .appendZ _ _ _ x n=>x.tmps++n.tmps
 | .callW ts _ xs=>xs.flatMap (·.tmps)++ts
 | .loadU _ x t=>x.tmps++[t]
 | .appendU t _ _ x y=>x.tmps++y.tmps++[t]
 | .storeL _ _ a v=>a.tmps++v.tmps
 | .appendL _ _ _ _ x y=>x.tmps++y.tmps
 | .mkSliceK _ _ _ l c=>l.tmps++c.tmps
 | .callC _ _ _ xs | .callD _ _ _ xs | .callV _ _ _ xs=>xs.flatMap (·.tmps)
 | .mapEntry _ _ x k=>x.tmps++k.tmps
 | .entryStore x s v=>x.tmps++s.tmps++v.tmps
 | .loadS _ x _ ts _=>x.tmps++ts
 | .callS _ xs=>xs.flatMap (·.tmps)
 | .lookup _ _ _ x k | .delete _ x k=>x.tmps++k.tmps
 | .mapUpdate _ x k v=>x.tmps++k.tmps++v.tmps
 | .pick c a b=>c.tmps++a.tmps++b.tmps
 | .build _ ps | .buildSlice _ _ ps | .buildSliceO _ _ ps=>ps.flatMap fun p=>p.2.2.tmps
 | .store _ a v | .storeS _ _ a v=>a.tmps++v.tmps
 | .bin _ x y | .eqB _ x y | .eqAgg _ _ x y | .append _ _ x y | .copy _ x y=>x.tmps++y.tmps
 | .mkFunc _ a b=>a.flatMap (·.tmps)++b.flatMap (·.tmps)
 | .mkSlice _ _ _ l c | .mkSliceD _ _ _ _ _ l c=>l.tmps++c.tmps
 | .slice _ x lo hi mx | .sliceW _ x lo hi mx | .sliceA _ _ x lo hi mx=>x.tmps++Lu lo++Lu hi++Lu mx
 | .indexAddr _ x i | .indexAddrA _ _ x i | .index _ _ x i=>x.tmps++i.tmps
 | .max xs | .min xs | .callF _ _ xs=>xs.flatMap (·.tmps)
 | .call _ f xs=>f.tmps++xs.flatMap (·.tmps)
 | .alloc _ | .mkMap | .bad=>[]
def IOper.looks (o:IOper):List Nat:=o.op.tmps++(match o.guard with | some (t,_)=>[t] | none=>[])
def Ow (x y:IOper):Bool:=
 (match x.op.touch,y.op.touch with
  | .not,_ | _,.not | .reads,.reads=>true
  | _,_=>false) &&
 (match x.dst with | some d => !(y.looks.contains d)&&y.dst != some d | none=>true) &&
 (match y.dst with | some d => !(x.looks.contains d) | none=>true)
def Hl:List Oper->List Nat->List Nat
 | [],acc=>acc
 | o::r,acc=>Hl r (acc++[o.after.toList.foldl (fun s e=>if Region.binds .any e then s ||| 2 ^ e.on ||| acc.getD e.on 0 else s) 0])
def Aee:IX->IX->Bool
 | .tmp a,.tmp b=>a==b
 | _,_=>false
def Aoq:AV->AV->Bool
 | .int k a,.int k' b=>k==k'&&a==b
 | _,_=>false
def Vt (x y:IOper):Bool:=
 (match x.op,y.op with
  | .loadS _ _ d0 ts _,.store _ (.tmp t) _=>ts.contains t&&d0==x.dst.getD 0
  | .loadS _ _ d0 _ ds,.alloc _=>(match y.dst with | some d=>ds.contains d | none=>false)&&d0==x.dst.getD 0
  | .loadS _ _ d0 _ ds,.storeS t _ _ _=>ds.contains t&&d0==x.dst.getD 0&&y.dst.getD 0==0
  | .callS ..,.storeS ..=>true
  | .callS ..,.store ..=>true
  | .callS ..,.alloc _=>true
  | .alloc _,.alloc _=>x.dst.isSome&&y.dst.isSome
  | .load ..,.mkSlice ..=>true
  | .load ..,.buildSliceO ..=>true
  | .loadU ..,.buildSliceO ..=>true
  | .load _ (.tmp t),.callW ts _ _=>ts.contains t
  | .loadU _ _ t,.appendU t2 _ _ _ _=>t==t2
  | .loadL ..,.buildSliceO ..=>true
  | .loadL _ _ d0 n _,.appendL d1 m _ _ _ _=>n==m&&d0==x.dst.getD 0&&d1==y.dst.getD 0
  | .loadL _ _ d0 _ ds,.alloc _=>(match y.dst with | some d=>ds.contains d | none=>false)&&d0==x.dst.getD 0
  | .loadL _ _ d0 n _,.storeL m _ _ _=>n==m&&d0==x.dst.getD 0&&y.dst.getD 0==0
  | .appendL d0 n _ _ _ _,.alloc _=>decide (y.dst.getD 0<n)&&d0==x.dst.getD 0&&x.guard.isNone
  | .appendL d0 n _ _ _ _,.loadL _ _ d1 m _=>n==m&&d0==x.dst.getD 0&&d1==y.dst.getD 0&&x.guard.isNone
  | .mkSliceD d0 n _ _ _ _ _,.mkSliceK ..=>decide (y.dst.getD 0<n)&&d0==x.dst.getD 0&&x.guard.isNone
  | .mkSliceK ..,.mkSliceK ..=>x.dst.isSome&&y.dst.isSome&&x.guard.isNone
  | .loadL _ _ d0 n _,.callD d1 m _ _=>n==m&&d0==x.dst.getD 0&&d1==y.dst.getD 0
  | .loadL _ _ d0 n _,.callV d1 m _ _=>n==m&&d0==x.dst.getD 0&&d1==y.dst.getD 0
  | .callV d1 m _ _,.loadL _ _ d0 n _=>n==m&&d1==x.dst.getD 0&&d0==y.dst.getD 0&&x.guard.isNone
  | .callC d0 n _ _,.mkSliceK ..=>decide (y.dst.getD 0<n)&&d0==x.dst.getD 0&&x.guard.isNone
  | .lookup kn z false a k,.mapEntry kn' z' a' k'=>kn==kn'&&Aee a a'&&Aee k k'&&Aoq z z'&&x.guard.isNone
  | _,_=>false)&&y.guard.isNone &&
 (match x.dst with | some d => !(y.looks.contains d)&&y.dst != some d | none=>true) &&
 (match y.dst with | some d => !(x.looks.contains d) | none=>true)
def Yu (l:List IOper):List Nat:=l.filterMap fun y=>match y.op with | .alloc _=>y.dst | _=>none
def B8a (b:List Nat) (l:List IOper) (i:Nat):List Nat:=
 l.zipIdx.filterMap fun (y,j)=>if i<j && !((b.getD j 0).testBit i) then (match y.op with | .store _ (.tmp t) _=>if (Yu (l.drop i)).contains t then none else some t | _=>none) else none
def B7z (b:List Nat) (l:List IOper) (i:Nat):List Nat:=
 l.zipIdx.filterMap fun (y,j)=>if i<j && !((b.getD j 0).testBit i) then (match y.op with | .alloc _=>y.dst | .store _ (.tmp t) _=>if (Yu (l.drop i)).contains t then some t else none | _=>none) else none
def Auo (b:List Nat) (l:List IOper) (j:Nat) (y:IOper):Bool:=
 match y.op with
 | .store _ (.tmp t) _=>l.zipIdx.any fun (x,i)=>i<j && !((b.getD j 0).testBit i)&&(Yu (l.drop i)).contains t&&(match x.op with | .load ..=>true | _=>false)
 | _=>false
def Afy (late:Bool) (x:IOper):IOper:=
 if late then
  match x.op with
  | .store sz (.tmp t) v=>{ x with op:=.storeS t sz (.tmp t) v }
  | _=>x
 else x
def A9b (ts ds:List Nat) (x:IOper):IOper:=
 if ts.isEmpty&&ds.isEmpty then x else
 match x.op with
 | .load g a=>{ x with op:=.loadS g a (x.dst.getD 0) ts ds }
 | .callF false f as=>{ x with op:=.callS f as }
 | _=>x
def Yg (ops:Array Oper) (l:List IOper):List IOper:=
 l.mapIdx fun i x=>Afy (Auo (Hl ops.toList []) l i x) (A9b (B8a (Hl ops.toList []) l i) (B7z (Hl ops.toList []) l i) x)
def Rg (b:List Nat) (l:List IOper) (i:Nat):List IOper×List IOper:=
 (l.zipIdx.filterMap fun (y,j)=>if i<j && !((b.getD j 0).testBit i) then some y else none,
  l.zipIdx.filterMap fun (y,j)=>if j<i && !((b.getD i 0).testBit j) then some y else none)
def A9c (n:Nat) (late early:List IOper) (x:IOper):IOper:=
 match x.op with
 | .load g a =>
  if late.any (fun y=>match y.op with | .append .. | .alloc _ | .store .. | .callF true _ _=>true | _=>false)||early.any (fun y=>match y.op with | .append ..=>true | _=>false) then { x with op:=.loadL g a (x.dst.getD 0) n (late.filterMap fun y=>match y.op with | .alloc _=>y.dst | _=>none) } else x
 | .append g b a c =>
  if late.any (fun y=>match y.op with | .alloc _ | .load ..=>true | _=>false)||early.any (fun y=>match y.op with | .load ..=>true | _=>false) then { x with op:=.appendL (x.dst.getD 0) n g b a c } else x
 | .store sz a v=>if early.any (fun y=>match y.op with | .load ..=>true | _=>false) then { x with op:=.storeL n sz a v } else x
 | .mkSlice g z b l c=>if late.any (fun y=>match y.op with | .mkSliceK ..=>true | _=>false) then { x with op:=.mkSliceD (x.dst.getD 0) n g z b l c } else x
 | .callF true f xs=>if late.any (fun y=>match y.op with | .mkSliceK ..=>true | _=>false) then { x with op:=.callC (x.dst.getD 0) n f xs } else if early.any (fun y=>match y.op with | .load ..=>true | _=>false) then { x with op:=.callD (x.dst.getD 0) n f xs } else x
 | _=>x
def Jc (n:Nat) (ops:Array Oper) (l:List IOper):List IOper:=
 l.mapIdx fun i x=>A9c n (Rg (Hl ops.toList []) l i).1 (Rg (Hl ops.toList []) l i).2 x
def Aou (l:List IOper) (a:Nat):Option Nat:=(l.filterMap fun y=>match y.dst,y.op with | some d,.mv (.tmp t)=>if d=a then some t else none | _,_=>none).head?
def Zx (l late early:List IOper) (x:IOper):IOper:=
 match x.op with
 | .append g b (.tmp a) c =>
  if early.any (fun y=>match y.op with | .load ..=>true | _=>false) then (match Aou l a with | some t=>{ x with op:=.appendU t g b (.tmp a) c } | none=>x) else x
 | .load g a =>
  match (late.filterMap fun y=>match y.op with | .append _ _ (.tmp a) _=>Aou l a | _=>none).head? with
  | some t=>{ x with op:=.loadU g a t }
  | none=>x
 | .callF true f xs=>if (early.filterMap fun y=>match y.op with | .load _ (.tmp t)=>some t | _=>none).isEmpty then x else { x with op:=.callW (early.filterMap fun y=>match y.op with | .load _ (.tmp t)=>some t | _=>none) f xs }
 | _=>x
def Ss (ops:Array Oper) (l:List IOper):List IOper:=
 l.mapIdx fun i x=>Zx l (Rg (Hl ops.toList []) l i).1 (Rg (Hl ops.toList []) l i).2 x
def A3f (n:Nat) (late early:List IOper) (x:IOper):IOper:=
 match x.op with
 | .callF true f xs=>if (late++early).any (fun y=>match y.op with | .load ..=>true | _=>false) then { x with op:=.callV (x.dst.getD 0) n f xs } else x
 | .load g a=>if (late++early).any (fun y=>match y.op with | .callF true _ _=>true | _=>false) then { x with op:=.loadL g a (x.dst.getD 0) n [] } else x
 | _=>x
def Su (n:Nat) (ops:Array Oper) (l:List IOper):List IOper:=
 l.mapIdx fun i x=>A3f n (Rg (Hl ops.toList []) l i).1 (Rg (Hl ops.toList []) l i).2 x
def Jo (ops:Array Oper) (l:List IOper):Bool:=
 let b:=Hl ops.toList []
 l.zipIdx.all fun (o,i) =>
  (((ops[i]?).map (·.after.toList)).getD []).all (fun e => !Region.binds .any e||e.on<i) &&
  (l.take i).zipIdx.all fun (x,j)=>(b.getD i 0).testBit j||Ow x o||Vt x o
def Fk (P:Program) (n:Nat) (byr:FuncId->Bool) (nest:Bool):Code->IC
 | .skip => .skip
 | .region _ ops draw =>
  let l:=ops.toList.map (Rs P byr n ops)
  if draw && !Jo ops l then
   if byr 1000005&&Jo ops (Su n ops l) then .ops (Su n ops l)
   else if byr 1000004&&Jo ops (Ss ops l) then .ops (Ss ops l)
   else if byr 1000006&&Jo ops (Jc (n+2) ops l) then .ops (Jc (n+2) ops l)
   else if !Jo ops (Yg ops l) then
    if !Jo ops (Jc n ops l) then .bad else .ops (Jc n ops l)
   else .ops (Yg ops l)
  else .ops l
 | .seq a b => .seq (Fk P n byr nest a) (Fk P n byr nest b)
 | .cond c a b =>
  match cX P 0 c with
  | some c => .cond c (Fk P n byr nest a) (Fk P n byr nest b)
  | none => .bad
 | .block id c => .block id (Fk P n byr nest c)
 | .loop c => .loop (Fk P n byr nest c)
 | .scope c=>Fk P n byr nest c
 | .exit id => .exit id
 | .label _ => .skip
 | .ret => .ret
 | .rangeFunc g ps a b =>
  if nest || !(ps.all fun t=>decide (t<n)) then .bad else
  match cX P 0 g with
  | some g => .rangeF g ps.toList (Fk P n byr true a) (Fk P n byr true b)
  | none => .bad
 | _ => .bad
def Xn (P:Program) (byr:FuncId->Bool) (f:Func):Option IFunc:=
 match f.body with
 | none=>none
 | some c =>
  (f.results.toList.mapM fun r =>
   match (r:ResultVar) with
   | .tmp t=>some (IRes.tmp t)
   | .cell t ty=>(El P ty).map fun g=>IRes.cell t g).map fun rs=>{ ntmps:=f.ntmps,results:=rs,body:=Fk P f.ntmps byr false c }
end Go.Ev
