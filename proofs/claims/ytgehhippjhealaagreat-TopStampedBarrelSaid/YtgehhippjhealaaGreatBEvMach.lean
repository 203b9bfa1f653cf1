/- Walking the evaluator as a machine: code, what is still to do, slots, heap; one rule for each form of code and each operation. No condition but those that stand in each. -/
import Derived.Test.YtgehhippjhealaaGreatBEvWalk
set_option linter.unusedSimpArgs false
set_option linter.unusedVariables false
namespace Go.Ev
open Go
inductive Kont where
 | seq (c:IC)
 | block (id:Nat)
 | inv (P:St->Prop)
def Lq (call:Bn) (base:Nat) (Q:EX×St->Prop):List Kont->EX×St->Prop
 | []=>Q
 | .seq c::ks=>after (Lq call base Q ks) fun s=>(evC call base c s).all (Lq call base Q ks)
 | .block id::ks=>A1x id (Lq call base Q ks)
 | .inv P::ks=>after (Lq call base Q ks) P
def lenA:AV->Option Nat
 | .slice _ xs _=>some xs.length
 | .oslice _ _ _ _ len _=>some len
 | _=>none
theorem Rb (g:Option Nat) (xs:List AV) (ex:Bool):lenA (.slice g xs ex)=some xs.length:=rfl
theorem A6c (a b:Nat) (g:Option Nat) (c len:Nat) (f:Option Nat):lenA (.oslice a b g c len f)=some len:=rfl
def G (call:Bn) (base:Nat) (Q:EX×St->Prop) (c:IC) (ks:List Kont) (s:St):Prop:=(evC call base c s).all (Lq call base Q ks)
def R (call:Bn) (base:Nat) (Q:EX×St->Prop) (x:EX) (ks:List Kont) (s:St):Prop:=Lq call base Q ks (x,s)
def GO (call:Bn) (base:Nat) (Q:EX×St->Prop) (l:List IOper) (ks:List Kont) (s:St):Prop:=(Dh call base l s).all fun s=>Lq call base Q ks (.normal,s)
def GV (call:Bn) (base:Nat) (Q:EX×St->Prop) (d:Option Nat) (l:List IOper) (ks:List Kont) (e:Env) (h:Bd) (r:Res AV):Prop:=r.all fun v=>GO call base Q l ks ⟨Bk e d v,h⟩
def GP (call:Bn) (base:Nat) (Q:EX×St->Prop) (d:Option Nat) (l:List IOper) (ks:List Kont) (e:Env) (r:Res (AV×Bd)):Prop:=r.all fun p=>GO call base Q l ks ⟨Bk e d p.1,p.2⟩
def GC (call:Bn) (base:Nat) (Q:EX×St->Prop) (f:List AV->Prop) (r:Res (List AV)):Prop:=r.all f
section
variable {call:Bn} {base:Nat} {Q:EX×St->Prop} {ks:List Kont} {s:St} {e:Env} {h:Bd} {l:List IOper} {d:Option Nat}
theorem B3z (a b:IC):G call base Q (.seq a b) ks s=G call base Q a (.seq b::ks) s:=by
 simp only [G,B4e,Lq]
theorem Avj (id:Nat) (c:IC):G call base Q (.block id c) ks s=G call base Q c (.block id::ks) s:=by
 simp only [G,Aux,Lq]
theorem Ayi:G call base Q .skip ks s=R call base Q .normal ks s:=rfl
theorem B0z (id:Nat):G call base Q (.exit id) ks s=R call base Q (.exit id) ks s:=rfl
theorem B3r:G call base Q .ret ks s=R call base Q .ret ks s:=rfl
theorem B3w:G call base Q (.ops l) ks s=GO call base Q l ks s:=by simp only [G,GO,B4y]
theorem Ayd (c:IX) (a b:IC):G call base Q (.cond c a b) ks ⟨e,h⟩=(match c.ev e with | .bool t=>if t then G call base Q a ks ⟨e,h⟩ else G call base Q b ks ⟨e,h⟩ | _=>False):=by
 simp only [G,B0x]
 cases c.ev e <;> rfl
theorem B3j:GO call base Q [] ks s=R call base Q .normal ks s:=rfl
theorem B3u (x:EX):R call base Q x [] s=Q (x,s):=rfl
theorem B5r (c:IC):R call base Q .normal (.seq c::ks) s=G call base Q c ks s:=rfl
theorem B1a (c:IC) (id:Nat):R call base Q (.exit id) (.seq c::ks) s=R call base Q (.exit id) ks s:=rfl
theorem B2z (c:IC):R call base Q .ret (.seq c::ks) s=R call base Q .ret ks s:=rfl
theorem B5x (id:Nat):R call base Q .normal (.block id::ks) s=R call base Q .normal ks s:=rfl
theorem B0y (id id':Nat):R call base Q (.exit id') (.block id::ks) s=if id'=id then R call base Q .normal ks s else R call base Q (.exit id') ks s:=by
 simp only [R,Lq,A1x]
theorem B1k (id:Nat):R call base Q .ret (.block id::ks) s=R call base Q .ret ks s:=rfl
theorem B5q (P:St->Prop):R call base Q .normal (.inv P::ks) s=P s:=rfl
theorem B0t (P:St->Prop) (id:Nat):R call base Q (.exit id) (.inv P::ks) s=R call base Q (.exit id) ks s:=rfl
theorem Azq (P:St->Prop):R call base Q .ret (.inv P::ks) s=R call base Q .ret ks s:=rfl
theorem B0g (v:AV):GV call base Q d l ks e h (.ret v)=GO call base Q l ks ⟨Bk e d v,h⟩:=rfl
theorem Axz:GV call base Q d l ks e h .fail=False:=rfl
theorem Aus (v:AV):GV call base Q d l ks e h (Res.ofOpt (some v))=GO call base Q l ks ⟨Bk e d v,h⟩:=rfl
theorem Azd (c:Prop) [Decidable c] (x y:Res AV):GV call base Q d l ks e h (if c then x else y)=if c then GV call base Q d l ks e h x else GV call base Q d l ks e h y:=by split <;> rfl
theorem Hj (v:AV):GP call base Q d l ks e (.ret (v,h))=GO call base Q l ks ⟨Bk e d v,h⟩:=rfl
theorem Axe:GP call base Q d l ks e .fail=False:=rfl
theorem B1w (c:Prop) [Decidable c] (x y:Res (AV×Bd)):GP call base Q d l ks e (if c then x else y)=if c then GP call base Q d l ks e x else GP call base Q d l ks e y:=by split <;> rfl
theorem Azn (f:List AV->Prop) (cs:List AV):GC call base Q f (.ret cs)=f cs:=rfl
theorem Aze (f:List AV->Prop) (c:Prop) [Decidable c] (x y:Res (List AV)):GC call base Q f (if c then x else y)=if c then GC call base Q f x else GC call base Q f y:=by split <;> rfl
theorem Acx (o:IOper):GO call base Q (o::l) ks s=(Bq call base o s).all fun s=>GO call base Q l ks s:=by simp only [GO,B2d]
theorem Dk (op:IOp):GO call base Q (⟨d,op,none⟩::l) ks ⟨e,h⟩=(Bh call (base+d.getD 0) op e h).all fun p=>GO call base Q l ks ⟨Bk e d p.1,p.2⟩:=by rw [Acx,B2q]
theorem Axb (op:IOp) (t:Nat) (want:Bool):GO call base Q (⟨d,op,some (t,want)⟩::l) ks ⟨e,h⟩=(match Dg e t with
  | .bool b=>if b=want then GO call base Q (⟨d,op,none⟩::l) ks ⟨e,h⟩ else GO call base Q l ks ⟨Bk e d .skip,h⟩
  | .skip=>GO call base Q l ks ⟨Bk e d .skip,h⟩
  | _=>False):=by
 rw [Acx,Awi]
 cases Dg e t <;> simp only [Dk]
theorem B6e (x:IX):GO call base Q (⟨d,.mv x,none⟩::l) ks ⟨e,h⟩=GO call base Q l ks ⟨Bk e d (x.ev e),h⟩:=by rw [Dk,B6d] <;> rfl
theorem B4n (op:BinOp) (x y:IX):GO call base Q (⟨d,.bin op x y,none⟩::l) ks ⟨e,h⟩=GV call base Q d l ks e h (Ea op (x.ev e) (y.ev e)):=by rw [Dk,B4p] <;> rfl
theorem B6m (op:UnOp) (x:IX):GO call base Q (⟨d,.un op x,none⟩::l) ks ⟨e,h⟩=GV call base Q d l ks e h (unA op (x.ev e)):=by rw [Dk,B6i] <;> rfl
theorem A6j (sz:Nat) (x i:IX):GO call base Q (⟨d,.indexAddr sz x i,none⟩::l) ks ⟨e,h⟩=(match Dq (i.ev e) with | some j=>GV call base Q d l ks e h (ixA sz (x.ev e) j) | none=>False):=by rw [Dk,A5m] <;> rfl
theorem B0l (g:Option Nat) (x:IX):GO call base Q (⟨d,.load g x,none⟩::l) ks ⟨e,h⟩=GV call base Q d l ks e h (ldA g h (x.ev e)):=by rw [Dk,B0j] <;> rfl
theorem A5e (off:Nat) (x:IX):GO call base Q (⟨d,.fieldAddr off x,none⟩::l) ks ⟨e,h⟩=(match x.ev e with | .ptr cells o=>GO call base Q l ks ⟨Bk e d (.ptr cells (o+off)),h⟩ | .optr k ver o=>GO call base Q l ks ⟨Bk e d (.optr k ver (o+off)),h⟩ | _=>False):=by rw [Dk,A5k] <;> rfl
theorem Aba (x:IX):GO call base Q (⟨d,.nilCheck x,none⟩::l) ks ⟨e,h⟩=(match x.ev e with | .ptr cells o=>GO call base Q l ks ⟨Bk e d (.ptr cells o),h⟩ | .optr k ver o=>GO call base Q l ks ⟨Bk e d (.optr k ver o),h⟩ | .clo f a b=>GO call base Q l ks ⟨Bk e d (.clo f a b),h⟩ | _=>False):=by rw [Dk,Aaq] <;> rfl
theorem B4g (x:IX):GO call base Q (⟨d,.len x,none⟩::l) ks ⟨e,h⟩=(match lenA (x.ev e) with | some n=>GO call base Q l ks ⟨Bk e d (.int .i64 n),h⟩ | none=>False):=by
 rw [Dk,B5c]
 cases x.ev e <;> rfl
theorem A7i (sz:Nat) (a v:IX):GO call base Q (⟨d,.store sz a v,none⟩::l) ks ⟨e,h⟩=(match a.ev e with
  | .optr k ver off =>
   (match Bc h k with
   | .cells u cs=>if u=ver/\(v.ev e).cells.length=sz/\off+sz<=cs.length/\(v.ev e).cells.all oneB then GO call base Q l ks ⟨Bk e d .undef,setH h k (.cells u (Dp cs off (v.ev e).cells))⟩ else False
   | _=>False)
  | _=>False):=by rw [Dk,Auu] <;> rfl
theorem Ayw (k:IntKind) (x:IX):GO call base Q (⟨d,.conv k x,none⟩::l) ks ⟨e,h⟩=(match x.ev e with | .int _ n=>GO call base Q l ks ⟨Bk e d (.int k (k.wrap n)),h⟩ | _=>False):=by rw [Dk,B2b] <;> rfl
theorem Adb (x:IX) (i:Nat):GO call base Q (⟨d,.extract x i,none⟩::l) ks ⟨e,h⟩=(match x.ev e with | .tuple vs=>(match vs[i]? with | some v=>GO call base Q l ks ⟨Bk e d v,h⟩ | none=>False) | _=>False):=by rw [Dk,Abt] <;> rfl
theorem Azr (c a b:IX):GO call base Q (⟨d,.pick c a b,none⟩::l) ks ⟨e,h⟩=(match c.ev e with | .bool t=>GO call base Q l ks ⟨Bk e d (if t then a.ev e else b.ev e),h⟩ | _=>False):=by rw [Dk,B0s] <;> rfl
theorem Aft (f:FuncId) (first captured:List IX):GO call base Q (⟨d,.mkFunc f first captured,none⟩::l) ks ⟨e,h⟩=GO call base Q l ks ⟨Bk e d (.clo f (first.map (IX.ev e)) (captured.map (IX.ev e))),h⟩:=by rw [Dk,Afw] <;> rfl
theorem Auf (raw:Bool) (f:FuncId) (args:List IX):GO call base Q (⟨d,.callF raw f args,none⟩::l) ks ⟨e,h⟩=GP call base Q d l ks e (call raw (.fn f) (args.map (IX.ev e)) h):=by rw [Dk,Aut] <;> rfl
theorem Awa (z:List AV):GO call base Q (⟨d,.alloc z,none⟩::l) ks ⟨e,h⟩=if z.all oneB then GO call base Q l ks ⟨Bk e d (.optr (base+d.getD 0) (Bc h (base+d.getD 0)).next 0),setH h (base+d.getD 0) (.cells (Bc h (base+d.getD 0)).next z)⟩ else False:=by rw [Dk,Awz] <;> rfl
theorem B3y (x:IX):GO call base Q (⟨d,.box x,none⟩::l) ks ⟨e,h⟩=if (x.ev e).cells.all oneB then GO call base Q l ks ⟨Bk e d (.optr (base+d.getD 0) (Bc h (base+d.getD 0)).next 0),setH h (base+d.getD 0) (.cells (Bc h (base+d.getD 0)).next (x.ev e).cells)⟩ else False:=by rw [Dk,B3q] <;> rfl
theorem Axs (z:List AV) (ps:List (Nat×Nat×IX)):GO call base Q (⟨d,.build z ps,none⟩::l) ks ⟨e,h⟩=if z.all oneB then GC call base Q (fun cs=>GO call base Q l ks ⟨Bk e d (.agg cs),h⟩) (Eo e ps z) else False:=by rw [Dk,Avt] <;> rfl
theorem Axt (g:Option Nat) (off:Nat) (x:IX):GO call base Q (⟨d,.field g off x,none⟩::l) ks ⟨e,h⟩=(match x.ev e with | .agg cs=>GV call base Q d l ks e h (rd g cs off) | _=>False):=by rw [Dk,Awv] <;> rfl
theorem Ava (g:Option Nat) (n:Nat) (x i:IX):GO call base Q (⟨d,.index g n x i,none⟩::l) ks ⟨e,h⟩=(match x.ev e,Dq (i.ev e) with | .agg cs,some j=>if j<n then GV call base Q d l ks e h (rd g cs (j*Bg g)) else False | _,_=>False):=by rw [Dk,Aws] <;> rfl
theorem Aee (g:Option Nat) (z:List AV) (b:Nat) (le c:IX):GO call base Q (⟨d,.mkSlice g z b le c,none⟩::l) ks ⟨e,h⟩=(match Dq (le.ev e),Dq (c.ev e) with
  | some n,some c=>if n<=c/\Ff c b/\z.all oneB then GO call base Q l ks ⟨Bk e d (.oslice h.length (Bc h h.length).next g 0 n (some c)),setH h h.length (.cells (Bc h h.length).next (List.replicate c z).flatten)⟩ else False
  | _,_=>False):=by rw [Dk,Adl] <;> rfl
theorem Afx (g:Option Nat) (b:Nat) (x y:IX):GO call base Q (⟨d,.append g b x y,none⟩::l) ks ⟨e,h⟩=GP call base Q d l ks e (Dl h.length g b (x.ev e) (y.ev e) h):=by rw [Dk,Afp] <;> rfl
theorem B0k (raw:Bool) (f:IX) (args:List IX):GO call base Q (⟨d,.call raw f args,none⟩::l) ks ⟨e,h⟩=(match f.ev e with
  | .clo g first captured=>GP call base Q d l ks e (call raw (.fn g) (first++args.map (IX.ev e)++captured) h)
  | .yld k ver=>GP call base Q d l ks e (call raw (.yld k ver) (args.map (IX.ev e)) h)
  | _=>False):=by rw [Dk,Azw] <;> rfl
theorem B4i (xs:List IX):GO call base Q (⟨d,.max xs,none⟩::l) ks ⟨e,h⟩=(match xs.map (IX.ev e) with | .int k a::r=>GV call base Q d l ks e h (Nc k a r) | _=>False):=by rw [Dk,B3v] <;> rfl
theorem B5t (xs:List IX):GO call base Q (⟨d,.min xs,none⟩::l) ks ⟨e,h⟩=(match xs.map (IX.ev e) with | .int k a::r=>GV call base Q d l ks e h (Ld k a r) | _=>False):=by rw [Dk,B5a] <;> rfl
theorem A4u (g:Option Nat) (z:List AV) (ps:List (Nat×Nat×IX)):GO call base Q (⟨d,.buildSlice g z ps,none⟩::l) ks ⟨e,h⟩=if z.all oneB then GC call base Q (fun cs=>if cs.all Qs then GO call base Q l ks ⟨Bk e d (.slice g (Ed g (z.length/Bg g) cs) true),h⟩ else False) (Eo e ps z) else False:=by
 rw [Dk,A2c]
 split
 ·rfl
 ·rfl
theorem A1h (g:Option Nat) (z:List AV) (ps:List (Nat×Nat×IX)):GO call base Q (⟨d,.buildSliceO g z ps,none⟩::l) ks ⟨e,h⟩=if z.all oneB then GC call base Q (fun cs=>GO call base Q l ks ⟨Bk e d (.oslice h.length (Bc h h.length).next g 0 (z.length/Bg g) (some (z.length/Bg g))),setH h h.length (.cells (Bc h h.length).next cs)⟩) (Eo e ps z) else False:=by
 rw [Dk]
 simp only [Bh]
 split
 ·simp only [all_bind,Ey,GC]
 ·rfl
theorem Ayb (neg:Bool) (x:IX):GO call base Q (⟨d,.isNil neg x,none⟩::l) ks ⟨e,h⟩=(match x.ev e with
  | .slice _ (_::_) _=>GO call base Q l ks ⟨Bk e d (.bool neg),h⟩
  | .oslice _ _ _ _ (_+1) _=>GO call base Q l ks ⟨Bk e d (.bool neg),h⟩
  | _=>False):=by
 rw [Dk]
 simp only [Bh]
 cases x.ev e with
 | slice g xs ex=>cases xs <;> rfl
 | oslice k v g o n c=>cases n <;> rfl
 | _=>rfl
theorem Awl (g:Option Nat) (x:IX) (d0 n:Nat) (ds:List Nat):GO call base Q (⟨d,.loadL g x d0 n ds,none⟩::l) ks ⟨e,h⟩=(match x.ev e with
  | .ptr _ _=>GO call base Q (⟨d,.load g x,none⟩::l) ks ⟨e,h⟩
  | .optr k _ _=>if decide (k+d0<base+d.getD 0+n)&&ds.all (fun d'=>base+d.getD 0+d' != k+d0) then GO call base Q (⟨d,.load g x,none⟩::l) ks ⟨e,h⟩ else False
  | _=>False):=by
 rw [Dk,Dk]
 simp only [Bh]
 cases x.ev e with
 | ptr cells off=>rfl
 | optr k ver off=>simp only; split <;> rfl
 | _=>rfl
theorem Afv (n sz:Nat) (a v:IX):GO call base Q (⟨d,.storeL n sz a v,none⟩::l) ks ⟨e,h⟩=(match a.ev e with
  | .optr k _ _=>if base+d.getD 0+n<=k then GO call base Q (⟨d,.store sz a v,none⟩::l) ks ⟨e,h⟩ else False
  | _=>False):=by
 rw [Dk,Dk]
 simp only [Bh]
 cases a.ev e with
 | optr k ver off=>simp only; split <;> rfl
 | _=>rfl
theorem Acr (d0 n:Nat) (g:Option Nat) (b:Nat) (x y:IX):GO call base Q (⟨d,.appendL d0 n g b x y,none⟩::l) ks ⟨e,h⟩ =
  if Hg (base+d.getD 0) d0 n (x.ev e)&&Hg (base+d.getD 0) d0 n (y.ev e)&&decide (base+d.getD 0+n<=h.length+d0) then GO call base Q (⟨d,.append g b x y,none⟩::l) ks ⟨e,h⟩ else False:=by
 rw [Dk,Dk]
 simp only [Bh]
 split <;> rfl
theorem Abc (g:Option Nat) (z:List AV) (b:Nat) (le c:IX):GO call base Q (⟨d,.mkSliceK g z b le c,none⟩::l) ks ⟨e,h⟩=(match Dq (le.ev e),Dq (c.ev e) with
  | some n,some c=>if n<=c/\Ff c b/\z.all oneB then GO call base Q l ks ⟨Bk e d (.oslice (base+d.getD 0) (Bc h (base+d.getD 0)).next g 0 n (some c)),setH h (base+d.getD 0) (.cells (Bc h (base+d.getD 0)).next (List.replicate c z).flatten)⟩ else False
  | _,_=>False):=by
 rw [Dk]
 simp only [Bh]
 cases Dq (le.ev e) with
 | none=>rfl
 | some l =>
  cases Dq (c.ev e) with
  | none=>rfl
  | some c=>simp only; split <;> rfl
theorem Auq (d0 n:Nat) (f:FuncId) (args:List IX):GO call base Q (⟨d,.callC d0 n f args,none⟩::l) ks ⟨e,h⟩ =
  if (args.map (IX.ev e)).all (Lf (base+d.getD 0) d0)&&decide (base+d.getD 0+n<=h.length+d0) then GP call base Q d l ks e (call true (.clone f) (args.map (IX.ev e)) h) else False:=by
 rw [Dk]
 simp only [Bh]
 split <;> rfl
theorem Aat (kn:Option Nat) (z:AV) (x k:IX):GO call base Q (⟨d,.mapEntry kn z x k,none⟩::l) ks ⟨e,h⟩=(match x.ev e with
  | .omap key ver =>
   (match Bc h key with
   | .map u clock mk vs bs =>
    if u=ver/\Er kn (k.ev e) then
     (match Du kn (k.ev e) mk 0 with
     | none=>False
     | some none=>if mk.length=vs.length then GO call base Q l ks ⟨Bk e d (.tuple [z,.int .i64 clock]),setH h key (.map u (clock+1) (mk++[k.ev e]) (vs++[z]) (bs++[clock]))⟩ else False
     | some (some i) =>
      (match vs[i]?,bs[i]? with
      | some v,some b=>GO call base Q l ks ⟨Bk e d (.tuple [v,.int .i64 b]),setH h key (.map u clock (mk.set i (k.ev e)) vs bs)⟩
      | _,_=>False))
    else False
   | _=>False)
  | _=>False):=by
 rw [Dk]
 simp only [Bh]
 cases x.ev e with
 | omap key ver =>
  simp only
  cases Bc h key with
  | map u clock mk vs bs =>
   simp only
   split
   ·cases Du kn (k.ev e) mk 0 with
    | none=>rfl
    | some r =>
     cases r with
     | none=>simp only; split <;> rfl
     | some i =>
      simp only
      cases vs[i]? with
      | none=>rfl
      | some v=>cases bs[i]? <;> rfl
   ·rfl
  | _=>rfl
 | _=>rfl
theorem A4f (x s v:IX):GO call base Q (⟨d,.entryStore x s v,none⟩::l) ks ⟨e,h⟩=(match x.ev e,Dq (s.ev e) with
  | .omap key ver,some b =>
   (match Bc h key with
   | .map u clock mk vs bs =>
    if u=ver then
     (match Jb b bs 0 with
     | some i=>GO call base Q l ks ⟨Bk e d .undef,setH h key (.map u clock mk (vs.set i (v.ev e)) bs)⟩
     | none=>False)
    else False
   | _=>False)
  | _,_=>False):=by
 rw [Dk]
 simp only [Bh]
 cases x.ev e with
 | omap key ver =>
  cases Dq (s.ev e) with
  | none=>rfl
  | some b =>
   simp only
   cases Bc h key with
   | map u clock mk vs bs =>
    simp only
    split
    ·cases Jb b bs 0 <;> rfl
    ·rfl
   | _=>rfl
 | _=>rfl
def slA (g:Option Nat) (e:Env) (lo hi mx:Option IX):AV->Res AV
 | .slice gx xs exact =>
  if gx≠g then .fail else
  (sliceB e xs.length (some xs.length) lo hi mx).bind fun (l,r,m) => .ret (.slice g ((xs.take r).drop l) ((exact&&(r==xs.length))||(mx.isSome&&(m==some r))))
 | .oslice k ver gx off len cap =>
  if gx≠g then .fail else
  (sliceB e len cap lo hi mx).bind fun (l,r,m) => .ret (.oslice k ver g (off+l*Bg g) (r-l) (m.map (·-l)))
 | _ => .fail
theorem Avs (g:Option Nat) (x:IX) (lo hi mx:Option IX):GO call base Q (⟨d,.slice g x lo hi mx,none⟩::l) ks ⟨e,h⟩=GV call base Q d l ks e h (slA g e lo hi mx (x.ev e)):=by
 rw [Dk]
 simp only [Bh]
 cases x.ev e with
 | slice gx xs ex =>
  simp only [slA]
  split
  ·rfl
  ·simp only [GV,all_bind,Ey]
 | oslice k ver gx off len cap =>
  simp only [slA]
  split
  ·rfl
  ·simp only [GV,all_bind,Ey]
 | _=>rfl
def A4x (len sz:Nat):AV->Nat->Res AV
 | .ptr cells o,j=>if j<len then .ret (.ptr cells (o+j*sz)) else .fail
 | .optr k ver o,j=>if j<len then .ret (.optr k ver (o+j*sz)) else .fail
 | _,_ => .fail
theorem A4n (n sz:Nat) (x i:IX):GO call base Q (⟨d,.indexAddrA n sz x i,none⟩::l) ks ⟨e,h⟩=(match Dq (i.ev e) with | some j=>GV call base Q d l ks e h (A4x n sz (x.ev e) j) | none=>False):=by
 rw [Dk]
 simp only [Bh,GV]
 cases Dq (i.ev e) with
 | none=>cases x.ev e <;> rfl
 | some j =>
  cases x.ev e with
  | ptr cells o=>simp only [A4x]; split <;> rfl
  | optr k ver o=>simp only [A4x]; split <;> rfl
  | _=>rfl
def cpA (g:Option Nat) (h:Bd):AV->Option (Option Nat×Nat×List AV)->Res (AV×Bd)
 | .oslice k ver grp off len _,some (gy,m,new) =>
  match Bc h k with
  | .cells v cs =>
   if gy=g/\grp=g/\v=ver/\off+len*Bg g<=cs.length then
    if Nat.min m len=0 then .ret (.int .i64 0,h)
    else .ret (.int .i64 (Nat.min m len:Nat),setH h k (.cells v (Dp cs off (new.take (Nat.min m len*Bg g)))))
   else .fail
  | _ => .fail
 | _,_ => .fail
theorem Azy (g:Option Nat) (x y:IX):GO call base Q (⟨d,.copy g x y,none⟩::l) ks ⟨e,h⟩=GP call base Q d l ks e (cpA g h (x.ev e) (Dd h (y.ev e))):=by
 rw [Dk]; rfl
def clA (zero:AV) (h:Bd):AV->Res (AV×Bd)
 | .oslice k ver none off len _ =>
  match Bc h k with
  | .cells v cs =>
   if v=ver/\off+len<=cs.length/\oneB zero then
    if len=0 then .ret (.undef,h)
    else .ret (.undef,setH h k (.cells v (Dp cs off (List.replicate len zero))))
   else .fail
  | _ => .fail
 | _ => .fail
theorem Avy (zero:AV) (x:IX):GO call base Q (⟨d,.clear zero x,none⟩::l) ks ⟨e,h⟩=GP call base Q d l ks e (clA zero h (x.ev e)):=by
 rw [Dk]; rfl
def eaA (n:Nat) (neg:Bool):AV->AV->Res AV
 | .agg cs,.agg ds =>
  if cs.length=n then
   match Dw cs ds with
   | some b => .ret (.bool (b != neg))
   | none => .fail
  else .fail
 | _,_ => .fail
theorem Avf (n:Nat) (neg:Bool) (x y:IX):GO call base Q (⟨d,.eqAgg n neg x y,none⟩::l) ks ⟨e,h⟩=GV call base Q d l ks e h (eaA n neg (x.ev e) (y.ev e)):=by
 rw [Dk]
 simp only [Bh,GV]
 cases x.ev e with
 | agg cs =>
  cases y.ev e with
  | agg ds =>
   simp only [eaA]
   split
   ·cases Dw cs ds <;> rfl
   ·rfl
  | _=>rfl
 | _=>rfl
theorem B4z (neg:Bool) (x y:IX):GO call base Q (⟨d,.eqB neg x y,none⟩::l) ks ⟨e,h⟩=(match x.ev e,y.ev e with | .bool b,.bool c=>GO call base Q l ks ⟨Bk e d (.bool ((b==c) != neg)),h⟩ | _,_=>False):=by
 rw [Dk]
 simp only [Bh]
 cases x.ev e with
 | bool b=>cases y.ev e <;> rfl
 | _=>rfl
def ldS (g:Option Nat) (h:Bd) (v:AV) (c:Nat->Bool):Res AV:=
 match v with
 | .ptr cells off=>rd g cells off
 | .optr k ver off=>if c k then ldA g h (.optr k ver off) else .fail
 | _ => .fail
def Ww (e:Env) (k:Nat):List Nat->Bool
 | []=>true
 | t::r=>(match Dg e t with | .optr k' _ _=>decide (¬k'=k) | _=>false)&&Ww e k r
def Wj (key k d0:Nat):List Nat->Bool
 | []=>true
 | d::r=>decide (¬key+d=k+d0)&&Wj key k d0 r
theorem Avm (e:Env) (key k d0:Nat) (ts ds:List Nat):Lo e key k d0 ts ds=(Ww e k ts&&Wj key k d0 ds):=by
 unfold Lo
 congr 1
 ·induction ts with
  | nil=>rfl
  | cons t r ih =>
   rw [List.all_cons,Ww,ih]
   congr 1
   cases Dg e t <;> try rfl
   next k' v o=>simp only [bne,BEq.beq]; rw [decide_not]
 ·induction ds with
  | nil=>rfl
  | cons d r ih =>
   rw [List.all_cons,Wj,ih]
   congr 1
   simp only [bne,BEq.beq]; rw [decide_not]
theorem Afg (e:Env) (k:Nat):Ww e k []=true:=rfl
theorem Aco (e:Env) (k t:Nat) (r:List Nat):Ww e k (t::r)=((match Dg e t with | .optr k' _ _=>decide (¬k'=k) | _=>false)&&Ww e k r):=rfl
theorem Aic (key k d0:Nat):Wj key k d0 []=true:=rfl
theorem Acz (key k d0 d:Nat) (r:List Nat):Wj key k d0 (d::r)=(decide (¬key+d=k+d0)&&Wj key k d0 r):=rfl
theorem Axy (g:Option Nat) (h:Bd) (cs:List AV) (off:Nat) (c:Nat->Bool):ldS g h (.ptr cs off) c=rd g cs off:=rfl
theorem Aew (g:Option Nat) (h:Bd) (k ver off:Nat) (c:Nat->Bool):ldS g h (.optr k ver off) c=if c k then ldA g h (.optr k ver off) else .fail:=rfl
theorem Axp (g:Option Nat) (x:IX) (d0:Nat) (ts ds:List Nat):GO call base Q (⟨d,.loadS g x d0 ts ds,none⟩::l) ks ⟨e,h⟩=GV call base Q d l ks e h (ldS g h (x.ev e) fun k=>Ww e k ts&&Wj (base+d.getD 0) k d0 ds):=by
 rw [Dk]
 simp only [Bh,GV,ldS]
 cases x.ev e with
 | ptr cells off=>simp only [all_bind,Ey]
 | optr k ver off =>
  simp only [Avm,ldA]
  split
  ·cases Bc h k with
   | cells v cs =>
    simp only
    split
    ·simp only [all_bind,Ey]
    ·rfl
   | _=>rfl
  ·rfl
 | _=>rfl
theorem Ahe (t sz:Nat) (a v:IX):GO call base Q (⟨none,.storeS t sz a v,none⟩::l) ks ⟨e,h⟩=(match a.ev e with | .optr k _ _=>if k=base+t then GO call base Q (⟨none,.store sz a v,none⟩::l) ks ⟨e,h⟩ else False | _=>False):=by
 rw [Dk]
 simp only [Bh,Option.getD_none,Nat.add_zero]
 cases ha:a.ev e with
 | optr k ver off =>
  simp only
  split
  ·rw [A7i,ha]
   simp only
   cases Bc h k with
   | cells u cs =>
    simp only
    split <;> rfl
   | _=>rfl
  ·rfl
 | _=>rfl
theorem Axd (f:FuncId) (args:List IX):GO call base Q (⟨d,.callS f args,none⟩::l) ks ⟨e,h⟩=if (args.map (IX.ev e)).all (Dv depth) then GP call base Q d l ks e (call false (.fn f) (args.map (IX.ev e)) h) else False:=by
 rw [Dk]
 simp only [Bh]
 split
 ·rfl
 ·rfl
theorem Agh (k:IntKind) (n:Int):Dv depth (.int k n)=true:=rfl
theorem Adt (b:Bool):Dv depth (.bool b)=true:=rfl
theorem A8j (g:Option Nat) (xs:List AV) (ex:Bool):Dv depth (.slice g xs ex)=true:=rfl
theorem Afy (cs:List AV) (o:Nat):Dv depth (.ptr cs o)=true:=rfl
theorem Afl (cs:List AV):Dv depth (.agg cs)=cs.all (Dv 7):=rfl
theorem Abr (k:IntKind) (n:Int):Dv 7 (.int k n)=true:=rfl
theorem Aav (b:Bool):Dv 7 (.bool b)=true:=rfl
theorem A5a (g:Option Nat) (xs:List AV) (ex:Bool):Dv 7 (.slice g xs ex)=true:=rfl
theorem Bz {c:IC} (I:Nat->St->Prop) (N:Nat) (hN:N<1152921504606846976) (h0:I N s)
  (hb:∀M e h,M<=N->I M ⟨e,h⟩->∀P:St->Prop,(∀K s',K<M->I K s'->P s')->G call base Q c (.inv P::ks) ⟨e,h⟩):G call base Q (.loop c) ks s:=by
 have main:∀(n k:Nat) (s:St),n<=N->n<k->I n s->(Df (evC call base c) k s).all (Lq call base Q ks):=by
  intro n
  induction n using Nat.strongRecOn with
  | _ n ih =>
   intro k s hn hk hi
   match k,hk with
   | k+1,hk =>
    simp only [Df,Res.all_bind]
    refine Res.all_mono _ (hb n s.env s.heap hn hi (fun s'=>∃K,K<n/\I K s') fun K s' a b=>⟨K,a,b⟩) ?_
    rintro ⟨x,s'⟩ hp
    cases x with
    | normal =>
     obtain ⟨K,hK,hI⟩:=hp
     exact ih K hK k s' (by omega) (by omega) hI
    | exit id=>exact hp
    | ret=>exact hp
 exact main N Ol s (Nat.le_refl _) hN h0
end
theorem Ko {call:Bn} {base:Nat} {Q:EX×St->Prop} {ks:List Kont} {e:Env} {h:Bd} {c:IC} (hb:∀P:St->Prop,G call base Q c (.inv P::ks) ⟨e,h⟩):G call base Q (.loop c) ks ⟨e,h⟩:=
 Bz (fun M s'=>M=0/\s'=⟨e,h⟩) 0 (by omega) ⟨rfl,rfl⟩ fun M e' h' _ hi P _=>by
  obtain ⟨_,hi⟩:=hi
  cases hi
  exact hb P
def At (e:Env):List (Nat×AV)->Prop
 | []=>True
 | p::r=>Dg e p.1=p.2/\At e r
theorem Bw (e:Env):At e []=True:=rfl
theorem Bp (e:Env) (k:Nat) (v:AV) (r:List (Nat×AV)):At e ((k,v)::r)=(Dg e k=v/\At e r):=rfl
def fz (h:Bd) (as:List AV):Res (List AV):=mapR (Bj h depth) as
def Con (T:Cfg) (k f:Nat) (as:List AV) (r:AV):Prop:=
 ∀(n:Nat) (h:Bd) (as0:List AV) (V:AV×Bd->Prop),k<=n->fz h as0 = .ret as->(as0.all (Dv depth)||Ep depth r)=true->V (r,h)->(Bf T n false (.fn f) as0 h).all V
def Nm (s:St) (rs:List IRes):Res AV:=(mapR (Fg s) rs).bind fun vs => .ret (Gt vs)
def Fin (rs:List IRes) (V:AV×Bd->Prop) (p:EX×St):Prop:=
 match p.1 with
 | .exit _=>False
 | _=>(Nm p.2 rs).all fun v=>V (v,p.2.heap)
theorem Axw (rs:List IRes) (V:AV×Bd->Prop) (s:St):Fin rs V (.ret,s)=(Nm s rs).all fun v=>V (v,s.heap):=rfl
theorem A9k (rs:List IRes) (V:AV×Bd->Prop) (s:St):Fin rs V (.normal,s)=(Nm s rs).all fun v=>V (v,s.heap):=rfl
theorem Ahp (s:St):Nm s [] = .ret (.tuple []):=rfl
theorem Ahh (s:St) (t:Nat):Nm s [.tmp t] = .ret (Dg s.env t):=rfl
theorem Agx (s:St) (t u:Nat):Nm s [.tmp t,.tmp u] = .ret (.tuple [Dg s.env t,Dg s.env u]):=rfl
theorem A4o:∀x:Res AV,((x.bind fun b=>(Res.ret ([]:List AV)).bind fun bs => .ret (b::bs)).bind fun vs => .ret (Gt vs))=x
 | .fail=>rfl
 | .ret _=>rfl
 | .choice n k=>by
  simp only [Res.bind]
  congr 1
  funext i
  exact A4o (k i)
theorem Acu (s:St) (t:Nat) (g:Option Nat):Nm s [.cell t g]=ldA g s.heap (Dg s.env t):=by
 simp only [Nm,mapR]
 rw [A4o]
 simp only [Fg]
 cases Dg s.env t <;> rfl
theorem A8x (s:St) (t u v:Nat):Nm s [.tmp t,.tmp u,.tmp v] = .ret (.tuple [Dg s.env t,Dg s.env u,Dg s.env v]):=rfl
theorem A4c {call:Bn} {c:IFunc} {as:List AV} {h:Bd} {V:AV×Bd->Prop}:(Dn call c as h).all V=G call h.length (Fin c.results V) c.body [] ⟨as,h++List.replicate c.ntmps .none⟩:=by
 simp only [Dn,G,Lq,all_bind]
 congr 1
 funext p
 obtain ⟨x,s⟩:=p
 cases x <;> simp only [Fin,Nm,all_bind,Ey] <;> rfl
theorem Bs {T:Cfg} {k f:Nat} {c:IFunc} {as:List AV} {r:AV} (hc:T.fns f=some c)
  (hq:∀n,k<=n->∀V:AV×Bd->Prop,(∀v h,Bj h 8 v = .ret r->V (v,h))->G (Bf T n) 0 (Fin c.results V) c.body [] ⟨as,List.replicate c.ntmps .none⟩):Con T (k+1) f as r:=by
 intro n h as0 V hn hz hp hV
 obtain ⟨m,rfl⟩:∃m,n=m+1:=⟨n-1,by omega⟩
 simp only [Bf,hc,Bool.false_eq_true,if_false]
 have hz':mapR (Bj h depth) as0 = .ret as:=hz
 rw [hz']
 simp only [Res.bind,Res.all_bind]
 have:=hq m (by omega) (fun p=>Bj p.2 depth p.1 = .ret r) fun v h hv=>hv
 rw [show List.replicate c.ntmps AObj.none=[]++List.replicate c.ntmps .none from rfl,show (0:Nat)=([]:Bd).length from rfl,<-A4c] at this
 refine Res.all_mono _ this ?_
 rintro ⟨v,h'⟩ hv
 simp only at hv
 rw [hv]
 simp only [Res.all,hp,Bool.true_or,if_true,reduceIte]
 exact hV
theorem Dt {T:Cfg} {k f n:Nat} {as as0:List AV} {r:AV} {h:Bd} {base:Nat} {Q:EX×St->Prop} {d:Option Nat} {l:List IOper} {ks:List Kont} {e:Env} (hc:Con T k f as r) (hk:k<=n) (hz:fz h as0 = .ret as) (hp:(as0.all (Dv depth)||Ep depth r)=true)
  (hV:GO (Bf T n) base Q l ks ⟨Bk e d r,h⟩):GP (Bf T n) base Q d l ks e (Bf T n false (.fn f) as0 h):=hc n h as0 _ hk hz hp hV
theorem wrap64 {x:Int} (h1 : -9223372036854775808<=x) (h2:x<=9223372036854775807):IntKind.i64.wrap x=x:=by
 simp only [IntKind.wrap,IntKind.signed,IntKind.bits]
 simp
 omega
theorem next_none:AObj.none.next=0:=rfl
theorem Abb (v:Nat) (cs:List AV):(AObj.cells v cs).next=v+1:=rfl
theorem Kn {n b:Nat} (h:n*b<=1099511627776):Ff n b=true:=by simp [Ff,h]
theorem Ayr {α:Type} (l:List α):(l.length<=l.length)=True:=eq_true (Nat.le_refl _)
theorem Fq {α:Type} {l:List α} {i:Nat} (h:i<l.length):∃x,l[i]? = some x:=⟨l[i],List.getElem?_eq_getElem h⟩
theorem Fa {α:Type} {l:List α} {i:Nat} {x:α} (h:l[i]? = some x):l.drop i=x::l.drop (i+1):=by
 obtain ⟨hi,rfl⟩:=List.getElem?_eq_some_iff.1 h
 exact List.drop_eq_getElem_cons hi
theorem Awj (c p:Prop) [Decidable c]:(if c then p else False)=(c/\p):=by split <;> simp_all
theorem Ys {α β:Type} (f:α->β) (l:List α) (i:Nat) (a:α):(l.map f).set i (f a)=(l.set i a).map f:=List.map_set.symm
theorem A2z {α β:Type} (f:α->Res β) (g:α->β):∀l:List α,(∀x∈l,f x = .ret (g x))->mapR f l = .ret (l.map g)
 | [],_=>rfl
 | a::r,h=>by
  simp only [mapR,h a List.mem_cons_self,A2z f g r fun x hx=>h x (List.mem_cons_of_mem _ hx)]
  rfl
theorem La (h:Bd) (n:Nat) (k:IntKind) (l:List Int):mapR (Bj h (n+1)) (l.map (.int k)) = .ret (l.map (.int k)):=by
 rw [A2z (Bj h (n+1)) id _ fun x hx => ?_,List.map_id]
 obtain ⟨a,_,rfl⟩:=List.mem_map.1 hx
 rfl
theorem Vi {h:Bd} {key ver len:Nat} {cap:Option Nat} {k:IntKind} {l:List Int} {n:Nat} (hH:Bc h key = .cells ver (l.map (.int k))) (hl:len=l.length):Bj h (n+2) (.oslice key ver none 0 len cap) = .ret (.slice none (l.map (.int k)) false):=by
 subst hl
 have e:((l.map (AV.int k)).drop 0).take (l.length*Bg none)=l.map (.int k):=by rw [List.drop_zero,List.take_of_length_le (by simp [Bg])]
 rw [Bj]
 simp only [hH]
 rw [if_pos ⟨trivial,by simp [Bg]⟩,e,La]
 rfl
theorem Bl (h:Bd) (n:Nat) (k:IntKind) (v:Int):Bj h (n+1) (.int k v) = .ret (.int k v):=rfl
theorem Do (h:Bd) (n:Nat) (b:Bool):Bj h (n+1) (.bool b) = .ret (.bool b):=rfl
theorem Dm (h:Bd) (n:Nat) (g:Option Nat) (xs:List AV) (ex:Bool):Bj h (n+1) (.slice g xs ex) = .ret (.slice g xs false):=rfl
theorem Dr (h:Bd) (n:Nat) (cs:List AV) (off:Nat):Bj h (n+1) (.ptr cs off) = .ret (.ptr cs off):=rfl
theorem Eh {h:Bd} {n:Nat} {a b a' b':AV} (ha:Bj h n a = .ret a') (hb:Bj h n b = .ret b'):Bj h (n+1) (.tuple [a,b]) = .ret (.tuple [a',b']):=by
 rw [Bj]
 simp only [mapR,ha,hb]
 rfl
theorem Fc {h:Bd} {n:Nat} {a b c a' b' c':AV} (ha:Bj h n a = .ret a') (hb:Bj h n b = .ret b') (hc:Bj h n c = .ret c'):Bj h (n+1) (.tuple [a,b,c]) = .ret (.tuple [a',b',c']):=by
 rw [Bj]
 simp only [mapR,ha,hb,hc]
 rfl
theorem By (h:Bd):fz h [] = .ret []:=rfl
theorem Da {h:Bd} {a b:AV} {as bs:List AV} (ha:Bj h 8 a = .ret b) (hs:fz h as = .ret bs):fz h (a::as) = .ret (b::bs):=by
 unfold fz at hs ⊢
 simp only [mapR,depth] at hs ⊢
 rw [ha,hs]
 rfl
theorem Fb (h:Bd) (k:IntKind) (v:Int) {as bs:List AV} (hs:fz h as = .ret bs):fz h (.int k v::as) = .ret (.int k v::bs):=Da rfl hs
theorem Di (h:Bd) (g:Option Nat) (xs:List AV) (ex:Bool) {as bs:List AV} (hs:fz h as = .ret bs):fz h (.slice g xs ex::as) = .ret (.slice g xs false::bs):=Da rfl hs
theorem Es {T:Cfg} {k f n:Nat} {as as0:List AV} {r:AV} {h:Bd} {base:Nat} {Q:EX×St->Prop} {d:Option Nat} {l:List IOper} {ks:List Kont} {e:Env} (hc:Con T k f as r) (hk:k<=n) (hz:fz h as0 = .ret as) (hp:(as0.all (Dv depth)||Ep depth r)=true) :
  GP (Bf T n) base Q d l ks e (Bf T n false (.fn f) as0 h)=GO (Bf T n) base Q l ks ⟨Bk e d r,h⟩:=by
 have h1:=hc n h as0 (fun p=>p=(r,h)) hk hz hp rfl
 refine propext ⟨fun hg => ?_,fun hg=>Dt hc hk hz hp hg⟩
 obtain ⟨p,h2,h3⟩:=Res.all_some _ (Res.all_and _ h1 hg)
 subst h2
 exact h3
def Agz (T:Cfg) (k f:Nat) (as:List AV) (r:AV):Prop:=
 ∀(n:Nat) (h:Bd) (as0:List AV) (V:AV×Bd->Prop),k<=n->fz h as0 = .ret as->V (r,h)->(Bf T n false (.fn f) as0 h).all V
theorem Aaj {T:Cfg} {k f:Nat} {c:IFunc} {as:List AV} {r:AV} (hc:T.fns f=some c)
  (hq:∀n,k<=n->∀V:AV×Bd->Prop,(∀v h,Bj h 8 v = .ret r->Ec h 8 v=true->V (v,h))->G (Bf T n) 0 (Fin c.results V) c.body [] ⟨as,List.replicate c.ntmps .none⟩):Agz T (k+1) f as r:=by
 intro n h as0 V hn hz hV
 obtain ⟨m,rfl⟩:∃m,n=m+1:=⟨n-1,by omega⟩
 simp only [Bf,hc,Bool.false_eq_true,if_false]
 have hz':mapR (Bj h depth) as0 = .ret as:=hz
 rw [hz']
 simp only [Res.bind,Res.all_bind]
 have:=hq m (by omega) (fun p=>Bj p.2 depth p.1 = .ret r/\Ec p.2 depth p.1=true) fun v h hv hw=>⟨hv,hw⟩
 rw [show List.replicate c.ntmps AObj.none=[]++List.replicate c.ntmps .none from rfl,show (0:Nat)=([]:Bd).length from rfl,<-A4c] at this
 refine Res.all_mono _ this ?_
 rintro ⟨v,h'⟩ ⟨hv,hw⟩
 simp only at hv hw
 rw [hv]
 simp only [Res.all,hw,Bool.or_true,if_true,reduceIte]
 exact hV
theorem Awn {T:Cfg} {k f n:Nat} {as as0:List AV} {r:AV} {h:Bd} {base:Nat} {Q:EX×St->Prop} {d:Option Nat} {l:List IOper} {ks:List Kont} {e:Env} (hc:Agz T k f as r) (hk:k<=n) (hz:fz h as0 = .ret as)
  (hV:GO (Bf T n) base Q l ks ⟨Bk e d r,h⟩):GP (Bf T n) base Q d l ks e (Bf T n false (.fn f) as0 h):=hc n h as0 _ hk hz hV
theorem Aeo (h:Bd) (n:Nat) (k:IntKind) (v:Int):Ec h (n+1) (.int k v)=true:=rfl
theorem Abq {h:Bd} {n:Nat} {a b:AV} (ha:Ec h n a=true) (hb:Ec h n b=true):Ec h (n+1) (.tuple [a,b])=true:=by simp [Ec,ha,hb]
theorem Adq {h:Bd} {key ver off len:Nat} {cap:Option Nat} {k:IntKind} {l:List Int} {n:Nat} (hH:Bc h key = .cells ver (l.map (.int k))):Ec h (n+2) (.oslice key ver none off len cap)=true:=by
 simp only [Ec,hH]
 rw [List.all_map]
 exact List.all_eq_true.2 fun _ _=>rfl
def Raw (T:Cfg) (k f:Nat) (as:List AV) (P:Bd->AV->Bd->Prop):Prop:=
 ∀(n:Nat) (h:Bd) (V:AV×Bd->Prop),k<=n->(∀v h',P h v h'->V (v,h'))->(Bf T n true (.fn f) as h).all V
theorem Nb {T:Cfg} {k f:Nat} {c:IFunc} {as:List AV} {P:Bd->AV->Bd->Prop} (hc:T.fns f=some c)
  (hq:∀n,k<=n->∀(h:Bd) (V:AV×Bd->Prop),(∀v h',P h v h'->V (v,h'))->G (Bf T n) h.length (Fin c.results V) c.body [] ⟨as,h++List.replicate c.ntmps .none⟩):Raw T (k+1) f as P:=by
 intro n h V hn hV
 obtain ⟨m,rfl⟩:∃m,n=m+1:=⟨n-1,by omega⟩
 simp only [Bf,hc,if_true,reduceIte]
 rw [A4c]
 exact hq m (by omega) h V hV
theorem Eg {T:Cfg} {f n:Nat} {c:IFunc} {as:List AV} {h:Bd} {V:AV×Bd->Prop} (hc:T.fns f=some c):(Bf T (n+1) true (.fn f) as h).all V=G (Bf T n) h.length (Fin c.results V) c.body [] ⟨as,h++List.replicate c.ntmps .none⟩:=by
 simp only [Bf,hc,if_true,reduceIte]
 rw [A4c]
theorem Fu {call:Bn} {base:Nat} {Q:EX×St->Prop} {d:Option Nat} {l:List IOper} {ks:List Kont} {e:Env} {r:Res (AV×Bd)} (h:r.all fun p=>GO call base Q l ks ⟨Bk e d p.1,p.2⟩):GP call base Q d l ks e r:=h
theorem Xy {T:Cfg} {k f n:Nat} {as:List AV} {P:Bd->AV->Bd->Prop} {h:Bd} {base:Nat} {Q:EX×St->Prop} {d:Option Nat} {l:List IOper} {ks:List Kont} {e:Env} (hc:Raw T k f as P) (hk:k<=n)
  (hV:∀v h',P h v h'->GO (Bf T n) base Q l ks ⟨Bk e d v,h'⟩):GP (Bf T n) base Q d l ks e (Bf T n true (.fn f) as h):=hc n h _ hk hV
theorem Awm {T:Cfg} {k f:Nat} {c:IFunc} {as:List AV} {r:AV} {P:Bd->AV->Bd->Prop} (hc:T.fns f=some c)
  (hq:∀n,k<=n->∀(h:Bd) (V:AV×Bd->Prop),(∀v h',P h v h'->V (v,h'))->G (Bf T n) h.length (Fin c.results V) c.body [] ⟨as,h++List.replicate c.ntmps .none⟩)
  (hr:∀v h',P [] v h'->Bj h' 8 v = .ret r):Con T (k+1) f as r:=
 Bs hc fun n hn V hV=>hq n hn [] V fun v h' hp=>hV v h' (hr v h' hp)
theorem Fh {h:Bd} {k ver off n:Nat} {cs cs':List AV} (hH:Bc h k = .cells ver cs) (hcs:mapR (Bj h n) cs = .ret cs'):Bj h (n+1) (.optr k ver off) = .ret (.ptr cs' off):=by
 rw [Bj]
 simp only [hH]
 rw [if_pos trivial,hcs]
 rfl
theorem Ho {h:Bd} {f n:Nat} {a b a' b':List AV} (ha:mapR (Bj h n) a = .ret a') (hb:mapR (Bj h n) b = .ret b'):Bj h (n+1) (.clo f a b) = .ret (.clo f a' b'):=by
 rw [Bj]
 simp only [ha,hb]
 rfl
theorem Dc (h:Bd) (n:Nat):mapR (Bj h n) [] = .ret []:=rfl
theorem Bv {h:Bd} {n:Nat} {a b:AV} {as bs:List AV} (ha:Bj h n a = .ret b) (hs:mapR (Bj h n) as = .ret bs):mapR (Bj h n) (a::as) = .ret (b::bs):=by
 simp only [mapR,ha,hs]
 rfl
theorem Ado (cs:List AV):AV.cells (.agg cs)=cs:=rfl
theorem Acb (k:IntKind) (n:Int):AV.cells (.int k n)=[.int k n]:=rfl
theorem Aaz (b:Bool):AV.cells (.bool b)=[.bool b]:=rfl
theorem A5z (g:Option Nat) (xs:List AV) (ex:Bool):AV.cells (.slice g xs ex)=[.slice g xs ex]:=rfl
theorem A3u (a b:Nat) (g:Option Nat) (c d:Nat) (f:Option Nat):AV.cells (.oslice a b g c d f)=[.oslice a b g c d f]:=rfl
theorem Acl (cs:List AV) (o:Nat):AV.cells (.ptr cs o)=[.ptr cs o]:=rfl
theorem Aah (a b c:Nat):AV.cells (.optr a b c)=[.optr a b c]:=rfl
theorem A4v:AV.cells .nilptr=[.nilptr]:=rfl
theorem Aay (a b:Nat):AV.cells (.omap a b)=[.omap a b]:=rfl
theorem Aaa (a b:List AV):AV.cells (.fmap a b)=[.fmap a b]:=rfl
theorem Acf (f:FuncId) (a b:List AV):AV.cells (.clo f a b)=[.clo f a b]:=rfl
theorem Aur (k:IntKind) (n:Int):oneB (.int k n)=true:=rfl
theorem Afn (b:Bool):oneB (.bool b)=true:=rfl
theorem Aek (g:Option Nat) (xs:List AV) (ex:Bool):oneB (.slice g xs ex)=true:=rfl
theorem A9f (a b:Nat) (g:Option Nat) (c d:Nat) (f:Option Nat):oneB (.oslice a b g c d f)=true:=rfl
theorem Awd (cs:List AV) (o:Nat):oneB (.ptr cs o)=true:=rfl
theorem Ahb (a b c:Nat):oneB (.optr a b c)=true:=rfl
theorem Abd:oneB .nilptr=true:=rfl
theorem Ahu (a b:Nat):oneB (.omap a b)=true:=rfl
theorem Ags (a b:List AV):oneB (.fmap a b)=true:=rfl
theorem Axc (f:FuncId) (a b:List AV):oneB (.clo f a b)=true:=rfl
theorem Axj (k:IntKind) (n:Int):Qs (.int k n)=true:=rfl
theorem Afe (b:Bool):Qs (.bool b)=true:=rfl
def Own (lo:Nat) (h:Bd) (v:AV) (k:IntKind) (l:List Int):Prop:=
 (l=[]/\v = .slice none [] true)\/∃key ver,lo<=key/\v = .oslice key ver none 0 l.length none/\Bc h key = .cells ver (l.map (.int k))
def Eu:AV->Option Nat
 | .oslice key ..=>some key
 | _=>none
theorem Ef {h:Bd} {k:Nat} {o:AObj} (hk:Bc h k=o) (ho:o ≠ .none):k<h.length:=by
 apply Nat.lt_of_not_le
 intro hle
 exact ho (hk ▸ Em h k hle)
theorem Kv (lo:Nat) (h:Bd) (k:IntKind):Own lo h (.slice none [] true) k []:=.inl ⟨rfl,rfl⟩
theorem Yq {lo:Nat} {h:Bd} {v:AV} {k:IntKind} {l:List Int} {n:Nat} (ho:Own lo h v k l):Bj h (n+2) v = .ret (.slice none (l.map (.int k)) false):=by
 rcases ho with ⟨rfl,rfl⟩ | ⟨key,ver,_,rfl,hH⟩
 ·rfl
 ·exact Vi hH rfl
theorem Abx {lo:Nat} {h:Bd} {v:AV} {k:IntKind} {l:List Int} {n:Nat} (ho:Own lo h v k l):Ec h (n+2) v=true:=by
 rcases ho with ⟨rfl,rfl⟩ | ⟨key,ver,_,rfl,hH⟩
 ·rfl
 ·exact Adq hH
theorem Own.other {lo:Nat} {h h':Bd} {v:AV} {k:IntKind} {l:List Int} (ho:Own lo h v k l) (hf:∀j,Eu v=some j->Bc h' j=Bc h j):Own lo h' v k l:=by
 rcases ho with ⟨rfl,rfl⟩ | ⟨key,ver,hk,rfl,hH⟩
 ·exact Kv ..
 ·exact .inr ⟨key,ver,hk,rfl,by rw [hf key rfl,hH]⟩
theorem Own.setH {lo:Nat} {h:Bd} {v:AV} {k:IntKind} {l:List Int} {j:Nat} {o:AObj} (ho:Own lo h v k l) (hj:j<lo):Own lo (setH h j o) v k l:=by
 rcases ho with ⟨rfl,rfl⟩ | ⟨key,ver,hk,rfl,hH⟩
 ·exact Kv ..
 ·exact .inr ⟨key,ver,hk,rfl,by rw [Ba _ _ _ _ (by omega),hH]⟩
theorem Own.cells {lo:Nat} {h:Bd} {v:AV} {k:IntKind} {l:List Int} (ho:Own lo h v k l):v.cells=[v]:=by
 rcases ho with ⟨_,rfl⟩ | ⟨_,_,_,rfl,_⟩ <;> rfl
theorem Own.oneB {lo:Nat} {h:Bd} {v:AV} {k:IntKind} {l:List Int} (ho:Own lo h v k l):oneB v=true:=by
 rcases ho with ⟨_,rfl⟩ | ⟨_,_,_,rfl,_⟩ <;> rfl
theorem Own.lenA {lo:Nat} {h:Bd} {v:AV} {k:IntKind} {l:List Int} (ho:Own lo h v k l):lenA v=some l.length:=by
 rcases ho with ⟨rfl,rfl⟩ | ⟨_,_,_,rfl,_⟩ <;> rfl
theorem A0q {call:Bn} {base:Nat} {Q:EX×St->Prop} {d:Option Nat} {L:List IOper} {ks:List Kont} {e:Env} {h:Bd} {lo b m kk:Nat} {x y:AV} {k:IntKind} {l l2:List Int} (hkk:kk=h.length) (hx:Own lo h x k l) (hlo:lo<=h.length) (hy:Dd h y=some (none,m,l2.map (.int k))) (hm:m=l2.length) (hm0:0<m) (hr:(l.length+m)*b<=1099511627776)
  (H:∀x' h',Own lo h' x' k (l++l2)->(∀j,j<lo->Bc h' j=Bc h j)->h.length<=h'.length->(∀j,j<h.length->Eu x≠some j->Bc h' j=Bc h j)->(∀j,Eu x'=some j->Eu x=some j\/j=h.length)->GO call base Q L ks ⟨Bk e d x',h'⟩) :
  GP call base Q d L ks e (Dl kk none b x y h):=by
 subst hm
 subst hkk
 have hroom:=Kn hr
 rcases hx with ⟨rfl,rfl⟩ | ⟨key,ver,hk,rfl,hH⟩
 ·have:Dl h.length none b (.slice none [] true) y h = .ret (.oslice h.length (Bc h h.length).next none 0 l2.length none,setH h h.length (.cells (Bc h h.length).next (l2.map (.int k)))):=by
   have h1:¬l2.length=0:=by omega
   rw [List.length_nil,Nat.zero_add] at hroom
   simp only [Dl,hy,List.length_nil,hroom,ne_eq,not_true_eq_false,if_false,Bool.true_eq_false,or_self,h1,Nat.zero_add,Eb,List.nil_append]
  rw [this,Hj]
  refine H _ _ (.inr ⟨h.length,_,hlo,rfl,by simp⟩) (fun j hj=>Ba _ _ _ _ (by omega)) (by rw [Be]; omega) (fun j hj _=>Ba _ _ _ _ (by omega)) (fun j hj => .inr (by simpa [Eu] using hj.symm))
 ·have hlt:=Ef hH (by simp)
  have:Dl h.length none b (.oslice key ver none 0 l.length none) y h = .ret (.oslice key (ver+1) none 0 (l.length+l2.length) none,setH h key (.cells (ver+1) ((l++l2).map (.int k)))):=by
   have h1:¬l2.length=0:=by omega
   have h2:¬l.length+l2.length<=l.length:=by omega
   simp only [Dl,hy,hH,hroom,Bg,List.length_map,ne_eq,not_true_eq_false,if_false,or_self,h1,Nat.zero_add,Nat.mul_one,Nat.lt_irrefl,h2,and_self,if_true,List.map_append]
  rw [this,Hj,<-List.length_append]
  refine H _ _ (.inr ⟨key,_,hk,rfl,by simp⟩) (fun j hj=>Ba _ _ _ _ (by omega)) (by rw [Be]; omega) (fun j hj hne=>Ba _ _ _ _ (fun h=>hne (by rw [h]; rfl))) (fun j hj => .inl (by simpa [Eu] using hj))
theorem Ls {call:Bn} {base:Nat} {Q:EX×St->Prop} {d:Option Nat} {L:List IOper} {ks:List Kont} {e:Env} {h:Bd} {lo b kk:Nat} {x:AV} {k:IntKind} {l:List Int} {a:Int} {ex:Bool} (hkk:kk=h.length) (hx:Own lo h x k l) (hlo:lo<=h.length) (hr:(l.length+1)*b<=1099511627776)
  (H:∀x' h',Own lo h' x' k (l++[a])->(∀j,j<lo->Bc h' j=Bc h j)->h.length<=h'.length->(∀j,j<h.length->Eu x≠some j->Bc h' j=Bc h j)->(∀j,Eu x'=some j->Eu x=some j\/j=h.length)->GO call base Q L ks ⟨Bk e d x',h'⟩) :
  GP call base Q d L ks e (Dl kk none b x (.slice none [.int k a] ex) h):=
 A0q (l2:=[a]) hkk hx hlo rfl rfl Nat.one_pos hr H
def OwnG (lo:Nat) (h:Bd) (v:AV) (g:Option Nat) (n:Nat) (cs:List AV):Prop:=
 (n=0/\cs=[]/\v = .slice g [] true)\/∃key ver,lo<=key/\v = .oslice key ver g 0 n none/\Bc h key = .cells ver cs/\cs.length=n*Bg g
theorem Qz (lo:Nat) (h:Bd) (g:Option Nat):OwnG lo h (.slice g [] true) g 0 []:=.inl ⟨rfl,rfl,rfl⟩
theorem OwnG.setH {lo:Nat} {h:Bd} {v:AV} {g:Option Nat} {n:Nat} {cs:List AV} {j:Nat} {o:AObj} (ho:OwnG lo h v g n cs) (hj:j<lo):OwnG lo (setH h j o) v g n cs:=by
 rcases ho with h1 | ⟨key,ver,hk,h1,hH,h2⟩
 ·exact .inl h1
 ·exact .inr ⟨key,ver,hk,h1,by rw [Ba _ _ _ _ (by omega),hH],h2⟩
theorem OwnG.other {lo:Nat} {h h':Bd} {v:AV} {g:Option Nat} {n:Nat} {cs:List AV} (ho:OwnG lo h v g n cs) (hf:∀j,Eu v=some j->Bc h' j=Bc h j):OwnG lo h' v g n cs:=by
 rcases ho with h1 | ⟨key,ver,hk,rfl,hH,h2⟩
 ·exact .inl h1
 ·exact .inr ⟨key,ver,hk,rfl,by rw [hf key rfl,hH],h2⟩
theorem A2b {lo:Nat} {h:Bd} {v:AV} {n m:Nat} {g:Nat} {cs:List AV} (ho:OwnG lo h v (some g) n cs) (hcs:mapR (Bj h m) cs = .ret cs):Bj h (m+1) v = .ret (.slice (some g) (Ed (some g) n cs) false):=by
 rcases ho with ⟨rfl,rfl,rfl⟩ | ⟨key,ver,_,rfl,hH,h2⟩
 ·rfl
 ·have e:(cs.drop 0).take (n*Bg (some g))=cs:=by rw [List.drop_zero,List.take_of_length_le (by omega)]
  rw [Bj]
  simp only [hH]
  rw [if_pos ⟨trivial,by omega⟩,e,hcs]
  rfl
theorem Lu {call:Bn} {base:Nat} {Q:EX×St->Prop} {d:Option Nat} {L:List IOper} {ks:List Kont} {e:Env} {h:Bd} {lo b m n kk:Nat} {g:Option Nat} {x y:AV} {cs c2:List AV} (hkk:kk=h.length) (hx:OwnG lo h x g n cs) (hg:0<Bg g) (hlo:lo<=h.length) (hy:Dd h y=some (g,m,c2)) (hm:c2.length=m*Bg g) (hm0:0<m) (hr:(n+m)*b<=1099511627776)
  (H:∀x' h',OwnG lo h' x' g (n+m) (cs++c2)->(∀j,j<lo->Bc h' j=Bc h j)->h.length<=h'.length->(∀j,j<h.length->Eu x≠some j->Bc h' j=Bc h j)->(∀j,Eu x'=some j->Eu x=some j\/j=h.length)->GO call base Q L ks ⟨Bk e d x',h'⟩) :
  GP call base Q d L ks e (Dl kk g b x y h):=by
 subst hkk
 have hroom:=Kn hr
 rcases hx with ⟨rfl,rfl,rfl⟩ | ⟨key,ver,hk,rfl,hH,hcl⟩
 ·have:Dl h.length g b (.slice g [] true) y h = .ret (.oslice h.length (Bc h h.length).next g 0 m none,setH h h.length (.cells (Bc h h.length).next c2)):=by
   have h1:¬m=0:=by omega
   have hf:Eb g []=[]:=by cases g <;> rfl
   rw [Nat.zero_add] at hroom
   simp only [Dl,hy,List.length_nil,hroom,ne_eq,not_true_eq_false,if_false,Bool.true_eq_false,or_self,h1,Nat.zero_add,hf,List.nil_append]
  rw [this,Hj]
  rw [Nat.zero_add] at H
  refine H _ _ (.inr ⟨h.length,_,hlo,rfl,by simp,hm⟩) (fun j hj=>Ba _ _ _ _ (by omega)) (by rw [Be]; omega) (fun j hj _=>Ba _ _ _ _ (by omega)) (fun j hj => .inr (by simpa [Eu] using hj.symm))
 ·have hlt:=Ef hH (by simp)
  have:Dl h.length g b (.oslice key ver g 0 n none) y h = .ret (.oslice key (ver+1) g 0 (n+m) none,setH h key (.cells (ver+1) (cs++c2))):=by
   have h1:¬m=0:=by omega
   have h2:¬(n+m)*Bg g<=cs.length:=by
    rw [hcl,Nat.add_mul]
    have:0<m*Bg g:=Nat.mul_pos hm0 hg
    omega
   have h3:¬cs.length<n*Bg g:=by omega
   simp only [Dl,hy,hH,hroom,ne_eq,not_true_eq_false,if_false,or_self,h1,Nat.zero_add,h2,h3,hcl,Nat.lt_irrefl,and_self,if_true]
   rw [hcl] at h2
   rw [if_neg h2]
  rw [this,Hj]
  refine H _ _ (.inr ⟨key,_,hk,rfl,by simp,by rw [List.length_append,hcl,hm,Nat.add_mul]⟩) (fun j hj=>Ba _ _ _ _ (by omega)) (by rw [Be]; omega) (fun j hj hne=>Ba _ _ _ _ (fun h=>hne (by rw [h]; rfl))) (fun j hj => .inl (by simpa [Eu] using hj))
def Lg:AV->AV
 | .oslice key ver g off len _ => .oslice key ver g off len (some len)
 | v=>v
theorem Agr {lo:Nat} {h:Bd} {v:AV} {k:IntKind} {l:List Int} (ho:Own lo h v k l) {e:Env} {hi mx:IX} {k1 k2:IntKind} (h1:hi.ev e = .int k1 l.length) (h2:mx.ev e = .int k2 l.length):slA none e none (some hi) (some mx) v = .ret (Lg v):=by
 rcases ho with ⟨rfl,rfl⟩ | ⟨key,ver,_,rfl,hH⟩
 ·simp [slA,sliceB,h1,h2,Gi,Res.bind,Lg]
 ·simp [slA,sliceB,h1,h2,Gi,Res.bind,Lg,Bg]
theorem Wy {call:Bn} {base:Nat} {Q:EX×St->Prop} {d:Option Nat} {L:List IOper} {ks:List Kont} {e:Env} {h:Bd} {lo b m kk:Nat} {x y:AV} {k:IntKind} {l l2:List Int} (hkk:kk=h.length) (hx:Own lo h x k l) (hlo:lo<=h.length) (hy:Dd h y=some (none,m,l2.map (.int k))) (hm:m=l2.length) (hm0:0<m) (hr:(l.length+m)*b<=1099511627776)
  (H:∀x' h',Own lo h' x' k (l++l2)->(∀j,j<h.length->Bc h' j=Bc h j)->h.length<=h'.length->Eu x'=some h.length->GO call base Q L ks ⟨Bk e d x',h'⟩) :
  GP call base Q d L ks e (Dl kk none b (Lg x) y h):=by
 subst hm
 subst hkk
 have hroom:=Kn hr
 have h1:¬l2.length=0:=by omega
 rcases hx with ⟨rfl,rfl⟩ | ⟨key,ver,hk,rfl,hH⟩
 ·have:Dl h.length none b (Lg (.slice none [] true)) y h = .ret (.oslice h.length (Bc h h.length).next none 0 l2.length none,setH h h.length (.cells (Bc h h.length).next (l2.map (.int k)))):=by
   rw [List.length_nil,Nat.zero_add] at hroom
   simp only [Lg,Dl,hy,List.length_nil,hroom,ne_eq,not_true_eq_false,if_false,Bool.true_eq_false,or_self,h1,Nat.zero_add,Eb,List.nil_append]
  rw [this,Hj]
  exact H _ _ (.inr ⟨h.length,_,hlo,rfl,by simp⟩) (fun j hj=>Ba _ _ _ _ (by omega)) (by rw [Be]; omega) rfl
 ·have hlt:=Ef hH (by simp)
  have:Dl h.length none b (Lg (.oslice key ver none 0 l.length none)) y h = .ret (.oslice h.length (Bc h h.length).next none 0 (l.length+l2.length) none,setH h h.length (.cells (Bc h h.length).next ((l++l2).map (.int k)))):=by
   have h2:¬l.length+l2.length<=l.length:=by omega
   simp only [Lg,Dl,hy,hH,hroom,Bg,List.length_map,ne_eq,not_true_eq_false,if_false,or_self,h1,Nat.zero_add,Nat.mul_one,Nat.lt_irrefl,h2,List.map_append,List.drop_zero]
   rw [List.take_of_length_le (by simp)]
  rw [this,Hj,<-List.length_append]
  exact H _ _ (.inr ⟨h.length,_,hlo,rfl,by simp⟩) (fun j hj=>Ba _ _ _ _ (by omega)) (by rw [Be]; omega) rfl
def slF (g:Option Nat) (xs:List AV) (ex:Bool):AV->Res AV
 | .int _ n=>if 0<=n/\n<=xs.length then .ret (.slice g (xs.drop n.toNat) ex) else .fail
 | _ => .fail
theorem Agn (g:Option Nat) (e:Env) (lo:IX) (xs:List AV) (ex:Bool):slA g e (some lo) none none (.slice g xs ex)=slF g xs ex (lo.ev e):=by
 simp only [slA,sliceB,ne_eq,not_true_eq_false,if_false,Res.bind]
 cases lo.ev e with
 | int k n =>
  simp only [Gi,slF]
  split
  ·simp [Res.bind]
  ·rfl
 | _=>rfl
def slT (g:Option Nat) (xs:List AV) (ex:Bool):AV->Res AV
 | .int _ n=>if 0<=n/\n<=xs.length then .ret (.slice g (xs.take n.toNat) (ex&&(n.toNat==xs.length))) else .fail
 | _ => .fail
theorem B0d (g:Option Nat) (e:Env) (hi:IX) (xs:List AV) (ex:Bool):slA g e none (some hi) none (.slice g xs ex)=slT g xs ex (hi.ev e):=by
 simp only [slA,sliceB,ne_eq,not_true_eq_false,if_false,Res.bind]
 cases hi.ev e with
 | int k n =>
  simp only [Gi,slT,Option.getD_some]
  split
  ·simp [Res.bind]
  ·rfl
 | _=>rfl
theorem A9b (k:IntKind) (n:Nat):Dq (.int k ((n:Int)+1))=some (n+1):=Uv k (n+1)
theorem Axo (k:IntKind):Dq (.int k 0)=some 0:=rfl
theorem Awb (k:IntKind):Dq (.int k 1)=some 1:=rfl
theorem Avo (k:IntKind):Dq (.int k 2)=some 2:=rfl
theorem Ir (a b:Bool):(a||Ep depth (.bool b))=true:=by cases a <;> rfl
theorem Fx (a:Bool) (k:IntKind) (v:Int):(a||Ep depth (.int k v))=true:=by cases a <;> rfl
def Hh {α:Type} (p:α->Bool):List α->Int->Int
 | [],_ => -1
 | x::r,i=>if p x then i else Hh p r (i+1)
theorem Mi {α:Type} (p:α->Bool):∀(l:List α) (i:Int),0<=i->decide (Hh p l i>=0)=l.any p
 | [],_,_=>rfl
 | x::r,i,hi=>by
  unfold Hh
  rw [List.any_cons]
  split
  ·next h=>simp [h,hi]
  ·next h=>rw [Mi p r (i+1) (by omega)]; simp [h]
theorem Auk (k:IntKind) (a b:Int):Nc k a [.int k b] = .ret (.int k (if b>a then b else a)):=by simp [Nc]
theorem Awf (k:IntKind) (a b:Int):Ld k a [.int k b] = .ret (.int k (if b<a then b else a)):=by simp [Ld]
theorem Aeg (sz:Nat) (g:Option Nat) (xs:List AV) (ex:Bool) (j:Nat):ixA sz (.slice g xs ex) j=if Bg g=sz then (match xs[j]? with | some v => .ret (.ptr v.cells 0) | none => .fail) else .fail:=rfl
theorem A9s (sz k ver off len j:Nat) (g:Option Nat) (c:Option Nat):ixA sz (.oslice k ver g off len c) j=if Bg g=sz/\j<len then .ret (.optr k ver (off+j*sz)) else .fail:=rfl
theorem Axu (g:Option Nat) (h:Bd) (cs:List AV) (off:Nat):ldA g h (.ptr cs off)=rd g cs off:=rfl
theorem Afz (g:Option Nat) (h:Bd) (k ver off:Nat):ldA g h (.optr k ver off)=(match Bc h k with | .cells v cs=>if v=ver then rd g cs off else .fail | _ => .fail):=rfl
theorem Age (n sz o j:Nat) (cs:List AV):A4x n sz (.ptr cs o) j=if j<n then .ret (.ptr cs (o+j*sz)) else .fail:=rfl
theorem Adc (n sz k ver o j:Nat):A4x n sz (.optr k ver o) j=if j<n then .ret (.optr k ver (o+j*sz)) else .fail:=rfl
attribute [go_sem] Axp
 Axd
 Ahe
 Axy
 Aew
 Afg
 Aco
 Aic
 Acz
 Agh
 Adt
 A8j
 Afy
 Afl
 Abr
 Aav
 A5a
 B3z
 Avj
 Ayi
 B0z
 B3r
 B3w
 Ayd
 B3j
 B5r
 B1a
 B2z
 B5x
 B0y
 B1k
 B5q
 B0t
 Azq
 B3u
 B0g
 Axz
 Aus
 Azd
 Hj
 Axe
 B1w
 Azn
 Aze
 Axb
 B6e
 B4n
 B6m
 A6j
 B0l
 A5e
 Aba
 B4g
 A7i
 Ayw
 Adb
 Azr
 Aft
 Auf
 Awa
 B3y
 Axs
 Axt
 Ava
 Aee
 Ayb Awl Afv Acr Abc Auq Aat A4f
 Afx
 B0k
 B4i
 B5t
 A4u
 A1h
 Avs
 A4n
 Azy
 Avy
 Avf
 B4z
 Age
 Adc
 B0a
 Aht
 Afo
 Agd
 B5e
 B4o
 B4w
 B4c
 B3n
 B3f
 B6b
 B5h
 B4s
 B4k
 B5k
 Up
 Aed
 Uv
 A9b
 Axo
 Awb
 Avo
 Qh
 next_none
 Abb
 List.length_replicate
 Be
 Ayr
 Kn
 wrap64
 Auk
 Awf
 Nat.max_eq_left
 Bw
 Bp
 and_true
 true_and
 List.map_cons
 List.map_nil
 List.all_cons
 List.all_nil
 List.length_map
 List.length_nil
 List.length_cons
 Bool.and_true
 Bool.true_and
 decide_true
 decide_false
 Bool.false_eq_true
 Bool.true_eq_false
 Bool.not_true
 Bool.not_false
 Aur
 Afn
 Aek
 A9f
 Awd
 Ahb
 Abd
 Ahu
 Ags
 Axc
 Axj
 Afe
 Ado
 Acb
 Aaz
 A5z
 A3u
 Acl
 Aah
 A4v
 Aay
 Aaa
 Acf
 Bg
 Aeg
 A9s
 Axu
 Afz
 rd
 List.getElem?_map
 Option.map_some
 Option.map_none
 List.getElem?_cons_zero
 List.getElem?_cons_succ
 List.nil_append
 List.append_nil
 List.cons_append
 List.length_append
 Nat.add_left_cancel_iff
 Nat.add_assoc
 Eo
 Nat.div_one
 Ed
 Dg
 Int.ofNat_lt
 Option.getD_some
 Option.getD_none
 Awj
 Rb
 A6c
 Agn
 slF
 B0d
 slT
 Axw
 A9k
 Ahp
 Acu
 Ahh
 Agx
 A8x
 Ey
 Dp
 Ys
 List.take_succ_cons
 List.take_zero
 List.take_nil
 List.drop_zero
 List.drop_nil
 List.drop_succ_cons
 List.set_cons_zero
 List.set_cons_succ
 eq_self
 List.all_nil
 Nat.mul_one
 Nat.zero_add
 Nat.add_zero
 Int.natCast_add
 Int.cast_ofNat_Int
 Int.natCast_zero
 Int.zero_add
attribute [go_sem] Nat.reduceEqDiff Nat.reduceAdd Nat.reduceMul reduceCtorEq Nat.reduceDiv Nat.reduceLeDiff Nat.reduceLT Nat.reduceSub reduceIte
end Go.Ev
