/- Walking the evaluator as a machine: code, what is still to do, slots, heap; one rule for each form of code and each operation. No condition but those that stand in each. -/
import Derived.Test.YtbgodhhdojjbmaaGreatAEvWalk
set_option linter.unusedSimpArgs false
set_option linter.unusedVariables false
namespace Go.Ev
open Go
inductive Kont where
 | seq (c:IC)
 | block (id:Nat)
 | inv (P:St->Prop)
def Lr (call:Bf) (base:Nat) (Q:EX×St->Prop):List Kont->EX×St->Prop
 | []=>Q
 | .seq c::ks=>after (Lr call base Q ks) fun s=>(evC call base c s).all (Lr call base Q ks)
 | .block id::ks=>A5s id (Lr call base Q ks)
 | .inv P::ks=>after (Lr call base Q ks) P
def lenA:AV->Option Nat
 | .slice _ xs _=>some xs.length
 | .oslice _ _ _ _ len _=>some len
 | _=>none
theorem Aef (g:Option Nat) (xs:List AV) (ex:Bool):lenA (.slice g xs ex)=some xs.length:=rfl
theorem Aaq (a b:Nat) (g:Option Nat) (c len:Nat) (f:Option Nat):lenA (.oslice a b g c len f)=some len:=rfl
def G (call:Bf) (base:Nat) (Q:EX×St->Prop) (c:IC) (ks:List Kont) (s:St):Prop:=(evC call base c s).all (Lr call base Q ks)
def R (call:Bf) (base:Nat) (Q:EX×St->Prop) (x:EX) (ks:List Kont) (s:St):Prop:=Lr call base Q ks (x,s)
def GO (call:Bf) (base:Nat) (Q:EX×St->Prop) (l:List IOper) (ks:List Kont) (s:St):Prop:=(Dr call base l s).all fun s=>Lr call base Q ks (.normal,s)
def GV (call:Bf) (base:Nat) (Q:EX×St->Prop) (d:Option Nat) (l:List IOper) (ks:List Kont) (e:Env) (h:Bc) (r:Res AV):Prop:=r.all fun v=>GO call base Q l ks ⟨Bk e d v,h⟩
def GP (call:Bf) (base:Nat) (Q:EX×St->Prop) (d:Option Nat) (l:List IOper) (ks:List Kont) (e:Env) (r:Res (AV×Bc)):Prop:=r.all fun p=>GO call base Q l ks ⟨Bk e d p.1,p.2⟩
def GC (call:Bf) (base:Nat) (Q:EX×St->Prop) (f:List AV->Prop) (r:Res (List AV)):Prop:=r.all f
section
variable {call:Bf} {base:Nat} {Q:EX×St->Prop} {ks:List Kont} {s:St} {e:Env} {h:Bc} {l:List IOper} {d:Option Nat}
theorem A1i (a b:IC):G call base Q (.seq a b) ks s=G call base Q a (.seq b::ks) s:=by
 simp only [G,C4w,Lr]
theorem Asa (id:Nat) (c:IC):G call base Q (.block id c) ks s=G call base Q c (.block id::ks) s:=by
 simp only [G,Avg,Lr]
theorem Axo:G call base Q .skip ks s=R call base Q .normal ks s:=rfl
theorem Axk (id:Nat):G call base Q (.exit id) ks s=R call base Q (.exit id) ks s:=rfl
theorem B2e:G call base Q .ret ks s=R call base Q .ret ks s:=rfl
theorem A5t:G call base Q (.ops l) ks s=GO call base Q l ks s:=by simp only [G,GO,C4v]
theorem Axh (c:IX) (a b:IC):G call base Q (.cond c a b) ks ⟨e,h⟩=(match c.ev e with | .bool t=>if t then G call base Q a ks ⟨e,h⟩ else G call base Q b ks ⟨e,h⟩ | _=>False):=by
 simp only [G,B0w]
 cases c.ev e <;> rfl
theorem B2d:GO call base Q [] ks s=R call base Q .normal ks s:=rfl
theorem B7y (x:EX):R call base Q x [] s=Q (x,s):=rfl
theorem Aos (c:IC):R call base Q .normal (.seq c::ks) s=G call base Q c ks s:=rfl
theorem Azs (c:IC) (id:Nat):R call base Q (.exit id) (.seq c::ks) s=R call base Q (.exit id) ks s:=rfl
theorem Azt (c:IC):R call base Q .ret (.seq c::ks) s=R call base Q .ret ks s:=rfl
theorem B7w (id:Nat):R call base Q .normal (.block id::ks) s=R call base Q .normal ks s:=rfl
theorem Azo (id id':Nat):R call base Q (.exit id') (.block id::ks) s=if id'=id then R call base Q .normal ks s else R call base Q (.exit id') ks s:=by
 simp only [R,Lr,A5s]
theorem Azp (id:Nat):R call base Q .ret (.block id::ks) s=R call base Q .ret ks s:=rfl
theorem B7x (P:St->Prop):R call base Q .normal (.inv P::ks) s=P s:=rfl
theorem Azq (P:St->Prop) (id:Nat):R call base Q (.exit id) (.inv P::ks) s=R call base Q (.exit id) ks s:=rfl
theorem Azr (P:St->Prop):R call base Q .ret (.inv P::ks) s=R call base Q .ret ks s:=rfl
theorem Axb (v:AV):GV call base Q d l ks e h (.ret v)=GO call base Q l ks ⟨Bk e d v,h⟩:=rfl
theorem Arq:GV call base Q d l ks e h .fail=False:=rfl
theorem Arr (v:AV):GV call base Q d l ks e h (Res.ofOpt (some v))=GO call base Q l ks ⟨Bk e d v,h⟩:=rfl
theorem Axa (c:Prop) [Decidable c] (x y:Res AV):GV call base Q d l ks e h (if c then x else y)=if c then GV call base Q d l ks e h x else GV call base Q d l ks e h y:=by split <;> rfl
theorem Iy (v:AV):GP call base Q d l ks e (.ret (v,h))=GO call base Q l ks ⟨Bk e d v,h⟩:=rfl
theorem Aro:GP call base Q d l ks e .fail=False:=rfl
theorem Awy (c:Prop) [Decidable c] (x y:Res (AV×Bc)):GP call base Q d l ks e (if c then x else y)=if c then GP call base Q d l ks e x else GP call base Q d l ks e y:=by split <;> rfl
theorem Awx (f:List AV->Prop) (cs:List AV):GC call base Q f (.ret cs)=f cs:=rfl
theorem Aww (f:List AV->Prop) (c:Prop) [Decidable c] (x y:Res (List AV)):GC call base Q f (if c then x else y)=if c then GC call base Q f x else GC call base Q f y:=by split <;> rfl
theorem Ahr (o:IOper):GO call base Q (o::l) ks s=(Bv call base o s).all fun s=>GO call base Q l ks s:=by simp only [GO,B0x]
theorem Ds (op:IOp):GO call base Q (⟨d,op,none⟩::l) ks ⟨e,h⟩=(Bd call (base+d.getD 0) op e h).all fun p=>GO call base Q l ks ⟨Bk e d p.1,p.2⟩:=by rw [Ahr,B1a]
theorem Asj (op:IOp) (t:Nat) (want:Bool):GO call base Q (⟨d,op,some (t,want)⟩::l) ks ⟨e,h⟩=(match Bs e t with
  | .bool b=>if b=want then GO call base Q (⟨d,op,none⟩::l) ks ⟨e,h⟩ else GO call base Q l ks ⟨Bk e d .skip,h⟩
  | .skip=>GO call base Q l ks ⟨Bk e d .skip,h⟩
  | _=>False):=by
 rw [Ahr,Avk]
 cases Bs e t <;> simp only [Ds]
theorem C5c (x:IX):GO call base Q (⟨d,.mv x,none⟩::l) ks ⟨e,h⟩=GO call base Q l ks ⟨Bk e d (x.ev e),h⟩:=by rw [Ds,Cdq] <;> rfl
theorem B1x (op:BinOp) (x y:IX):GO call base Q (⟨d,.bin op x y,none⟩::l) ks ⟨e,h⟩=GV call base Q d l ks e h (Ef op (x.ev e) (y.ev e)):=by rw [Ds,C4q] <;> rfl
theorem C5d (op:UnOp) (x:IX):GO call base Q (⟨d,.un op x,none⟩::l) ks ⟨e,h⟩=GV call base Q d l ks e h (unA op (x.ev e)):=by rw [Ds,Cdr] <;> rfl
theorem Aat (sz:Nat) (x i:IX):GO call base Q (⟨d,.indexAddr sz x i,none⟩::l) ks ⟨e,h⟩=(match Df (i.ev e) with | some j=>GV call base Q d l ks e h (ixA sz (x.ev e) j) | none=>False):=by rw [Ds,Abq] <;> rfl
theorem Axm (g:Option Nat) (x:IX):GO call base Q (⟨d,.load g x,none⟩::l) ks ⟨e,h⟩=GV call base Q d l ks e h (ldA g h (x.ev e)):=by rw [Ds,B0z] <;> rfl
theorem Aas (off:Nat) (x:IX):GO call base Q (⟨d,.fieldAddr off x,none⟩::l) ks ⟨e,h⟩=(match x.ev e with | .ptr cells o=>GO call base Q l ks ⟨Bk e d (.ptr cells (o+off)),h⟩ | .optr k ver o=>GO call base Q l ks ⟨Bk e d (.optr k ver (o+off)),h⟩ | _=>False):=by rw [Ds,Abp] <;> rfl
theorem Aej (x:IX):GO call base Q (⟨d,.nilCheck x,none⟩::l) ks ⟨e,h⟩=(match x.ev e with | .ptr cells o=>GO call base Q l ks ⟨Bk e d (.ptr cells o),h⟩ | .optr k ver o=>GO call base Q l ks ⟨Bk e d (.optr k ver o),h⟩ | .clo f a b=>GO call base Q l ks ⟨Bk e d (.clo f a b),h⟩ | _=>False):=by rw [Ds,Agi] <;> rfl
theorem B2a (x:IX):GO call base Q (⟨d,.len x,none⟩::l) ks ⟨e,h⟩=(match lenA (x.ev e) with | some n=>GO call base Q l ks ⟨Bk e d (.int .i64 n),h⟩ | none=>False):=by
 rw [Ds,C4s]
 cases x.ev e <;> rfl
theorem Aci (sz:Nat) (a v:IX):GO call base Q (⟨d,.store sz a v,none⟩::l) ks ⟨e,h⟩=(match a.ev e with
  | .optr k ver off =>
   (match Bb h k with
   | .cells u cs=>if u=ver/\(v.ev e).cells.length=sz/\off+sz<=cs.length/\(v.ev e).cells.all oneB then GO call base Q l ks ⟨Bk e d .undef,setH h k (.cells u (Dk cs off (v.ev e).cells))⟩ else False
   | _=>False)
  | _=>False):=by rw [Ds,Avm] <;> rfl
theorem Axi (k:IntKind) (x:IX):GO call base Q (⟨d,.conv k x,none⟩::l) ks ⟨e,h⟩=(match x.ev e with | .int _ n=>GO call base Q l ks ⟨Bk e d (.int k (k.wrap n)),h⟩ | _=>False):=by rw [Ds,B0y] <;> rfl
theorem Aie (x:IX) (i:Nat):GO call base Q (⟨d,.extract x i,none⟩::l) ks ⟨e,h⟩=(match x.ev e with | .tuple vs=>(match vs[i]? with | some v=>GO call base Q l ks ⟨Bk e d v,h⟩ | none=>False) | _=>False):=by rw [Ds,Ajs] <;> rfl
theorem Axn (c a b:IX):GO call base Q (⟨d,.pick c a b,none⟩::l) ks ⟨e,h⟩=(match c.ev e with | .bool t=>GO call base Q l ks ⟨Bk e d (if t then a.ev e else b.ev e),h⟩ | _=>False):=by rw [Ds,B1b] <;> rfl
theorem Alr (f:FuncId) (first captured:List IX):GO call base Q (⟨d,.mkFunc f first captured,none⟩::l) ks ⟨e,h⟩=GO call base Q l ks ⟨Bk e d (.clo f (first.map (IX.ev e)) (captured.map (IX.ev e))),h⟩:=by rw [Ds,Aoj] <;> rfl
theorem Asd (raw:Bool) (f:FuncId) (args:List IX):GO call base Q (⟨d,.callF raw f args,none⟩::l) ks ⟨e,h⟩=GP call base Q d l ks e (call raw (.fn f) (args.map (IX.ev e)) h):=by rw [Ds,Avi] <;> rfl
theorem Arz (z:List AV):GO call base Q (⟨d,.alloc z,none⟩::l) ks ⟨e,h⟩=if z.all oneB then GO call base Q l ks ⟨Bk e d (.optr (base+d.getD 0) (Bb h (base+d.getD 0)).next 0),setH h (base+d.getD 0) (.cells (Bb h (base+d.getD 0)).next z)⟩ else False:=by rw [Ds,Avf] <;> rfl
theorem B1y (x:IX):GO call base Q (⟨d,.box x,none⟩::l) ks ⟨e,h⟩=if (x.ev e).cells.all oneB then GO call base Q l ks ⟨Bk e d (.optr (base+d.getD 0) (Bb h (base+d.getD 0)).next 0),setH h (base+d.getD 0) (.cells (Bb h (base+d.getD 0)).next (x.ev e).cells)⟩ else False:=by rw [Ds,C4r] <;> rfl
theorem Asb (z:List AV) (ps:List (Nat×Nat×IX)):GO call base Q (⟨d,.build z ps,none⟩::l) ks ⟨e,h⟩=if z.all oneB then GC call base Q (fun cs=>GO call base Q l ks ⟨Bk e d (.agg cs),h⟩) (Eg e ps z) else False:=by rw [Ds,Avh] <;> rfl
theorem Asi (g:Option Nat) (off:Nat) (x:IX):GO call base Q (⟨d,.field g off x,none⟩::l) ks ⟨e,h⟩=(match x.ev e with | .agg cs=>GV call base Q d l ks e h (rd g cs off) | _=>False):=by rw [Ds,Avj] <;> rfl
theorem Ask (g:Option Nat) (n:Nat) (x i:IX):GO call base Q (⟨d,.index g n x i,none⟩::l) ks ⟨e,h⟩=(match x.ev e,Df (i.ev e) with | .agg cs,some j=>if j<n then GV call base Q d l ks e h (rd g cs (j*Be g)) else False | _,_=>False):=by rw [Ds,Avl] <;> rfl
theorem Aif (g:Option Nat) (z:List AV) (b:Nat) (le c:IX):GO call base Q (⟨d,.mkSlice g z b le c,none⟩::l) ks ⟨e,h⟩=(match Df (le.ev e),Df (c.ev e) with
  | some n,some c=>if n<=c/\Et c b/\z.all oneB then GO call base Q l ks ⟨Bk e d (.oslice h.length (Bb h h.length).next g 0 n (some c)),setH h h.length (.cells (Bb h h.length).next (List.replicate c z).flatten)⟩ else False
  | _,_=>False):=by rw [Ds,Ajt] <;> rfl
theorem Aln (g:Option Nat) (b:Nat) (x y:IX):GO call base Q (⟨d,.append g b x y,none⟩::l) ks ⟨e,h⟩=GP call base Q d l ks e (Dh h.length g b (x.ev e) (y.ev e) h):=by rw [Ds,Aoi] <;> rfl
theorem Axg (raw:Bool) (f:IX) (args:List IX):GO call base Q (⟨d,.call raw f args,none⟩::l) ks ⟨e,h⟩=(match f.ev e with
  | .clo g first captured=>GP call base Q d l ks e (call raw (.fn g) (first++args.map (IX.ev e)++captured) h)
  | .yld k ver=>GP call base Q d l ks e (call raw (.yld k ver) (args.map (IX.ev e)) h)
  | _=>False):=by rw [Ds,B0v] <;> rfl
theorem B2b (xs:List IX):GO call base Q (⟨d,.max xs,none⟩::l) ks ⟨e,h⟩=(match xs.map (IX.ev e) with | .int k a::r=>GV call base Q d l ks e h (Mh k a r) | _=>False):=by rw [Ds,C4t] <;> rfl
theorem B2c (xs:List IX):GO call base Q (⟨d,.min xs,none⟩::l) ks ⟨e,h⟩=(match xs.map (IX.ev e) with | .int k a::r=>GV call base Q d l ks e h (Mi k a r) | _=>False):=by rw [Ds,C4u] <;> rfl
theorem A7n (g:Option Nat) (z:List AV) (ps:List (Nat×Nat×IX)):GO call base Q (⟨d,.buildSlice g z ps,none⟩::l) ks ⟨e,h⟩=if z.all oneB then GC call base Q (fun cs=>if cs.all Gz then GO call base Q l ks ⟨Bk e d (.slice g (Ej g (z.length/Be g) cs) true),h⟩ else False) (Eg e ps z) else False:=by
 rw [Ds,A9t]
 split
 ·rfl
 ·rfl
theorem A5d (g:Option Nat) (z:List AV) (ps:List (Nat×Nat×IX)):GO call base Q (⟨d,.buildSliceO g z ps,none⟩::l) ks ⟨e,h⟩=if z.all oneB then GC call base Q (fun cs=>GO call base Q l ks ⟨Bk e d (.oslice h.length (Bb h h.length).next g 0 (z.length/Be g) (some (z.length/Be g))),setH h h.length (.cells (Bb h h.length).next cs)⟩) (Eg e ps z) else False:=by
 rw [Ds]
 simp only [Bd]
 split
 ·simp only [all_bind,Fj,GC]
 ·rfl
theorem Asl (neg:Bool) (x:IX):GO call base Q (⟨d,.isNil neg x,none⟩::l) ks ⟨e,h⟩=(match x.ev e with
  | .slice _ (_::_) _=>GO call base Q l ks ⟨Bk e d (.bool neg),h⟩
  | .slice _ [] _=>GO call base Q l ks ⟨Bk e d (.bool neg),h⟩/\GO call base Q l ks ⟨Bk e d (.bool !neg),h⟩
  | .oslice _ _ _ _ (_+1) _=>GO call base Q l ks ⟨Bk e d (.bool neg),h⟩
  | _=>False):=by
 rw [Ds]
 simp only [Bd]
 cases x.ev e with
 | slice g xs ex =>
  cases xs with
  | nil =>
   simp only [all_bind]
   refine propext ⟨fun hh=>⟨hh.2 0 (by omega),hh.2 1 (by omega)⟩,fun hh=>⟨by omega,fun i hi => ?_⟩⟩
   by_cases h0:i=0
   ·subst h0; exact hh.1
   ·obtain rfl:i=1:=by omega
    exact hh.2
  | cons _ _=>rfl
 | oslice k v g o n c=>cases n <;> rfl
 | _=>rfl
theorem Asm (g:Option Nat) (x:IX) (d0 n:Nat) (ds:List Nat):GO call base Q (⟨d,.loadL g x d0 n ds,none⟩::l) ks ⟨e,h⟩=(match x.ev e with
  | .ptr _ _=>GO call base Q (⟨d,.load g x,none⟩::l) ks ⟨e,h⟩
  | .optr k _ _=>if decide (k+d0<base+d.getD 0+n)&&ds.all (fun d'=>base+d.getD 0+d' != k+d0) then GO call base Q (⟨d,.load g x,none⟩::l) ks ⟨e,h⟩ else False
  | _=>False):=by
 rw [Ds,Ds]
 simp only [Bd]
 cases x.ev e with
 | ptr cells off=>rfl
 | optr k ver off=>simp only; split <;> rfl
 | _=>rfl
theorem Alt (n sz:Nat) (a v:IX):GO call base Q (⟨d,.storeL n sz a v,none⟩::l) ks ⟨e,h⟩=(match a.ev e with
  | .optr k _ _=>if base+d.getD 0+n<=k then GO call base Q (⟨d,.store sz a v,none⟩::l) ks ⟨e,h⟩ else False
  | _=>False):=by
 rw [Ds,Ds]
 simp only [Bd]
 cases a.ev e with
 | optr k ver off=>simp only; split <;> rfl
 | _=>rfl
theorem Aid (d0 n:Nat) (g:Option Nat) (b:Nat) (x y:IX):GO call base Q (⟨d,.appendL d0 n g b x y,none⟩::l) ks ⟨e,h⟩ =
  if Gs (base+d.getD 0) d0 n (x.ev e)&&Gs (base+d.getD 0) d0 n (y.ev e)&&decide (base+d.getD 0+n<=h.length+d0) then GO call base Q (⟨d,.append g b x y,none⟩::l) ks ⟨e,h⟩ else False:=by
 rw [Ds,Ds]
 simp only [Bd]
 split <;> rfl
theorem Aei (g:Option Nat) (z:List AV) (b:Nat) (le c:IX):GO call base Q (⟨d,.mkSliceK g z b le c,none⟩::l) ks ⟨e,h⟩=(match Df (le.ev e),Df (c.ev e) with
  | some n,some c=>if n<=c/\Et c b/\z.all oneB then GO call base Q l ks ⟨Bk e d (.oslice (base+d.getD 0) (Bb h (base+d.getD 0)).next g 0 n (some c)),setH h (base+d.getD 0) (.cells (Bb h (base+d.getD 0)).next (List.replicate c z).flatten)⟩ else False
  | _,_=>False):=by
 rw [Ds]
 simp only [Bd]
 cases Df (le.ev e) with
 | none=>rfl
 | some l =>
  cases Df (c.ev e) with
  | none=>rfl
  | some c=>simp only; split <;> rfl
theorem Asc (d0 n:Nat) (f:FuncId) (args:List IX):GO call base Q (⟨d,.callC d0 n f args,none⟩::l) ks ⟨e,h⟩ =
  if (args.map (IX.ev e)).all (Kv (base+d.getD 0) d0)&&decide (base+d.getD 0+n<=h.length+d0) then GP call base Q d l ks e (call true (.clone f) (args.map (IX.ev e)) h) else False:=by
 rw [Ds]
 simp only [Bd]
 split <;> rfl
theorem Aeg (kn:Option Nat) (z:AV) (x k:IX):GO call base Q (⟨d,.mapEntry kn z x k,none⟩::l) ks ⟨e,h⟩=(match x.ev e with
  | .omap key ver =>
   (match Bb h key with
   | .map u clock mk vs bs =>
    if u=ver/\Ei kn (k.ev e) then
     (match Du kn (k.ev e) mk 0 with
     | none=>False
     | some none=>if mk.length=vs.length then GO call base Q l ks ⟨Bk e d (.tuple [z,.int .i64 clock]),setH h key (.map u (clock+1) (mk++[k.ev e]) (vs++[z]) (bs++[clock]))⟩ else False
     | some (some i) =>
      (match vs[i]?,bs[i]? with
      | some v,some b=>GO call base Q l ks ⟨Bk e d (.tuple [v,.int .i64 b]),setH h key (.map u clock (mk.set i (k.ev e)) vs bs)⟩
      | _,_=>False))
    else False
   | _=>False)
  | _=>False):=by
 rw [Ds]
 simp only [Bd]
 cases x.ev e with
 | omap key ver =>
  simp only
  cases Bb h key with
  | map u clock mk vs bs =>
   simp only
   split
   ·cases Du kn (k.ev e) mk 0 with
    | none=>rfl
    | some r =>
     cases r with
     | none=>simp only; split <;> rfl
     | some i =>
      simp only
      cases vs[i]? with
      | none=>rfl
      | some v=>cases bs[i]? <;> rfl
   ·rfl
  | _=>rfl
 | _=>rfl
theorem A7o (x s v:IX):GO call base Q (⟨d,.entryStore x s v,none⟩::l) ks ⟨e,h⟩=(match x.ev e,Df (s.ev e) with
  | .omap key ver,some b =>
   (match Bb h key with
   | .map u clock mk vs bs =>
    if u=ver then
     (match Ji b bs 0 with
     | some i=>GO call base Q l ks ⟨Bk e d .undef,setH h key (.map u clock mk (vs.set i (v.ev e)) bs)⟩
     | none=>False)
    else False
   | _=>False)
  | _,_=>False):=by
 rw [Ds]
 simp only [Bd]
 cases x.ev e with
 | omap key ver =>
  cases Df (s.ev e) with
  | none=>rfl
  | some b =>
   simp only
   cases Bb h key with
   | map u clock mk vs bs =>
    simp only
    split
    ·cases Ji b bs 0 <;> rfl
    ·rfl
   | _=>rfl
 | _=>rfl
def slA (g:Option Nat) (e:Env) (lo hi mx:Option IX):AV->Res AV
 | .slice gx xs exact =>
  if gx≠g then .fail else
  (sliceB e xs.length (some xs.length) lo hi mx).bind fun (l,r,m) => .ret (.slice g ((xs.take r).drop l) ((exact&&(r==xs.length))||(mx.isSome&&(m==some r))))
 | .oslice k ver gx off len cap =>
  if gx≠g then .fail else
  (sliceB e len cap lo hi mx).bind fun (l,r,m) => .ret (.oslice k ver g (off+l*Be g) (r-l) (m.map (·-l)))
 | _ => .fail
theorem Asr (g:Option Nat) (x:IX) (lo hi mx:Option IX):GO call base Q (⟨d,.slice g x lo hi mx,none⟩::l) ks ⟨e,h⟩=GV call base Q d l ks e h (slA g e lo hi mx (x.ev e)):=by
 rw [Ds]
 simp only [Bd]
 cases x.ev e with
 | slice gx xs ex =>
  simp only [slA]
  split
  ·rfl
  ·simp only [GV,all_bind,Fj]
 | oslice k ver gx off len cap =>
  simp only [slA]
  split
  ·rfl
  ·simp only [GV,all_bind,Fj]
 | _=>rfl
def A7d (len sz:Nat):AV->Nat->Res AV
 | .ptr cells o,j=>if j<len then .ret (.ptr cells (o+j*sz)) else .fail
 | .optr k ver o,j=>if j<len then .ret (.optr k ver (o+j*sz)) else .fail
 | _,_ => .fail
theorem A7q (n sz:Nat) (x i:IX):GO call base Q (⟨d,.indexAddrA n sz x i,none⟩::l) ks ⟨e,h⟩=(match Df (i.ev e) with | some j=>GV call base Q d l ks e h (A7d n sz (x.ev e) j) | none=>False):=by
 rw [Ds]
 simp only [Bd,GV]
 cases Df (i.ev e) with
 | none=>cases x.ev e <;> rfl
 | some j =>
  cases x.ev e with
  | ptr cells o=>simp only [A7d]; split <;> rfl
  | optr k ver o=>simp only [A7d]; split <;> rfl
  | _=>rfl
def cpA (g:Option Nat) (h:Bc):AV->Option (Option Nat×Nat×List AV)->Res (AV×Bc)
 | .oslice k ver grp off len _,some (gy,m,new) =>
  match Bb h k with
  | .cells v cs =>
   if gy=g/\grp=g/\v=ver/\off+len*Be g<=cs.length then
    if Nat.min m len=0 then .ret (.int .i64 0,h)
    else .ret (.int .i64 (Nat.min m len:Nat),setH h k (.cells v (Dk cs off (new.take (Nat.min m len*Be g)))))
   else .fail
  | _ => .fail
 | _,_ => .fail
theorem Axj (g:Option Nat) (x y:IX):GO call base Q (⟨d,.copy g x y,none⟩::l) ks ⟨e,h⟩=GP call base Q d l ks e (cpA g h (x.ev e) (De h (y.ev e))):=by
 rw [Ds]; rfl
def clA (zero:AV) (h:Bc):AV->Res (AV×Bc)
 | .oslice k ver none off len _ =>
  match Bb h k with
  | .cells v cs =>
   if v=ver/\off+len<=cs.length/\oneB zero then
    if len=0 then .ret (.undef,h)
    else .ret (.undef,setH h k (.cells v (Dk cs off (List.replicate len zero))))
   else .fail
  | _ => .fail
 | _ => .fail
theorem Asf (zero:AV) (x:IX):GO call base Q (⟨d,.clear zero x,none⟩::l) ks ⟨e,h⟩=GP call base Q d l ks e (clA zero h (x.ev e)):=by
 rw [Ds]; rfl
def eaA (n:Nat) (neg:Bool):AV->AV->Res AV
 | .agg cs,.agg ds =>
  if cs.length=n then
   match Ec cs ds with
   | some b => .ret (.bool (b != neg))
   | none => .fail
  else .fail
 | _,_ => .fail
theorem Ash (n:Nat) (neg:Bool) (x y:IX):GO call base Q (⟨d,.eqAgg n neg x y,none⟩::l) ks ⟨e,h⟩=GV call base Q d l ks e h (eaA n neg (x.ev e) (y.ev e)):=by
 rw [Ds]
 simp only [Bd,GV]
 cases x.ev e with
 | agg cs =>
  cases y.ev e with
  | agg ds =>
   simp only [eaA]
   split
   ·cases Ec cs ds <;> rfl
   ·rfl
  | _=>rfl
 | _=>rfl
theorem B1z (neg:Bool) (x y:IX):GO call base Q (⟨d,.eqB neg x y,none⟩::l) ks ⟨e,h⟩=(match x.ev e,y.ev e with | .bool b,.bool c=>GO call base Q l ks ⟨Bk e d (.bool ((b==c) != neg)),h⟩ | _,_=>False):=by
 rw [Ds]
 simp only [Bd]
 cases x.ev e with
 | bool b=>cases y.ev e <;> rfl
 | _=>rfl
def ldS (g:Option Nat) (h:Bc) (v:AV) (c:Nat->Bool):Res AV:=
 match v with
 | .ptr cells off=>rd g cells off
 | .optr k ver off=>if c k then ldA g h (.optr k ver off) else .fail
 | _ => .fail
def Zw (e:Env) (k:Nat):List Nat->Bool
 | []=>true
 | t::r=>(match Bs e t with | .optr k' _ _=>decide (¬k'=k) | _=>false)&&Zw e k r
def Zv (key k d0:Nat):List Nat->Bool
 | []=>true
 | d::r=>decide (¬key+d=k+d0)&&Zv key k d0 r
theorem Aun (e:Env) (key k d0:Nat) (ts ds:List Nat):Ly e key k d0 ts ds=(Zw e k ts&&Zv key k d0 ds):=by
 unfold Ly
 congr 1
 ·induction ts with
  | nil=>rfl
  | cons t r ih =>
   rw [List.all_cons,Zw,ih]
   congr 1
   cases Bs e t <;> try rfl
   next k' v o=>simp only [bne,BEq.beq]; rw [decide_not]
 ·induction ds with
  | nil=>rfl
  | cons d r ih =>
   rw [List.all_cons,Zv,ih]
   congr 1
   simp only [bne,BEq.beq]; rw [decide_not]
theorem Aoa (e:Env) (k:Nat):Zw e k []=true:=rfl
theorem Ajn (e:Env) (k t:Nat) (r:List Nat):Zw e k (t::r)=((match Bs e t with | .optr k' _ _=>decide (¬k'=k) | _=>false)&&Zw e k r):=rfl
theorem Anx (key k d0:Nat):Zv key k d0 []=true:=rfl
theorem Ajl (key k d0 d:Nat) (r:List Nat):Zv key k d0 (d::r)=(decide (¬key+d=k+d0)&&Zv key k d0 r):=rfl
theorem Arx (g:Option Nat) (h:Bc) (cs:List AV) (off:Nat) (c:Nat->Bool):ldS g h (.ptr cs off) c=rd g cs off:=rfl
theorem Alm (g:Option Nat) (h:Bc) (k ver off:Nat) (c:Nat->Bool):ldS g h (.optr k ver off) c=if c k then ldA g h (.optr k ver off) else .fail:=rfl
theorem Asn (g:Option Nat) (x:IX) (d0:Nat) (ts ds:List Nat):GO call base Q (⟨d,.loadS g x d0 ts ds,none⟩::l) ks ⟨e,h⟩=GV call base Q d l ks e h (ldS g h (x.ev e) fun k=>Zw e k ts&&Zv (base+d.getD 0) k d0 ds):=by
 rw [Ds]
 simp only [Bd,GV,ldS]
 cases x.ev e with
 | ptr cells off=>simp only [all_bind,Fj]
 | optr k ver off =>
  simp only [Aun,ldA]
  split
  ·cases Bb h k with
   | cells v cs =>
    simp only
    split
    ·simp only [all_bind,Fj]
    ·rfl
   | _=>rfl
  ·rfl
 | _=>rfl
theorem Alu (t sz:Nat) (a v:IX):GO call base Q (⟨none,.storeS t sz a v,none⟩::l) ks ⟨e,h⟩=(match a.ev e with | .optr k _ _=>if k=base+t then GO call base Q (⟨none,.store sz a v,none⟩::l) ks ⟨e,h⟩ else False | _=>False):=by
 rw [Ds]
 simp only [Bd,Option.getD_none,Nat.add_zero]
 cases ha:a.ev e with
 | optr k ver off =>
  simp only
  split
  ·rw [Aci,ha]
   simp only
   cases Bb h k with
   | cells u cs =>
    simp only
    split <;> rfl
   | _=>rfl
  ·rfl
 | _=>rfl
theorem Ase (f:FuncId) (args:List IX):GO call base Q (⟨d,.callS f args,none⟩::l) ks ⟨e,h⟩=if (args.map (IX.ev e)).all (Dy depth) then GP call base Q d l ks e (call false (.fn f) (args.map (IX.ev e)) h) else False:=by
 rw [Ds]
 simp only [Bd]
 split
 ·rfl
 ·rfl
theorem Akz (k:IntKind) (n:Int):Dy depth (.int k n)=true:=rfl
theorem Ahj (b:Bool):Dy depth (.bool b)=true:=rfl
theorem Ady (g:Option Nat) (xs:List AV) (ex:Bool):Dy depth (.slice g xs ex)=true:=rfl
theorem Ala (cs:List AV) (o:Nat):Dy depth (.ptr cs o)=true:=rfl
theorem Aky (cs:List AV):Dy depth (.agg cs)=cs.all (Dy 7):=rfl
theorem Ahi (k:IntKind) (n:Int):Dy 7 (.int k n)=true:=rfl
theorem Adx (b:Bool):Dy 7 (.bool b)=true:=rfl
theorem Aal (g:Option Nat) (xs:List AV) (ex:Bool):Dy 7 (.slice g xs ex)=true:=rfl
theorem Dm {c:IC} (I:Nat->St->Prop) (N:Nat) (hN:N<1152921504606846976) (h0:I N s)
  (hb:∀M e h,M<=N->I M ⟨e,h⟩->∀P:St->Prop,(∀K s',K<M->I K s'->P s')->G call base Q c (.inv P::ks) ⟨e,h⟩):G call base Q (.loop c) ks s:=by
 have main:∀(n k:Nat) (s:St),n<=N->n<k->I n s->(Do (evC call base c) k s).all (Lr call base Q ks):=by
  intro n
  induction n using Nat.strongRecOn with
  | _ n ih =>
   intro k s hn hk hi
   match k,hk with
   | k+1,hk =>
    simp only [Do,Res.all_bind]
    refine Res.all_mono _ (hb n s.env s.heap hn hi (fun s'=>∃K,K<n/\I K s') fun K s' a b=>⟨K,a,b⟩) ?_
    rintro ⟨x,s'⟩ hp
    cases x with
    | normal =>
     obtain ⟨K,hK,hI⟩:=hp
     exact ih K hK k s' (by omega) (by omega) hI
    | exit id=>exact hp
    | ret=>exact hp
 exact main N Lg s (Nat.le_refl _) hN h0
end
theorem Ls {call:Bf} {base:Nat} {Q:EX×St->Prop} {ks:List Kont} {e:Env} {h:Bc} {c:IC} (hb:∀P:St->Prop,G call base Q c (.inv P::ks) ⟨e,h⟩):G call base Q (.loop c) ks ⟨e,h⟩:=
 Dm (fun M s'=>M=0/\s'=⟨e,h⟩) 0 (by omega) ⟨rfl,rfl⟩ fun M e' h' _ hi P _=>by
  obtain ⟨_,hi⟩:=hi
  cases hi
  exact hb P
def At (e:Env):List (Nat×AV)->Prop
 | []=>True
 | p::r=>Bs e p.1=p.2/\At e r
theorem Dc (e:Env):At e []=True:=rfl
theorem Bz (e:Env) (k:Nat) (v:AV) (r:List (Nat×AV)):At e ((k,v)::r)=(Bs e k=v/\At e r):=rfl
def fz (h:Bc) (as:List AV):Res (List AV):=mapR (Bj h depth) as
def Con (T:Cfg) (k f:Nat) (as:List AV) (r:AV):Prop:=
 ∀(n:Nat) (h:Bc) (as0:List AV) (V:AV×Bc->Prop),k<=n->fz h as0 = .ret as->(as0.all (Dy depth)||En depth r)=true->V (r,h)->(Bg T n false (.fn f) as0 h).all V
def Qs (s:St) (rs:List IRes):Res AV:=(mapR (Fe s) rs).bind fun vs => .ret (Gf vs)
def Fin (rs:List IRes) (V:AV×Bc->Prop) (p:EX×St):Prop:=
 match p.1 with
 | .exit _=>False
 | _=>(Qs p.2 rs).all fun v=>V (v,p.2.heap)
theorem Arh (rs:List IRes) (V:AV×Bc->Prop) (s:St):Fin rs V (.ret,s)=(Qs s rs).all fun v=>V (v,s.heap):=rfl
theorem Adw (rs:List IRes) (V:AV×Bc->Prop) (s:St):Fin rs V (.normal,s)=(Qs s rs).all fun v=>V (v,s.heap):=rfl
theorem Anp (s:St):Qs s [] = .ret (.tuple []):=rfl
theorem Anq (s:St) (t:Nat):Qs s [.tmp t] = .ret (Bs s.env t):=rfl
theorem Anr (s:St) (t u:Nat):Qs s [.tmp t,.tmp u] = .ret (.tuple [Bs s.env t,Bs s.env u]):=rfl
theorem A8i:∀x:Res AV,((x.bind fun b=>(Res.ret ([]:List AV)).bind fun bs => .ret (b::bs)).bind fun vs => .ret (Gf vs))=x
 | .fail=>rfl
 | .ret _=>rfl
 | .choice n k=>by
  simp only [Res.bind]
  congr 1
  funext i
  exact A8i (k i)
theorem Ajj (s:St) (t:Nat) (g:Option Nat):Qs s [.cell t g]=ldA g s.heap (Bs s.env t):=by
 simp only [Qs,mapR]
 rw [A8i]
 simp only [Fe]
 cases Bs s.env t <;> rfl
theorem Afs (s:St) (t u v:Nat):Qs s [.tmp t,.tmp u,.tmp v] = .ret (.tuple [Bs s.env t,Bs s.env u,Bs s.env v]):=rfl
theorem A7p {call:Bf} {c:IFunc} {as:List AV} {h:Bc} {V:AV×Bc->Prop}:(Dw call c as h).all V=G call h.length (Fin c.results V) c.body [] ⟨as,h++List.replicate c.ntmps .none⟩:=by
 simp only [Dw,G,Lr,all_bind]
 congr 1
 funext p
 obtain ⟨x,s⟩:=p
 cases x <;> simp only [Fin,Qs,all_bind,Fj] <;> rfl
theorem Dd {T:Cfg} {k f:Nat} {c:IFunc} {as:List AV} {r:AV} (hc:T.fns f=some c)
  (hq:∀n,k<=n->∀V:AV×Bc->Prop,(∀v h,Bj h 8 v = .ret r->V (v,h))->G (Bg T n) 0 (Fin c.results V) c.body [] ⟨as,List.replicate c.ntmps .none⟩):Con T (k+1) f as r:=by
 intro n h as0 V hn hz hp hV
 obtain ⟨m,rfl⟩:∃m,n=m+1:=⟨n-1,by omega⟩
 simp only [Bg,hc,Bool.false_eq_true,if_false]
 have hz':mapR (Bj h depth) as0 = .ret as:=hz
 rw [hz']
 simp only [Res.bind,Res.all_bind]
 have:=hq m (by omega) (fun p=>Bj p.2 depth p.1 = .ret r) fun v h hv=>hv
 rw [show List.replicate c.ntmps AObj.none=[]++List.replicate c.ntmps .none from rfl,show (0:Nat)=([]:Bc).length from rfl,<-A7p] at this
 refine Res.all_mono _ this ?_
 rintro ⟨v,h'⟩ hv
 simp only at hv
 rw [hv]
 simp only [Res.all,hp,Bool.true_or,if_true,reduceIte]
 exact hV
theorem Ee {T:Cfg} {k f n:Nat} {as as0:List AV} {r:AV} {h:Bc} {base:Nat} {Q:EX×St->Prop} {d:Option Nat} {l:List IOper} {ks:List Kont} {e:Env} (hc:Con T k f as r) (hk:k<=n) (hz:fz h as0 = .ret as) (hp:(as0.all (Dy depth)||En depth r)=true)
  (hV:GO (Bg T n) base Q l ks ⟨Bk e d r,h⟩):GP (Bg T n) base Q d l ks e (Bg T n false (.fn f) as0 h):=hc n h as0 _ hk hz hp hV
theorem wrap64 {x:Int} (h1 : -9223372036854775808<=x) (h2:x<=9223372036854775807):IntKind.i64.wrap x=x:=by
 simp only [IntKind.wrap,IntKind.signed,IntKind.bits]
 simp
 omega
theorem next_none:AObj.none.next=0:=rfl
theorem Aek (v:Nat) (cs:List AV):(AObj.cells v cs).next=v+1:=rfl
theorem Lx {n b:Nat} (h:n*b<=1099511627776):Et n b=true:=by simp [Et,h]
theorem Axe {α:Type} (l:List α):(l.length<=l.length)=True:=eq_true (Nat.le_refl _)
theorem Gy {α:Type} {l:List α} {i:Nat} (h:i<l.length):∃x,l[i]? = some x:=⟨l[i],List.getElem?_eq_getElem h⟩
theorem Hv {α:Type} {l:List α} {i:Nat} {x:α} (h:l[i]? = some x):l.drop i=x::l.drop (i+1):=by
 obtain ⟨hi,rfl⟩:=List.getElem?_eq_some_iff.1 h
 exact List.drop_eq_getElem_cons hi
theorem Art (c p:Prop) [Decidable c]:(if c then p else False)=(c/\p):=by split <;> simp_all
theorem Sx (cs:List AV) (off:Nat) (c:AV):Dk cs off [c]=cs.set off c:=rfl
theorem A3g {α β:Type} (f:α->β) (l:List α) (i:Nat) (a:α):(l.map f).set i (f a)=(l.set i a).map f:=List.map_set.symm
theorem A7s {α β:Type} (f:α->Res β) (g:α->β):∀l:List α,(∀x∈l,f x = .ret (g x))->mapR f l = .ret (l.map g)
 | [],_=>rfl
 | a::r,h=>by
  simp only [mapR,h a List.mem_cons_self,A7s f g r fun x hx=>h x (List.mem_cons_of_mem _ hx)]
  rfl
theorem Mf (h:Bc) (n:Nat) (k:IntKind) (l:List Int):mapR (Bj h (n+1)) (l.map (.int k)) = .ret (l.map (.int k)):=by
 rw [A7s (Bj h (n+1)) id _ fun x hx => ?_,List.map_id]
 obtain ⟨a,_,rfl⟩:=List.mem_map.1 hx
 rfl
theorem A2h {h:Bc} {key ver len:Nat} {cap:Option Nat} {k:IntKind} {l:List Int} {n:Nat} (hH:Bb h key = .cells ver (l.map (.int k))) (hl:len=l.length):Bj h (n+2) (.oslice key ver none 0 len cap) = .ret (.slice none (l.map (.int k)) false):=by
 subst hl
 have e:((l.map (AV.int k)).drop 0).take (l.length*Be none)=l.map (.int k):=by rw [List.drop_zero,List.take_of_length_le (by simp [Be])]
 rw [Bj]
 simp only [hH]
 rw [if_pos ⟨trivial,by simp [Be]⟩,e,Mf]
 rfl
theorem Bq (h:Bc) (n:Nat) (k:IntKind) (v:Int):Bj h (n+1) (.int k v) = .ret (.int k v):=rfl
theorem Ea (h:Bc) (n:Nat) (b:Bool):Bj h (n+1) (.bool b) = .ret (.bool b):=rfl
theorem Dv (h:Bc) (n:Nat) (g:Option Nat) (xs:List AV) (ex:Bool):Bj h (n+1) (.slice g xs ex) = .ret (.slice g xs false):=rfl
theorem Eq (h:Bc) (n:Nat) (cs:List AV) (off:Nat):Bj h (n+1) (.ptr cs off) = .ret (.ptr cs off):=rfl
theorem Ey {h:Bc} {n:Nat} {a b a' b':AV} (ha:Bj h n a = .ret a') (hb:Bj h n b = .ret b'):Bj h (n+1) (.tuple [a,b]) = .ret (.tuple [a',b']):=by
 rw [Bj]
 simp only [mapR,ha,hb]
 rfl
theorem Fg {h:Bc} {n:Nat} {a b c a' b' c':AV} (ha:Bj h n a = .ret a') (hb:Bj h n b = .ret b') (hc:Bj h n c = .ret c'):Bj h (n+1) (.tuple [a,b,c]) = .ret (.tuple [a',b',c']):=by
 rw [Bj]
 simp only [mapR,ha,hb,hc]
 rfl
theorem Dt (h:Bc):fz h [] = .ret []:=rfl
theorem Dj {h:Bc} {a b:AV} {as bs:List AV} (ha:Bj h 8 a = .ret b) (hs:fz h as = .ret bs):fz h (a::as) = .ret (b::bs):=by
 unfold fz at hs ⊢
 simp only [mapR,depth] at hs ⊢
 rw [ha,hs]
 rfl
theorem Fw (h:Bc) (k:IntKind) (v:Int) {as bs:List AV} (hs:fz h as = .ret bs):fz h (.int k v::as) = .ret (.int k v::bs):=Dj rfl hs
theorem Fi (h:Bc) (g:Option Nat) (xs:List AV) (ex:Bool) {as bs:List AV} (hs:fz h as = .ret bs):fz h (.slice g xs ex::as) = .ret (.slice g xs false::bs):=Dj rfl hs
theorem Hb {T:Cfg} {k f n:Nat} {as as0:List AV} {r:AV} {h:Bc} {base:Nat} {Q:EX×St->Prop} {d:Option Nat} {l:List IOper} {ks:List Kont} {e:Env} (hc:Con T k f as r) (hk:k<=n) (hz:fz h as0 = .ret as) (hp:(as0.all (Dy depth)||En depth r)=true) :
  GP (Bg T n) base Q d l ks e (Bg T n false (.fn f) as0 h)=GO (Bg T n) base Q l ks ⟨Bk e d r,h⟩:=by
 have h1:=hc n h as0 (fun p=>p=(r,h)) hk hz hp rfl
 refine propext ⟨fun hg => ?_,fun hg=>Ee hc hk hz hp hg⟩
 obtain ⟨p,h2,h3⟩:=Res.all_some _ (Res.all_and _ h1 hg)
 subst h2
 exact h3
def Aju (T:Cfg) (k f:Nat) (as:List AV) (r:AV):Prop:=
 ∀(n:Nat) (h:Bc) (as0:List AV) (V:AV×Bc->Prop),k<=n->fz h as0 = .ret as->V (r,h)->(Bg T n false (.fn f) as0 h).all V
theorem A0g {T:Cfg} {k f:Nat} {c:IFunc} {as:List AV} {r:AV} (hc:T.fns f=some c)
  (hq:∀n,k<=n->∀V:AV×Bc->Prop,(∀v h,Bj h 8 v = .ret r->Er h 8 v=true->V (v,h))->G (Bg T n) 0 (Fin c.results V) c.body [] ⟨as,List.replicate c.ntmps .none⟩):Aju T (k+1) f as r:=by
 intro n h as0 V hn hz hV
 obtain ⟨m,rfl⟩:∃m,n=m+1:=⟨n-1,by omega⟩
 simp only [Bg,hc,Bool.false_eq_true,if_false]
 have hz':mapR (Bj h depth) as0 = .ret as:=hz
 rw [hz']
 simp only [Res.bind,Res.all_bind]
 have:=hq m (by omega) (fun p=>Bj p.2 depth p.1 = .ret r/\Er p.2 depth p.1=true) fun v h hv hw=>⟨hv,hw⟩
 rw [show List.replicate c.ntmps AObj.none=[]++List.replicate c.ntmps .none from rfl,show (0:Nat)=([]:Bc).length from rfl,<-A7p] at this
 refine Res.all_mono _ this ?_
 rintro ⟨v,h'⟩ ⟨hv,hw⟩
 simp only at hv hw
 rw [hv]
 simp only [Res.all,hw,Bool.or_true,if_true,reduceIte]
 exact hV
theorem A2k {T:Cfg} {k f n:Nat} {as as0:List AV} {r:AV} {h:Bc} {base:Nat} {Q:EX×St->Prop} {d:Option Nat} {l:List IOper} {ks:List Kont} {e:Env} (hc:Aju T k f as r) (hk:k<=n) (hz:fz h as0 = .ret as)
  (hV:GO (Bg T n) base Q l ks ⟨Bk e d r,h⟩):GP (Bg T n) base Q d l ks e (Bg T n false (.fn f) as0 h):=hc n h as0 _ hk hz hV
theorem Ahl (h:Bc) (n:Nat) (g:Option Nat) (ex:Bool):Er h (n+1) (.slice g [] ex)=true:=rfl
theorem Ahm {h:Bc} {key ver off len:Nat} {cap:Option Nat} {k:IntKind} {l:List Int} {n:Nat} (hH:Bb h key = .cells ver (l.map (.int k))):Er h (n+2) (.oslice key ver none off len cap)=true:=by
 simp only [Er,hH]
 rw [List.all_map]
 exact List.all_eq_true.2 fun _ _=>rfl
def Raw (T:Cfg) (k f:Nat) (as:List AV) (P:Bc->AV->Bc->Prop):Prop:=
 ∀(n:Nat) (h:Bc) (V:AV×Bc->Prop),k<=n->(∀v h',P h v h'->V (v,h'))->(Bg T n true (.fn f) as h).all V
theorem Qd {T:Cfg} {k f:Nat} {c:IFunc} {as:List AV} {P:Bc->AV->Bc->Prop} (hc:T.fns f=some c)
  (hq:∀n,k<=n->∀(h:Bc) (V:AV×Bc->Prop),(∀v h',P h v h'->V (v,h'))->G (Bg T n) h.length (Fin c.results V) c.body [] ⟨as,h++List.replicate c.ntmps .none⟩):Raw T (k+1) f as P:=by
 intro n h V hn hV
 obtain ⟨m,rfl⟩:∃m,n=m+1:=⟨n-1,by omega⟩
 simp only [Bg,hc,if_true,reduceIte]
 rw [A7p]
 exact hq m (by omega) h V hV
theorem Ew {T:Cfg} {f n:Nat} {c:IFunc} {as:List AV} {h:Bc} {V:AV×Bc->Prop} (hc:T.fns f=some c):(Bg T (n+1) true (.fn f) as h).all V=G (Bg T n) h.length (Fin c.results V) c.body [] ⟨as,h++List.replicate c.ntmps .none⟩:=by
 simp only [Bg,hc,if_true,reduceIte]
 rw [A7p]
theorem Gi {call:Bf} {base:Nat} {Q:EX×St->Prop} {d:Option Nat} {l:List IOper} {ks:List Kont} {e:Env} {r:Res (AV×Bc)} (h:r.all fun p=>GO call base Q l ks ⟨Bk e d p.1,p.2⟩):GP call base Q d l ks e r:=h
theorem A1d {T:Cfg} {k f n:Nat} {as:List AV} {P:Bc->AV->Bc->Prop} {h:Bc} {base:Nat} {Q:EX×St->Prop} {d:Option Nat} {l:List IOper} {ks:List Kont} {e:Env} (hc:Raw T k f as P) (hk:k<=n)
  (hV:∀v h',P h v h'->GO (Bg T n) base Q l ks ⟨Bk e d v,h'⟩):GP (Bg T n) base Q d l ks e (Bg T n true (.fn f) as h):=hc n h _ hk hV
theorem Ge {h:Bc} {k ver off n:Nat} {cs cs':List AV} (hH:Bb h k = .cells ver cs) (hcs:mapR (Bj h n) cs = .ret cs'):Bj h (n+1) (.optr k ver off) = .ret (.ptr cs' off):=by
 rw [Bj]
 simp only [hH]
 rw [if_pos trivial,hcs]
 rfl
theorem Nk {h:Bc} {f n:Nat} {a b a' b':List AV} (ha:mapR (Bj h n) a = .ret a') (hb:mapR (Bj h n) b = .ret b'):Bj h (n+1) (.clo f a b) = .ret (.clo f a' b'):=by
 rw [Bj]
 simp only [ha,hb]
 rfl
theorem Dp (h:Bc) (n:Nat):mapR (Bj h n) [] = .ret []:=rfl
theorem Db {h:Bc} {n:Nat} {a b:AV} {as bs:List AV} (ha:Bj h n a = .ret b) (hs:mapR (Bj h n) as = .ret bs):mapR (Bj h n) (a::as) = .ret (b::bs):=by
 simp only [mapR,ha,hs]
 rfl
theorem Agr (cs:List AV):AV.cells (.agg cs)=cs:=rfl
theorem Agt (k:IntKind) (n:Int):AV.cells (.int k n)=[.int k n]:=rfl
theorem Adh (b:Bool):AV.cells (.bool b)=[.bool b]:=rfl
theorem A9y (g:Option Nat) (xs:List AV) (ex:Bool):AV.cells (.slice g xs ex)=[.slice g xs ex]:=rfl
theorem A6h (a b:Nat) (g:Option Nat) (c d:Nat) (f:Option Nat):AV.cells (.oslice a b g c d f)=[.oslice a b g c d f]:=rfl
theorem Agu (cs:List AV) (o:Nat):AV.cells (.ptr cs o)=[.ptr cs o]:=rfl
theorem Adk (a b c:Nat):AV.cells (.optr a b c)=[.optr a b c]:=rfl
theorem A6g:AV.cells .nilptr=[.nilptr]:=rfl
theorem Adj (a b:Nat):AV.cells (.omap a b)=[.omap a b]:=rfl
theorem Adi (a b:List AV):AV.cells (.fmap a b)=[.fmap a b]:=rfl
theorem Ags (f:FuncId) (a b:List AV):AV.cells (.clo f a b)=[.clo f a b]:=rfl
theorem Aub (k:IntKind) (n:Int):oneB (.int k n)=true:=rfl
theorem Amu (b:Bool):oneB (.bool b)=true:=rfl
theorem Aiz (g:Option Nat) (xs:List AV) (ex:Bool):oneB (.slice g xs ex)=true:=rfl
theorem Aev (a b:Nat) (g:Option Nat) (c d:Nat) (f:Option Nat):oneB (.oslice a b g c d f)=true:=rfl
theorem Auc (cs:List AV) (o:Nat):oneB (.ptr cs o)=true:=rfl
theorem Amx (a b c:Nat):oneB (.optr a b c)=true:=rfl
theorem Aeu:oneB .nilptr=true:=rfl
theorem Amw (a b:Nat):oneB (.omap a b)=true:=rfl
theorem Amv (a b:List AV):oneB (.fmap a b)=true:=rfl
theorem Aua (f:FuncId) (a b:List AV):oneB (.clo f a b)=true:=rfl
theorem Asy (k:IntKind) (n:Int):Gz (.int k n)=true:=rfl
theorem Alz (b:Bool):Gz (.bool b)=true:=rfl
def Own (lo:Nat) (h:Bc) (v:AV) (k:IntKind) (l:List Int):Prop:=
 (l=[]/\v = .slice none [] true)\/∃key ver,lo<=key/\v = .oslice key ver none 0 l.length none/\Bb h key = .cells ver (l.map (.int k))
def Fn:AV->Option Nat
 | .oslice key ..=>some key
 | _=>none
theorem Fm {h:Bc} {k:Nat} {o:AObj} (hk:Bb h k=o) (ho:o ≠ .none):k<h.length:=by
 apply Nat.lt_of_not_le
 intro hle
 exact ho (hk ▸ Eh h k hle)
theorem Il (lo:Nat) (h:Bc) (k:IntKind):Own lo h (.slice none [] true) k []:=.inl ⟨rfl,rfl⟩
theorem Xu {lo:Nat} {h:Bc} {v:AV} {k:IntKind} {l:List Int} {n:Nat} (ho:Own lo h v k l):Bj h (n+2) v = .ret (.slice none (l.map (.int k)) false):=by
 rcases ho with ⟨rfl,rfl⟩ | ⟨key,ver,_,rfl,hH⟩
 ·rfl
 ·exact A2h hH rfl
theorem Ahk {lo:Nat} {h:Bc} {v:AV} {k:IntKind} {l:List Int} {n:Nat} (ho:Own lo h v k l):Er h (n+2) v=true:=by
 rcases ho with ⟨rfl,rfl⟩ | ⟨key,ver,_,rfl,hH⟩
 ·rfl
 ·exact Ahm hH
theorem Own.other {lo:Nat} {h h':Bc} {v:AV} {k:IntKind} {l:List Int} (ho:Own lo h v k l) (hf:∀j,Fn v=some j->Bb h' j=Bb h j):Own lo h' v k l:=by
 rcases ho with ⟨rfl,rfl⟩ | ⟨key,ver,hk,rfl,hH⟩
 ·exact Il ..
 ·exact .inr ⟨key,ver,hk,rfl,by rw [hf key rfl,hH]⟩
theorem Own.setH {lo:Nat} {h:Bc} {v:AV} {k:IntKind} {l:List Int} {j:Nat} {o:AObj} (ho:Own lo h v k l) (hj:j<lo):Own lo (setH h j o) v k l:=by
 rcases ho with ⟨rfl,rfl⟩ | ⟨key,ver,hk,rfl,hH⟩
 ·exact Il ..
 ·exact .inr ⟨key,ver,hk,rfl,by rw [Ba _ _ _ _ (by omega),hH]⟩
theorem Own.cells {lo:Nat} {h:Bc} {v:AV} {k:IntKind} {l:List Int} (ho:Own lo h v k l):v.cells=[v]:=by
 rcases ho with ⟨_,rfl⟩ | ⟨_,_,_,rfl,_⟩ <;> rfl
theorem Own.oneB {lo:Nat} {h:Bc} {v:AV} {k:IntKind} {l:List Int} (ho:Own lo h v k l):oneB v=true:=by
 rcases ho with ⟨_,rfl⟩ | ⟨_,_,_,rfl,_⟩ <;> rfl
theorem Own.lenA {lo:Nat} {h:Bc} {v:AV} {k:IntKind} {l:List Int} (ho:Own lo h v k l):lenA v=some l.length:=by
 rcases ho with ⟨rfl,rfl⟩ | ⟨_,_,_,rfl,_⟩ <;> rfl
theorem Wk {call:Bf} {base:Nat} {Q:EX×St->Prop} {d:Option Nat} {L:List IOper} {ks:List Kont} {e:Env} {h:Bc} {lo b m kk:Nat} {x y:AV} {k:IntKind} {l l2:List Int} (hkk:kk=h.length) (hx:Own lo h x k l) (hlo:lo<=h.length) (hy:De h y=some (none,m,l2.map (.int k))) (hm:m=l2.length) (hm0:0<m) (hr:(l.length+m)*b<=1099511627776)
  (H:∀x' h',Own lo h' x' k (l++l2)->(∀j,j<lo->Bb h' j=Bb h j)->h.length<=h'.length->(∀j,j<h.length->Fn x≠some j->Bb h' j=Bb h j)->(∀j,Fn x'=some j->Fn x=some j\/j=h.length)->GO call base Q L ks ⟨Bk e d x',h'⟩) :
  GP call base Q d L ks e (Dh kk none b x y h):=by
 subst hm
 subst hkk
 have hroom:=Lx hr
 rcases hx with ⟨rfl,rfl⟩ | ⟨key,ver,hk,rfl,hH⟩
 ·have:Dh h.length none b (.slice none [] true) y h = .ret (.oslice h.length (Bb h h.length).next none 0 l2.length none,setH h h.length (.cells (Bb h h.length).next (l2.map (.int k)))):=by
   have h1:¬l2.length=0:=by omega
   rw [List.length_nil,Nat.zero_add] at hroom
   simp only [Dh,hy,List.length_nil,hroom,ne_eq,not_true_eq_false,if_false,Bool.true_eq_false,or_self,h1,Nat.zero_add,Ek,List.nil_append]
  rw [this,Iy]
  refine H _ _ (.inr ⟨h.length,_,hlo,rfl,by simp⟩) (fun j hj=>Ba _ _ _ _ (by omega)) (by rw [Bh]; omega) (fun j hj _=>Ba _ _ _ _ (by omega)) (fun j hj => .inr (by simpa [Fn] using hj.symm))
 ·have hlt:=Fm hH (by simp)
  have:Dh h.length none b (.oslice key ver none 0 l.length none) y h = .ret (.oslice key (ver+1) none 0 (l.length+l2.length) none,setH h key (.cells (ver+1) ((l++l2).map (.int k)))):=by
   have h1:¬l2.length=0:=by omega
   have h2:¬l.length+l2.length<=l.length:=by omega
   simp only [Dh,hy,hH,hroom,Be,List.length_map,ne_eq,not_true_eq_false,if_false,or_self,h1,Nat.zero_add,Nat.mul_one,Nat.lt_irrefl,h2,and_self,if_true,List.map_append]
  rw [this,Iy,<-List.length_append]
  refine H _ _ (.inr ⟨key,_,hk,rfl,by simp⟩) (fun j hj=>Ba _ _ _ _ (by omega)) (by rw [Bh]; omega) (fun j hj hne=>Ba _ _ _ _ (fun h=>hne (by rw [h]; rfl))) (fun j hj => .inl (by simpa [Fn] using hj))
theorem Gq {call:Bf} {base:Nat} {Q:EX×St->Prop} {d:Option Nat} {L:List IOper} {ks:List Kont} {e:Env} {h:Bc} {lo b kk:Nat} {x:AV} {k:IntKind} {l:List Int} {a:Int} {ex:Bool} (hkk:kk=h.length) (hx:Own lo h x k l) (hlo:lo<=h.length) (hr:(l.length+1)*b<=1099511627776)
  (H:∀x' h',Own lo h' x' k (l++[a])->(∀j,j<lo->Bb h' j=Bb h j)->h.length<=h'.length->(∀j,j<h.length->Fn x≠some j->Bb h' j=Bb h j)->(∀j,Fn x'=some j->Fn x=some j\/j=h.length)->GO call base Q L ks ⟨Bk e d x',h'⟩) :
  GP call base Q d L ks e (Dh kk none b x (.slice none [.int k a] ex) h):=
 Wk (l2:=[a]) hkk hx hlo rfl rfl Nat.one_pos hr H
def OwnG (lo:Nat) (h:Bc) (v:AV) (g:Option Nat) (n:Nat) (cs:List AV):Prop:=
 (n=0/\cs=[]/\v = .slice g [] true)\/∃key ver,lo<=key/\v = .oslice key ver g 0 n none/\Bb h key = .cells ver cs/\cs.length=n*Be g
theorem Amz (lo:Nat) (h:Bc) (g:Option Nat):OwnG lo h (.slice g [] true) g 0 []:=.inl ⟨rfl,rfl,rfl⟩
theorem OwnG.setH {lo:Nat} {h:Bc} {v:AV} {g:Option Nat} {n:Nat} {cs:List AV} {j:Nat} {o:AObj} (ho:OwnG lo h v g n cs) (hj:j<lo):OwnG lo (setH h j o) v g n cs:=by
 rcases ho with h1 | ⟨key,ver,hk,h1,hH,h2⟩
 ·exact .inl h1
 ·exact .inr ⟨key,ver,hk,h1,by rw [Ba _ _ _ _ (by omega),hH],h2⟩
theorem OwnG.other {lo:Nat} {h h':Bc} {v:AV} {g:Option Nat} {n:Nat} {cs:List AV} (ho:OwnG lo h v g n cs) (hf:∀j,Fn v=some j->Bb h' j=Bb h j):OwnG lo h' v g n cs:=by
 rcases ho with h1 | ⟨key,ver,hk,rfl,hH,h2⟩
 ·exact .inl h1
 ·exact .inr ⟨key,ver,hk,rfl,by rw [hf key rfl,hH],h2⟩
theorem Alc {lo:Nat} {h:Bc} {v:AV} {n m:Nat} {g:Nat} {cs:List AV} (ho:OwnG lo h v (some g) n cs) (hcs:mapR (Bj h m) cs = .ret cs):Bj h (m+1) v = .ret (.slice (some g) (Ej (some g) n cs) false):=by
 rcases ho with ⟨rfl,rfl,rfl⟩ | ⟨key,ver,_,rfl,hH,h2⟩
 ·rfl
 ·have e:(cs.drop 0).take (n*Be (some g))=cs:=by rw [List.drop_zero,List.take_of_length_le (by omega)]
  rw [Bj]
  simp only [hH]
  rw [if_pos ⟨trivial,by omega⟩,e,hcs]
  rfl
theorem Aeb {call:Bf} {base:Nat} {Q:EX×St->Prop} {d:Option Nat} {L:List IOper} {ks:List Kont} {e:Env} {h:Bc} {lo b m n kk:Nat} {g:Option Nat} {x y:AV} {cs c2:List AV} (hkk:kk=h.length) (hx:OwnG lo h x g n cs) (hg:0<Be g) (hlo:lo<=h.length) (hy:De h y=some (g,m,c2)) (hm:c2.length=m*Be g) (hm0:0<m) (hr:(n+m)*b<=1099511627776)
  (H:∀x' h',OwnG lo h' x' g (n+m) (cs++c2)->(∀j,j<lo->Bb h' j=Bb h j)->h.length<=h'.length->(∀j,j<h.length->Fn x≠some j->Bb h' j=Bb h j)->(∀j,Fn x'=some j->Fn x=some j\/j=h.length)->GO call base Q L ks ⟨Bk e d x',h'⟩) :
  GP call base Q d L ks e (Dh kk g b x y h):=by
 subst hkk
 have hroom:=Lx hr
 rcases hx with ⟨rfl,rfl,rfl⟩ | ⟨key,ver,hk,rfl,hH,hcl⟩
 ·have:Dh h.length g b (.slice g [] true) y h = .ret (.oslice h.length (Bb h h.length).next g 0 m none,setH h h.length (.cells (Bb h h.length).next c2)):=by
   have h1:¬m=0:=by omega
   have hf:Ek g []=[]:=by cases g <;> rfl
   rw [Nat.zero_add] at hroom
   simp only [Dh,hy,List.length_nil,hroom,ne_eq,not_true_eq_false,if_false,Bool.true_eq_false,or_self,h1,Nat.zero_add,hf,List.nil_append]
  rw [this,Iy]
  rw [Nat.zero_add] at H
  refine H _ _ (.inr ⟨h.length,_,hlo,rfl,by simp,hm⟩) (fun j hj=>Ba _ _ _ _ (by omega)) (by rw [Bh]; omega) (fun j hj _=>Ba _ _ _ _ (by omega)) (fun j hj => .inr (by simpa [Fn] using hj.symm))
 ·have hlt:=Fm hH (by simp)
  have:Dh h.length g b (.oslice key ver g 0 n none) y h = .ret (.oslice key (ver+1) g 0 (n+m) none,setH h key (.cells (ver+1) (cs++c2))):=by
   have h1:¬m=0:=by omega
   have h2:¬(n+m)*Be g<=cs.length:=by
    rw [hcl,Nat.add_mul]
    have:0<m*Be g:=Nat.mul_pos hm0 hg
    omega
   have h3:¬cs.length<n*Be g:=by omega
   simp only [Dh,hy,hH,hroom,ne_eq,not_true_eq_false,if_false,or_self,h1,Nat.zero_add,h2,h3,hcl,Nat.lt_irrefl,and_self,if_true]
   rw [hcl] at h2
   rw [if_neg h2]
  rw [this,Iy]
  refine H _ _ (.inr ⟨key,_,hk,rfl,by simp,by rw [List.length_append,hcl,hm,Nat.add_mul]⟩) (fun j hj=>Ba _ _ _ _ (by omega)) (by rw [Bh]; omega) (fun j hj hne=>Ba _ _ _ _ (fun h=>hne (by rw [h]; rfl))) (fun j hj => .inl (by simpa [Fn] using hj))
def slF (g:Option Nat) (xs:List AV) (ex:Bool):AV->Res AV
 | .int _ n=>if 0<=n/\n<=xs.length then .ret (.slice g (xs.drop n.toNat) ex) else .fail
 | _ => .fail
theorem Aob (g:Option Nat) (e:Env) (lo:IX) (xs:List AV) (ex:Bool):slA g e (some lo) none none (.slice g xs ex)=slF g xs ex (lo.ev e):=by
 simp only [slA,sliceB,ne_eq,not_true_eq_false,if_false,Res.bind]
 cases lo.ev e with
 | int k n =>
  simp only [Gd,slF]
  split
  ·simp [Res.bind]
  ·rfl
 | _=>rfl
def slT (g:Option Nat) (xs:List AV) (ex:Bool):AV->Res AV
 | .int _ n=>if 0<=n/\n<=xs.length then .ret (.slice g (xs.take n.toNat) (ex&&(n.toNat==xs.length))) else .fail
 | _ => .fail
theorem B0d (g:Option Nat) (e:Env) (hi:IX) (xs:List AV) (ex:Bool):slA g e none (some hi) none (.slice g xs ex)=slT g xs ex (hi.ev e):=by
 simp only [slA,sliceB,ne_eq,not_true_eq_false,if_false,Res.bind]
 cases hi.ev e with
 | int k n =>
  simp only [Gd,slT,Option.getD_some]
  split
  ·simp [Res.bind]
  ·rfl
 | _=>rfl
theorem Adf (k:IntKind) (n:Nat):Df (.int k ((n:Int)+1))=some (n+1):=A3o k (n+1)
theorem Aqq (k:IntKind):Df (.int k 0)=some 0:=rfl
theorem Aqr (k:IntKind):Df (.int k 1)=some 1:=rfl
theorem Aqs (k:IntKind):Df (.int k 2)=some 2:=rfl
theorem Kb (a b:Bool):(a||En depth (.bool b))=true:=by cases a <;> rfl
theorem Gt (a:Bool) (k:IntKind) (v:Int):(a||En depth (.int k v))=true:=by cases a <;> rfl
def Kj {α:Type} (p:α->Bool):List α->Int->Int
 | [],_ => -1
 | x::r,i=>if p x then i else Kj p r (i+1)
theorem Sg {α:Type} (p:α->Bool):∀(l:List α) (i:Int),0<=i->decide (Kj p l i>=0)=l.any p
 | [],_,_=>rfl
 | x::r,i,hi=>by
  unfold Kj
  rw [List.any_cons]
  split
  ·next h=>simp [h,hi]
  ·next h=>rw [Sg p r (i+1) (by omega)]; simp [h]
theorem Ast (k:IntKind) (a b:Int):Mh k a [.int k b] = .ret (.int k (if b>a then b else a)):=by simp [Mh]
theorem Asu (k:IntKind) (a b:Int):Mi k a [.int k b] = .ret (.int k (if b<a then b else a)):=by simp [Mi]
theorem Ahx (sz:Nat) (g:Option Nat) (xs:List AV) (ex:Bool) (j:Nat):ixA sz (.slice g xs ex) j=if Be g=sz then (match xs[j]? with | some v => .ret (.ptr v.cells 0) | none => .fail) else .fail:=rfl
theorem Aed (sz k ver off len j:Nat) (g:Option Nat) (c:Option Nat):ixA sz (.oslice k ver g off len c) j=if Be g=sz/\j<len then .ret (.optr k ver (off+j*sz)) else .fail:=rfl
theorem Arw (g:Option Nat) (h:Bc) (cs:List AV) (off:Nat):ldA g h (.ptr cs off)=rd g cs off:=rfl
theorem All (g:Option Nat) (h:Bc) (k ver off:Nat):ldA g h (.optr k ver off)=(match Bb h k with | .cells v cs=>if v=ver then rd g cs off else .fail | _ => .fail):=rfl
theorem Alj (n sz o j:Nat) (cs:List AV):A7d n sz (.ptr cs o) j=if j<n then .ret (.ptr cs (o+j*sz)) else .fail:=rfl
theorem Ahw (n sz k ver o j:Nat):A7d n sz (.optr k ver o) j=if j<n then .ret (.optr k ver (o+j*sz)) else .fail:=rfl
attribute [go_sem] Asn
 Ase
 Alu
 Arx
 Alm
 Aoa
 Ajn
 Anx
 Ajl
 Akz
 Ahj
 Ady
 Ala
 Aky
 Ahi
 Adx
 Aal
 A1i
 Asa
 Axo
 Axk
 B2e
 A5t
 Axh
 B2d
 Aos
 Azs
 Azt
 B7w
 Azo
 Azp
 B7x
 Azq
 Azr
 B7y
 Axb
 Arq
 Arr
 Axa
 Iy
 Aro
 Awy
 Awx
 Aww
 Asj
 C5c
 B1x
 C5d
 Aat
 Axm
 Aas
 Aej
 B2a
 Aci
 Axi
 Aie
 Axn
 Alr
 Asd
 Arz
 B1y
 Asb
 Asi
 Ask
 Aif
 Asl Asm Alt Aid Aei Asc Aeg A7o
 Aln
 Axg
 B2b
 B2c
 A7n
 A5d
 Asr
 A7q
 Axj
 Asf
 Ash
 B1z
 Alj
 Ahw
 Axd
 Alk
 Akm
 Akl
 B1g
 B1o
 B1m
 B1h
 B1n
 B1l
 B1k
 B1j
 B1i
 B8f
 B8e
 Oz
 A4h
 A3o
 Adf
 Aqq
 Aqr
 Aqs
 Lp
 next_none
 Aek
 List.length_replicate
 Bh
 Axe
 Lx
 wrap64
 Ast
 Asu
 Nat.max_eq_left
 Dc
 Bz
 and_true
 true_and
 List.map_cons
 List.map_nil
 List.all_cons
 List.all_nil
 List.length_map
 List.length_nil
 List.length_cons
 Bool.and_true
 Bool.true_and
 decide_true
 decide_false
 Bool.false_eq_true
 Bool.true_eq_false
 Bool.not_true
 Bool.not_false
 Aub
 Amu
 Aiz
 Aev
 Auc
 Amx
 Aeu
 Amw
 Amv
 Aua
 Asy
 Alz
 Agr
 Agt
 Adh
 A9y
 A6h
 Agu
 Adk
 A6g
 Adj
 Adi
 Ags
 Be
 Ahx
 Aed
 Arw
 All
 rd
 List.getElem?_map
 Option.map_some
 Option.map_none
 List.getElem?_cons_zero
 List.getElem?_cons_succ
 List.nil_append
 List.append_nil
 List.cons_append
 List.length_append
 Nat.add_left_cancel_iff
 Nat.add_assoc
 Eg
 Nat.div_one
 Ej
 Bs
 Int.ofNat_lt
 Option.getD_some
 Option.getD_none
 Art
 Aef
 Aaq
 Aob
 slF
 B0d
 slT
 Arh
 Adw
 Anp
 Ajj
 Anq
 Anr
 Afs
 Fj
 Dk
 A3g
 List.take_succ_cons
 List.take_zero
 List.take_nil
 List.drop_zero
 List.drop_nil
 List.drop_succ_cons
 List.set_cons_zero
 List.set_cons_succ
 eq_self
 List.all_nil
 Nat.mul_one
 Nat.zero_add
 Nat.add_zero
 Int.natCast_add
 Int.cast_ofNat_Int
 Int.natCast_zero
 Int.zero_add
attribute [go_sem] Nat.reduceEqDiff Nat.reduceAdd Nat.reduceMul reduceCtorEq Nat.reduceDiv Nat.reduceLeDiff Nat.reduceLT Nat.reduceSub reduceIte
end Go.Ev
