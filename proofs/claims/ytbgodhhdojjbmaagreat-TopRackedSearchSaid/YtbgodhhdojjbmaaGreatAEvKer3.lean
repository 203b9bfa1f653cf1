/- Walking over maps: rules for each operation, and for a range over a map. The evaluator knows more with more depth; a function at one input, its calls by value answered by a list, its other calls reckoned. Calls by value are answered by a list where it has them, otherwise reckoned; code taken from the program as it is. Remainders, bits and conversions of small numbers; parts of slices that grow. No condition but those that stand in each. -/
import Derived.Test.YtbgodhhdojjbmaaGreatAEvMach
set_option linter.unusedSimpArgs false
set_option linter.unusedVariables false
namespace Go.Ev
open Go
section
variable {call:Bf} {base:Nat} {Q:EX×St->Prop} {ks:List Kont} {e:Env} {h:Bc} {l:List IOper} {d:Option Nat}
theorem Aso:GO call base Q (⟨d,.mkMap,none⟩::l) ks ⟨e,h⟩=GO call base Q l ks ⟨Bk e d (.omap h.length (Bb h h.length).next),setH h h.length (.map (Bb h h.length).next 0 [] [] [])⟩:=by
 rw [Ds]; rfl
def lkA (kn:Option Nat) (zero:AV) (ok:Bool) (k:AV):Option (List AV×List AV)->Res AV
 | some (ks,vs) =>
  if Ei kn k then
   match Du kn k ks 0 with
   | none => .fail
   | some none => .ret (if ok then .tuple [zero,.bool false] else zero)
   | some (some i)=>match vs[i]? with
    | some v => .ret (if ok then .tuple [v,.bool true] else v)
    | none => .fail
  else .fail
 | none => .fail
theorem Alq (kn:Option Nat) (zero:AV) (ok:Bool) (x k:IX):GO call base Q (⟨d,.lookup kn zero ok x k,none⟩::l) ks ⟨e,h⟩=GV call base Q d l ks e h (lkA kn zero ok (k.ev e) (Gb h (x.ev e))):=by
 rw [Ds]
 simp only [Bd,GV]
 cases Gb h (x.ev e) with
 | none=>rfl
 | some p =>
  obtain ⟨a,b⟩:=p
  simp only [lkA]
  split
  ·cases Du kn (k.ev e) a 0 with
   | none=>rfl
   | some q =>
    cases q with
    | none=>rfl
    | some i=>simp only; cases b[i]? <;> rfl
  ·rfl
def muA (kn:Option Nat) (h:Bc) (k v:AV):AV->Res (AV×Bc)
 | .omap key ver =>
  match Bb h key with
  | .map u clock ks vs bs =>
   if u=ver/\Ei kn k then
    match Du kn k ks 0 with
    | none => .fail
    | some none => .ret (.undef,setH h key (.map u (clock+1) (ks++[k]) (vs++[v]) (bs++[clock])))
    | some (some i) => .ret (.undef,setH h key (.map u clock (ks.set i k) (vs.set i v) bs))
   else .fail
  | _ => .fail
 | _ => .fail
theorem Aau (kn:Option Nat) (x k v:IX):GO call base Q (⟨d,.mapUpdate kn x k v,none⟩::l) ks ⟨e,h⟩=GP call base Q d l ks e (muA kn h (k.ev e) (v.ev e) (x.ev e)):=by
 rw [Ds]; rfl
def dlA (kn:Option Nat) (h:Bc) (k:AV):AV->Res (AV×Bc)
 | .omap key ver =>
  match Bb h key with
  | .map u clock ks vs bs =>
   if u=ver/\Ei kn k then
    match Du kn k ks 0 with
    | none => .fail
    | some none => .ret (.undef,h)
    | some (some i) => .ret (.undef,setH h key (.map u clock (ks.eraseIdx i) (vs.eraseIdx i) (bs.eraseIdx i)))
   else .fail
  | _ => .fail
 | _ => .fail
theorem Alp (kn:Option Nat) (x k:IX):GO call base Q (⟨d,.delete kn x k,none⟩::l) ks ⟨e,h⟩=GP call base Q d l ks e (dlA kn h (k.ev e) (x.ev e)):=by
 rw [Ds]; rfl
theorem Axl (x:IX):GO call base Q (⟨d,.lenM x,none⟩::l) ks ⟨e,h⟩=(match Gb h (x.ev e) with | some p=>GO call base Q l ks ⟨Bk e d (.int .i64 p.1.length),h⟩ | none=>False):=by
 rw [Ds]
 simp only [Bd]
 cases Gb h (x.ev e) <;> rfl
def rgA (h:Bc):AV->Res (AV×Bc)
 | .omap key ver =>
  match Bb h key with
  | .map u clock _ _ _ =>
   if u=ver then .ret (.iter h.length (Bb h h.length).next,setH h h.length (.iter (Bb h h.length).next key ver clock [] clock))
   else .fail
  | _ => .fail
 | .fmap [] [] => .ret (.iter h.length (Bb h h.length).next,setH h h.length (.nit (Bb h h.length).next))
 | _ => .fail
theorem Asp (x:IX):GO call base Q (⟨d,.range x,none⟩::l) ks ⟨e,h⟩=GP call base Q d l ks e (rgA h (x.ev e)):=by
 rw [Ds]; rfl
def Hh (ks vs:List AV) (bs seen:List Nat):List (AV×AV×Nat):=(ks.zip (vs.zip bs)).filter fun t => !seen.contains t.2.2
def nxA (h:Bc):AV->Res (AV×Bc)
 | .iter key ver =>
  match Bb h key with
  | .iter u mk mv since seen stepped =>
   match Bb h mk with
   | .map w clock ks vs bs =>
    if u=ver/\w=mv/\bs.all (fun b=>decide (b<since))/\since<=stepped then
     if (Hh ks vs bs seen).isEmpty then .ret (.tuple [.bool false],h)
     else .choice (Hh ks vs bs seen).length fun j =>
      match (Hh ks vs bs seen)[j]? with
      | some (k,v,b) => .ret (.tuple [.bool true,k,v],setH h key (.iter u mk mv since (seen++[b]) clock))
      | none => .fail
    else .fail
   | _ => .fail
  | .nit u=>if u=ver then .ret (.tuple [.bool false],h) else .fail
  | _ => .fail
 | _ => .fail
theorem Bw (x:IX):GO call base Q (⟨d,.next x,none⟩::l) ks ⟨e,h⟩=GP call base Q d l ks e (nxA h (x.ev e)):=by
 rw [Ds]; rfl
def enA (h:Bc):AV->Res AV
 | .iter key ver =>
  match Bb h key with
  | .iter u mk mv _ seen stepped =>
   match Bb h mk,seen.getLast? with
   | .map w clock ks vs bs,some s =>
    if u=ver/\w=mv/\clock=stepped then
     match (ks.zip (vs.zip bs)).find? fun t=>t.2.2==s with
     | some (k,v,_) => .ret (.tuple [k,v])
     | none => .fail
    else .fail
   | _,_ => .fail
  | _ => .fail
 | _ => .fail
theorem Asg (x:IX):GO call base Q (⟨d,.entry x,none⟩::l) ks ⟨e,h⟩=GV call base Q d l ks e h (enA h (x.ev e)):=by
 rw [Ds]
 simp only [Bd,GV]
 cases x.ev e with
 | iter key ver =>
  simp only [enA]
  cases Bb h key with
  | iter u mk mv s seen stepped =>
   simp only
   cases Bb h mk with
   | map w clock ks vs bs =>
    cases seen.getLast? with
    | none=>rfl
    | some s =>
     simp only
     split
     ·cases (ks.zip (vs.zip bs)).find? fun t=>t.2.2==s with
      | none=>rfl
      | some p=>rfl
     ·rfl
   | _=>rfl
  | _=>rfl
 | _=>rfl
theorem Xw {key ver mk mv since clock stepped:Nat} {seen:List Nat} {kks vs:List AV} {bs:List Nat} (hi:Bb h key = .iter ver mk mv since seen stepped) (hm:Bb h mk = .map mv clock kks vs bs)
  (hb:∀b∈bs,b<since) (hs:since<=stepped)
  (hE:Hh kks vs bs seen=[]->GO call base Q l ks ⟨Bk e d (.tuple [.bool false]),h⟩)
  (hN:∀k v b,(k,v,b)∈Hh kks vs bs seen->GO call base Q l ks ⟨Bk e d (.tuple [.bool true,k,v]),setH h key (.iter ver mk mv since (seen++[b]) clock)⟩) :
  GP call base Q d l ks e (nxA h (.iter key ver)):=by
 have hball:bs.all (fun b=>decide (b<since))=true:=List.all_eq_true.2 fun b hb'=>decide_eq_true (hb b hb')
 simp only [nxA,hi,hm]
 rw [if_pos ⟨trivial,trivial,hball,hs⟩]
 cases hl:Hh kks vs bs seen with
 | nil=>exact hE hl
 | cons a r =>
  refine ⟨by simp,fun j hj => ?_⟩
  obtain ⟨p,hp⟩:=Gy hj
  obtain ⟨k,v,b⟩:=p
  simp only [hp]
  exact hN k v b (hl ▸ List.mem_of_getElem? hp)
end
def kz (l:List Int):List AV:=l.map fun i => .agg [.int .i64 i]
theorem Nw (a:Int):∀(l:List Int) (i:Nat),Du (some 1) (.agg [.int .i64 a]) (kz l) i=some (if a∈l then some (i+l.idxOf a) else none)
 | [],i=>rfl
 | b::r,i=>by
  have hk:Ei (some 1) (.agg [.int .i64 b])=true:=rfl
  simp only [kz,List.map_cons,Du]
  rw [if_pos hk]
  by_cases hab:a=b
  ·subst hab
   simp [AV.cells,Ec]
  ·have:Ec (AV.agg [.int .i64 a]).cells (AV.agg [.int .i64 b]).cells=some false:=by simp [AV.cells,Ec,hab]
   rw [this]
   simp only
   have:=Nw a r (i+1)
   simp only [kz] at this
   rw [this,List.idxOf_cons]
   have hba:(b==a)=false:=by simpa using fun h=>hab h.symm
   rw [hba]
   by_cases hr:a∈r
   ·rw [if_pos hr,if_pos (List.mem_cons_of_mem _ hr)]
    simp only [cond_false]
    congr 2
    omega
   ·rw [if_neg hr,if_neg (by simp [hab,hr])]
theorem Ex (h:Bc) (n:Nat):Bj h (n+1) .nilptr = .ret .nilptr:=rfl
theorem A7a (h:Bc) (n:Nat) (ks vs:List AV):Bj h (n+1) (.fmap ks vs) = .ret (.fmap ks vs):=rfl
theorem Eo {h:Bc} {n:Nat} {cs cs':List AV} (hcs:mapR (Bj h n) cs = .ret cs'):Bj h (n+1) (.agg cs) = .ret (.agg cs'):=by
 rw [Bj,hcs]
 rfl
theorem Nx {h:Bc} {k ver clock n:Nat} {ks vs ks' vs':List AV} {bs:List Nat} (hH:Bb h k = .map ver clock ks vs bs) (hk:mapR (Bj h n) ks = .ret ks') (hv:mapR (Bj h n) vs = .ret vs'):Bj h (n+1) (.omap k ver) = .ret (.fmap ks' vs'):=by
 rw [Bj]
 simp only [hH]
 rw [if_pos trivial,hk,hv]
 rfl
theorem Amy {a:Bool} {r:AV} (h:En depth r=true):(a||En depth r)=true:=by cases a <;> simp [h]
theorem Ka {α β:Type} (f:α->β):∀(l:List α) (i:Nat),(l.map f).eraseIdx i=(l.eraseIdx i).map f
 | [],_=>rfl
 | _::_,0=>rfl
 | a::r,i+1=>by simp only [List.map_cons,List.eraseIdx_cons_succ,Ka f r i]
theorem Ql (x:Int):∀l:List Int,l.eraseIdx (l.idxOf x)=l.erase x
 | []=>rfl
 | a::r=>by
  by_cases h:a=x
  ·subst h
   simp
  ·have h1:(a==x)=false:=by simpa using h
   rw [List.idxOf_cons,h1,List.erase_cons,h1]
   simp only [cond_false,List.eraseIdx_cons_succ,Ql x r]
   rfl
theorem Iu (k:IntKind) (l:List Int):(l.map (AV.int k)).all oneB=true:=by
 rw [List.all_eq_true]
 intro x hx
 obtain ⟨a,_,rfl⟩:=List.mem_map.1 hx
 rfl
theorem A1s:∀(new a b:List AV),b.length=new.length->Dk (a++b) a.length new=a++new
 | [],a,b,h=>by
  obtain rfl:b=[]:=by simpa using h
  rfl
 | c::r,a,b,h=>by
  match b,h with
  | d::b,h =>
   rw [Dk,List.set_append_right _ _ (Nat.le_refl _),Nat.sub_self,List.set_cons_zero]
   have:=A1s r (a++[c]) b (by simpa using h)
   simpa using this
theorem Qw (new cs:List AV) (h:cs.length=new.length):Dk cs 0 new=new:=A1s new [] cs h
theorem Me (k:IntKind):∀a b:List Int,a.length=b.length->Ec (a.map (.int k)) (b.map (.int k))=some (decide (a=b))
 | [],[],_=>by simp [Ec]
 | x::a,y::b,h=>by
  simp only [List.map_cons,Ec,if_true]
  by_cases hxy:x=y
  ·subst hxy
   rw [if_pos rfl,Me k a b (by simpa using h)]
   simp
  ·rw [if_neg hxy]
   simp [hxy]
theorem Qb (a:Int):Ei (some 1) (.agg [.int .i64 a])=true:=rfl
attribute [go_sem] Aso Alq Aau Alp Axl Asp Bw Asg
def ConAt (T:Cfg) (n f:Nat) (as:List AV) (r:AV):Prop:=
 ∀(h:Bc) (as0:List AV) (V:AV×Bc->Prop),fz h as0 = .ret as->(as0.all (Dy depth)||En depth r)=true->V (r,h)->(Bg T n false (.fn f) as0 h).all V
def Res.allB {α:Type} (q:α->Bool):Res α->Bool
 | .fail=>false
 | .ret a=>q a
 | .choice n k=>decide (0<n)&&(List.range n).all fun i=>(k i).allB q
theorem Res.allB_all {α:Type} (q:α->Bool):∀x:Res α,x.allB q=true->x.all fun a=>q a=true
 | .fail,h=>by cases h
 | .ret a,h=>h
 | .choice n k,h=>by
  simp only [Res.allB,Bool.and_eq_true,decide_eq_true_eq,List.all_eq_true,List.mem_range] at h
  exact ⟨h.1,fun i hi=>Res.allB_all q (k i) (h.2 i hi)⟩
def Hr (f:AV->AV->Bool):List AV->List AV->Bool
 | [],[]=>true
 | a::r,b::s=>f a b&&Hr f r s
 | _,_=>false
theorem Fv {f:AV->AV->Bool} (hf:∀a b,f a b=true->a=b):∀l r,Hr f l r=true->l=r
 | [],[],_=>rfl
 | a::l,b::r,h=>by
  simp only [Hr,Bool.and_eq_true] at h
  rw [hf a b h.1,Fv hf l r h.2]
 | [],_::_,h=>by cases h
 | _::_,[],h=>by cases h
def CLe (c1 c2:Bf):Prop:=∀(raw:Bool) (t:Tgt) (xs:List AV) (h:Bc) (Q:AV×Bc->Prop),(c1 raw t xs h).all Q->(c2 raw t xs h).all Q
theorem A3w {b1 b2:St->Res (EX×St)} (hb:∀s Q,(b1 s).all Q->(b2 s).all Q):∀(n:Nat) (s:St) (Q:EX×St->Prop),(Do b1 n s).all Q->(Do b2 n s).all Q
 | 0,s,Q,hq=>hq
 | n+1,s,Q,hq=>by
  simp only [Do,Res.all_bind] at hq ⊢
  refine Res.all_mono _ (hb s _ hq) ?_
  rintro ⟨x,s'⟩ hx
  cases x with
  | normal=>exact A3w hb n s' Q hx
  | exit id=>exact hx
  | ret=>exact hx
section
variable {c1 c2:Bf} (hc:CLe c1 c2)
include hc
theorem Abw (key:Nat) (op:IOp) (e:Env) (h:Bc) (Q:AV×Bc->Prop) (hq:(Bd c1 key op e h).all Q):(Bd c2 key op e h).all Q:=by
 cases op with
 | call raw f args =>
  simp only [Bd] at hq ⊢
  revert hq
  cases f.ev e <;> first | exact fun h=>h | exact fun h=>hc _ _ _ _ _ h
 | callF raw f args =>
  simp only [Bd] at hq ⊢
  exact hc _ _ _ _ _ hq
 | callS f args =>
  simp only [Bd] at hq ⊢
  split at hq
  ·next h=>rw [if_pos h]; exact hc _ _ _ _ _ hq
  ·exact hq.elim
 | callW ts f args =>
  simp only [Bd] at hq ⊢
  rw [Res.all_bind] at hq ⊢
  exact hc _ _ _ _ _ hq
 | callV d0 n f args =>
  simp only [Bd] at hq ⊢
  rw [Res.all_bind] at hq ⊢
  exact hc _ _ _ _ _ hq
 | callD d0 n f args =>
  simp only [Bd] at hq ⊢
  split at hq
  ·next h=>rw [if_pos h]; exact hc _ _ _ _ _ hq
  ·exact hq.elim
 | callC d0 n f args =>
  simp only [Bd] at hq ⊢
  split at hq
  ·next h=>rw [if_pos h]; exact hc _ _ _ _ _ hq
  ·exact hq.elim
 | _=>exact hq
theorem Ahf (base:Nat) (o:IOper) (s:St) (Q:St->Prop) (hq:(Bv c1 base o s).all Q):(Bv c2 base o s).all Q:=by
 obtain ⟨d,op,g⟩:=o
 cases g with
 | none =>
  simp only [Bv,Res.all_bind] at hq ⊢
  exact Abw hc _ _ _ _ _ hq
 | some p =>
  obtain ⟨t,want⟩:=p
  simp only [Bv] at hq ⊢
  revert hq
  cases Bs s.env t with
  | bool b =>
   simp only
   split
   ·simp only [Res.all_bind]
    exact Abw hc _ _ _ _ _
   ·exact fun h=>h
  | _=>exact fun h=>h
theorem A6q (base:Nat):∀(l:List IOper) (s:St) (Q:St->Prop),(Dr c1 base l s).all Q->(Dr c2 base l s).all Q
 | [],s,Q,hq=>hq
 | o::r,s,Q,hq=>by
  simp only [Dr,Res.all_bind] at hq ⊢
  exact Res.all_mono _ (Ahf hc base o s _ hq) fun s hs=>A6q base r s Q hs
theorem Ii (base:Nat):∀(c:IC) (s:St) (Q:EX×St->Prop),(evC c1 base c s).all Q->(evC c2 base c s).all Q
 | .skip,s,Q,hq=>hq
 | .ops l,s,Q,hq=>by
  simp only [evC,Res.all_bind] at hq ⊢
  exact A6q hc base l s _ hq
 | .seq a b,s,Q,hq=>by
  simp only [evC,Res.all_bind] at hq ⊢
  refine Res.all_mono _ (Ii base a s _ hq) ?_
  rintro ⟨x,s'⟩ hx
  cases x with
  | normal=>exact Ii base b s' Q hx
  | exit id=>exact hx
  | ret=>exact hx
 | .cond c a b,s,Q,hq=>by
  simp only [evC] at hq ⊢
  revert hq
  cases c.ev s.env with
  | bool t =>
   cases t
   ·exact Ii base b s Q
   ·exact Ii base a s Q
  | _=>exact fun h=>h
 | .block id c,s,Q,hq=>by
  simp only [evC,Res.all_bind] at hq ⊢
  exact Ii base c s _ hq
 | .loop c,s,Q,hq=>by
  simp only [evC] at hq ⊢
  exact A3w (fun s Q=>Ii base c s Q) Lg s Q hq
 | .exit id,s,Q,hq=>hq
 | .ret,s,Q,hq=>hq
 | .rangeF f params asg body,s,Q,hq=>by
  simp only [evC] at hq ⊢
  revert hq
  cases f.ev s.env with
  | clo g first captured =>
   simp only [Res.all_bind]
   exact hc _ _ _ _ _
  | _=>exact fun h=>h
 | .bad,s,Q,hq=>hq
 | .sortA,s,Q,hq=>hq
theorem Nj (fn:IFunc) (xs:List AV) (h:Bc) (Q:AV×Bc->Prop) (hq:(Dw c1 fn xs h).all Q):(Dw c2 fn xs h).all Q:=by
 simp only [Dw,Res.all_bind] at hq ⊢
 exact Ii hc _ _ _ _ hq
end
theorem Dz {T:Cfg} {k n f:Nat} {xs:List AV} {r:AV} (h:Con T k f xs r) (hk:k<=n):ConAt T n f xs r:=fun h' as0 V hz hp hV=>h n h' as0 V hk hz hp hV
structure Ans where
 f:Nat
 args:List AV
 res:AV
def AnsOk (T:Cfg) (n:Nat) (a:Ans):Prop:=∀(h:Bc) (V:AV×Bc->Prop),V (a.res,h)->(Bg T n false (.fn a.f) a.args h).all V
theorem Aqv (h:Bc) (l:List Int) (k:IntKind) (ex:Bool):De h (.slice none (l.map (.int k)) ex)=some (none,l.length,l.map (.int k)):=by simp [De,Ek]
theorem Aea {call:Bf} {base:Nat} {Q:EX×St->Prop} {d:Option Nat} {L:List IOper} {ks:List Kont} {e:Env} {h:Bc} {lo b m kk:Nat} {x y:AV} {k:IntKind} {l l2:List Int} (hkk:kk=h.length) (hx:Own lo h x k l) (hlo:lo<=h.length) (hy:De h y=some (none,m,l2.map (.int k))) (hm:m=l2.length) (hr:(l.length+m)*b<=1099511627776)
  (H:∀x' h',Own lo h' x' k (l++l2)->(∀j,j<lo->Bb h' j=Bb h j)->h.length<=h'.length->(∀j,j<h.length->Fn x≠some j->Bb h' j=Bb h j)->(∀j,Fn x'=some j->Fn x=some j\/j=h.length)->GO call base Q L ks ⟨Bk e d x',h'⟩) :
  GP call base Q d L ks e (Dh kk none b x y h):=by
 by_cases h0:0<m
 ·exact Wk hkk hx hlo hy hm h0 hr H
 ·obtain rfl:m=0:=by omega
  obtain rfl:l2=[]:=List.length_eq_zero_iff.1 hm.symm
  have hroom:Et 0 b=true:=Lx (by omega)
  have:Dh kk none b x y h = .ret (x,h):=by
   rcases hx with ⟨rfl,rfl⟩ | ⟨key,ver,hk,rfl,hH⟩
   ·simp only [Nat.add_zero,Dh,hy,List.length_nil,hroom,ne_eq,not_true_eq_false,if_false,Bool.true_eq_false,or_self,if_true]
   ·simp only [Dh,hy,ne_eq,not_true_eq_false,if_false,if_true]
  rw [this,Iy]
  exact H x h (by rw [List.append_nil]; exact hx) (fun _ _=>rfl) (Nat.le_refl _) (fun _ _ _=>rfl) fun j hj => .inl hj
section
variable {call:Bf} {base:Nat} {Q:EX×St->Prop} {ks:List Kont} {e:Env} {h:Bc}
theorem Als {f:IX} {params:List Nat} {asg body:IC} {g:FuncId} {first captured:List AV} (hf:f.ev e = .clo g first captured)
  (hq:(call true (.fn g) (first++[.yld h.length (Bb h h.length).next]++captured) (setH h h.length (.loop (Bb h h.length).next .ready none ⟨base,e,params,asg,body⟩))).all fun p =>
   ∃st pend lf,Bb p.2 h.length = .loop (Bb h h.length).next st pend lf/\st ≠ .busy/\R call base Q (pend.getD .normal) ks ⟨e,setH p.2 h.length (.loop (Bb h h.length).next .exhausted pend lf)⟩) :
  G call base Q (.rangeF f params asg body) ks ⟨e,h⟩:=by
 simp only [G,evC,hf,all_bind]
 refine Res.all_mono _ hq ?_
 rintro ⟨v,h'⟩ ⟨st,pend,lf,h1,h2,h3⟩
 simp only [h1]
 rw [if_pos ⟨trivial,h2⟩]
 exact h3
theorem Aig {f:IX} {params:List Nat} {asg body:IC} {g:FuncId} {first captured:List AV} {n:Nat} (hf:f.ev e = .clo g first captured) (hlen:h.length=n)
  (hq:∀lf:LoopF,lf.base=base->lf.env=e->lf.params=params->lf.asg=asg->lf.body=body->(call true (.fn g) (first++[.yld n 0]++captured) (setH h n (.loop 0 .ready none lf))).all fun p =>
   ∃st pend lf,Bb p.2 n = .loop 0 st pend lf/\st ≠ .busy/\R call base Q (pend.getD .normal) ks ⟨e,setH p.2 n (.loop 0 .exhausted pend lf)⟩) :
  G call base Q (.rangeF f params asg body) ks ⟨e,h⟩:=by
 refine Als hf ?_
 have hn:Bb h h.length = .none:=Eh _ _ (Nat.le_refl _)
 rw [hn,hlen]
 exact hq ⟨base,e,params,asg,body⟩ rfl rfl rfl rfl rfl
theorem B1u {c:IC} (I:St->Prop) (h0:I ⟨e,h⟩) (hq:∀e h,I ⟨e,h⟩->G call base Q c ks ⟨e,h⟩):G call base Q c ks ⟨e,h⟩:=hq e h h0
theorem Asq {T:Cfg} {n key ver:Nat} {args:List AV} {pend:Option EX} {lf:LoopF} {V:AV×Bc->Prop} (hl:Bb h key = .loop ver .ready pend lf) (ha:args.length=lf.params.length)
  (hq:G (Bg T n) lf.base (fun p=>p.1 = .normal/\∃pend2 lf2,Bb p.2.heap key = .loop ver .ready pend2 lf2/\
   G (Bg T n) lf.base (fun p=>∃st3 pend3 lf3,Bb p.2.heap key = .loop ver st3 pend3 lf3/\(match p.1 with
    | .normal=>V (.bool true,setH p.2.heap key (.loop ver .ready none lf3))
    | x=>V (.bool false,setH p.2.heap key (.loop ver .done (some x) lf3)))) lf.body [] ⟨p.2.env,setH p.2.heap key (.loop ver .busy pend2 lf2)⟩) lf.asg [] ⟨Mk lf.env lf.params args,h⟩) :
  (Bg T (n+1) true (.yld key ver) args h).all V:=by
 simp only [Bg,if_true,reduceIte,Ht,hl]
 rw [if_pos ⟨trivial,ha⟩,all_bind]
 refine Res.all_mono _ hq ?_
 rintro ⟨x,s⟩ ⟨hx,pend2,lf2,h1,h2⟩
 simp only at hx
 subst hx
 simp only [h1,if_true,reduceIte,all_bind]
 refine Res.all_mono _ h2 ?_
 rintro ⟨x,s⟩ ⟨st3,pend3,lf3,h3,h4⟩
 simp only at h3 h4
 simp only [h3,if_true,reduceIte]
 cases x with
 | normal=>exact h4
 | exit id=>exact h4
 | ret=>exact h4
end
section
variable {c1 c2:Bf} (hc:CLe c1 c2)
include hc
theorem A0s (key ver:Nat) (args:List AV) (h:Bc) (Q:AV×Bc->Prop) (hq:(Ht c1 key ver args h).all Q):(Ht c2 key ver args h).all Q:=by
 unfold Ht at hq ⊢
 revert hq
 cases Bb h key with
 | loop u st pend lf =>
  simp only
  by_cases hcond:u=ver/\args.length=lf.params.length
  ·rw [if_pos hcond,if_pos hcond,Res.all_bind,Res.all_bind]
   intro hq
   refine Res.all_mono _ (Ii hc _ _ _ _ hq) ?_
   rintro ⟨x,s⟩ hx
   simp only at hx ⊢
   revert hx
   cases x with
   | normal =>
    cases Bb s.heap key with
    | loop u2 st2 pend2 lf2 =>
     cases st2 <;> try exact fun h=>h
     simp only
     by_cases hu:u2=ver
     ·rw [if_pos hu,if_pos hu,Res.all_bind,Res.all_bind]
      intro hx
      exact Ii hc _ _ _ _ hx
     ·rw [if_neg hu,if_neg hu]; exact fun h=>h
    | _=>exact fun h=>h
   | _=>exact fun h=>h
  ·rw [if_neg hcond,if_neg hcond]; exact fun h=>h
 | _=>exact fun h=>h
end
theorem A3v (T:Cfg):∀n,CLe (Bg T n) (Bg T (n+1))
 | 0=>fun raw t xs h Q hq=>hq.elim
 | n+1=>fun raw t xs h Q hq=>by
  have ih:=A3v T n
  cases t with
  | yld k v =>
   simp only [Bg] at hq ⊢
   split at hq
   ·next hr=>rw [if_pos hr]; exact A0s ih _ _ _ _ _ hq
   ·exact hq.elim
  | clone f=>exact hq
  | fn f =>
   simp only [Bg] at hq ⊢
   cases hf:T.fns f with
   | none=>simp only [hf,Res.all] at hq
   | some fn =>
    simp only [hf] at hq ⊢
    split at hq
    ·next hr=>rw [if_pos hr]; exact Nj ih _ _ _ _ hq
    ·next hr =>
     rw [if_neg hr]
     rw [Res.all_bind] at hq ⊢
     refine Res.all_mono _ hq fun a ha => ?_
     rw [Res.all_bind] at ha ⊢
     exact Nj ih _ _ _ _ ha
theorem Hn (T:Cfg) {n m:Nat} (h:n<=m):CLe (Bg T n) (Bg T m):=by
 induction h with
 | refl=>exact fun _ _ _ _ _ h=>h
 | step _ ih=>exact fun raw t xs h Q hq=>A3v T _ raw t xs h Q (ih raw t xs h Q hq)
theorem AnsOk.mono {T:Cfg} {n m:Nat} {a:Ans} (h:AnsOk T n a) (hm:n<=m):AnsOk T m a:=fun h' V hV=>Hn T hm _ _ _ _ _ (h h' V hV)
theorem ConAt.mono {T:Cfg} {n m f:Nat} {xs:List AV} {r:AV} (h:ConAt T n f xs r) (hm:n<=m):ConAt T m f xs r:=fun h' as0 V hz hp hV=>Hn T hm _ _ _ _ _ (h h' as0 V hz hp hV)
def ConAtF (T:Cfg) (n f:Nat) (as:List AV) (r:AV):Prop:=
 ∀(h:Bc) (as0:List AV) (V:AV×Bc->Prop),fz h as0 = .ret as->V (r,h)->(Bg T n false (.fn f) as0 h).all V
theorem ConAtF.mono {T:Cfg} {n m f:Nat} {xs:List AV} {r:AV} (h:ConAtF T n f xs r) (hm:n<=m):ConAtF T m f xs r:=fun h' as0 V hz hV=>Hn T hm _ _ _ _ _ (h h' as0 V hz hV)
def eqV:Nat->AV->AV->Bool
 | 0,_,_=>false
 | _+1,.bool a,.bool b=>a==b
 | _+1,.int k a,.int k' b=>decide (k=k')&&decide (a=b)
 | n+1,.agg a,.agg b=>Hr (eqV n) a b
 | n+1,.tuple a,.tuple b=>Hr (eqV n) a b
 | n+1,.slice g a x,.slice g' b y=>decide (g=g')&&Hr (eqV n) a b&&(x==y)
 | n+1,.ptr a i,.ptr b j=>Hr (eqV n) a b&&decide (i=j)
 | _+1,.nilptr,.nilptr=>true
 | n+1,.clo f a b,.clo g c d=>decide (f=g)&&Hr (eqV n) a c&&Hr (eqV n) b d
 | n+1,.fmap a b,.fmap c d=>Hr (eqV n) a c&&Hr (eqV n) b d
 | _+1,_,_=>false
theorem Ky:∀n a b,eqV n a b=true->a=b:=by
 intro n
 induction n with
 | zero=>intro a b h; cases h
 | succ n ih =>
  intro a b h
  cases a <;> cases b <;> simp only [eqV,Bool.and_eq_true,decide_eq_true_eq,beq_iff_eq] at h <;> first | (cases h; done) | skip
  ·rw [h]
  ·rw [h.1,h.2]
  ·rw [Fv ih _ _ h]
  ·rw [Fv ih _ _ h]
  ·rw [h.1.1,Fv ih _ _ h.1.2,h.2]
  ·rw [Fv ih _ _ h.1,h.2]
  ·rfl
  ·rw [h.1.1,Fv ih _ _ h.1.2,Fv ih _ _ h.2]
  ·rw [Fv ih _ _ h.1,Fv ih _ _ h.2]
structure AnsY where
 f:Nat
 args:List AV
 res:AV
 fresh:Bool
def YOk (T:Cfg) (n:Nat) (a:AnsY):Prop:=if a.fresh then ConAtF T n a.f a.args a.res else ConAt T n a.f a.args a.res
theorem YOk.mono {T:Cfg} {n m:Nat} {a:AnsY} (h:YOk T n a) (hm:n<=m):YOk T m a:=by
 unfold YOk at h ⊢
 split at h
 ·next hf=>rw [if_pos hf]; exact ConAtF.mono h hm
 ·next hf=>rw [if_neg hf]; exact ConAt.mono h hm
theorem Es {T:Cfg} {n f:Nat} {xs:List AV} {r:AV} (h:ConAt T n f xs r):YOk T n ⟨f,xs,r,false⟩:=h
def Oy:List AnsY->Nat->List AV->Option (AV×Bool)
 | [],_,_=>none
 | a::r,f,xs=>if a.f=f&&Hr (eqV 10) a.args xs then some (a.res,a.fresh) else Oy r f xs
theorem We {f:Nat} {xs:List AV} {p:AV×Bool}:∀l:List AnsY,Oy l f xs=some p->∃a∈l,a.f=f/\a.args=xs/\(a.res,a.fresh)=p
 | [],h=>by cases h
 | a::t,h=>by
  simp only [Oy] at h
  split at h
  ·next hc =>
   simp only [Bool.and_eq_true,decide_eq_true_eq] at hc
   exact ⟨a,List.mem_cons_self,hc.1,Fv (Ky 10) _ _ hc.2,by simpa using h⟩
  ·obtain ⟨b,hb,h1⟩:=We t h
   exact ⟨b,List.mem_cons_of_mem _ hb,h1⟩
section
variable {β:Type}
def fN (n:Nat) (k:Nat->β):β:=
 match n with
 | 0=>k 0
 | m+1=>k (Nat.succ m)
def fI (i:Int) (k:Int->β):β:=
 match i with
 | .ofNat n=>fN n fun n=>k (.ofNat n)
 | .negSucc n=>fN n fun n=>k (.negSucc n)
def fB (b:Bool) (k:Bool->β):β:=
 match b with
 | true=>k true
 | false=>k false
def fO (o:Option Nat) (k:Option Nat->β):β:=
 match o with
 | none=>k none
 | some n=>fN n fun n=>k (some n)
def fL {α:Type} (f:α->(α->β)->β):List α->(List α->β)->β
 | [],k=>k []
 | a::r,k=>f a fun a=>fL f r fun r=>k (a::r)
def fV:Nat->AV->(AV->β)->β
 | 0,v,k=>k v
 | n+1,v,k =>
  match v with
  | .bool b=>fB b fun b=>k (.bool b)
  | .int i z=>fI z fun z=>k (.int i z)
  | .agg cs=>fL (fV n) cs fun cs=>k (.agg cs)
  | .tuple cs=>fL (fV n) cs fun cs=>k (.tuple cs)
  | .slice g xs e=>fL (fV n) xs fun xs=>fB e fun e=>k (.slice g xs e)
  | .ptr cs o=>fL (fV n) cs fun cs=>fN o fun o=>k (.ptr cs o)
  | .clo f a b=>fN f fun f=>fL (fV n) a fun a=>fL (fV n) b fun b=>k (.clo f a b)
  | .fmap a b=>fL (fV n) a fun a=>fL (fV n) b fun b=>k (.fmap a b)
  | .optr a b c=>fN a fun a=>fN b fun b=>fN c fun c=>k (.optr a b c)
  | .oslice a b g c d e=>fN a fun a=>fN b fun b=>fN c fun c=>fN d fun d=>fO e fun e=>k (.oslice a b g c d e)
  | .omap a b=>fN a fun a=>fN b fun b=>k (.omap a b)
  | .iter a b=>fN a fun a=>fN b fun b=>k (.iter a b)
  | .yld a b=>fN a fun a=>fN b fun b=>k (.yld a b)
  | v=>k v
def fA (o:AObj) (k:AObj->β):β:=
 match o with
 | .none=>k .none
 | .cells v cs=>fN v fun v=>fL (fV 8) cs fun cs=>k (.cells v cs)
 | .map v c ks vs bs=>fN v fun v=>fN c fun c=>fL (fV 8) ks fun ks=>fL (fV 8) vs fun vs=>fL fN bs fun bs=>k (.map v c ks vs bs)
 | .iter v a b c s d=>fN v fun v=>fN a fun a=>fN b fun b=>fN c fun c=>fL fN s fun s=>fN d fun d=>k (.iter v a b c s d)
 | o=>k o
theorem Fp (n:Nat) (k:Nat->β):fN n k=k n:=by cases n <;> rfl
theorem Adv (i:Int) (k:Int->β):fI i k=k i:=by cases i <;> simp only [fI,Fp]
theorem Xs (b:Bool) (k:Bool->β):fB b k=k b:=by cases b <;> rfl
theorem A5p (o:Option Nat) (k:Option Nat->β):fO o k=k o:=by cases o <;> simp only [fO,Fp]
theorem Hs {α:Type} {f:α->(α->β)->β} (hf:∀a k,f a k=k a):∀(l:List α) (k:List α->β),fL f l k=k l
 | [],k=>rfl
 | a::r,k=>by simp only [fL,hf,Hs hf r]
theorem Fq:∀(n:Nat) (v:AV) (k:AV->β),fV n v k=k v
 | 0,v,k=>rfl
 | n+1,v,k=>by
  have ih:=Hs (β:=β) (Fq n)
  cases v <;> simp only [fV,Xs,Adv,Fp,A5p,ih]
theorem A5o (o:AObj) (k:AObj->β):fA o k=k o:=by
 cases o <;> simp only [fA,Fp,Hs (Fq 8),Hs Fp]
def fX (x:IX) (k:IX->β):β:=
 match x with
 | .tmp t=>fN t fun t=>k (.tmp t)
 | .const v=>fV 8 v fun v=>k (.const v)
def fOX (o:Option IX) (k:Option IX->β):β:=
 match o with
 | none=>k none
 | some x=>fX x fun x=>k (some x)
def fP (p:Nat×Nat×IX) (k:Nat×Nat×IX->β):β:=fN p.1 fun a=>fN p.2.1 fun b=>fX p.2.2 fun x=>k (a,b,x)
def fOp (o:IOp) (k:IOp->β):β:=
 match o with
 | .mv x0=>fX x0 fun x0=>k (.mv x0)
 | .pick x0 x1 x2=>fX x0 fun x0=>fX x1 fun x1=>fX x2 fun x2=>k (.pick x0 x1 x2)
 | .alloc x0=>fL (fV 8) x0 fun x0=>k (.alloc x0)
 | .box x0=>fX x0 fun x0=>k (.box x0)
 | .build x0 x1=>fL (fV 8) x0 fun x0=>fL fP x1 fun x1=>k (.build x0 x1)
 | .buildSlice x0 x1 x2=>fO x0 fun x0=>fL (fV 8) x1 fun x1=>fL fP x2 fun x2=>k (.buildSlice x0 x1 x2)
 | .buildSliceO x0 x1 x2=>fO x0 fun x0=>fL (fV 8) x1 fun x1=>fL fP x2 fun x2=>k (.buildSliceO x0 x1 x2)
 | .load x0 x1=>fO x0 fun x0=>fX x1 fun x1=>k (.load x0 x1)
 | .loadS x0 x1 x2 x3 x4=>fO x0 fun x0=>fX x1 fun x1=>fN x2 fun x2=>fL fN x3 fun x3=>fL fN x4 fun x4=>k (.loadS x0 x1 x2 x3 x4)
 | .callS x0 x1=>fN x0 fun x0=>fL fX x1 fun x1=>k (.callS x0 x1)
 | .storeS x0 x1 x2 x3=>fN x0 fun x0=>fN x1 fun x1=>fX x2 fun x2=>fX x3 fun x3=>k (.storeS x0 x1 x2 x3)
 | .store x0 x1 x2=>fN x0 fun x0=>fX x1 fun x1=>fX x2 fun x2=>k (.store x0 x1 x2)
 | .nilCheck x0=>fX x0 fun x0=>k (.nilCheck x0)
 | .bin x0 x1 x2=>fX x1 fun x1=>fX x2 fun x2=>k (.bin x0 x1 x2)
 | .eqB x0 x1 x2=>fB x0 fun x0=>fX x1 fun x1=>fX x2 fun x2=>k (.eqB x0 x1 x2)
 | .eqAgg x0 x1 x2 x3=>fN x0 fun x0=>fB x1 fun x1=>fX x2 fun x2=>fX x3 fun x3=>k (.eqAgg x0 x1 x2 x3)
 | .un x0 x1=>fX x1 fun x1=>k (.un x0 x1)
 | .conv x0 x1=>fX x1 fun x1=>k (.conv x0 x1)
 | .mkFunc x0 x1 x2=>fN x0 fun x0=>fL fX x1 fun x1=>fL fX x2 fun x2=>k (.mkFunc x0 x1 x2)
 | .mkSlice x0 x1 x2 x3 x4=>fO x0 fun x0=>fL (fV 8) x1 fun x1=>fN x2 fun x2=>fX x3 fun x3=>fX x4 fun x4=>k (.mkSlice x0 x1 x2 x3 x4)
 | .slice x0 x1 x2 x3 x4=>fO x0 fun x0=>fX x1 fun x1=>fOX x2 fun x2=>fOX x3 fun x3=>fOX x4 fun x4=>k (.slice x0 x1 x2 x3 x4)
 | .sliceA x0 x1 x2 x3 x4 x5=>fO x0 fun x0=>fN x1 fun x1=>fX x2 fun x2=>fOX x3 fun x3=>fOX x4 fun x4=>fOX x5 fun x5=>k (.sliceA x0 x1 x2 x3 x4 x5)
 | .fieldAddr x0 x1=>fN x0 fun x0=>fX x1 fun x1=>k (.fieldAddr x0 x1)
 | .field x0 x1 x2=>fO x0 fun x0=>fN x1 fun x1=>fX x2 fun x2=>k (.field x0 x1 x2)
 | .indexAddr x0 x1 x2=>fN x0 fun x0=>fX x1 fun x1=>fX x2 fun x2=>k (.indexAddr x0 x1 x2)
 | .indexAddrA x0 x1 x2 x3=>fN x0 fun x0=>fN x1 fun x1=>fX x2 fun x2=>fX x3 fun x3=>k (.indexAddrA x0 x1 x2 x3)
 | .index x0 x1 x2 x3=>fO x0 fun x0=>fN x1 fun x1=>fX x2 fun x2=>fX x3 fun x3=>k (.index x0 x1 x2 x3)
 | .extract x0 x1=>fX x0 fun x0=>fN x1 fun x1=>k (.extract x0 x1)
 | .len x0=>fX x0 fun x0=>k (.len x0)
 | .append x0 x1 x2 x3=>fO x0 fun x0=>fN x1 fun x1=>fX x2 fun x2=>fX x3 fun x3=>k (.append x0 x1 x2 x3)
 | .copy x0 x1 x2=>fO x0 fun x0=>fX x1 fun x1=>fX x2 fun x2=>k (.copy x0 x1 x2)
 | .clear x0 x1=>fV 8 x0 fun x0=>fX x1 fun x1=>k (.clear x0 x1)
 | .max x0=>fL fX x0 fun x0=>k (.max x0)
 | .min x0=>fL fX x0 fun x0=>k (.min x0)
 | .call x0 x1 x2=>fB x0 fun x0=>fX x1 fun x1=>fL fX x2 fun x2=>k (.call x0 x1 x2)
 | .callF x0 x1 x2=>fB x0 fun x0=>fN x1 fun x1=>fL fX x2 fun x2=>k (.callF x0 x1 x2)
 | .mkMap=>k .mkMap
 | .lookup x0 x1 x2 x3 x4=>fO x0 fun x0=>fV 8 x1 fun x1=>fB x2 fun x2=>fX x3 fun x3=>fX x4 fun x4=>k (.lookup x0 x1 x2 x3 x4)
 | .mapUpdate x0 x1 x2 x3=>fO x0 fun x0=>fX x1 fun x1=>fX x2 fun x2=>fX x3 fun x3=>k (.mapUpdate x0 x1 x2 x3)
 | .delete x0 x1 x2=>fO x0 fun x0=>fX x1 fun x1=>fX x2 fun x2=>k (.delete x0 x1 x2)
 | .lenM x0=>fX x0 fun x0=>k (.lenM x0)
 | .range x0=>fX x0 fun x0=>k (.range x0)
 | .next x0=>fX x0 fun x0=>k (.next x0)
 | .entry x0=>fX x0 fun x0=>k (.entry x0)
 | .strIdx x0 x1=>fL fN x0 fun x0=>fX x1 fun x1=>k (.strIdx x0 x1)
 | .isNil x0 x1=>fB x0 fun x0=>fX x1 fun x1=>k (.isNil x0 x1)
 | .loadL x0 x1 x2 x3 x4=>fO x0 fun x0=>fX x1 fun x1=>fN x2 fun x2=>fN x3 fun x3=>fL fN x4 fun x4=>k (.loadL x0 x1 x2 x3 x4)
 | .storeL x0 x1 x2 x3=>fN x0 fun x0=>fN x1 fun x1=>fX x2 fun x2=>fX x3 fun x3=>k (.storeL x0 x1 x2 x3)
 | .appendL x0 x1 x2 x3 x4 x5=>fN x0 fun x0=>fN x1 fun x1=>fO x2 fun x2=>fN x3 fun x3=>fX x4 fun x4=>fX x5 fun x5=>k (.appendL x0 x1 x2 x3 x4 x5)
 | .mkSliceK x0 x1 x2 x3 x4=>fO x0 fun x0=>fL (fV 8) x1 fun x1=>fN x2 fun x2=>fX x3 fun x3=>fX x4 fun x4=>k (.mkSliceK x0 x1 x2 x3 x4)
 | .callC x0 x1 x2 x3=>fN x0 fun x0=>fN x1 fun x1=>fN x2 fun x2=>fL fX x3 fun x3=>k (.callC x0 x1 x2 x3)
 | .mapEntry x0 x1 x2 x3=>fO x0 fun x0=>fV 8 x1 fun x1=>fX x2 fun x2=>fX x3 fun x3=>k (.mapEntry x0 x1 x2 x3)
 | .entryStore x0 x1 x2=>fX x0 fun x0=>fX x1 fun x1=>fX x2 fun x2=>k (.entryStore x0 x1 x2)
 | .sliceW x0 x1 x2 x3 x4=>fO x0 fun x0=>fX x1 fun x1=>fOX x2 fun x2=>fOX x3 fun x3=>fOX x4 fun x4=>k (.sliceW x0 x1 x2 x3 x4)
 | .clearG x0 x1 x2=>fO x0 fun x0=>fL (fV 8) x1 fun x1=>fX x2 fun x2=>k (.clearG x0 x1 x2)
 | .callV x0 x1 x2 x3=>fN x0 fun x0=>fN x1 fun x1=>fN x2 fun x2=>fL fX x3 fun x3=>k (.callV x0 x1 x2 x3)
 | .callD x0 x1 x2 x3=>fN x0 fun x0=>fN x1 fun x1=>fN x2 fun x2=>fL fX x3 fun x3=>k (.callD x0 x1 x2 x3)
 | .mkSliceD x0 x1 x2 x3 x4 x5 x6=>fN x0 fun x0=>fN x1 fun x1=>fO x2 fun x2=>fL (fV 8) x3 fun x3=>fN x4 fun x4=>fX x5 fun x5=>fX x6 fun x6=>k (.mkSliceD x0 x1 x2 x3 x4 x5 x6)
 | .callW x0 x1 x2=>fL fN x0 fun x0=>fN x1 fun x1=>fL fX x2 fun x2=>k (.callW x0 x1 x2)
 | .loadU x0 x1 x2=>fO x0 fun x0=>fX x1 fun x1=>fN x2 fun x2=>k (.loadU x0 x1 x2)
 | .appendU x0 x1 x2 x3 x4=>fN x0 fun x0=>fO x1 fun x1=>fN x2 fun x2=>fX x3 fun x3=>fX x4 fun x4=>k (.appendU x0 x1 x2 x3 x4)
 | .cap x0=>fX x0 fun x0=>k (.cap x0)
 | .appendZ x0 x1 x2 x3 x4=>fO x0 fun x0=>fL (fV 8) x1 fun x1=>fN x2 fun x2=>fX x3 fun x3=>fX x4 fun x4=>k (.appendZ x0 x1 x2 x3 x4)
 | .bad=>k .bad
def fG (g:Option (Nat×Bool)) (k:Option (Nat×Bool)->β):β:=
 match g with
 | none=>k none
 | some p=>fN p.1 fun a=>fB p.2 fun b=>k (some (a,b))
def fOr (o:IOper) (k:IOper->β):β:=fO o.dst fun d=>fOp o.op fun op=>fG o.guard fun g=>k ⟨d,op,g⟩
def fC:IC->(IC->β)->β
 | .skip,k=>k .skip
 | .ops l,k=>fL fOr l fun l=>k (.ops l)
 | .seq a b,k=>fC a fun a=>fC b fun b=>k (.seq a b)
 | .cond c a b,k=>fX c fun c=>fC a fun a=>fC b fun b=>k (.cond c a b)
 | .block id c,k=>fN id fun id=>fC c fun c=>k (.block id c)
 | .loop c,k=>fC c fun c=>k (.loop c)
 | .exit id,k=>fN id fun id=>k (.exit id)
 | .ret,k=>k .ret
 | .rangeF f ps a b,k=>fX f fun f=>fL fN ps fun ps=>fC a fun a=>fC b fun b=>k (.rangeF f ps a b)
 | .sortA,k=>k .sortA
 | .bad,k=>k .bad
def Aku (r:IRes) (k:IRes->β):β:=
 match r with
 | .tmp t=>fN t fun t=>k (.tmp t)
 | .cell t g=>fN t fun t=>fO g fun g=>k (.cell t g)
def fFn (f:IFunc) (k:IFunc->β):β:=fN f.ntmps fun n=>fL Aku f.results fun r=>fC f.body fun b=>k ⟨n,r,b⟩
theorem A0t (x:IX) (k:IX->β):fX x k=k x:=by cases x <;> simp only [fX,Fp,Fq]
theorem Awo (x:Option IX) (k:Option IX->β):fOX x k=k x:=by cases x <;> simp only [fOX,A0t]
theorem B1t (p:Nat×Nat×IX) (k:Nat×Nat×IX->β):fP p k=k p:=by simp only [fP,Fp,A0t]
theorem Awp (o:IOp) (k:IOp->β):fOp o k=k o:=by
 cases o <;> simp only [fOp,A0t,Awo,Fp,Xs,A5p,Fq,Hs (Fq 8),Hs A0t,Hs Fp,Hs B1t]
theorem B1s (o:Option (Nat×Bool)) (k:Option (Nat×Bool)->β):fG o k=k o:=by cases o <;> simp only [fG,Fp,Xs]
theorem Awq (o:IOper) (k:IOper->β):fOr o k=k o:=by simp only [fOr,A5p,Awp,B1s]
theorem Aoo:∀(c:IC) (k:IC->β),fC c k=k c:=by
 intro c
 induction c <;> intro k <;> simp only [fC,Hs Awq,A0t,Fp,Hs Fp, *]
theorem Arg (o:IRes) (k:IRes->β):Aku o k=k o:=by cases o <;> simp only [Aku,Fp,A5p]
theorem Awn (f:IFunc) (k:IFunc->β):fFn f k=k f:=by simp only [fFn,Fp,Hs Arg,Aoo]
end
section
variable {β:Type}
def sE:Env->Nat->AV->(Env->β)->β
 | [],0,v,k=>k [v]
 | [],n+1,v,k=>sE [] n v fun r=>k (.undef::r)
 | _::r,0,v,k=>k (v::r)
 | x::r,n+1,v,k=>sE r n v fun r=>k (x::r)
theorem Afv:∀(e:Env) (d:Nat) (v:AV) (k:Env->β),sE e d v k=k (Gk e d v)
 | [],0,v,k=>rfl
 | [],n+1,v,k=>by simp only [sE,Gk,Afv [] n]
 | _::r,0,v,k=>rfl
 | x::r,n+1,v,k=>by simp only [sE,Gk,Afv r n]
def sD (e:Env) (d:Option Nat) (v:AV) (k:Env->β):β:=
 match d with
 | some d=>sE e d v k
 | none=>k e
theorem Aot (e:Env) (d:Option Nat) (v:AV) (k:Env->β):sD e d v k=k (Bk e d v):=by
 cases d with
 | none=>rfl
 | some d=>exact Afv e d v k
end
def fin (o:IOper) (e:Env) (p:AV×Bc):Res St:=
 fV 8 p.1 fun v=>sD e o.dst v fun e =>
 match o.op.touch with
 | .writes=>fL fA p.2 fun h => .ret ⟨e,h⟩
 | _ => .ret ⟨e,p.2⟩
theorem Awt (o:IOper) (e:Env) (p:AV×Bc):fin o e p = .ret ⟨Bk e o.dst p.1,p.2⟩:=by
 unfold fin
 rw [Fq,Aot]
 split
 ·rw [Hs A5o]
 ·rfl
def A2f (call:Bf) (base:Nat) (o:IOper) (s:St):Res St:=
 match o.guard with
 | none=>(Bd call (base+o.dst.getD 0) o.op s.env s.heap).bind (fin o s.env)
 | some (t,want) =>
  match Bs s.env t with
  | .bool b =>
   if b=want then (Bd call (base+o.dst.getD 0) o.op s.env s.heap).bind (fin o s.env)
   else sD s.env o.dst .skip fun e => .ret ⟨e,s.heap⟩
  | .skip=>sD s.env o.dst .skip fun e => .ret ⟨e,s.heap⟩
  | _ => .fail
theorem Ads (call:Bf) (base:Nat) (o:IOper) (s:St):A2f call base o s=Bv call base o s:=by
 have h:fin o s.env=fun p => .ret ⟨Bk s.env o.dst p.1,p.2⟩:=funext (Awt o s.env)
 unfold A2f Bv
 simp only [h,Aot]
 rfl
def A0q (call:Bf) (base:Nat):List IOper->St->Res St
 | [],s => .ret s
 | o::r,s=>(A2f call base o s).bind fun s=>A0q call base r s
theorem A3x (call:Bf) (base:Nat):∀(l:List IOper) (s:St),A0q call base l s=Dr call base l s
 | [],s=>rfl
 | o::r,s=>by
  simp only [A0q,Dr,Ads]
  congr 1
  funext s'
  rw [A3x call base r]
def Js (call:Bf) (base:Nat):IC->St->Res (EX×St)
 | .skip,s => .ret (.normal,s)
 | .ops l,s=>(A0q call base l s).bind fun s => .ret (.normal,s)
 | .seq a b,s=>(Js call base a s).bind fun (x,s) =>
  match x with
  | .normal=>Js call base b s
  | x => .ret (x,s)
 | .cond c a b,s =>
  match c.ev s.env with
  | .bool t=>if t then Js call base a s else Js call base b s
  | _ => .fail
 | .block id c,s=>(Js call base c s).bind fun (x,s) =>
  match x with
  | .exit id'=>if id'=id then .ret (.normal,s) else .ret (.exit id',s)
  | x => .ret (x,s)
 | .loop c,s=>Do (Js call base c) Lg s
 | .exit id,s => .ret (.exit id,s)
 | .ret,s => .ret (.ret,s)
 | .rangeF f params asg body,s=>evC call base (.rangeF f params asg body) s
 | .sortA,s=>evC call base .sortA s
 | .bad,_ => .fail
theorem A2c (call:Bf) (base:Nat):∀(c:IC) (s:St),Js call base c s=evC call base c s:=by
 intro c
 induction c with
 | skip=>intro s; rfl
 | ops l=>intro s; simp only [Js,evC,A3x]
 | seq a b iha ihb =>
  intro s
  simp only [Js,evC,iha]
  congr 1
  funext p
  obtain ⟨x,s'⟩:=p
  cases x <;> simp only [ihb]
 | cond c a b iha ihb =>
  intro s
  simp only [Js,evC,iha,ihb]
  rfl
 | block id c ih=>intro s; simp only [Js,evC,ih]; rfl
 | loop c ih =>
  intro s
  simp only [Js,evC]
  congr 1
  funext s'
  exact ih s'
 | exit id=>intro s; rfl
 | ret=>intro s; rfl
 | rangeF f ps a b=>intro s; rfl
 | sortA=>intro s; rfl
 | bad=>intro s; rfl
def Xp (call:Bf) (fn:IFunc) (args:List AV) (h:Bc):Res (AV×Bc):=
 fFn fn fun fn=>fL fA (h++List.replicate fn.ntmps .none) fun h2=>fN h.length fun base =>
 (Js call base fn.body ⟨args,h2⟩).bind fun (x,s) =>
 match x with
 | .exit _ => .fail
 | _=>(mapR (Fe s) fn.results).bind fun vs => .ret (Gf vs,s.heap)
theorem Yy (call:Bf) (fn:IFunc) (args:List AV) (h:Bc):Xp call fn args h=Dw call fn args h:=by
 unfold Xp Dw
 simp only [Awn,Hs A5o,Fp,A2c]
 rfl
def Za (call:Bf) (key ver:Nat) (args:List AV) (h:Bc):Res (AV×Bc):=
 match Bb h key with
 | .loop u _ _ lf =>
  if u=ver/\args.length=lf.params.length then
   (Js call lf.base lf.asg ⟨Mk lf.env lf.params args,h⟩).bind fun (x,s) =>
   match x,Bb s.heap key with
   | .normal,.loop u2 .ready pend2 lf2 =>
    if u2=ver then
     (Js call lf.base lf.body ⟨s.env,setH s.heap key (.loop u2 .busy pend2 lf2)⟩).bind fun (x,s) =>
     match Bb s.heap key with
     | .loop u3 _ _ lf3 =>
      if u3=ver then
       match x with
       | .normal => .ret (.bool true,setH s.heap key (.loop u3 .ready none lf3))
       | x => .ret (.bool false,setH s.heap key (.loop u3 .done (some x) lf3))
      else .fail
     | _ => .fail
    else .fail
   | _,_ => .fail
  else .fail
 | _ => .fail
theorem Aaj (call:Bf) (key ver:Nat) (args:List AV) (h:Bc):Za call key ver args h=Ht call key ver args h:=by
 unfold Za Ht
 simp only [A2c]
 rfl
def Mb (T:Cfg) (l:List AnsY):Nat->Bf
 | 0,_,_,_,_ => .fail
 | n+1,raw,.fn f,xs,h =>
  if raw then
   match T.fns f with
   | some fn=>Xp (Mb T l n) fn xs h
   | none => .fail
  else
   (mapR (Bj h depth) xs).bind fun xs'=>fL (fV 8) xs' fun xs' =>
   match Oy l f xs' with
   | some (r,fr)=>if xs.all (Dy depth)||En depth r||fr then .ret (r,h) else .fail
   | none =>
    match T.fns f with
    | some fn =>
     (Xp (Mb T l n) fn xs' []).bind fun (r,h') =>
     (Bj h' depth r).bind fun fr=>fV 8 fr fun fr =>
     if xs.all (Dy depth)||En depth fr||Er h' depth r then .ret (fr,h) else .fail
    | none => .fail
 | n+1,raw,.yld k v,xs,h=>if raw then Za (Mb T l n) k v xs h else .fail
 | n+1,raw,.clone f,xs,h=>if raw&&T.clones f then Ga xs h else .fail
theorem Ns {T:Cfg} {k:Nat} {l:List AnsY} (hl:∀a∈l,YOk T k a):∀n,CLe (Mb T l n) (Bg T (k+n))
 | 0=>fun raw t xs h Q hq=>hq.elim
 | n+1=>fun raw t xs h Q hq=>by
  have ih:=Ns hl n
  cases t with
  | yld k v =>
   simp only [Mb,Aaj] at hq
   simp only [<-Nat.add_assoc,Bg]
   split at hq
   ·next hr=>rw [if_pos hr]; exact A0s ih _ _ _ _ _ hq
   ·exact hq.elim
  | clone f=>exact hq
  | fn f =>
   simp only [Mb,Yy,Hs (Fq 8),Fq] at hq
   split at hq
   ·next hr =>
    subst hr
    simp only [<-Nat.add_assoc,Bg]
    cases hf:T.fns f with
    | none=>simp only [hf,Res.all] at hq
    | some fn =>
     simp only [hf] at hq ⊢
     exact Nj ih _ _ _ _ hq
   ·next hr =>
    have hr:raw=false:=by simpa using hr
    subst hr
    rw [Res.all_bind] at hq
    obtain ⟨xs',hx,hq⟩:=(Det.mapR xs fun x _=>Jj h depth x).all hq
    cases hfy:Oy l f xs' with
    | none =>
     rw [hfy] at hq
     simp only at hq
     simp only [<-Nat.add_assoc,Bg]
     cases hf:T.fns f with
     | none=>simp only [hf,Res.all] at hq
     | some fn =>
      simp only [hf,Bool.false_eq_true,if_false] at hq ⊢
      rw [hx]
      simp only [Res.bind]
      rw [Res.all_bind] at hq ⊢
      exact Nj ih _ _ _ _ hq
    | some p =>
     obtain ⟨r,fr⟩:=p
     rw [hfy] at hq
     simp only at hq
     obtain ⟨a,ha,rfl,rfl,he⟩:=We l hfy
     cases he
     have hok:=(hl a ha).mono (show k<=k+(n+1) by omega)
     unfold YOk at hok
     split at hq
     ·next hc =>
      by_cases hfr:a.fresh=true
      ·rw [if_pos hfr] at hok
       exact hok h xs Q hx hq
      ·rw [if_neg hfr] at hok
       refine hok h xs Q hx ?_ hq
       have hff:a.fresh=false:=by simpa using hfr
       rw [hff,Bool.or_false] at hc
       exact hc
     ·exact hq.elim
def zB (T:Cfg) (l:List AnsY) (n f:Nat) (xs:List AV) (r:AV):Bool:=
 match T.fns f with
 | some c=>((Xp (Mb T l n) c xs []).bind fun p=>Bj p.2 depth p.1).allB (fun v=>eqV 10 v r)
 | none=>false
def zBF (T:Cfg) (l:List AnsY) (n f:Nat) (xs:List AV) (r:AV):Bool:=
 match T.fns f with
 | some c=>((Xp (Mb T l n) c xs []).bind fun p=>(Bj p.2 depth p.1).bind fun v => .ret (.tuple [v,.bool (Er p.2 depth p.1)])).allB (fun v=>eqV 11 v (.tuple [r,.bool true]))
 | none=>false
theorem Fy {T:Cfg} {k n f:Nat} {xs:List AV} {r:AV} {l:List AnsY} (hl:∀a∈l,YOk T k a) (hq:zB T l n f xs r=true):YOk T (k+n+1) ⟨f,xs,r,false⟩:=by
 unfold zB at hq
 simp only [Yy] at hq
 split at hq
 ·next c hc =>
  intro h as0 V hz hp hV
  simp only [Bg,hc,Bool.false_eq_true,if_false]
  have hz':mapR (Bj h depth) as0 = .ret xs:=hz
  rw [hz']
  simp only [Res.bind,Res.all_bind]
  have:=Res.allB_all _ _ hq
  rw [Res.all_bind] at this
  refine Res.all_mono _ (Nj (Ns hl n) c xs [] _ this) ?_
  rintro ⟨v,h'⟩ hv
  refine Res.all_mono _ hv ?_
  intro v' hv'
  have hv'':=Ky _ _ _ hv'
  subst hv''
  simp only [hp,Bool.true_or,if_true,reduceIte,Res.all]
  exact hV
 ·cases hq
theorem A3l {T:Cfg} {k n f:Nat} {xs:List AV} {r:AV} {l:List AnsY} (hl:∀a∈l,YOk T k a) (hq:zBF T l n f xs r=true):YOk T (k+n+1) ⟨f,xs,r,true⟩:=by
 unfold zBF at hq
 simp only [Yy] at hq
 split at hq
 ·next c hc =>
  intro h as0 V hz hV
  simp only [Bg,hc,Bool.false_eq_true,if_false]
  have hz':mapR (Bj h depth) as0 = .ret xs:=hz
  rw [hz']
  simp only [Res.bind,Res.all_bind]
  have:=Res.allB_all _ _ hq
  rw [Res.all_bind] at this
  refine Res.all_mono _ (Nj (Ns hl n) c xs [] _ this) ?_
  rintro ⟨v,h'⟩ hv
  rw [Res.all_bind] at hv
  refine Res.all_mono _ hv ?_
  intro v' hv'
  simp only [Res.all] at hv'
  have hv'':=Ky _ _ _ hv'
  simp only [AV.tuple.injEq,List.cons.injEq,AV.bool.injEq,and_true] at hv''
  obtain ⟨rfl,hf⟩:=hv''
  simp only [hf,Bool.or_true,if_true,reduceIte,Res.all]
  exact hV
 ·cases hq
theorem A0b {a b:Int} (ha:0<=a) (hb:0<b):Ef .rem (.int .i64 a) (.int .i64 b) = .ret (.int .i64 (a%b)):=by
 simp only [Ef,Kg,if_true]
 rw [if_neg (by omega),Int.tmod_eq_emod_of_nonneg ha]
theorem A2j {call:Bf} {base:Nat} {Q:EX×St->Prop} {L:List IOper} {ks:List Kont} {e:Env} {h:Bc} (facts:List (Nat×AV)) (h0:At e facts) (hq:∀e,At e facts->GO call base Q L ks ⟨e,h⟩):GO call base Q L ks ⟨e,h⟩:=hq e h0
theorem Arn {call:Bf} {base:Nat} {Q:EX×St->Prop} {L:List IOper} {ks:List Kont} {goal:Prop} (I:Env->Bc->Prop) (main:(∀e h,I e h->GO call base Q L ks ⟨e,h⟩)->goal) (key:∀e h,I e h->GO call base Q L ks ⟨e,h⟩):goal:=main key
theorem Own.keyLt {lo:Nat} {h:Bc} {v:AV} {k:IntKind} {l:List Int} (ho:Own lo h v k l):∀j,Fn v=some j->j<h.length:=by
 rcases ho with ⟨_,rfl⟩ | ⟨key,ver,hk,rfl,hH⟩
 ·intro j hj; simp [Fn] at hj
 ·intro j hj
  obtain rfl:key=j:=by simpa [Fn] using hj
  exact Fm hH (by simp)
end Go.Ev
