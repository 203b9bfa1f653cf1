/- Operations that may change places do so without changing what comes out. No condition but those that stand in each. -/
import Derived.Test.YtbgodhhdojjbmaaGreatAEvStep
set_option linter.unusedSimpArgs false
set_option linter.unusedVariables false
namespace Go.Ev
open Go
theorem Si {e e':Env} {x:IX} (h:∀t∈x.tmps,Bs e t=Bs e' t):x.ev e=x.ev e':=by
 cases x with
 | tmp t=>exact h t (by simp [IX.tmps])
 | const v=>rfl
theorem A4j {e e':Env}:∀{xs:List IX},(∀t∈xs.flatMap (·.tmps),Bs e t=Bs e' t)->xs.map (IX.ev e)=xs.map (IX.ev e')
 | [],_=>rfl
 | x::r,h=>by
  simp only [List.flatMap_cons,List.mem_append] at h
  rw [List.map_cons,List.map_cons,Si fun t ht=>h t (.inl ht),A4j fun t ht=>h t (.inr ht)]
theorem Mj {e e':Env}:∀{ps:List (Nat×Nat×IX)} {cs:List AV},(∀t∈ps.flatMap (fun p=>p.2.2.tmps),Bs e t=Bs e' t)->Eg e ps cs=Eg e' ps cs
 | [],_,_=>rfl
 | (off,sz,x)::r,cs,h=>by
  simp only [List.flatMap_cons,List.mem_append] at h
  simp only [Eg,Si (e:=e) (e':=e') (x:=x) fun t ht=>h t (.inl ht)]
  rw [Mj (e:=e) (e':=e') fun t ht=>h t (.inr ht)]
theorem Ol {e e':Env} {len:Nat} {cap:Option Nat} {lo hi mx:Option IX} (h1:∀t∈Lu lo,Bs e t=Bs e' t) (h2:∀t∈Lu hi,Bs e t=Bs e' t)
  (h3:∀t∈Lu mx,Bs e t=Bs e' t):sliceB e len cap lo hi mx=sliceB e' len cap lo hi mx:=by
 have k:∀(x:IX),(∀t∈x.tmps,Bs e t=Bs e' t)->x.ev e=x.ev e':=fun x h=>Si h
 cases lo <;> cases hi <;> cases mx <;> simp only [Lu] at h1 h2 h3 <;> simp only [sliceB] <;> (try rw [k _ h1]) <;> (try rw [k _ h2]) <;> (try rw [k _ h3])
theorem Adr {call:Bf} {key:Nat} {op:IOp} {e e':Env} {h:Bc} (hh:∀t∈op.tmps,Bs e t=Bs e' t):Bd call key op e h=Bd call key op e' h:=by
 have k:∀(x:IX),(∀t∈x.tmps,t∈op.tmps)->x.ev e=x.ev e':=fun x hx=>Si fun t ht=>hh t (hx t ht)
 have ks:∀(xs:List IX),(∀t∈xs.flatMap (·.tmps),t∈op.tmps)->xs.map (IX.ev e)=xs.map (IX.ev e'):=fun x hx=>A4j fun t ht=>hh t (hx t ht)
 cases op with
 | mv x=>simp only [Bd,k x (fun t ht=>ht)]
 | pick c a b =>
  simp only [Bd,k c (fun t ht=>by simp [IOp.tmps,ht]),k a (fun t ht=>by simp [IOp.tmps,ht]),k b (fun t ht=>by simp [IOp.tmps,ht])]
 | alloc z=>rfl
 | box x=>simp only [Bd,k x (fun t ht=>ht)]
 | build z ps=>simp only [Bd,Mj (e:=e) (e':=e') (ps:=ps) (cs:=z) hh]
 | buildSlice g z ps=>simp only [Bd,Mj (e:=e) (e':=e') (ps:=ps) (cs:=z) hh]
 | buildSliceO g z ps=>simp only [Bd,Mj (e:=e) (e':=e') (ps:=ps) (cs:=z) hh]
 | load g x=>simp only [Bd,k x (fun t ht=>ht)]
 | loadS g x d0 ts ds =>
  have hs:∀key k,Ly e key k d0 ts ds=Ly e' key k d0 ts ds:=fun key k=>by
   unfold Ly
   congr 1
   rw [Bool.eq_iff_iff,List.all_eq_true,List.all_eq_true]
   constructor <;> intro h1 t ht <;> have h2:=h1 t ht <;> have h3:=hh t (by simp [IOp.tmps,ht])
   ·rw [<-h3]; exact h2
   ·rw [h3]; exact h2
  simp only [Bd,k x (fun t ht=>by simp [IOp.tmps,ht]),hs]
 | callS f xs=>simp only [Bd,ks xs (fun t ht=>ht)]
 | store n x y=>simp only [Bd,k x (fun t ht=>by simp [IOp.tmps,ht]),k y (fun t ht=>by simp [IOp.tmps,ht])]
 | storeS t0 n x y=>simp only [Bd,k x (fun t ht=>by simp [IOp.tmps,ht]),k y (fun t ht=>by simp [IOp.tmps,ht])]
 | nilCheck x=>simp only [Bd,k x (fun t ht=>ht)]
 | bin o x y=>simp only [Bd,k x (fun t ht=>by simp [IOp.tmps,ht]),k y (fun t ht=>by simp [IOp.tmps,ht])]
 | eqB o x y=>simp only [Bd,k x (fun t ht=>by simp [IOp.tmps,ht]),k y (fun t ht=>by simp [IOp.tmps,ht])]
 | eqAgg n o x y=>simp only [Bd,k x (fun t ht=>by simp [IOp.tmps,ht]),k y (fun t ht=>by simp [IOp.tmps,ht])]
 | un o x=>simp only [Bd,k x (fun t ht=>ht)]
 | conv o x=>simp only [Bd,k x (fun t ht=>ht)]
 | mkFunc f a b=>simp only [Bd,ks a (fun t ht=>by simp only [IOp.tmps,List.mem_append]; exact .inl ht),ks b (fun t ht=>by simp only [IOp.tmps,List.mem_append]; exact .inr ht)]
 | mkSliceD d0 m g z n x y=>simp only [Bd,k x (fun t ht=>by simp [IOp.tmps,ht]),k y (fun t ht=>by simp [IOp.tmps,ht])]
 | mkSlice g z n x y=>simp only [Bd,k x (fun t ht=>by simp [IOp.tmps,ht]),k y (fun t ht=>by simp [IOp.tmps,ht])]
 | slice g x lo hi mx =>
  have hs:∀len cap,sliceB e len cap lo hi mx=sliceB e' len cap lo hi mx:=fun len cap =>
   Ol (fun t ht=>hh t (by simp [IOp.tmps,ht])) (fun t ht=>hh t (by simp [IOp.tmps,ht])) (fun t ht=>hh t (by simp [IOp.tmps,ht]))
  simp only [Bd,k x (fun t ht=>by simp [IOp.tmps,ht]),hs]
 | sliceW g x lo hi mx =>
  have hs:∀len cap,sliceB e len cap lo hi mx=sliceB e' len cap lo hi mx:=fun len cap =>
   Ol (fun t ht=>hh t (by simp [IOp.tmps,ht])) (fun t ht=>hh t (by simp [IOp.tmps,ht])) (fun t ht=>hh t (by simp [IOp.tmps,ht]))
  simp only [Bd,k x (fun t ht=>by simp [IOp.tmps,ht]),hs]
 | sliceA g n x lo hi mx =>
  have hs:∀len cap,sliceB e len cap lo hi mx=sliceB e' len cap lo hi mx:=fun len cap =>
   Ol (fun t ht=>hh t (by simp [IOp.tmps,ht])) (fun t ht=>hh t (by simp [IOp.tmps,ht])) (fun t ht=>hh t (by simp [IOp.tmps,ht]))
  simp only [Bd,k x (fun t ht=>by simp [IOp.tmps,ht]),hs]
 | fieldAddr n x=>simp only [Bd,k x (fun t ht=>ht)]
 | field g n x=>simp only [Bd,k x (fun t ht=>ht)]
 | indexAddr n x y=>simp only [Bd,k x (fun t ht=>by simp [IOp.tmps,ht]),k y (fun t ht=>by simp [IOp.tmps,ht])]
 | indexAddrA m n x y=>simp only [Bd,k x (fun t ht=>by simp [IOp.tmps,ht]),k y (fun t ht=>by simp [IOp.tmps,ht])]
 | index g n x y=>simp only [Bd,k x (fun t ht=>by simp [IOp.tmps,ht]),k y (fun t ht=>by simp [IOp.tmps,ht])]
 | extract x n=>simp only [Bd,k x (fun t ht=>ht)]
 | len x=>simp only [Bd,k x (fun t ht=>ht)]
 | append g n x y=>simp only [Bd,k x (fun t ht=>by simp [IOp.tmps,ht]),k y (fun t ht=>by simp [IOp.tmps,ht])]
 | copy g x y=>simp only [Bd,k x (fun t ht=>by simp [IOp.tmps,ht]),k y (fun t ht=>by simp [IOp.tmps,ht])]
 | clear z x=>simp only [Bd,k x (fun t ht=>ht)]
 | clearG g z x=>simp only [Bd,k x (fun t ht=>ht)]
 | max xs=>simp only [Bd,ks xs (fun t ht=>ht)]
 | min xs=>simp only [Bd,ks xs (fun t ht=>ht)]
 | call r f xs=>simp only [Bd,k f (fun t ht=>by simp only [IOp.tmps,List.mem_append]; exact .inl ht),ks xs (fun t ht=>by simp only [IOp.tmps,List.mem_append]; exact .inr ht)]
 | callF r f xs=>simp only [Bd,ks xs (fun t ht=>ht)]
 | mkMap=>rfl
 | lookup kn z ok x y=>simp only [Bd,k x (fun t ht=>by simp [IOp.tmps,ht]),k y (fun t ht=>by simp [IOp.tmps,ht])]
 | mapUpdate kn x y v=>simp only [Bd,k x (fun t ht=>by simp [IOp.tmps,ht]),k y (fun t ht=>by simp [IOp.tmps,ht]),k v (fun t ht=>by simp [IOp.tmps,ht])]
 | delete kn x y=>simp only [Bd,k x (fun t ht=>by simp [IOp.tmps,ht]),k y (fun t ht=>by simp [IOp.tmps,ht])]
 | lenM x=>simp only [Bd,k x (fun t ht=>ht)]
 | cap x=>simp only [Bd,k x (fun t ht=>ht)]
 | callW ts f xs =>
  have hE:∀h1 h2:Bc,Mt e h1 h2 ts=Mt e' h1 h2 ts:=fun h1 h2=>by
   unfold Mt
   rw [Bool.eq_iff_iff,List.all_eq_true,List.all_eq_true]
   constructor <;> intro h1 t ht <;> have h2:=h1 t ht <;> have h3:=hh t (by simp only [IOp.tmps,List.mem_append]; exact .inr ht)
   ·rw [<-h3]; exact h2
   ·rw [h3]; exact h2
  simp only [Bd,ks xs (fun t ht=>by simp only [IOp.tmps,List.mem_append]; exact .inl ht),hE]
 | loadU g x t=>simp only [Bd,k x (fun t ht=>by simp [IOp.tmps,ht]),hh t (by simp [IOp.tmps])]
 | appendU t g b x y=>simp only [Bd,k x (fun t ht=>by simp [IOp.tmps,ht]),k y (fun t ht=>by simp [IOp.tmps,ht]),hh t (by simp [IOp.tmps])]
 | appendZ g z b x n=>simp only [Bd,k x (fun t ht=>by simp [IOp.tmps,ht]),k n (fun t ht=>by simp [IOp.tmps,ht])]
 | range x=>simp only [Bd,k x (fun t ht=>ht)]
 | next x=>simp only [Bd,k x (fun t ht=>ht)]
 | entry x=>simp only [Bd,k x (fun t ht=>ht)]
 | isNil n x=>simp only [Bd,k x (fun t ht=>ht)]
 | strIdx l x=>simp only [Bd,k x (fun t ht=>ht)]
 | loadL g x d0 n ds=>simp only [Bd,k x (fun t ht=>ht)]
 | storeL m n x y=>simp only [Bd,k x (fun t ht=>by simp [IOp.tmps,ht]),k y (fun t ht=>by simp [IOp.tmps,ht])]
 | appendL d0 m g n x y=>simp only [Bd,k x (fun t ht=>by simp [IOp.tmps,ht]),k y (fun t ht=>by simp [IOp.tmps,ht])]
 | mkSliceK g z n x y=>simp only [Bd,k x (fun t ht=>by simp [IOp.tmps,ht]),k y (fun t ht=>by simp [IOp.tmps,ht])]
 | callC d0 m f xs=>simp only [Bd,ks xs (fun t ht=>ht)]
 | callD d0 m f xs=>simp only [Bd,ks xs (fun t ht=>ht)]
 | callV d0 m f xs=>simp only [Bd,ks xs (fun t ht=>ht)]
 | mapEntry kn z x y=>simp only [Bd,k x (fun t ht=>by simp [IOp.tmps,ht]),k y (fun t ht=>by simp [IOp.tmps,ht])]
 | entryStore x y v=>simp only [Bd,k x (fun t ht=>by simp [IOp.tmps,ht]),k y (fun t ht=>by simp [IOp.tmps,ht]),k v (fun t ht=>by simp [IOp.tmps,ht])]
 | bad=>rfl
def Res.each {α:Type} (Q:α->Prop):Res α->Prop
 | .fail=>True
 | .ret a=>Q a
 | .choice n k=>∀i,i<n->(k i).each Q
theorem Res.each_bind {α β:Type} {Q:β->Prop}:∀(x:Res α) (f:α->Res β),(x.bind f).each Q↔x.each fun a=>(f a).each Q
 | .fail,_=>Iff.rfl
 | .ret _,_=>Iff.rfl
 | .choice n k,f=>by
  simp only [Res.bind,Res.each]
  exact ⟨fun h i hi=>(Res.each_bind (k i) f).1 (h i hi),fun h i hi=>(Res.each_bind (k i) f).2 (h i hi)⟩
theorem Res.each_true {α:Type} {Q:α->Prop} (hq:∀a,Q a):∀(x:Res α),x.each Q
 | .fail=>trivial
 | .ret a=>hq a
 | .choice _ k=>fun i _=>Res.each_true hq (k i)
theorem Res.all_each {α:Type} {Q R:α->Prop}:∀(x:Res α),x.all Q->x.each R->x.all fun a=>Q a/\R a
 | .fail,h,_=>h
 | .ret _,h,r=>⟨h,r⟩
 | .choice _ k,⟨h0,h⟩,r=>⟨h0,fun i hi=>Res.all_each (k i) (h i hi) (r i hi)⟩
structure Calm (call:Bf):Prop where
 clone:∀f,(∀as h,call true (.clone f) as h = .fail)\/∀as h,call true (.clone f) as h=Ga as h
 cloneLe:∀f as h (Q:AV×Bc->Prop),(call true (.clone f) as h).all Q->(call true (.fn f) as h).all Q
 calm:∀f as h,(call false f as h).each fun p=>p.2=h
 free:∀f as,as.all (Dy depth)=true->∃r:Res AV,∀h,call false f as h=r.bind fun v => .ret (v,h)
def Bl (call:Bf) (base:Nat) (o:IOper) (e:Env) (h:Bc):Res (AV×Bc):=
 match o.guard with
 | none=>Bd call (base+o.dst.getD 0) o.op e h
 | some (t,want) =>
  match Bs e t with
  | .bool b=>if b=want then Bd call (base+o.dst.getD 0) o.op e h else .ret (.skip,h)
  | .skip => .ret (.skip,h)
  | _ => .fail
theorem Hx (call:Bf) (base:Nat) (o:IOper) (s:St):Bv call base o s=(Bl call base o s.env s.heap).bind fun p => .ret ⟨Bk s.env o.dst p.1,p.2⟩:=by
 unfold Bv Bl
 cases o.guard with
 | none=>rfl
 | some p =>
  obtain ⟨t,want⟩:=p
  simp only
  cases Bs s.env t <;> try rfl
  simp only
  split <;> rfl
theorem Ke {call:Bf} {base:Nat} {o:IOper} {e e':Env} {h:Bc} (hh:∀t∈o.looks,Bs e t=Bs e' t):Bl call base o e h=Bl call base o e' h:=by
 unfold IOper.looks at hh
 unfold Bl
 have ho:Bd call (base+o.dst.getD 0) o.op e h=Bd call (base+o.dst.getD 0) o.op e' h:=Adr fun t ht=>hh t (by simp [ht])
 cases hg:o.guard with
 | none=>exact ho
 | some p =>
  obtain ⟨t,want⟩:=p
  simp only
  rw [<-hh t (by simp [hg]),ho]
theorem A8a (call:Bf) (base:Nat) (o:IOper) (e:Env) (ht:o.op.touch = .not) :
  ∃r:Res AV,∀h,Bl call base o e h=r.bind fun v => .ret (v,h):=by
 have hop:∃r:Res AV,∀h,Bd call (base+o.dst.getD 0) o.op e h=r.bind fun v => .ret (v,h):=by
  refine ⟨(Bd call (base+o.dst.getD 0) o.op e []).bind fun p => .ret p.1,fun h => ?_⟩
  have assoc:∀{α β γ:Type} (x:Res α) (f:α->Res β) (g:β->Res γ),(x.bind f).bind g=x.bind fun a=>(f a).bind g:=by
   intro α β γ x f g
   induction x with
   | fail=>rfl
   | ret a=>rfl
   | choice n k ih=>simp only [Res.bind]; congr 1; funext i; exact ih i
  have comm:∀{α:Type} (x:Res α) (f:α->AV),((x.bind fun a=>Res.ret (f a,h))=((x.bind fun a=>(Res.ret (f a,([]:Bc)):Res (AV×Bc))).bind fun p=>Res.ret p.1).bind fun v=>Res.ret (v,h)):=by
   intro α x f; rw [assoc,assoc]; rfl
  cases hop:o.op <;> simp only [hop,IOp.touch,reduceCtorEq] at ht
  case mv=>rfl
  case pick c a b=>simp only [Bd]; split <;> rfl
  case build z ps=>simp only [Bd]; split <;> first | rfl | exact comm _ _
  case buildSlice g z ps =>
   simp only [Bd]
   split
   ·rw [assoc,assoc]
    congr 1; funext cs
    split <;> rfl
   ·rfl
  case nilCheck x=>simp only [Bd]; split <;> rfl
  case bin op x y=>simp only [Bd]; exact comm _ _
  case eqB n x y=>simp only [Bd]; split <;> rfl
  case eqAgg n b x y=>simp only [Bd]; split <;> (try (split <;> (try split))) <;> rfl
  case un op x=>simp only [Bd]; exact comm _ _
  case conv k x=>simp only [Bd]; split <;> rfl
  case mkFunc=>rfl
  case slice g x lo hi mx =>
   simp only [Bd]
   split
   ·split
    ·rfl
    ·exact comm _ (fun p:Nat×Nat×Option Nat=>_)
   ·split
    ·rfl
    ·exact comm _ (fun p:Nat×Nat×Option Nat=>_)
   ·rfl
  case fieldAddr off x=>simp only [Bd]; split <;> rfl
  case field g off x=>simp only [Bd]; split <;> first | rfl | exact comm _ _
  case indexAddr n x y =>
   simp only [Bd]; split
   ·split
    ·split <;> rfl
    ·rfl
   ·split <;> rfl
   ·rfl
  case indexAddrA m n x y=>simp only [Bd]; split <;> (try split) <;> rfl
  case index g n x y=>simp only [Bd]; split <;> (try split) <;> first | rfl | exact comm _ _
  case extract x i=>simp only [Bd]; split <;> first | rfl | exact comm _ _
  case len x=>simp only [Bd]; split <;> rfl
  case cap x=>simp only [Bd]; split <;> rfl
  case isNil n x=>simp only [Bd]; split <;> rfl
  case strIdx l x=>simp only [Bd]; split <;> (try split) <;> rfl
  case max xs=>simp only [Bd]; split <;> first | rfl | exact comm _ _
  case min xs=>simp only [Bd]; split <;> first | rfl | exact comm _ _
  case call r f xs=>split at ht <;> cases ht
  case callF r f xs=>split at ht <;> cases ht
  case bad=>rfl
 obtain ⟨r,hr⟩:=hop
 unfold Bl
 cases hg:o.guard with
 | none=>exact ⟨r,hr⟩
 | some p =>
  obtain ⟨t,want⟩:=p
  simp only
  cases Bs e t <;> try (first | exact ⟨.fail,fun _=>rfl⟩ | exact ⟨.ret .skip,fun _=>rfl⟩)
  next b =>
   simp only
   split
   ·exact ⟨r,hr⟩
   ·exact ⟨.ret .skip,fun _=>rfl⟩
theorem A1p {call:Bf} (hcalm:Calm call) (base:Nat) (o:IOper) (e:Env) (h:Bc) (ht:o.op.touch = .reads) :
  (Bl call base o e h).each fun p=>p.2=h:=by
 have hop:(Bd call (base+o.dst.getD 0) o.op e h).each fun p=>p.2=h:=by
  cases hop:o.op <;> simp only [hop,IOp.touch,reduceCtorEq] at ht
  case load g x =>
   simp only [Bd]
   split
   ·rw [Res.each_bind]; exact Res.each_true (fun a=>rfl) _
   ·split
    ·split
     ·rw [Res.each_bind]; exact Res.each_true (fun a=>rfl) _
     ·trivial
    ·trivial
   ·trivial
  case loadS g x d0 ts ds =>
   simp only [Bd]
   split
   ·rw [Res.each_bind]; exact Res.each_true (fun a=>rfl) _
   ·split
    ·split
     ·split
      ·rw [Res.each_bind]; exact Res.each_true (fun a=>rfl) _
      ·trivial
     ·trivial
    ·trivial
   ·trivial
  case loadU g x t =>
   simp only [Bd]
   split
   ·rw [Res.each_bind]; exact Res.each_true (fun a=>rfl) _
   ·split
    ·split
     ·split
      ·rw [Res.each_bind]; exact Res.each_true (fun a=>rfl) _
      ·trivial
     ·trivial
    ·trivial
   ·trivial
  case loadL g x d0 n ds =>
   simp only [Bd]
   split
   ·rw [Res.each_bind]; exact Res.each_true (fun a=>rfl) _
   ·split
    ·split
     ·split
      ·rw [Res.each_bind]; exact Res.each_true (fun a=>rfl) _
      ·trivial
     ·trivial
    ·trivial
   ·trivial
  case callS f xs =>
   simp only [Bd]
   split
   ·exact hcalm.calm (.fn f) _ h
   ·trivial
  case sliceA g n x lo hi mx =>
   simp only [Bd]
   split
   ·split
    ·split
     ·rw [Res.each_bind]; exact Res.each_true (fun a=>rfl) _
     ·trivial
    ·trivial
   ·split
    ·rw [Res.each_bind]; exact Res.each_true (fun a=>rfl) _
    ·trivial
   ·trivial
  case sliceW g x lo hi mx =>
   simp only [Bd]
   split
   ·split
    ·split
     ·trivial
     ·rw [Res.each_bind]; exact Res.each_true (fun a=>rfl) _
    ·trivial
   ·trivial
  case lookup kn z ok x y =>
   simp only [Bd]
   split
   ·split
    ·split
     ·trivial
     ·rfl
     ·split
      ·rfl
      ·trivial
    ·trivial
   ·trivial
  case lenM x =>
   simp only [Bd]
   split
   ·rfl
   ·trivial
  case entry x =>
   simp only [Bd]
   split
   ·split
    ·split
     ·split
      ·split
       ·rfl
       ·trivial
      ·trivial
     ·trivial
    ·trivial
   ·trivial
  case call r f xs =>
   split at ht
   ·cases ht
   ·next hb =>
    have hb:r=false:=by simpa using hb
    subst hb
    simp only [Bd]
    split
    ·exact hcalm.calm _ _ h
    ·exact hcalm.calm _ _ h
    ·trivial
  case callF r f xs =>
   split at ht
   ·cases ht
   ·next hb =>
    have hb:r=false:=by simpa using hb
    subst hb
    exact hcalm.calm (.fn f) _ h
 unfold Bl
 cases hg:o.guard with
 | none=>exact hop
 | some p =>
  obtain ⟨t,want⟩:=p
  simp only
  cases Bs e t <;> try (first | trivial | rfl)
  next b =>
   simp only
   split
   ·exact hop
   ·rfl
theorem Xc:∀(e:Env) (t u:Nat) (v w:AV),t≠u->Gk (Gk e t v) u w=Gk (Gk e u w) t v
 | [],0,0,_,_,h=>(h rfl).elim
 | [],0,u+1,v,w,_=>rfl
 | [],t+1,0,v,w,_=>rfl
 | [],t+1,u+1,v,w,h=>by simp only [Gk]; rw [Xc [] t u v w (by omega)]
 | _::r,0,0,_,_,h=>(h rfl).elim
 | _::r,0,u+1,v,w,_=>rfl
 | x::r,t+1,0,v,w,_=>rfl
 | x::r,t+1,u+1,v,w,h=>by simp only [Gk]; rw [Xc r t u v w (by omega)]
theorem Ed (e:Env) (d c:Option Nat) (v w:AV) (h:∀x,d=some x->c≠some x):Bk (Bk e d v) c w=Bk (Bk e c w) d v:=by
 cases d <;> cases c <;> simp only [Bk]
 next t u=>exact Xc e t u v w fun hc=>h t rfl (by rw [hc])
theorem Mg {e:Env} {d:Option Nat} {v:AV} {t:Nat} (h:d≠some t):Bs (Bk e d v) t=Bs e t:=by
 cases d with
 | none=>rfl
 | some u=>exact La e u t v fun hc=>h (by rw [hc])
theorem Ade {call:Bf} (hcalm:Calm call) (base:Nat) {x y:IOper} (hap:Ow x y=true) {s:St} {Q:St->Prop}
  (hq:(Bv call base x s).all fun s1=>(Bv call base y s1).all Q):(Bv call base y s).all fun s1=>(Bv call base x s1).all Q:=by
 unfold Ow at hap
 simp only [Bool.and_eq_true] at hap
 obtain ⟨⟨ht,hdx⟩,hdy⟩:=hap
 have hxy:∀t∈y.looks,x.dst≠some t:=fun t ht hc=>by
  rw [hc] at hdx; simp at hdx; exact hdx.1 ht
 have hyx:∀t∈x.looks,y.dst≠some t:=fun t ht hc=>by
  rw [hc] at hdy; simp at hdy; exact hdy ht
 have hdd:∀t,x.dst=some t->y.dst≠some t:=fun t hc hc'=>by
  rw [hc,hc'] at hdx; simp at hdx
 have cy:∀v h,Bl call base y (Bk s.env x.dst v) h=Bl call base y s.env h:=fun v h=>Ke fun t ht=>Mg (hxy t ht)
 have cx:∀v h,Bl call base x (Bk s.env y.dst v) h=Bl call base x s.env h:=fun v h=>Ke fun t ht=>Mg (hyx t ht)
 simp only [Hx,Res.all_bind,Res.all] at hq ⊢
 simp only [cy] at hq
 simp only [cx]
 by_cases hnx:x.op.touch = .not
 ·obtain ⟨r,hr⟩:=A8a call base x s.env hnx
  simp only [hr,Res.all_bind,Res.all] at hq ⊢
  have:=Res.all_swap _ _ hq
  refine Res.all_mono _ this fun p hp=>Res.all_mono _ hp fun v hv => ?_
  rw [Ed _ _ _ _ _ hdd] at hv
  exact hv
 ·by_cases hny:y.op.touch = .not
  ·obtain ⟨r,hr⟩:=A8a call base y s.env hny
   simp only [hr,Res.all_bind,Res.all] at hq ⊢
   have:=Res.all_swap _ _ hq
   refine Res.all_mono _ this fun p hp=>Res.all_mono _ hp fun v hv => ?_
   rw [Ed _ _ _ _ _ hdd] at hv
   exact hv
  ·have hrx:x.op.touch = .reads:=by
    revert ht hnx hny
    cases x.op.touch <;> cases y.op.touch <;> simp
   have hry:y.op.touch = .reads:=by
    revert ht hnx hny
    cases x.op.touch <;> cases y.op.touch <;> simp
   have ex:=A1p hcalm base x s.env s.heap hrx
   have ey:=A1p hcalm base y s.env s.heap hry
   have h1:=Res.all_mono _ (Res.all_each _ hq ex) (R:=fun p=>(Bl call base y s.env s.heap).all fun q=>Q ⟨Bk (Bk s.env x.dst p.1) y.dst q.1,s.heap⟩) fun p hp=>by
    obtain ⟨hp,he⟩:=hp
    rw [he] at hp
    refine Res.all_mono _ (Res.all_each _ hp ey) fun q hq => ?_
    obtain ⟨hq,he'⟩:=hq
    rw [he'] at hq
    exact hq
   have h2:=Res.all_swap _ _ h1
   refine Res.all_mono _ (Res.all_each _ h2 ey) fun q hq => ?_
   obtain ⟨hq,he⟩:=hq
   rw [he]
   refine Res.all_mono _ (Res.all_each _ hq ex) fun p hp => ?_
   obtain ⟨hp,he'⟩:=hp
   rw [he',Ed _ _ _ _ _ (fun t hc hc'=>hdd t hc' hc)]
   exact hp
theorem Jd:∀(h:Bc) (t u:Nat) (v w:AObj),t≠u->setH (setH h t v) u w=setH (setH h u w) t v
 | [],0,0,_,_,h=>(h rfl).elim
 | [],0,u+1,v,w,_=>rfl
 | [],t+1,0,v,w,_=>rfl
 | [],t+1,u+1,v,w,h=>by simp only [setH]; rw [Jd [] t u v w (by omega)]
 | _::r,0,0,_,_,h=>(h rfl).elim
 | _::r,0,u+1,v,w,_=>rfl
 | x::r,t+1,0,v,w,_=>rfl
 | x::r,t+1,u+1,v,w,h=>by simp only [setH]; rw [Jd r t u v w (by omega)]
def He (call:Bf) (base:Nat) (x:IOper) (e:Env) (h:Bc) (ok:Nat->Prop):Prop:=
 Bl call base x e h = .fail\/∃r:Res AV,Bl call base x e h=(r.bind fun v => .ret (v,h))/\∀ky o,ok ky->Bl call base x e (setH h ky o)=r.bind fun v => .ret (v,setH h ky o)
theorem On {call:Bf} {base:Nat} {x:IOper} {e:Env} {h:Bc} {g:Option Nat} {a:IX} {d0:Nat} {ts ds:List Nat} (hx:x.op = .loadS g a d0 ts ds) :
  He call base x e h fun ky=>∀k,Ly e (base+x.dst.getD 0) k d0 ts ds=true->ky≠k:=by
 have hop:(Bd call (base+x.dst.getD 0) x.op e h = .fail)\/∃r:Res AV,Bd call (base+x.dst.getD 0) x.op e h=(r.bind fun v => .ret (v,h))/\∀ky o,(∀k,Ly e (base+x.dst.getD 0) k d0 ts ds=true->ky≠k)->Bd call (base+x.dst.getD 0) x.op e (setH h ky o)=r.bind fun v => .ret (v,setH h ky o):=by
  rw [hx]
  simp only [Bd]
  cases a.ev e with
  | ptr cells off=>exact .inr ⟨_,rfl,fun ky o _=>rfl⟩
  | optr k ver off =>
   simp only
   by_cases hs:Ly e (base+x.dst.getD 0) k d0 ts ds=true
   ·rw [if_pos hs]
    cases hH:Bb h k with
    | cells v cs =>
     simp only
     by_cases hv:v=ver
     ·rw [if_pos hv]
      refine .inr ⟨_,rfl,fun ky o hk => ?_⟩
      rw [if_pos hs,Ba _ _ _ _ (hk k hs),hH]
      simp only
      rw [if_pos hv]
     ·rw [if_neg hv]; exact .inl rfl
    | _=>exact .inl rfl
   ·rw [if_neg hs]; exact .inl rfl
  | _=>exact .inl rfl
 unfold He Bl
 cases hg:x.guard with
 | none=>exact hop
 | some p =>
  obtain ⟨t,want⟩:=p
  simp only
  cases Bs e t <;> try (first | exact .inl rfl | exact .inr ⟨.ret .skip,rfl,fun _ _ _=>rfl⟩)
  next b =>
   simp only
   split
   ·exact hop
   ·exact .inr ⟨.ret .skip,rfl,fun _ _ _=>rfl⟩
theorem Om {call:Bf} (hcalm:Calm call) {base:Nat} {x:IOper} {e:Env} {h:Bc} {f:FuncId} {as:List IX} (hx:x.op = .callS f as) (ok:Nat->Prop):He call base x e h ok:=by
 have hop:(Bd call (base+x.dst.getD 0) x.op e h = .fail)\/∃r:Res AV,Bd call (base+x.dst.getD 0) x.op e h=(r.bind fun v => .ret (v,h))/\∀ky o,ok ky->Bd call (base+x.dst.getD 0) x.op e (setH h ky o)=r.bind fun v => .ret (v,setH h ky o):=by
  rw [hx]
  simp only [Bd]
  by_cases hf:(as.map (IX.ev e)).all (Dy depth)=true
  ·obtain ⟨r,hr⟩:=hcalm.free (.fn f) _ hf
   exact .inr ⟨r,by rw [if_pos hf,hr],fun ky o _=>by rw [if_pos hf,hr]⟩
  ·rw [if_neg hf]; exact .inl rfl
 unfold He Bl
 cases hg:x.guard with
 | none=>exact hop
 | some p =>
  obtain ⟨t,want⟩:=p
  simp only
  cases Bs e t <;> try (first | exact .inl rfl | exact .inr ⟨.ret .skip,rfl,fun _ _ _=>rfl⟩)
  next b =>
   simp only
   split
   ·exact hop
   ·exact .inr ⟨.ret .skip,rfl,fun _ _ _=>rfl⟩
theorem Ys {call:Bf} {base:Nat} {x:IOper} {e:Env} {h:Bc} {g:Option Nat} {a:IX} (hx:x.op = .load g a):He call base x e h fun ky=>Bb h ky = .none:=by
 have hop:(Bd call (base+x.dst.getD 0) x.op e h = .fail)\/∃r:Res AV,Bd call (base+x.dst.getD 0) x.op e h=(r.bind fun v => .ret (v,h))/\∀ky o,Bb h ky = .none->Bd call (base+x.dst.getD 0) x.op e (setH h ky o)=r.bind fun v => .ret (v,setH h ky o):=by
  rw [hx]
  simp only [Bd]
  cases a.ev e with
  | ptr cells off=>exact .inr ⟨_,rfl,fun ky o _=>rfl⟩
  | optr k ver off =>
   simp only
   cases hH:Bb h k with
   | cells v cs =>
    simp only
    by_cases hv:v=ver
    ·rw [if_pos hv]
     refine .inr ⟨_,rfl,fun ky o hk => ?_⟩
     rw [Ba _ _ _ _ (fun he=>by rw [he,hH] at hk; cases hk),hH]
     simp only
     rw [if_pos hv]
    ·rw [if_neg hv]; exact .inl rfl
   | _=>exact .inl rfl
  | _=>exact .inl rfl
 unfold He Bl
 cases hg:x.guard with
 | none=>exact hop
 | some p =>
  obtain ⟨t,want⟩:=p
  simp only
  cases Bs e t <;> try (first | exact .inl rfl | exact .inr ⟨.ret .skip,rfl,fun _ _ _=>rfl⟩)
  next b =>
   simp only
   split
   ·exact hop
   ·exact .inr ⟨.ret .skip,rfl,fun _ _ _=>rfl⟩
theorem Lk {call:Bf} {base:Nat} {x:IOper} {e:Env} {h:Bc} {g:Option Nat} {a:IX} {d0 n:Nat} {ds:List Nat} (hx:x.op = .loadL g a d0 n ds) :
  He call base x e h fun ky=>∀k,k+d0<base+x.dst.getD 0+n->(∀d∈ds,base+x.dst.getD 0+d≠k+d0)->ky≠k:=by
 have hop:(Bd call (base+x.dst.getD 0) x.op e h = .fail)\/∃r:Res AV,Bd call (base+x.dst.getD 0) x.op e h=(r.bind fun v => .ret (v,h))/\∀ky o,(∀k,k+d0<base+x.dst.getD 0+n->(∀d∈ds,base+x.dst.getD 0+d≠k+d0)->ky≠k)->Bd call (base+x.dst.getD 0) x.op e (setH h ky o)=r.bind fun v => .ret (v,setH h ky o):=by
  rw [hx]
  simp only [Bd]
  cases a.ev e with
  | ptr cells off=>exact .inr ⟨_,rfl,fun ky o _=>rfl⟩
  | optr k ver off =>
   simp only
   by_cases hs:(decide (k+d0<base+x.dst.getD 0+n)&&ds.all (fun d=>base+x.dst.getD 0+d != k+d0))=true
   ·rw [if_pos hs]
    cases hH:Bb h k with
    | cells v cs =>
     simp only
     by_cases hv:v=ver
     ·rw [if_pos hv]
      refine .inr ⟨_,rfl,fun ky o hk => ?_⟩
      have hs':=hs
      simp only [Bool.and_eq_true,decide_eq_true_eq,List.all_eq_true,bne_iff_ne] at hs'
      rw [if_pos hs,Ba _ _ _ _ (hk k hs'.1 hs'.2),hH]
      simp only
      rw [if_pos hv]
     ·rw [if_neg hv]; exact .inl rfl
    | _=>exact .inl rfl
   ·rw [if_neg hs]; exact .inl rfl
  | _=>exact .inl rfl
 unfold He Bl
 cases hg:x.guard with
 | none=>exact hop
 | some p =>
  obtain ⟨t,want⟩:=p
  simp only
  cases Bs e t <;> try (first | exact .inl rfl | exact .inr ⟨.ret .skip,rfl,fun _ _ _=>rfl⟩)
  next b =>
   simp only
   split
   ·exact hop
   ·exact .inr ⟨.ret .skip,rfl,fun _ _ _=>rfl⟩
theorem Aar {call:Bf} {base:Nat} {y:IOper} {e:Env} {h:Bc} {g:Option Nat} {a:IX} {n:Nat} {ds:List Nat} (hy:y.op = .loadL g a (y.dst.getD 0) n ds) :
  ∃r:Res AV,∀h',(h'=h\/∃ky o,base+n<=ky/\h'=setH h ky o)->Bl call base y e h'=r.bind fun v => .ret (v,h'):=by
 have hop:∃r:Res AV,∀h',(h'=h\/∃ky o,base+n<=ky/\h'=setH h ky o)->Bd call (base+y.dst.getD 0) y.op e h'=r.bind fun v => .ret (v,h'):=by
  rw [hy]
  simp only [Bd]
  cases a.ev e with
  | ptr cells off=>exact ⟨_,fun h' _=>rfl⟩
  | optr k ver off =>
   simp only
   by_cases hs:(decide (k+y.dst.getD 0<base+y.dst.getD 0+n)&&ds.all (fun d=>base+y.dst.getD 0+d != k+y.dst.getD 0))=true
   ·have hsame:∀h',(h'=h\/∃ky o,base+n<=ky/\h'=setH h ky o)->Bb h' k=Bb h k:=by
     rintro h' (rfl | ⟨ky,o,hk,rfl⟩)
     ·rfl
     ·simp only [Bool.and_eq_true,decide_eq_true_eq] at hs
      exact Ba _ _ _ _ (by omega)
    refine ⟨(match Bb h k with | .cells v cs=>if v=ver then rd g cs off else .fail | _ => .fail),fun h' hh => ?_⟩
    rw [if_pos hs,hsame h' hh]
    cases Bb h k <;> try rfl
    simp only
    split <;> rfl
   ·exact ⟨.fail,fun h' _=>by rw [if_neg hs]; rfl⟩
  | _=>exact ⟨.fail,fun h' _=>rfl⟩
 obtain ⟨r,hr⟩:=hop
 unfold Bl
 cases hg:y.guard with
 | none=>exact ⟨r,hr⟩
 | some p =>
  obtain ⟨t,want⟩:=p
  simp only
  cases Bs e t <;> try (first | exact ⟨.fail,fun _ _=>rfl⟩ | exact ⟨.ret .skip,fun _ _=>rfl⟩)
  next b =>
   simp only
   split
   ·exact ⟨r,hr⟩
   ·exact ⟨.ret .skip,fun _ _=>rfl⟩
theorem Eh:∀(h:Bc) (k:Nat),h.length<=k->Bb h k = .none
 | [],k,_=>Ho k
 | _::r,0,hk=>by simp at hk
 | _::r,k+1,hk=>Eh r k (by simpa using hk)
theorem A9i {call:Bf} {base:Nat} {y:IOper} {e:Env} {h:Bc} (hg:y.guard=none) {n sz:Nat} {a v:IX} (hy:y.op = .storeL n sz a v) :
  (Bl call base y e h).each fun q=>∃ky o,base+y.dst.getD 0+n<=ky/\q.2=setH h ky o:=by
 unfold Bl
 rw [hg,hy]
 simp only [Bd]
 split
 ·split
  ·next hk =>
   split
   ·split
    ·exact ⟨_,_,hk,rfl⟩
    ·trivial
   ·trivial
  ·trivial
 ·trivial
theorem A5e {call:Bf} {base:Nat} {y:IOper} {e:Env} {h:Bc} (hg:y.guard=none) {g:Option Nat} {z:List AV} {b:Nat} {l c:IX} (hy:y.op = .mkSlice g z b l c) :
  (Bl call base y e h).each fun q=>∃o,q.2=setH h h.length o:=by
 unfold Bl
 rw [hg,hy]
 simp only [Bd]
 split
 ·split
  ·exact ⟨_,rfl⟩
  ·trivial
 ·trivial
theorem Qi {call:Bf} {base:Nat} {y:IOper} {e:Env} {h:Bc} (hg:y.guard=none) {g:Option Nat} {z:List AV} {ps:List (Nat×Nat×IX)} (hy:y.op = .buildSliceO g z ps) :
  (Bl call base y e h).each fun q=>∃o,q.2=setH h h.length o:=by
 unfold Bl
 rw [hg,hy]
 simp only [Bd]
 split
 ·generalize Eg e ps z=r
  induction r with
  | fail=>trivial
  | ret cs=>exact ⟨_,rfl⟩
  | choice n k ih=>intro i hi; exact ih i
 ·trivial
theorem Xe {call:Bf} {base:Nat} {x:IOper} {e:Env} {h:Bc} {g:Option Nat} {a:IX} {t0:Nat} (hx:x.op = .loadU g a t0):He call base x e h fun ky=>Bb h ky = .none\/∀k,Nq (Bs e t0) k=true->ky≠k:=by
 have hop:(Bd call (base+x.dst.getD 0) x.op e h = .fail)\/∃r:Res AV,Bd call (base+x.dst.getD 0) x.op e h=(r.bind fun v => .ret (v,h))/\∀ky o,(Bb h ky = .none\/∀k,Nq (Bs e t0) k=true->ky≠k)->Bd call (base+x.dst.getD 0) x.op e (setH h ky o)=r.bind fun v => .ret (v,setH h ky o):=by
  rw [hx]
  simp only [Bd]
  cases a.ev e with
  | ptr cells off=>exact .inr ⟨_,rfl,fun ky o _=>rfl⟩
  | optr k ver off =>
   simp only
   by_cases hs:Nq (Bs e t0) k=true
   ·rw [if_pos hs]
    cases hH:Bb h k with
    | cells v cs =>
     simp only
     by_cases hv:v=ver
     ·rw [if_pos hv]
      refine .inr ⟨_,rfl,fun ky o hk => ?_⟩
      have hne:ky≠k:=by
       rcases hk with hk | hk
       ·exact fun he=>by rw [he,hH] at hk; cases hk
       ·exact hk k hs
      rw [if_pos hs,Ba _ _ _ _ hne,hH]
      simp only
      rw [if_pos hv]
     ·rw [if_neg hv]; exact .inl rfl
    | _=>exact .inl rfl
   ·rw [if_neg hs]; exact .inl rfl
  | _=>exact .inl rfl
 unfold He Bl
 cases hg:x.guard with
 | none=>exact hop
 | some p =>
  obtain ⟨t,want⟩:=p
  simp only
  cases Bs e t <;> try (first | exact .inl rfl | exact .inr ⟨.ret .skip,rfl,fun _ _ _=>rfl⟩)
  next b =>
   simp only
   split
   ·exact hop
   ·exact .inr ⟨.ret .skip,rfl,fun _ _ _=>rfl⟩
theorem A9a:∀a b:List AV,A5v a b=true->a=b
 | [],[],_=>rfl
 | .int k a::r,.int k' b::s,h=>by
  simp only [A5v,Bool.and_eq_true,decide_eq_true_eq] at h
  obtain ⟨⟨rfl,rfl⟩,h⟩:=h
  rw [A9a r s h]
 | [],_::_,h=>by cases h
 | .int _ _::_,[],h=>by cases h
theorem Anw {a b:AObj} (h:A5u a b=true):a=b:=by
 cases a <;> cases b <;> simp only [A5u,Bool.false_eq_true] at h
 simp only [Bool.and_eq_true,beq_iff_eq] at h
 rw [h.1,A9a _ _ h.2]
theorem Aic {call:Bf} {base:Nat} {x:IOper} {e:Env} {h:Bc} {g:Option Nat} {a:IX} (hx:x.op = .load g a):Bl call base x e h = .fail\/∃r:Res AV,Bl call base x e h=(r.bind fun v => .ret (v,h))/\∀h',(∀k ver off,a.ev e = .optr k ver off->Bb h' k=Bb h k)->Bl call base x e h'=r.bind fun v => .ret (v,h'):=by
 have hop:(Bd call (base+x.dst.getD 0) x.op e h = .fail)\/∃r:Res AV,Bd call (base+x.dst.getD 0) x.op e h=(r.bind fun v => .ret (v,h))/\∀h',(∀k ver off,a.ev e = .optr k ver off->Bb h' k=Bb h k)->Bd call (base+x.dst.getD 0) x.op e h'=r.bind fun v => .ret (v,h'):=by
  rw [hx]
  simp only [Bd]
  cases a.ev e with
  | ptr cells off=>exact .inr ⟨_,rfl,fun h' _=>rfl⟩
  | optr k ver off =>
   simp only
   cases hH:Bb h k with
   | cells v cs =>
    simp only
    by_cases hv:v=ver
    ·rw [if_pos hv]
     refine .inr ⟨_,rfl,fun h' hk => ?_⟩
     rw [hk k ver off rfl,hH]
     simp only
     rw [if_pos hv]
    ·rw [if_neg hv]; exact .inl rfl
   | _=>exact .inl rfl
  | _=>exact .inl rfl
 unfold Bl
 cases hg:x.guard with
 | none=>exact hop
 | some p =>
  obtain ⟨t,want⟩:=p
  simp only
  cases Bs e t <;> try (first | exact .inl rfl | exact .inr ⟨.ret .skip,rfl,fun _ _=>rfl⟩)
  next b =>
   simp only
   split
   ·exact hop
   ·exact .inr ⟨.ret .skip,rfl,fun _ _=>rfl⟩
theorem Agj {call:Bf} {base:Nat} {y:IOper} {e:Env} {h:Bc} (hg:y.guard=none) {ts:List Nat} {f:FuncId} {xs:List IX} (hy:y.op = .callW ts f xs) :
  (Bl call base y e h).each fun q=>∀t∈ts,∀k ver off,Bs e t = .optr k ver off->Bb q.2 k=Bb h k:=by
 unfold Bl
 rw [hg,hy]
 simp only [Bd]
 generalize call true (.fn f) (xs.map (IX.ev e)) h=r
 induction r with
 | fail=>trivial
 | ret p =>
  simp only [Res.bind]
  split
  ·next hall =>
   intro t ht k ver off he
   unfold Mt at hall
   have:=List.all_eq_true.1 hall t ht
   rw [he] at this
   exact (Anw this).symm
  ·trivial
 | choice n k ih=>intro i hi; exact ih i
theorem Ln {f:AV->AV->Bool} (hf:∀a b,f a b=true->a=b):∀l r,Rz f l r=true->l=r
 | [],[],_=>rfl
 | a::l,b::r,h=>by
  simp only [Rz,Bool.and_eq_true] at h
  rw [hf a b h.1,Ln hf l r h.2]
 | [],_::_,h=>by cases h
 | _::_,[],h=>by cases h
theorem Awl:∀n a b,eqW n a b=true->a=b:=by
 intro n
 induction n with
 | zero=>intro a b h; cases h
 | succ n ih =>
  intro a b h
  cases a <;> cases b <;> simp only [eqW,Bool.and_eq_true,decide_eq_true_eq,beq_iff_eq] at h <;> first | (cases h; done) | skip
  ·rw [h]
  ·rw [h.1,h.2]
  ·rw [Ln ih _ _ h]
  ·rw [h.1.1,Ln ih _ _ h.1.2,h.2]
  ·rw [Ln ih _ _ h.1,h.2]
  ·rw [Ln ih _ _ h.1,Ln ih _ _ h.2]
  ·rw [h.1.1,h.1.2,h.2]
  ·rw [h.1,h.2]
theorem Qt {a b:AObj} {v:Nat} {cs:List AV} (h:Nf a b=true) (ha:a = .cells v cs):b = .cells v cs:=by
 subst ha
 cases b <;> simp only [Nf,Bool.false_eq_true,Bool.and_eq_true,beq_iff_eq] at h
 rw [<-h.1,<-Ln (Awl 8) _ _ h.2]
theorem Afw {a b:AObj} (h:Nf a b=true) (ha:∀v cs,a ≠ .cells v cs):∀v cs,b ≠ .cells v cs:=by
 intro v cs hb
 subst hb
 cases a <;> simp only [Nf,Bool.false_eq_true] at h
 exact ha _ _ rfl
theorem A1h {call:Bf} {base:Nat} {x:IOper} {e:Env} {h:Bc} {g:Option Nat} {a:IX} {d0 n:Nat} {ds:List Nat} (hx:x.op = .loadL g a d0 n ds) (hd:d0=x.dst.getD 0):∃r:Res AV,Bl call base x e h=(r.bind fun v => .ret (v,h))/\∀h',(∀k,k<base+n->Nf (Bb h k) (Bb h' k)=true)->Bl call base x e h'=r.bind fun v => .ret (v,h'):=by
 have hop:∃r:Res AV,Bd call (base+x.dst.getD 0) x.op e h=(r.bind fun v => .ret (v,h))/\∀h',(∀k,k<base+n->Nf (Bb h k) (Bb h' k)=true)->Bd call (base+x.dst.getD 0) x.op e h'=r.bind fun v => .ret (v,h'):=by
  rw [hx]
  simp only [Bd]
  cases a.ev e with
  | ptr cells off=>exact ⟨_,rfl,fun h' _=>rfl⟩
  | optr k ver off =>
   simp only
   by_cases hs:(decide (k+d0<base+x.dst.getD 0+n)&&ds.all (fun d=>base+x.dst.getD 0+d != k+d0))=true
   ·rw [if_pos hs]
    have hk:k<base+n:=by
     simp only [Bool.and_eq_true,decide_eq_true_eq] at hs
     omega
    by_cases hc:∃v cs,Bb h k = .cells v cs
    ·obtain ⟨v,cs,hH⟩:=hc
     rw [hH]
     simp only
     by_cases hv:v=ver
     ·rw [if_pos hv]
      refine ⟨_,rfl,fun h' hk' => ?_⟩
      rw [if_pos hs,Qt (hk' k hk) hH]
      simp only
      rw [if_pos hv]
     ·rw [if_neg hv]
      refine ⟨.fail,rfl,fun h' hk' => ?_⟩
      rw [if_pos hs,Qt (hk' k hk) hH]
      simp only
      rw [if_neg hv]
      rfl
    ·have hc':∀v cs,Bb h k ≠ .cells v cs:=fun v cs h1=>hc ⟨v,cs,h1⟩
     refine ⟨.fail,?_,fun h' hk' => ?_⟩
     ·cases hH:Bb h k <;> first | exact absurd hH (hc' _ _) | rfl
     ·rw [if_pos hs]
      have h2:=Afw (hk' k hk) hc'
      cases hH:Bb h' k <;> first | exact absurd hH (h2 _ _) | rfl
   ·rw [if_neg hs]
    refine ⟨.fail,rfl,fun h' hk' => ?_⟩
    rw [if_neg hs]
    rfl
  | _=>exact ⟨.fail,rfl,fun _ _=>rfl⟩
 unfold Bl
 cases hg:x.guard with
 | none=>exact hop
 | some p =>
  obtain ⟨t,want⟩:=p
  simp only
  cases Bs e t <;> try (first | exact ⟨.fail,rfl,fun _ _=>rfl⟩ | exact ⟨.ret .skip,rfl,fun _ _=>rfl⟩)
  next b =>
   simp only
   split
   ·exact hop
   ·exact ⟨.ret .skip,rfl,fun _ _=>rfl⟩
theorem A0f {call:Bf} {base:Nat} {y:IOper} {e:Env} {h:Bc} (hg:y.guard=none) {d0 n:Nat} {f:FuncId} {xs:List IX} (hy:y.op = .callV d0 n f xs) (hd:d0=y.dst.getD 0) :
  (Bl call base y e h).each fun q=>∀k,k<base+n->Nf (Bb h k) (Bb q.2 k)=true:=by
 unfold Bl
 rw [hg,hy]
 simp only [Bd]
 generalize call true (.fn f) (xs.map (IX.ev e)) h=r
 induction r with
 | fail=>trivial
 | ret p =>
  simp only [Res.bind]
  split
  ·next hall =>
   intro k hk
   unfold A1f at hall
   exact List.all_eq_true.1 hall k (List.mem_range.2 (by omega))
  ·trivial
 | choice n k ih=>intro i hi; exact ih i
theorem A3n (key:Nat) (grp:Option Nat) (bytes:Nat) (x y:AV) (h:Bc):(Dh key grp bytes x y h).each fun q=>q.2=h\/∃ky o,(ky=key\/∃ver g off len cap,x = .oslice ky ver g off len cap)/\q.2=setH h ky o:=by
 unfold Dh
 split
 ·trivial
 ·split
  ·trivial
  ·split
   ·split
    ·trivial
    ·split
     ·exact .inl rfl
     ·exact .inr ⟨_,_,.inl rfl,rfl⟩
   ·split
    ·exact .inl rfl
    ·split
     ·split
      ·trivial
      ·split
       ·split
        ·split
         ·exact .inr ⟨_,_,.inr ⟨_,_,_,_,_,rfl⟩,rfl⟩
         ·trivial
        ·exact .inr ⟨_,_,.inl rfl,rfl⟩
       ·split
        ·exact .inr ⟨_,_,.inr ⟨_,_,_,_,_,rfl⟩,rfl⟩
        ·split
         ·exact .inr ⟨_,_,.inr ⟨_,_,_,_,_,rfl⟩,rfl⟩
         ·trivial
     ·trivial
   ·trivial
theorem A9h {call:Bf} {base:Nat} {x:IOper} {e:Env} {h:Bc} {g:Option Nat} {a:IX} {d0 n:Nat} {ds:List Nat} (hx:x.op = .loadL g a d0 n ds):He call base x e h fun ky=>Bb h ky = .none:=by
 have hop:(Bd call (base+x.dst.getD 0) x.op e h = .fail)\/∃r:Res AV,Bd call (base+x.dst.getD 0) x.op e h=(r.bind fun v => .ret (v,h))/\∀ky o,Bb h ky = .none->Bd call (base+x.dst.getD 0) x.op e (setH h ky o)=r.bind fun v => .ret (v,setH h ky o):=by
  rw [hx]
  simp only [Bd]
  cases a.ev e with
  | ptr cells off=>exact .inr ⟨_,rfl,fun ky o _=>rfl⟩
  | optr k ver off =>
   simp only
   by_cases hs:(decide (k+d0<base+x.dst.getD 0+n)&&ds.all (fun d=>base+x.dst.getD 0+d != k+d0))=true
   ·rw [if_pos hs]
    cases hH:Bb h k with
    | cells v cs =>
     simp only
     by_cases hv:v=ver
     ·rw [if_pos hv]
      refine .inr ⟨_,rfl,fun ky o hk => ?_⟩
      rw [if_pos hs,Ba _ _ _ _ (fun he=>by rw [he,hH] at hk; cases hk),hH]
      simp only
      rw [if_pos hv]
     ·rw [if_neg hv]; exact .inl rfl
    | _=>exact .inl rfl
   ·rw [if_neg hs]; exact .inl rfl
  | _=>exact .inl rfl
 unfold He Bl
 cases hg:x.guard with
 | none=>exact hop
 | some p =>
  obtain ⟨t,want⟩:=p
  simp only
  cases Bs e t <;> try (first | exact .inl rfl | exact .inr ⟨.ret .skip,rfl,fun _ _ _=>rfl⟩)
  next b =>
   simp only
   split
   ·exact hop
   ·exact .inr ⟨.ret .skip,rfl,fun _ _ _=>rfl⟩
def Hw (cy:Option (Option Nat×Nat×List AV)) (key:Nat) (grp:Option Nat) (bytes:Nat) (x:AV) (h:Bc):Res (AV×Bc):=
 match cy with
 | none => .fail
 | some (gy,m,new) =>
  if gy≠grp then .fail else
  match x with
  | .slice gx xs exact =>
   if gx≠grp\/exact=false\/¬Et (xs.length+m) bytes then .fail
   else if m=0 then .ret (x,h)
   else
    let v:=(Bb h key).next
    .ret (.oslice key v grp 0 (xs.length+m) none,setH h key (.cells v (Ek grp xs++new)))
  | .oslice k ver gx off len cap =>
   if m=0 then .ret (x,h) else
   match Bb h k with
   | .cells v cs =>
    if gx≠grp\/v≠ver\/¬Et (len+m) bytes\/cs.length<off+len*Be grp then .fail
    else
     match cap with
     | some c =>
      if len+m<=c then
       if off+(len+m)*Be grp<=cs.length then
        .ret (.oslice k ver grp off (len+m) cap,setH h k (.cells v (Dk cs (off+len*Be grp) new)))
       else .fail
      else
       let u:=(Bb h key).next
       .ret (.oslice key u grp 0 (len+m) none,setH h key (.cells u ((cs.drop off).take (len*Be grp)++new)))
     | none =>
      if off+(len+m)*Be grp<=cs.length then
       .ret (.oslice k ver grp off (len+m) none,setH h k (.cells v (Dk cs (off+len*Be grp) new)))
      else if off=0/\cs.length=len*Be grp then
       .ret (.oslice k (v+1) grp 0 (len+m) none,setH h k (.cells (v+1) (cs++new)))
      else .fail
   | _ => .fail
  | _ => .fail
theorem Nr {key:Nat} {grp:Option Nat} {bytes:Nat} {x y:AV} {h:Bc} {n:Nat} (hx:Gs key 0 n x=true) (hy:Gs key 0 n y=true) (hl:key+n<=h.length) :
  Dh h.length grp bytes x y h = .fail\/∃v,(Dh h.length grp bytes x y h = .ret (v,h)/\∀κ o,κ<key+n->Dh (setH h κ o).length grp bytes x y (setH h κ o) = .ret (v,setH h κ o))\/
   ∃ky ob,key+n<=ky/\Dh h.length grp bytes x y h = .ret (v,setH h ky ob)/\∀κ o,κ<key+n->Dh (setH h κ o).length grp bytes x y (setH h κ o) = .ret (v,setH (setH h κ o) ky ob):=by
 have hlen:∀κ o,κ<key+n->(setH h κ o).length=h.length:=fun κ o hk=>by rw [Bh]; omega
 have hne:∀κ o,κ<key+n->Bb (setH h κ o) h.length=Bb h h.length:=fun κ o hk=>Ba _ _ _ _ (by omega)
 have hcs:∀κ o,κ<key+n->De (setH h κ o) y=De h y:=fun κ o hk=>by
  cases y <;> simp only [Gs,Bool.false_eq_true] at hy <;> simp only [De]
  have hk0:key+n<=_:=of_decide_eq_true hy
  rw [Ba _ _ _ _ (by omega)]
 have e0:Dh h.length grp bytes x y h=Hw (De h y) h.length grp bytes x h:=rfl
 have e1:∀κ o,κ<key+n->Dh (setH h κ o).length grp bytes x y (setH h κ o)=Hw (De h y) (setH h κ o).length grp bytes x (setH h κ o):=fun κ o hk=>by
  rw [<-hcs κ o hk]; rfl
 suffices hmain:Hw (De h y) h.length grp bytes x h = .fail\/∃v,(Hw (De h y) h.length grp bytes x h = .ret (v,h)/\∀κ o,κ<key+n->Hw (De h y) (setH h κ o).length grp bytes x (setH h κ o) = .ret (v,setH h κ o))\/
   ∃ky ob,key+n<=ky/\Hw (De h y) h.length grp bytes x h = .ret (v,setH h ky ob)/\∀κ o,κ<key+n->Hw (De h y) (setH h κ o).length grp bytes x (setH h κ o) = .ret (v,setH (setH h κ o) ky ob) by
  rw [e0]
  rcases hmain with hm | ⟨v,⟨h1,h2⟩ | ⟨ky,ob,h0,h1,h2⟩⟩
  ·exact .inl hm
  ·exact .inr ⟨v,.inl ⟨h1,fun κ o hk=>by rw [e1 κ o hk]; exact h2 κ o hk⟩⟩
  ·exact .inr ⟨v,.inr ⟨ky,ob,h0,h1,fun κ o hk=>by rw [e1 κ o hk]; exact h2 κ o hk⟩⟩
 generalize De h y=cy
 cases cy with
 | none=>exact .inl rfl
 | some p =>
 obtain ⟨gy,m,new⟩:=p
 unfold Hw
 simp only
 split
 ·next he=>exact .inl rfl
 ·next he =>
  cases x <;> simp only [Gs,Bool.false_eq_true] at hx
  next gx xs ex =>
   simp only
   split
   ·exact .inl rfl
   ·split
    ·next hm=>exact .inr ⟨_,.inl ⟨rfl,fun κ o hk=>rfl⟩⟩
    ·next hm =>
     refine .inr ⟨_,.inr ⟨h.length,_,hl,rfl,fun κ o hk => ?_⟩⟩
     rw [hlen κ o hk,hne κ o hk]
  next k ver gx off len cap =>
   have hk0:key+n<=k:=by simpa using hx
   simp only
   split
   ·next hm=>exact .inr ⟨_,.inl ⟨rfl,fun κ o hk=>rfl⟩⟩
   ·next hm =>
    have hgk:∀κ o,κ<key+n->Bb (setH h κ o) k=Bb h k:=fun κ o hk=>Ba _ _ _ _ (by omega)
    cases hH:Bb h k with
    | cells v cs =>
     simp only
     split
     ·next hc=>exact .inl rfl
     ·next hc =>
      cases cap with
      | some c =>
       simp only
       split
       ·next h1 =>
        split
        ·next h2 =>
         refine .inr ⟨_,.inr ⟨k,_,hk0,rfl,fun κ o hk => ?_⟩⟩
         rw [hgk κ o hk,hH]
         simp only
         rw [if_neg hc,if_pos h2]
        ·exact .inl rfl
       ·next h1 =>
        refine .inr ⟨_,.inr ⟨h.length,_,hl,rfl,fun κ o hk => ?_⟩⟩
        rw [hgk κ o hk,hH]
        simp only
        rw [if_neg hc,hlen κ o hk,hne κ o hk]
      | none =>
       simp only
       split
       ·next h1 =>
        refine .inr ⟨_,.inr ⟨k,_,hk0,rfl,fun κ o hk => ?_⟩⟩
        rw [hgk κ o hk,hH]
        simp only
        rw [if_neg hc,if_pos h1]
       ·next h1 =>
        split
        ·next h2 =>
         refine .inr ⟨_,.inr ⟨k,_,hk0,rfl,fun κ o hk => ?_⟩⟩
         rw [hgk κ o hk,hH]
         simp only
         rw [if_neg hc,if_neg h1,if_pos h2]
        ·exact .inl rfl
    | _=>exact .inl rfl
theorem Jn {key d0 n:Nat} {b:Nat} {x:AV} (hk:key=b+d0) (hx:Gs key d0 n x=true):Gs b 0 n x=true:=by
 subst hk
 cases x <;> simp only [Gs,Bool.false_eq_true] at hx ⊢
 simp only [decide_eq_true_eq] at hx ⊢
 omega
theorem Qv:∀(h r:Bc) (κ:Nat) (o:AObj),κ<h.length->setH h κ o++r=setH (h++r) κ o
 | [],r,κ,o,hk=>by simp at hk
 | _::t,r,0,o,_=>rfl
 | a::t,r,κ+1,o,hk=>by simp only [setH,List.cons_append]; rw [Qv t r κ o (by simpa using hk)]
theorem Aaa (as:List AV) (h:Bc) (b:Nat) (hb:as.all (Kv b 0)=true):Ga as h = .fail\/∃v ky ob,Ga as h = .ret (v,setH (h++List.replicate 8 .none) ky ob)/\h.length<=ky/\∀κ o,b<=κ->κ<h.length->Ga as (setH h κ o) = .ret (v,setH (setH (h++List.replicate 8 .none) κ o) ky ob):=by
 unfold Ga
 split
 ·next hh k ver off len cap =>
  simp only [List.all_cons,List.all_nil,Bool.and_true,Kv,decide_eq_true_eq] at hb
  cases hH:Bb h k with
  | cells v cs =>
   simp only
   split
   ·next hr =>
    refine .inr ⟨_,_,_,rfl,by omega,fun κ o hk1 hk => ?_⟩
    have:(setH h κ o).length=h.length:=by rw [Bh]; omega
    rw [Ba _ _ _ _ (by omega),hH]
    simp only
    rw [if_pos hr,this,Qv _ _ _ _ hk]
   ·exact .inl rfl
  | _=>exact .inl rfl
 ·next a r ex =>
  split
  ·next hr =>
   refine .inr ⟨_,_,_,rfl,by omega,fun κ o _ hk => ?_⟩
   have:(setH h κ o).length=h.length:=by rw [Bh]; omega
   rw [this,Qv _ _ _ _ hk]
  ·exact .inl rfl
 ·exact .inl rfl
theorem A4x:∀(m:Nat) (o:AObj),setH (List.replicate m .none) m o=setH [] m o
 | 0,_=>rfl
 | m+1,o=>by rw [List.replicate_succ,setH,setH,A4x m o]
theorem Sw:∀(h:Bc) (m:Nat) (o:AObj),setH (h++List.replicate m .none) (h.length+m) o=setH h (h.length+m) o
 | [],m,o=>by simpa using A4x m o
 | a::r,m,o=>by
  rw [List.cons_append,List.length_cons,show r.length+1+m=r.length+m+1 by omega,setH,setH,Sw r m o]
theorem Aab (as:List AV) (h:Bc):Ga as h = .fail\/∃v ky ob,Ga as h = .ret (v,setH h ky ob)/\h.length<=ky:=by
 unfold Ga
 split
 ·split
  ·split
   ·exact .inr ⟨_,_,_,by rw [Sw],by omega⟩
   ·exact .inl rfl
  ·exact .inl rfl
 ·split
  ·exact .inr ⟨_,_,_,by rw [Sw],by omega⟩
  ·exact .inl rfl
 ·exact .inl rfl
theorem A9z {key d0 b:Nat} (hk:key=b+d0) {as:List AV} (h:as.all (Kv key d0)=true):as.all (Kv b 0)=true:=by
 rw [List.all_eq_true] at h ⊢
 intro x hx
 have:=h x hx
 cases x <;> simp only [Kv,Bool.false_eq_true,decide_eq_true_eq] at this ⊢
 omega
theorem Yt {call:Bf} {base:Nat} {y:IOper} {e:Env} {h:Bc} (hg:y.guard=none) {sz:Nat} {a v:IX} (hy:y.op = .store sz a v) :
  (Bl call base y e h).each fun q=>∃ky ver off o,a.ev e = .optr ky ver off/\q.2=setH h ky o:=by
 unfold Bl
 rw [hg,hy]
 simp only [Bd]
 split
 ·split
  ·split
   ·exact ⟨_,_,_,_,by assumption,rfl⟩
   ·trivial
  ·trivial
 ·trivial
theorem Xf {call:Bf} {base:Nat} {y:IOper} {e:Env} {h:Bc} (hg:y.guard=none) {t sz:Nat} {a v:IX} (hy:y.op = .storeS t sz a v) :
  (Bl call base y e h).each fun q=>∃o,q.2=setH h (base+y.dst.getD 0+t) o:=by
 unfold Bl
 rw [hg,hy]
 simp only [Bd]
 split
 ·split
  ·next hk =>
   split
   ·split
    ·exact ⟨_,by rw [hk]⟩
    ·trivial
   ·trivial
  ·trivial
 ·trivial
theorem Qh {call:Bf} {base:Nat} {y:IOper} {e:Env} {h:Bc} (hg:y.guard=none) {z:List AV} (hy:y.op = .alloc z) :
  (Bl call base y e h).each fun q=>∃o,q.2=setH h (base+y.dst.getD 0) o:=by
 unfold Bl
 rw [hg,hy]
 simp only [Bd]
 split
 ·exact ⟨_,rfl⟩
 ·trivial
theorem Qk:∀cs:List AV,cs.all Wp=true->Ec cs cs=some true
 | [],_=>rfl
 | c::r,h=>by
  simp only [List.all_cons,Bool.and_eq_true] at h
  cases c <;> simp only [Wp,Bool.false_eq_true,false_and] at h
  simp only [Ec,if_true]
  exact Qk r h.2
theorem A1g {kn:Option Nat} {k:AV} (h:Ei kn k=true):Ec k.cells k.cells=some true:=by
 cases kn with
 | none=>obtain ⟨a,b,rfl⟩:=Jl h; exact Qk _ rfl
 | some n=>obtain ⟨cs,rfl,_,h2⟩:=Jm h; exact Qk _ h2
theorem A0u {kn:Option Nat} {k:AV} (hk:Ei kn k=true):∀(ks:List AV) (i:Nat),Du kn k ks i=some none->Du kn k (ks++[k]) i=some (some (i+ks.length))
 | [],i,_=>by simp [Du,hk,A1g hk]
 | c::ks,i,h=>by
  simp only [Du] at h
  simp only [List.cons_append,Du]
  split at h
  ·next hc =>
   rw [if_pos hc]
   split at h
   ·cases h
   ·next he =>
    rw [A0u hk ks (i+1) h]
    simp; omega
   ·cases h
  ·cases h
theorem A4b {kn:Option Nat} {k:AV} (hk:Ei kn k=true):∀(ks:List AV) (i j:Nat),Du kn k ks i=some (some j)->Du kn k (ks.set (j-i) k) i=some (some j)
 | [],i,j,h=>by simp [Du] at h
 | c::ks,i,j,h=>by
  have h0:=Nv _ _ _ h
  simp only [Du] at h
  split at h
  ·next hc =>
   split at h
   ·next he =>
    cases h
    simp [Du,hk,A1g hk]
   ·next he =>
    obtain ⟨h1,_⟩:=Nv _ _ _ h
    rw [show j-i=(j-(i+1))+1 from by omega]
    simp only [List.set_cons_succ,Du]
    rw [if_pos hc,he]
    simp only
    exact A4b hk ks (i+1) j h
   ·cases h
  ·cases h
theorem A9x {call:Bf} (hcalm:Calm call) (base:Nat) {x y:IOper} (hap:Vt x y=true) {s:St} {Q:St->Prop}
  (hq:(Bv call base x s).all fun s1=>(Bv call base y s1).all Q):(Bv call base y s).all fun s1=>(Bv call base x s1).all Q:=by
 unfold Vt at hap
 simp only [Bool.and_eq_true] at hap
 obtain ⟨⟨⟨ht,hyg⟩,hdx⟩,hdy⟩:=hap
 have hyg:y.guard=none:=by simpa using hyg
 have hxy:∀t∈y.looks,x.dst≠some t:=fun t ht hc=>by
  rw [hc] at hdx; simp at hdx; exact hdx.1 ht
 have hyx:∀t∈x.looks,y.dst≠some t:=fun t ht hc=>by
  rw [hc] at hdy; simp at hdy; exact hdy ht
 have hdd:∀t,x.dst=some t->y.dst≠some t:=fun t hc hc'=>by
  rw [hc,hc'] at hdx; simp at hdx
 have cy:∀v h,Bl call base y (Bk s.env x.dst v) h=Bl call base y s.env h:=fun v h=>Ke fun t ht=>Mg (hxy t ht)
 have cx:∀v h,Bl call base x (Bk s.env y.dst v) h=Bl call base x s.env h:=fun v h=>Ke fun t ht=>Mg (hyx t ht)
 simp only [Hx,Res.all_bind,Res.all] at hq ⊢
 simp only [cy] at hq
 simp only [cx]
 have main:∀ok:Nat->Prop,He call base x s.env s.heap ok->((Bl call base y s.env s.heap).each fun q=>∃ky o,ok ky/\q.2=setH s.heap ky o)->
   (Bl call base y s.env s.heap).all fun q=>(Bl call base x s.env q.2).all fun p=>Q ⟨Bk (Bk s.env y.dst q.1) x.dst p.1,p.2⟩:=by
  intro ok hst hw
  rcases hst with hf | ⟨r,h1,h2⟩
  ·rw [hf] at hq; exact hq.elim
  ·rw [h1,Res.all_bind] at hq
   simp only [Res.all] at hq
   have h3:=Res.all_swap _ _ hq
   refine Res.all_mono _ (Res.all_each _ h3 hw) fun q hq' => ?_
   obtain ⟨hq',ky,o,hok,he⟩:=hq'
   rw [he,h2 ky o hok,Res.all_bind]
   refine Res.all_mono _ hq' fun v hv => ?_
   simp only [Res.all]
   rw [he,Ed _ _ _ _ _ hdd] at hv
   exact hv
 have main2:∀ok:Nat->Prop,He call base x s.env s.heap ok->((Bl call base y s.env s.heap).each fun q=>q.2=s.heap\/∃ky o,ok ky/\q.2=setH s.heap ky o)->
   (Bl call base y s.env s.heap).all fun q=>(Bl call base x s.env q.2).all fun p=>Q ⟨Bk (Bk s.env y.dst q.1) x.dst p.1,p.2⟩:=by
  intro ok hst hw
  rcases hst with hf | ⟨r,h1,h2⟩
  ·rw [hf] at hq; exact hq.elim
  ·rw [h1,Res.all_bind] at hq
   simp only [Res.all] at hq
   have h3:=Res.all_swap _ _ hq
   refine Res.all_mono _ (Res.all_each _ h3 hw) fun q hq' => ?_
   obtain ⟨hq',hor⟩:=hq'
   rcases hor with he | ⟨ky,o,hok,he⟩
   ·rw [he,h1,Res.all_bind]
    refine Res.all_mono _ hq' fun v hv => ?_
    simp only [Res.all]
    rw [he,Ed _ _ _ _ _ hdd] at hv
    exact hv
   ·rw [he,h2 ky o hok,Res.all_bind]
    refine Res.all_mono _ hq' fun v hv => ?_
    simp only [Res.all]
    rw [he,Ed _ _ _ _ _ hdd] at hv
    exact hv
 have mono:∀(z:Res (AV×Bc)) (A B:AV×Bc->Prop),(∀p,A p->B p)->z.each A->z.each B:=by
  intro z A B hAB
  induction z with
  | fail=>intro _; trivial
  | ret p=>exact hAB p
  | choice n k ih=>intro h i hi; exact ih i (h i hi)
 cases hxo:x.op <;> simp only [hxo,reduceCtorEq,Bool.false_eq_true] at ht
 case loadS g a d0 ts ds =>
  cases hyo:y.op <;> simp only [hyo,reduceCtorEq,Bool.false_eq_true] at ht
  case store sz b v =>
   cases b with
   | const c=>simp at ht
   | tmp t =>
    simp only [Bool.and_eq_true,beq_iff_eq] at ht
    obtain ⟨ht,hd0⟩:=ht
    refine main _ (On hxo) ?_
    have hw:=Yt (call:=call) (base:=base) (e:=s.env) (h:=s.heap) hyg hyo
    have mono:∀(z:Res (AV×Bc)) (A B:AV×Bc->Prop),(∀p,A p->B p)->z.each A->z.each B:=by
     intro z A B hAB
     induction z with
     | fail=>intro _; trivial
     | ret p=>exact hAB p
     | choice n k ih=>intro h i hi; exact ih i (h i hi)
    refine mono _ _ _ ?_ hw
    rintro q ⟨ky,ver,off,o,h1,h2⟩
    refine ⟨ky,o,fun k hk => ?_,h2⟩
    unfold Ly at hk
    simp only [Bool.and_eq_true] at hk
    have h3:=List.all_eq_true.1 hk.1 t (by simpa using ht)
    have h4:Bs s.env t = .optr ky ver off:=h1
    rw [h4] at h3
    simpa using h3
  case alloc z =>
   have hsome:∃d,y.dst=some d/\ds.contains d=true:=by
    revert ht
    cases y.dst with
    | none=>intro ht; simp at ht
    | some d=>intro ht; rw [Bool.and_eq_true] at ht; exact ⟨d,rfl,ht.1⟩
   have hd0:d0=x.dst.getD 0:=by rw [Bool.and_eq_true,beq_iff_eq] at ht; exact ht.2
   obtain ⟨d,hyd,hdc⟩:=hsome
   refine main _ (On hxo) ?_
   have hw:=Qh (call:=call) (base:=base) (e:=s.env) (h:=s.heap) hyg hyo
   have mono:∀(z:Res (AV×Bc)) (A B:AV×Bc->Prop),(∀p,A p->B p)->z.each A->z.each B:=by
    intro z A B hAB
    induction z with
    | fail=>intro _; trivial
    | ret p=>exact hAB p
    | choice n k ih=>intro h i hi; exact ih i (h i hi)
   refine mono _ _ _ ?_ hw
   rintro q ⟨o,h2⟩
   refine ⟨_,o,fun k hk => ?_,h2⟩
   unfold Ly at hk
   simp only [Bool.and_eq_true] at hk
   have h3:=List.all_eq_true.1 hk.2 d (by simpa using hdc)
   rw [hyd]
   simp only [Option.getD_some,bne_iff_ne,ne_eq] at h3 ⊢
   omega
  case storeS t sz b v =>
   simp only [Bool.and_eq_true,beq_iff_eq] at ht
   obtain ⟨⟨hdc,hd0⟩,hy0⟩:=ht
   refine main _ (On hxo) ?_
   have hw:=Xf (call:=call) (base:=base) (e:=s.env) (h:=s.heap) hyg hyo
   have mono:∀(z:Res (AV×Bc)) (A B:AV×Bc->Prop),(∀p,A p->B p)->z.each A->z.each B:=by
    intro z A B hAB
    induction z with
    | fail=>intro _; trivial
    | ret p=>exact hAB p
    | choice n k ih=>intro h i hi; exact ih i (h i hi)
   refine mono _ _ _ ?_ hw
   rintro q ⟨o,h2⟩
   refine ⟨_,o,fun k hk => ?_,h2⟩
   unfold Ly at hk
   simp only [Bool.and_eq_true] at hk
   have h3:=List.all_eq_true.1 hk.2 t (by simpa using hdc)
   rw [hy0]
   simp only [bne_iff_ne,ne_eq] at h3
   omega
 case callS f as =>
  cases hyo:y.op <;> simp only [hyo,reduceCtorEq,Bool.false_eq_true] at ht
  case storeS t sz b v =>
   have hw:=Xf (call:=call) (base:=base) (e:=s.env) (h:=s.heap) hyg hyo
   have mono:∀(z:Res (AV×Bc)) (A B:AV×Bc->Prop),(∀p,A p->B p)->z.each A->z.each B:=by
    intro z A B hAB
    induction z with
    | fail=>intro _; trivial
    | ret p=>exact hAB p
    | choice n k ih=>intro h i hi; exact ih i (h i hi)
   exact main (fun _=>True) (Om hcalm hxo _) (mono _ _ _ (fun q ⟨o,h2⟩=>⟨_,o,trivial,h2⟩) hw)
  case store sz b v =>
   have hw:=Yt (call:=call) (base:=base) (e:=s.env) (h:=s.heap) hyg hyo
   have mono:∀(z:Res (AV×Bc)) (A B:AV×Bc->Prop),(∀p,A p->B p)->z.each A->z.each B:=by
    intro z A B hAB
    induction z with
    | fail=>intro _; trivial
    | ret p=>exact hAB p
    | choice n k ih=>intro h i hi; exact ih i (h i hi)
   exact main (fun _=>True) (Om hcalm hxo _) (mono _ _ _ (fun q ⟨ky,_,_,o,_,h2⟩=>⟨ky,o,trivial,h2⟩) hw)
  case alloc z =>
   have hw:=Qh (call:=call) (base:=base) (e:=s.env) (h:=s.heap) hyg hyo
   have mono:∀(z:Res (AV×Bc)) (A B:AV×Bc->Prop),(∀p,A p->B p)->z.each A->z.each B:=by
    intro z A B hAB
    induction z with
    | fail=>intro _; trivial
    | ret p=>exact hAB p
    | choice n k ih=>intro h i hi; exact ih i (h i hi)
   exact main (fun _=>True) (Om hcalm hxo _) (mono _ _ _ (fun q ⟨o,h2⟩=>⟨_,o,trivial,h2⟩) hw)
 case alloc zx =>
  cases hyo:y.op <;> simp only [hyo,reduceCtorEq,Bool.false_eq_true] at ht
  case alloc zy =>
   simp only [Bool.and_eq_true,Option.isSome_iff_exists] at ht
   obtain ⟨⟨dx,hdx'⟩,⟨dy,hdy'⟩⟩:=ht
   have hne:dx≠dy:=fun h=>hdd dx hdx' (by rw [hdy',h])
   have ey:∀h,Bl call base y s.env h=if zy.all oneB then .ret (.optr (base+dy) (Bb h (base+dy)).next 0,setH h (base+dy) (.cells (Bb h (base+dy)).next zy)) else .fail:=fun h=>by
    unfold Bl
    rw [hyg,hyo,hdy']
    rfl
   have ex:(∃v,∀h,Bl call base x s.env h = .ret (v,h))\/(∀h,Bl call base x s.env h = .fail)\/∀h,Bl call base x s.env h=if zx.all oneB then .ret (.optr (base+dx) (Bb h (base+dx)).next 0,setH h (base+dx) (.cells (Bb h (base+dx)).next zx)) else .fail:=by
    unfold Bl
    rw [hxo,hdx']
    cases x.guard with
    | none=>exact .inr (.inr fun h=>rfl)
    | some p =>
     obtain ⟨t,want⟩:=p
     simp only
     cases Bs s.env t <;> try (first | exact .inr (.inl fun _=>rfl) | exact .inl ⟨.skip,fun _=>rfl⟩)
     next b =>
      simp only
      split
      ·exact .inr (.inr fun h=>rfl)
      ·exact .inl ⟨.skip,fun _=>rfl⟩
   rcases ex with ⟨v,ex⟩ | ex | ex
   ·rw [ex] at hq
    simp only [Res.all,ey] at hq
    rw [ey]
    split at hq
    ·next hz =>
     rw [if_pos hz]
     simp only [Res.all,ex] at hq ⊢
     rw [Ed _ _ _ _ _ hdd] at hq
     exact hq
    ·exact hq.elim
   ·rw [ex] at hq; exact hq.elim
   ·rw [ex] at hq
    split at hq
    ·next hzx =>
     simp only [Res.all,ey] at hq
     rw [ey]
     split at hq
     ·next hz =>
      rw [if_pos hz]
      simp only [Res.all,ex] at hq ⊢
      rw [if_pos hzx]
      simp only [Res.all]
      rw [Ba _ _ _ _ (by omega)] at hq ⊢
      rw [Ed _ _ _ _ _ hdd,Jd _ _ _ _ _ (by omega)] at hq
      exact hq
     ·exact hq.elim
    ·exact hq.elim
 case mkSliceD d0 n gx zx bx lx cx =>
  cases hyo:y.op <;> simp only [hyo,reduceCtorEq,Bool.false_eq_true] at ht
  case mkSliceK gy zy bb ly cy =>
   simp only [Bool.and_eq_true,beq_iff_eq,decide_eq_true_eq,Option.isNone_iff_eq_none] at ht
   obtain ⟨⟨hdn,hd0⟩,hxg⟩:=ht
   have ey:(∀h,Bl call base y s.env h = .fail)\/∃(len cap:Nat),∀h,Bl call base y s.env h = .ret (.oslice (base+y.dst.getD 0) (Bb h (base+y.dst.getD 0)).next gy 0 len (some cap),setH h (base+y.dst.getD 0) (.cells (Bb h (base+y.dst.getD 0)).next (List.replicate cap zy).flatten)):=by
    unfold Bl
    rw [hyg,hyo]
    simp only [Bd]
    split
    ·next le ca _ _ =>
     by_cases hc:le<=ca/\Et ca bb=true/\zy.all oneB=true
     ·exact .inr ⟨le,ca,fun h=>by rw [if_pos hc]⟩
     ·exact .inl fun h=>by rw [if_neg hc]
    ·exact .inl fun h=>rfl
   have ex:(∀h,Bl call base x s.env h = .fail)\/∃(len cap:Nat),∀h,Bl call base x s.env h=if decide (base+x.dst.getD 0+n<=h.length+d0)=true then .ret (.oslice h.length (Bb h h.length).next gx 0 len (some cap),setH h h.length (.cells (Bb h h.length).next (List.replicate cap zx).flatten)) else .fail:=by
    unfold Bl
    rw [hxg,hxo]
    simp only [Bd]
    split
    ·next le ca _ _ =>
     by_cases hc:le<=ca/\Et ca bx=true/\zx.all oneB=true
     ·exact .inr ⟨le,ca,fun h=>by rw [if_pos hc]⟩
     ·exact .inl fun h=>by rw [if_neg hc]; split <;> rfl
    ·exact .inl fun h=>by split <;> rfl
   rcases ex with ex | ⟨len,cap,ex⟩
   ·rw [ex] at hq; exact hq.elim
   ·rw [ex] at hq
    split at hq
    ·next hc =>
     have hc':=hc
     simp only [decide_eq_true_eq] at hc'
     have hlen:∀o,(setH s.heap (base+y.dst.getD 0) o).length=s.heap.length:=fun o=>by rw [Bh]; omega
     rcases ey with ey | ⟨len2,cap2,ey⟩
     ·simp only [Res.all,ey] at hq
     ·simp only [Res.all,ey] at hq
      rw [ey]
      simp only [Res.all,ex]
      rw [hlen,if_pos hc]
      simp only [Res.all]
      rw [Ba _ _ _ _ (by omega)] at hq ⊢
      rw [Ed _ _ _ _ _ hdd,Jd _ _ _ _ _ (by omega)] at hq
      exact hq
    ·exact hq.elim
 case mkSliceK gx zx bx lx cx =>
  cases hyo:y.op <;> simp only [hyo,reduceCtorEq,Bool.false_eq_true] at ht
  case mkSliceK gy zy bb ly cy =>
   simp only [Bool.and_eq_true,Option.isSome_iff_exists,Option.isNone_iff_eq_none] at ht
   obtain ⟨⟨⟨dx,hdx'⟩,⟨dy,hdy'⟩⟩,hxg⟩:=ht
   have hne:dx≠dy:=fun h=>hdd dx hdx' (by rw [hdy',h])
   have ey:(∀h,Bl call base y s.env h = .fail)\/∃(len cap:Nat),∀h,Bl call base y s.env h = .ret (.oslice (base+dy) (Bb h (base+dy)).next gy 0 len (some cap),setH h (base+dy) (.cells (Bb h (base+dy)).next (List.replicate cap zy).flatten)):=by
    unfold Bl
    rw [hyg,hyo,hdy']
    simp only [Bd,Option.getD_some]
    split
    ·next le ca _ _ =>
     by_cases hc:le<=ca/\Et ca bb=true/\zy.all oneB=true
     ·exact .inr ⟨le,ca,fun h=>by rw [if_pos hc]⟩
     ·exact .inl fun h=>by rw [if_neg hc]
    ·exact .inl fun h=>rfl
   have ex:(∀h,Bl call base x s.env h = .fail)\/∃(len cap:Nat),∀h,Bl call base x s.env h = .ret (.oslice (base+dx) (Bb h (base+dx)).next gx 0 len (some cap),setH h (base+dx) (.cells (Bb h (base+dx)).next (List.replicate cap zx).flatten)):=by
    unfold Bl
    rw [hxg,hxo,hdx']
    simp only [Bd,Option.getD_some]
    split
    ·next le ca _ _ =>
     by_cases hc:le<=ca/\Et ca bx=true/\zx.all oneB=true
     ·exact .inr ⟨le,ca,fun h=>by rw [if_pos hc]⟩
     ·exact .inl fun h=>by rw [if_neg hc]
    ·exact .inl fun h=>rfl
   rcases ex with ex | ⟨len,cap,ex⟩
   ·rw [ex] at hq; exact hq.elim
   ·rw [ex] at hq
    rcases ey with ey | ⟨len2,cap2,ey⟩
    ·simp only [Res.all,ey] at hq
    ·simp only [Res.all,ey] at hq
     rw [ey]
     simp only [Res.all,ex]
     rw [Ba _ _ _ _ (by omega)] at hq ⊢
     rw [Ed _ _ _ _ _ hdd,Jd _ _ _ _ _ (by omega)] at hq
     exact hq
 case load g a =>
  cases hyo:y.op <;> simp only [hyo,reduceCtorEq,Bool.false_eq_true] at ht
  case mkSlice g' z b l c =>
   exact main _ (Ys hxo) (mono _ _ _ (fun q ⟨o,h2⟩=>⟨_,o,Eh _ _ (Nat.le_refl _),h2⟩) (A5e (call:=call) (base:=base) (e:=s.env) (h:=s.heap) hyg hyo))
  case callW ts f as =>
   cases a with
   | const c=>simp at ht
   | tmp t =>
    have ht:t∈ts:=by simpa using ht
    rcases Aic (call:=call) (base:=base) (e:=s.env) (h:=s.heap) hxo with hf | ⟨r,h1,h2⟩
    ·rw [hf] at hq; exact hq.elim
    ·rw [h1,Res.all_bind] at hq
     simp only [Res.all] at hq
     have h3:=Res.all_swap _ _ hq
     refine Res.all_mono _ (Res.all_each _ h3 (Agj (call:=call) (base:=base) (e:=s.env) (h:=s.heap) hyg hyo)) fun q hq' => ?_
     obtain ⟨hq',hk⟩:=hq'
     rw [h2 q.2 fun k ver off he=>hk t ht k ver off he,Res.all_bind]
     refine Res.all_mono _ hq' fun v hv => ?_
     simp only [Res.all]
     rw [Ed _ _ _ _ _ hdd] at hv
     exact hv
  case buildSliceO g' z ps =>
   exact main _ (Ys hxo) (mono _ _ _ (fun q ⟨o,h2⟩=>⟨_,o,Eh _ _ (Nat.le_refl _),h2⟩) (Qi (call:=call) (base:=base) (e:=s.env) (h:=s.heap) hyg hyo))
 case callV d1 m f' as' =>
  cases hyo:y.op <;> simp only [hyo,reduceCtorEq,Bool.false_eq_true] at ht
  case loadL g a d0 n ds =>
   simp only [Bool.and_eq_true,beq_iff_eq,Option.isNone_iff_eq_none] at ht
   obtain ⟨⟨⟨hnm,hd1⟩,hd0⟩,hxg⟩:=ht
   obtain ⟨r,h1,h2⟩:=A1h (call:=call) (base:=base) (e:=s.env) (h:=s.heap) hyo hd0
   have h3:=Res.all_each _ hq (A0f (call:=call) (base:=base) (e:=s.env) (h:=s.heap) hxg hxo hd1)
   have h4:(Bl call base x s.env s.heap).all fun q=>r.all fun v=>Q ⟨Bk (Bk s.env x.dst q.1) y.dst v,q.2⟩:=by
    refine Res.all_mono _ h3 fun q hq' => ?_
    obtain ⟨hq',hk⟩:=hq'
    rw [h2 q.2 fun k hkn=>hk k (by omega),Res.all_bind] at hq'
    exact hq'
   have h5:=Res.all_swap _ _ h4
   rw [h1,Res.all_bind]
   refine Res.all_mono _ h5 fun v hv => ?_
   simp only [Res.all]
   refine Res.all_mono _ hv fun q hq' => ?_
   rw [Ed _ _ _ _ _ hdd] at hq'
   exact hq'
 case loadU g a t =>
  cases hyo:y.op <;> simp only [hyo,reduceCtorEq,Bool.false_eq_true] at ht
  case buildSliceO g' z ps =>
   exact main _ (Xe hxo) (mono _ _ _ (fun q ⟨o,h2⟩=>⟨_,o,.inl (Eh _ _ (Nat.le_refl _)),h2⟩) (Qi (call:=call) (base:=base) (e:=s.env) (h:=s.heap) hyg hyo))
  case appendU t2 g' b u v =>
   have ht:t=t2:=by simpa using ht
   subst ht
   refine main2 _ (Xe hxo) ?_
   unfold Bl
   rw [hyg,hyo]
   simp only [Bd]
   split
   ·next hx =>
    refine mono _ _ _ (fun q hq' => ?_) (A3n s.heap.length g' b (u.ev s.env) (v.ev s.env) s.heap)
    rcases hq' with he | ⟨ky,o,hk,he⟩
    ·exact .inl he
    ·refine .inr ⟨ky,o,?_,he⟩
     rcases hk with rfl | ⟨_,_,_,_,_,hk⟩
     ·exact .inl (Eh _ _ (Nat.le_refl _))
     ·rw [hx] at hk; cases hk
   ·next k0 _ _ _ _ _ hx =>
    split
    ·next hsep =>
     refine mono _ _ _ (fun q hq' => ?_) (A3n s.heap.length g' b (u.ev s.env) (v.ev s.env) s.heap)
     rcases hq' with he | ⟨ky,o,hk,he⟩
     ·exact .inl he
     ·refine .inr ⟨ky,o,?_,he⟩
      rcases hk with rfl | ⟨_,_,_,_,_,hk⟩
      ·exact .inl (Eh _ _ (Nat.le_refl _))
      ·refine .inr fun k ha hkk => ?_
       rw [hx] at hk
       injection hk with hk1
       unfold A5w at hsep
       unfold Nq at ha
       cases hE:Bs s.env t <;> rw [hE] at hsep ha <;> simp only [Bool.false_eq_true] at hsep
       simp only [beq_iff_eq,bne_iff_ne,ne_eq] at hsep ha
       omega
    ·trivial
   ·trivial
 case loadL g a d0 n ds =>
  cases hyo:y.op <;> simp only [hyo,reduceCtorEq,Bool.false_eq_true] at ht
  case buildSliceO g' z ps =>
   exact main _ (A9h hxo) (mono _ _ _ (fun q ⟨o,h2⟩=>⟨_,o,Eh _ _ (Nat.le_refl _),h2⟩) (Qi (call:=call) (base:=base) (e:=s.env) (h:=s.heap) hyg hyo))
  case alloc z =>
   simp only [Bool.and_eq_true,beq_iff_eq] at ht
   obtain ⟨ht,hd0⟩:=ht
   have hsome:∃d,y.dst=some d/\ds.contains d=true:=by
    revert ht
    cases y.dst with
    | none=>intro ht; simp at ht
    | some d=>intro ht; exact ⟨d,rfl,ht⟩
   obtain ⟨d,hyd,hdc⟩:=hsome
   refine main _ (Lk hxo) (mono _ _ _ ?_ (Qh (call:=call) (base:=base) (e:=s.env) (h:=s.heap) hyg hyo))
   rintro q ⟨o,h2⟩
   refine ⟨_,o,fun k _ hk => ?_,h2⟩
   have:=hk d (by simpa using hdc)
   rw [hyd]
   simp only [Option.getD_some]
   omega
  case callD d1 m f' as' =>
   simp only [Bool.and_eq_true,beq_iff_eq] at ht
   obtain ⟨⟨hnm,hd0⟩,hd1⟩:=ht
   refine main2 _ (Lk hxo) ?_
   unfold Bl
   rw [hyg,hyo]
   simp only [Bd]
   split
   ·next hc =>
    simp only [decide_eq_true_eq] at hc
    rcases hcalm.clone f' with hf | hcl
    ·rw [hf]; trivial
    ·rw [hcl]
     rcases Aab (as'.map (IX.ev s.env)) s.heap with hf | ⟨v,ky,ob,hr,hk⟩
     ·rw [hf]; trivial
     ·rw [hr]; exact .inr ⟨ky,ob,fun k hk' _=>by omega,rfl⟩
   ·trivial
  case callV d1 m f' as' =>
   simp only [Bool.and_eq_true,beq_iff_eq] at ht
   obtain ⟨⟨hnm,hd0⟩,hd1⟩:=ht
   obtain ⟨r,h1,h2⟩:=A1h (call:=call) (base:=base) (e:=s.env) (h:=s.heap) hxo hd0
   rw [h1,Res.all_bind] at hq
   simp only [Res.all] at hq
   have h3:=Res.all_swap _ _ hq
   refine Res.all_mono _ (Res.all_each _ h3 (A0f (call:=call) (base:=base) (e:=s.env) (h:=s.heap) hyg hyo hd1)) fun q hq' => ?_
   obtain ⟨hq',hk⟩:=hq'
   rw [h2 q.2 fun k hkn=>hk k (by omega),Res.all_bind]
   refine Res.all_mono _ hq' fun v hv => ?_
   simp only [Res.all]
   rw [Ed _ _ _ _ _ hdd] at hv
   exact hv
  case storeL m sz b v =>
   simp only [Bool.and_eq_true,beq_iff_eq] at ht
   obtain ⟨⟨hnm,hd0⟩,hy0⟩:=ht
   refine main _ (Lk hxo) (mono _ _ _ ?_ (A9i (call:=call) (base:=base) (e:=s.env) (h:=s.heap) hyg hyo))
   rintro q ⟨ky,o,h1,h2⟩
   refine ⟨ky,o,fun k hk _ => ?_,h2⟩
   rw [hy0] at h1
   omega
  case appendL d1 m g' b u v =>
   simp only [Bool.and_eq_true,beq_iff_eq] at ht
   obtain ⟨⟨hnm,hd0⟩,hd1⟩:=ht
   refine main2 _ (Lk hxo) ?_
   unfold Bl
   rw [hyg,hyo]
   simp only [Bd]
   split
   ·next hc =>
    simp only [Bool.and_eq_true,decide_eq_true_eq] at hc
    obtain ⟨⟨c1,c2⟩,c3⟩:=hc
    rcases Nr (grp:=g') (bytes:=b) (h:=s.heap) (Jn (b:=base) (by rw [hd1]) c1) (Jn (b:=base) (by rw [hd1]) c2) (by omega) with hf | ⟨w,⟨hr,_⟩ | ⟨ky,ob,hk,hr,_⟩⟩
    ·rw [hf]; trivial
    ·rw [hr]; exact .inl rfl
    ·rw [hr]; exact .inr ⟨ky,ob,fun k hk' _=>by omega,rfl⟩
   ·trivial
 case appendL d0 n g b u v =>
  cases hyo:y.op <;> simp only [hyo,reduceCtorEq,Bool.false_eq_true] at ht
  case alloc z =>
   simp only [Bool.and_eq_true,beq_iff_eq,decide_eq_true_eq,Option.isNone_iff_eq_none] at ht
   obtain ⟨⟨hdn,hd0⟩,hxg⟩:=ht
   have ey:∀h,Bl call base y s.env h=if z.all oneB then .ret (.optr (base+y.dst.getD 0) (Bb h (base+y.dst.getD 0)).next 0,setH h (base+y.dst.getD 0) (.cells (Bb h (base+y.dst.getD 0)).next z)) else .fail:=fun h=>by
    unfold Bl
    rw [hyg,hyo]
    rfl
   have ex:∀h,Bl call base x s.env h=if Gs (base+x.dst.getD 0) d0 n (u.ev s.env)&&Gs (base+x.dst.getD 0) d0 n (v.ev s.env)&&decide (base+x.dst.getD 0+n<=h.length+d0) then Dh h.length g b (u.ev s.env) (v.ev s.env) h else .fail:=fun h=>by
    unfold Bl
    rw [hxg,hxo]
    rfl
   rw [ex] at hq
   split at hq
   ·next hc =>
    have hc':=hc
    simp only [Bool.and_eq_true,decide_eq_true_eq] at hc'
    obtain ⟨⟨c1,c2⟩,c3⟩:=hc'
    have hlen:∀o,(setH s.heap (base+y.dst.getD 0) o).length=s.heap.length:=fun o=>by rw [Bh]; omega
    rcases Nr (grp:=g) (bytes:=b) (Jn (b:=base) (by rw [hd0]) c1) (Jn (b:=base) (by rw [hd0]) c2) (show base+n<=s.heap.length by omega) with hf | ⟨w,⟨hr,hr2⟩ | ⟨ky,ob,hk,hr,hr2⟩⟩
    ·rw [hf] at hq; exact hq.elim
    ·rw [hr] at hq
     simp only [Res.all,ey] at hq
     rw [ey]
     split at hq
     ·next hz =>
      rw [if_pos hz]
      simp only [Res.all,ex] at hq ⊢
      rw [hlen,if_pos hc,<-hlen,hr2 _ _ (by omega)]
      simp only [Res.all]
      rw [Ed _ _ _ _ _ hdd] at hq
      exact hq
     ·exact hq.elim
    ·rw [hr] at hq
     simp only [Res.all,ey] at hq
     rw [ey]
     split at hq
     ·next hz =>
      rw [if_pos hz]
      simp only [Res.all,ex] at hq ⊢
      rw [hlen,if_pos hc,<-hlen,hr2 _ _ (by omega)]
      simp only [Res.all]
      rw [Ba _ _ _ _ (by omega)] at hq
      rw [Ed _ _ _ _ _ hdd,Jd _ _ _ _ _ (by omega)] at hq
      exact hq
     ·exact hq.elim
   ·exact hq.elim
  case loadL g' a d1 m ds =>
   simp only [Bool.and_eq_true,beq_iff_eq,Option.isNone_iff_eq_none] at ht
   obtain ⟨⟨⟨hnm,hd0⟩,hd1⟩,hxg⟩:=ht
   subst hnm hd1
   obtain ⟨r,hr⟩:=Aar (call:=call) (base:=base) (e:=s.env) (h:=s.heap) hyo
   have ex:∀h,Bl call base x s.env h=if Gs (base+x.dst.getD 0) d0 n (u.ev s.env)&&Gs (base+x.dst.getD 0) d0 n (v.ev s.env)&&decide (base+x.dst.getD 0+n<=h.length+d0) then Dh h.length g b (u.ev s.env) (v.ev s.env) h else .fail:=fun h=>by
    unfold Bl
    rw [hxg,hxo]
    rfl
   rw [ex] at hq
   split at hq
   ·next hc =>
    have hc':=hc
    simp only [Bool.and_eq_true,decide_eq_true_eq] at hc'
    obtain ⟨⟨c1,c2⟩,c3⟩:=hc'
    rw [hr _ (.inl rfl),Res.all_bind]
    rcases Nr (grp:=g) (bytes:=b) (Jn (b:=base) (by rw [hd0]) c1) (Jn (b:=base) (by rw [hd0]) c2) (show base+n<=s.heap.length by omega) with hf | ⟨w,⟨hr1,_⟩ | ⟨ky,ob,hk,hr1,_⟩⟩
    ·rw [hf] at hq; exact hq.elim
    ·rw [hr1] at hq
     simp only [Res.all] at hq
     rw [hr _ (.inl rfl),Res.all_bind] at hq
     refine Res.all_mono _ hq fun z hz => ?_
     simp only [Res.all,ex] at hz ⊢
     rw [if_pos hc,hr1]
     simp only [Res.all]
     rw [Ed _ _ _ _ _ hdd] at hz
     exact hz
    ·rw [hr1] at hq
     simp only [Res.all] at hq
     rw [hr _ (.inr ⟨ky,ob,hk,rfl⟩),Res.all_bind] at hq
     refine Res.all_mono _ hq fun z hz => ?_
     simp only [Res.all,ex] at hz ⊢
     rw [if_pos hc,hr1]
     simp only [Res.all]
     rw [Ed _ _ _ _ _ hdd] at hz
     exact hz
   ·exact hq.elim
 case callC d0 n f as =>
  cases hyo:y.op <;> simp only [hyo,reduceCtorEq,Bool.false_eq_true] at ht
  case mkSliceK g z b l c =>
   simp only [Bool.and_eq_true,beq_iff_eq,decide_eq_true_eq,Option.isNone_iff_eq_none] at ht
   obtain ⟨⟨hdn,hd0⟩,hxg⟩:=ht
   have ex:∀h,Bl call base x s.env h=if (as.map (IX.ev s.env)).all (Kv (base+x.dst.getD 0) d0)&&decide (base+x.dst.getD 0+n<=h.length+d0) then call true (.clone f) (as.map (IX.ev s.env)) h else .fail:=fun h=>by
    unfold Bl
    rw [hxg,hxo]
    rfl
   have ey:(∀h,Bl call base y s.env h = .fail)\/∃(len cap:Nat),∀h,Bl call base y s.env h = .ret (.oslice (base+y.dst.getD 0) (Bb h (base+y.dst.getD 0)).next g 0 len (some cap),setH h (base+y.dst.getD 0) (.cells (Bb h (base+y.dst.getD 0)).next (List.replicate cap z).flatten)):=by
    unfold Bl
    rw [hyg,hyo]
    simp only [Bd]
    split
    ·next le ca _ _ =>
     by_cases hc:le<=ca/\Et ca b=true/\z.all oneB=true
     ·exact .inr ⟨le,ca,fun h=>by rw [if_pos hc]⟩
     ·exact .inl fun h=>by rw [if_neg hc]
    ·exact .inl fun h=>rfl
   rw [ex] at hq
   split at hq
   ·next hc =>
    have hc':=hc
    simp only [Bool.and_eq_true,decide_eq_true_eq] at hc'
    obtain ⟨c1,c3⟩:=hc'
    have hlen:∀o,(setH s.heap (base+y.dst.getD 0) o).length=s.heap.length:=fun o=>by rw [Bh]; omega
    rcases hcalm.clone f with hf | hcl
    ·rw [hf] at hq; exact hq.elim
    ·rw [hcl] at hq
     rcases Aaa (as.map (IX.ev s.env)) s.heap base (A9z (by rw [hd0]) c1) with hf | ⟨w,ky,ob,hr,hk,hr2⟩
     ·rw [hf] at hq; exact hq.elim
     ·rw [hr] at hq
      rcases ey with ey | ⟨len,cap,ey⟩
      ·simp only [Res.all,ey] at hq
      ·simp only [Res.all,ey] at hq
       rw [ey]
       simp only [Res.all,ex]
       rw [hlen,if_pos hc,hcl,hr2 _ _ (by omega) (by omega)]
       simp only [Res.all]
       rw [Ba _ _ _ _ (by omega),Bi] at hq
       rw [Ed _ _ _ _ _ hdd,Jd _ _ _ _ _ (by omega)] at hq
       exact hq
   ·exact hq.elim
 case lookup kn z ok a k =>
  cases ok <;> cases hyo:y.op <;> simp only [hyo,reduceCtorEq,Bool.false_eq_true] at ht
  case mapEntry kn' z' a' k' =>
   simp only [Bool.and_eq_true,beq_iff_eq,Option.isNone_iff_eq_none] at ht
   obtain ⟨⟨⟨⟨hkn,ha⟩,hk⟩,hz⟩,hxg⟩:=ht
   have ixeq:∀a b:IX,Aee a b=true->a=b:=by
    intro a b h
    cases a <;> cases b <;> simp only [Aee,beq_iff_eq,Bool.false_eq_true] at h
    rw [h]
   have hz:z=z':=by
    cases z <;> cases z' <;> simp only [Aoq,Bool.and_eq_true,beq_iff_eq,Bool.false_eq_true] at hz
    rw [hz.1,hz.2]
   have ha:=ixeq _ _ ha
   have hk:=ixeq _ _ hk
   subst hkn ha hk hz
   have ex:∀h,Bl call base x s.env h=Bd call (base+x.dst.getD 0) (.lookup kn z false a k) s.env h:=fun h=>by
    unfold Bl
    rw [hxg,hxo]
   have ey:∀h,Bl call base y s.env h=Bd call (base+y.dst.getD 0) (.mapEntry kn z a k) s.env h:=fun h=>by
    unfold Bl
    rw [hyg,hyo]
   rw [ex] at hq
   rw [ey]
   simp only [ey] at hq
   simp only [ex]
   simp only [Bd] at hq ⊢
   cases hav:a.ev s.env <;> simp only [hav,Gb,Res.all] at hq ⊢
   case fmap =>
    split at hq
    ·split at hq
     ·exact hq.elim
     ·exact hq
     ·split at hq
      ·exact hq
      ·exact hq.elim
    ·exact hq.elim
   case omap mk ver =>
    cases hH:Bb s.heap mk <;> simp only [hH,Res.all] at hq ⊢
    next u clock ks vs bs =>
     by_cases hu:u=ver
     ·subst hu
      simp only [if_true,true_and] at hq ⊢
      by_cases hko:Ei kn (k.ev s.env)=true
      ·simp only [hko,if_true] at hq ⊢
       cases hf:Du kn (k.ev s.env) ks 0 with
       | none=>simp only [hf,Res.all] at hq
       | some r =>
        cases r with
        | none =>
         have hp:=A0u hko _ _ hf
         simp only [hf,Res.all,hH,and_self,hko,if_true] at hq ⊢
         by_cases hl:ks.length=vs.length
         ·simp only [if_pos hl,Res.all] at hq ⊢
          simp only [getH_setH_self,if_true,Option.some.injEq,hko,hp,Nat.zero_add,hl,List.getElem?_concat_length,Res.all]
          rw [Ed _ _ _ _ _ hdd] at hq
          exact hq
         ·simp only [if_neg hl,Res.all] at hq
        | some i =>
         have hp:=A4b hko _ _ _ hf
         rw [Nat.sub_zero] at hp
         simp only [hf] at hq ⊢
         cases hv:vs[i]? with
         | none=>simp only [hv,Res.all] at hq
         | some v =>
          simp only [hv,Res.all,hH,if_true,true_and,hko,hf] at hq ⊢
          cases hb:bs[i]? with
          | none=>simp only [hb,Res.all] at hq
          | some b =>
           simp only [hb,Res.all] at hq ⊢
           simp only [getH_setH_self,if_true,hko,hp,hv,Res.all]
           rw [Ed _ _ _ _ _ hdd] at hq
           exact hq
      ·simp only [hko,if_false,Res.all,Bool.false_eq_true] at hq
     ·simp only [if_neg hu,Res.all] at hq
theorem Ajm {call:Bf} {base:Nat} {ts ds:List Nat} {x:IOper} {s:St} {Q:St->Prop} (hq:(Bv call base (A9b ts ds x) s).all Q):(Bv call base x s).all Q:=by
 unfold A9b at hq
 split at hq
 ·exact hq
 ·obtain ⟨dst,op,guard⟩:=x
  have lift:∀op':IOp,(∀key e h (K:AV×Bc->Prop),(Bd call key op' e h).all K->(Bd call key op e h).all K)->(Bv call base ⟨dst,op',guard⟩ s).all Q->(Bv call base ⟨dst,op,guard⟩ s).all Q:=by
   intro op' hop hq
   rw [Hx,Res.all_bind] at hq ⊢
   unfold Bl at hq ⊢
   simp only at hq ⊢
   cases guard with
   | none=>exact hop _ _ _ _ hq
   | some p =>
    obtain ⟨t,want⟩:=p
    simp only at hq ⊢
    cases hE:Bs s.env t <;> rw [hE] at hq <;> try exact hq
    next b =>
     simp only at hq ⊢
     split at hq
     ·next hb=>rw [if_pos hb]; exact hop _ _ _ _ hq
     ·next hb=>rw [if_neg hb]; exact hq
  simp only at hq
  split at hq
  ·refine lift _ (fun key e h K hK => ?_) hq
   simp only [Bd] at hK ⊢
   split at hK
   ·exact hK
   ·split at hK
    ·exact hK
    ·exact hK.elim
   ·exact hK.elim
  ·refine lift _ (fun key e h K hK => ?_) hq
   simp only [Bd] at hK ⊢
   split at hK
   ·exact hK
   ·exact hK.elim
  ·exact hq
theorem Anz {call:Bf} {base:Nat} {late:Bool} {x:IOper} {s:St} {Q:St->Prop} (hq:(Bv call base (Afy late x) s).all Q):(Bv call base x s).all Q:=by
 unfold Afy at hq
 split at hq
 ·obtain ⟨dst,op,guard⟩:=x
  simp only at hq
  split at hq
  ·rw [Hx,Res.all_bind] at hq ⊢
   have hop:∀key e h (K:AV×Bc->Prop),∀t sz v,(Bd call key (.storeS t sz (.tmp t) v) e h).all K->(Bd call key (.store sz (.tmp t) v) e h).all K:=by
    intro key e h K t sz v hK
    simp only [Bd] at hK ⊢
    split at hK
    ·split at hK
     ·exact hK
     ·exact hK.elim
    ·exact hK.elim
   unfold Bl at hq ⊢
   simp only at hq ⊢
   cases guard with
   | none=>exact hop _ _ _ _ _ _ _ hq
   | some p =>
    obtain ⟨t,want⟩:=p
    simp only at hq ⊢
    cases hE:Bs s.env t <;> rw [hE] at hq <;> try exact hq
    next b =>
     simp only at hq ⊢
     split at hq
     ·next hb=>rw [if_pos hb]; exact hop _ _ _ _ _ _ _ hq
     ·next hb=>rw [if_neg hb]; exact hq
  ·exact hq
 ·exact hq
theorem A4w {call:Bf} (hcalm:Calm call) {base n:Nat} {late early:List IOper} {x:IOper} {s:St} {Q:St->Prop} (hq:(Bv call base (A9c n late early x) s).all Q):(Bv call base x s).all Q:=by
 obtain ⟨dst,op,guard⟩:=x
 have lift:∀op':IOp,(∀key e h (K:AV×Bc->Prop),(Bd call key op' e h).all K->(Bd call key op e h).all K)->(Bv call base ⟨dst,op',guard⟩ s).all Q->(Bv call base ⟨dst,op,guard⟩ s).all Q:=by
  intro op' hop hq
  rw [Hx,Res.all_bind] at hq ⊢
  unfold Bl at hq ⊢
  simp only at hq ⊢
  cases guard with
  | none=>exact hop _ _ _ _ hq
  | some p =>
   obtain ⟨t,want⟩:=p
   simp only at hq ⊢
   cases hE:Bs s.env t <;> rw [hE] at hq <;> try exact hq
   next b =>
    simp only at hq ⊢
    split at hq
    ·next hb=>rw [if_pos hb]; exact hop _ _ _ _ hq
    ·next hb=>rw [if_neg hb]; exact hq
 unfold A9c at hq
 simp only at hq
 split at hq
 ·split at hq
  ·refine lift _ (fun key e h K hK => ?_) hq
   simp only [Bd] at hK ⊢
   split at hK
   ·exact hK
   ·split at hK
    ·exact hK
    ·exact hK.elim
   ·exact hK.elim
  ·exact hq
 ·split at hq
  ·refine lift _ (fun key e h K hK => ?_) hq
   simp only [Bd] at hK ⊢
   split at hK
   ·exact hK
   ·exact hK.elim
  ·exact hq
 ·split at hq
  ·refine lift _ (fun key e h K hK => ?_) hq
   simp only [Bd] at hK ⊢
   split at hK
   ·split at hK
    ·exact hK
    ·exact hK.elim
   ·exact hK.elim
  ·exact hq
 ·split at hq
  ·refine lift _ (fun key e h K hK => ?_) hq
   simp only [Bd] at hK ⊢
   split at hK
   ·exact hK
   ·exact hK.elim
  ·exact hq
 ·split at hq
  ·refine lift _ (fun key e h K hK => ?_) hq
   simp only [Bd] at hK ⊢
   split at hK
   ·exact hcalm.cloneLe _ _ _ _ hK
   ·exact hK.elim
  ·split at hq
   ·refine lift _ (fun key e h K hK => ?_) hq
    simp only [Bd] at hK ⊢
    split at hK
    ·exact hcalm.cloneLe _ _ _ _ hK
    ·exact hK.elim
   ·exact hq
 ·exact hq
theorem Abl {call:Bf} {base:Nat} {l late early:List IOper} {x:IOper} {s:St} {Q:St->Prop} (hq:(Bv call base (Zx l late early x) s).all Q):(Bv call base x s).all Q:=by
 obtain ⟨dst,op,guard⟩:=x
 have lift:∀op':IOp,(∀key e h (K:AV×Bc->Prop),(Bd call key op' e h).all K->(Bd call key op e h).all K)->(Bv call base ⟨dst,op',guard⟩ s).all Q->(Bv call base ⟨dst,op,guard⟩ s).all Q:=by
  intro op' hop hq
  rw [Hx,Res.all_bind] at hq ⊢
  unfold Bl at hq ⊢
  simp only at hq ⊢
  cases guard with
  | none=>exact hop _ _ _ _ hq
  | some p =>
   obtain ⟨t,want⟩:=p
   simp only at hq ⊢
   cases hE:Bs s.env t <;> rw [hE] at hq <;> try exact hq
   next b =>
    simp only at hq ⊢
    split at hq
    ·next hb=>rw [if_pos hb]; exact hop _ _ _ _ hq
    ·next hb=>rw [if_neg hb]; exact hq
 unfold Zx at hq
 simp only at hq
 split at hq
 ·split at hq
  ·split at hq
   ·refine lift _ (fun key e h K hK => ?_) hq
    simp only [Bd] at hK ⊢
    split at hK
    ·exact hK
    ·split at hK
     ·exact hK
     ·exact hK.elim
    ·exact hK.elim
   ·exact hq
  ·exact hq
 ·split at hq
  ·refine lift _ (fun key e h K hK => ?_) hq
   simp only [Bd] at hK ⊢
   split at hK
   ·exact hK
   ·split at hK
    ·exact hK
    ·exact hK.elim
   ·exact hK.elim
  ·exact hq
 ·split at hq
  ·exact hq
  ·refine lift _ (fun key e h K hK => ?_) hq
   simp only [Bd] at hK ⊢
   rw [Res.all_bind] at hK
   refine Res.all_mono _ hK fun p hp => ?_
   split at hp
   ·exact hp
   ·exact hp.elim
 ·exact hq
theorem Afx {call:Bf} {base:Nat} {n:Nat} {late early:List IOper} {x:IOper} {s:St} {Q:St->Prop} (hq:(Bv call base (A3f n late early x) s).all Q):(Bv call base x s).all Q:=by
 obtain ⟨dst,op,guard⟩:=x
 have lift:∀op':IOp,(∀key e h (K:AV×Bc->Prop),(Bd call key op' e h).all K->(Bd call key op e h).all K)->(Bv call base ⟨dst,op',guard⟩ s).all Q->(Bv call base ⟨dst,op,guard⟩ s).all Q:=by
  intro op' hop hq
  rw [Hx,Res.all_bind] at hq ⊢
  unfold Bl at hq ⊢
  simp only at hq ⊢
  cases guard with
  | none=>exact hop _ _ _ _ hq
  | some p =>
   obtain ⟨t,want⟩:=p
   simp only at hq ⊢
   cases hE:Bs s.env t <;> rw [hE] at hq <;> try exact hq
   next b =>
    simp only at hq ⊢
    split at hq
    ·next hb=>rw [if_pos hb]; exact hop _ _ _ _ hq
    ·next hb=>rw [if_neg hb]; exact hq
 unfold A3f at hq
 simp only at hq
 split at hq
 ·split at hq
  ·refine lift _ (fun key e h K hK => ?_) hq
   simp only [Bd] at hK ⊢
   rw [Res.all_bind] at hK
   refine Res.all_mono _ hK fun p hp => ?_
   split at hp
   ·exact hp
   ·exact hp.elim
  ·exact hq
 ·split at hq
  ·refine lift _ (fun key e h K hK => ?_) hq
   simp only [Bd] at hK ⊢
   split at hK
   ·exact hK
   ·split at hK
    ·exact hK
    ·exact hK.elim
   ·exact hK.elim
  ·exact hq
 ·exact hq
end Go.Ev
