/- Comparing structs and arrays of integers, max and min, new slices, slices of arrays, copy and clear. No condition but those that stand in each. -/
import Derived.Test.YtbgodhhdojjbmaaGreatAEvOpsB
import Derived.Laws.StructEq
import Derived.ChangeKeysEq
import Derived.IntWalk
set_option linter.unusedSimpArgs false
set_option linter.unusedVariables false
namespace Go.Ev
open Go
variable {P:Program} {M:Mem} {L:Lay} {w:World} {h:Bc} {e:Env} {a:Act} {Q:AV×Bc->Prop}
theorem Jx {c d:AV} {r s:List AV} {b:Bool} (hq:Ec (c::r) (d::s)=some b) :
  ∃k x y,c = .int k x/\d = .int k y/\((x=y/\Ec r s=some b)\/(x≠y/\b=false)):=by
 unfold Ec at hq
 split at hq
 ·next h1 _=>cases h1
 ·next k x r' k' y s' h1 h2 =>
  cases h1; cases h2
  split at hq
  ·next hk =>
   subst hk
   split at hq
   ·next hxy=>exact ⟨k,x,y,rfl,rfl,.inl ⟨hxy,hq⟩⟩
   ·next hxy=>cases hq; exact ⟨k,x,y,rfl,rfl,.inr ⟨hxy,rfl⟩⟩
  ·cases hq
 ·cases hq
theorem Nc:∀{cs ds:List AV} {b:Bool},Ec cs ds=some b->(cs=[]↔ds=[])
 | [],[],_,_=>by simp
 | c::r,[],_,hq=>by cases c <;> simp [Ec] at hq
 | [],d::s,_,hq=>by simp [Ec] at hq
 | c::r,d::s,_,_=>by simp
theorem Hu {t:TypeId} {k:IntKind} (hu:P.underlying t=some (.int k)) {xs:Array Value} {off:Nat} {v:Value} (hv:xs[off]? = some v):(part t xs off).run P w = .ok v w:=by
 simp [part,Li hu (fun _ h=>by cases h) (fun _ _ h=>by cases h),hv]
theorem Nt {el:TypeId} {kk:IntKind} (hu:P.underlying el=some (.int kk)) (d:Nat) {cs ds:List AV} {xs ys:Array Value} (hlx:cs.length=xs.size) (hly:ds.length=ys.size)
  (hx:∀(i:Nat) (c:AV) (v:Value),cs[i]? = some c->xs[i]? = some v->VR M L c v) (hy:∀(i:Nat) (c:AV) (v:Value),ds[i]? = some c->ys[i]? = some v->VR M L c v) :
  ∀(m j:Nat) (b:Bool),j+m=cs.length->Ec (cs.drop j) (ds.drop j)=some b->(Op.eqItems (d+1) el 1 xs ys (List.range' j m)).run P w = .ok b w
 | 0,j,b,hj,hq=>by
  have h1:cs.drop j=[]:=List.drop_of_length_le (by omega)
  have h2:ds.drop j=[]:=(Nc hq).1 h1
  rw [h1,h2] at hq
  simp [Ec] at hq
  subst hq; rfl
 | m+1,j,b,hj,hq=>by
  have hjc:j<cs.length:=by omega
  have hjd:j<ds.length:=by
   by_cases hd:j<ds.length
   ·exact hd
   ·have h2:ds.drop j=[]:=List.drop_of_length_le (by omega)
    have:=(Nc hq).2 h2
    rw [List.drop_eq_nil_iff] at this
    omega
  rw [List.drop_eq_getElem_cons hjc,List.drop_eq_getElem_cons hjd] at hq
  obtain ⟨k,x,y,hc,hd,hor⟩:=Jx hq
  have hvx:=hx j cs[j] xs[j] (List.getElem?_eq_getElem hjc) (Array.getElem?_eq_getElem (by omega))
  have hvy:=hy j ds[j] ys[j] (List.getElem?_eq_getElem hjd) (Array.getElem?_eq_getElem (by omega))
  rw [hc] at hvx
  rw [hd] at hvy
  have ex:=hvx.int_inv
  have ey:=hvy.int_inv
  have px:=Hu (w:=w) hu (xs:=xs) (off:=j*1) (v:=.int k x) (by rw [Nat.mul_one,Array.getElem?_eq_getElem (by omega),ex])
  have py:=Hu (w:=w) hu (xs:=ys) (off:=j*1) (v:=.int k y) (by rw [Nat.mul_one,Array.getElem?_eq_getElem (by omega),ey])
  rw [List.range'_succ]
  simp only [Op.eqItems,Sem.run_bind,px,py,Result.andThen_ok,run_equalIn_int (w:=w) d el k kk x y hu]
  rcases hor with ⟨rfl,hq⟩ | ⟨hne,rfl⟩
  ·simp only [beq_self_eq_true,Bool.not_true,Bool.false_eq_true,if_false]
   exact Nt hu d hlx hly hx hy m (j+1) b (by omega) hq
  ·have:(x==y)=false:=by simpa using hne
   simp [this]
theorem Mx (d:Nat) {cs ds:List AV} {xs ys:Array Value} (hlx:cs.length=xs.size) (hly:ds.length=ys.size)
  (hx:∀(i:Nat) (c:AV) (v:Value),cs[i]? = some c->xs[i]? = some v->VR M L c v) (hy:∀(i:Nat) (c:AV) (v:Value),ds[i]? = some c->ys[i]? = some v->VR M L c v) :
  ∀ (fs : List Field) (j : Nat) (b : Bool), j + fs.length = cs.length → (∀ (i : Nat) f, fs[i]? = some f → Iz P f.type = true ∧ f.offset = j + i ∧ f.name ≠ "_") →
   Ec (cs.drop j) (ds.drop j)=some b->(Op.eqFields (d+1) xs ys fs).run P w = .ok b w
 | [],j,b,hj,_,hq=>by
  have h1:cs.drop j=[]:=List.drop_of_length_le (by simp at hj; omega)
  have h2:ds.drop j=[]:=(Nc hq).1 h1
  rw [h1,h2] at hq
  simp [Ec] at hq
  subst hq; rfl
 | f::fs,j,b,hj,hf,hq=>by
  simp only [List.length_cons] at hj
  obtain ⟨hit,hoff,hnm⟩:=hf 0 f rfl
  rw [Nat.add_zero] at hoff
  obtain ⟨kk,hu⟩:∃kk,P.underlying f.type=some (.int kk):=by
   unfold Iz at hit
   split at hit
   ·next kk hu=>exact ⟨kk,hu⟩
   ·cases hit
  have hjc:j<cs.length:=by omega
  have hjd:j<ds.length:=by
   by_cases hd:j<ds.length
   ·exact hd
   ·have h2:ds.drop j=[]:=List.drop_of_length_le (by omega)
    have:=(Nc hq).2 h2
    rw [List.drop_eq_nil_iff] at this
    omega
  rw [List.drop_eq_getElem_cons hjc,List.drop_eq_getElem_cons hjd] at hq
  obtain ⟨k,x,y,hc,hd,hor⟩:=Jx hq
  have hvx:=hx j cs[j] xs[j] (List.getElem?_eq_getElem hjc) (Array.getElem?_eq_getElem (by omega))
  have hvy:=hy j ds[j] ys[j] (List.getElem?_eq_getElem hjd) (Array.getElem?_eq_getElem (by omega))
  rw [hc] at hvx
  rw [hd] at hvy
  have ex:=hvx.int_inv
  have ey:=hvy.int_inv
  have px:=Hu (w:=w) hu (xs:=xs) (off:=f.offset) (v:=.int k x) (by rw [hoff,Array.getElem?_eq_getElem (by omega),ex])
  have py:=Hu (w:=w) hu (xs:=ys) (off:=f.offset) (v:=.int k y) (by rw [hoff,Array.getElem?_eq_getElem (by omega),ey])
  simp only [Op.eqFields,if_pos hnm,Sem.run_bind,px,py,Result.andThen_ok,run_equalIn_int (w:=w) d f.type k kk x y hu]
  rcases hor with ⟨rfl,hq⟩ | ⟨hne,rfl⟩
  ·simp only [beq_self_eq_true,Bool.not_true,Bool.false_eq_true,if_false]
   exact Mx d hlx hly hx hy fs (j+1) b (by omega) (fun i g hg=>by
    obtain ⟨q1,q2,q3⟩:=hf (i+1) g hg
    exact ⟨q1,by omega,q3⟩) hq
  ·have:(x==y)=false:=by simpa using hne
   simp [this]
theorem Kq {α:Type} {p:α×Nat->Bool} (l:List α) (h:l.zipIdx.all p=true):∀(i:Nat) x,l[i]? = some x->p (x,i)=true:=by
 intro i x hx
 refine List.all_eq_true.1 h (x,i) ?_
 rw [List.mem_iff_getElem?]
 exact ⟨i,by simp [hx]⟩
section ops
variable (hr:HR P M L w h) (hE:ER M L e a) (call:Bf) (key:Nat) {o:Oper}
include hr hE
theorem Sk {op:BinOp} {neg:Bool} {ty t t' ty':TypeId} {x y:Operand} {ix iy:IX} (ho:o.op = .binOp op ty x y ty') (hx:cX P t x=some ix) (hy:cX P t' y=some iy)
  (hop:(op = .eql/\neg=false)\/(op = .neq/\neg=true)) (hio:Hp P ty=true)
  (hq:(Bd call key (.eqAgg (P.cellsOf ty) neg ix iy) e h).all Q):OpOk P M L w h a o Q:=by
 have hxv:=Dl hE hx
 have hyv:=Dl hE hy
 simp only [Bd] at hq
 generalize ix.ev e=av at hxv hq
 generalize iy.ev e=bv at hyv hq
 generalize hcx:a.eval x=cx at hxv
 generalize hcy:a.eval y=cy at hyv
 split at hq
 ·next cs ds =>
  split at hq
  ·next hlen =>
   split at hq
   ·next b hb =>
    cases hxv with
    | @agg _ vs hl1 hh1 =>
     cases hyv with
     | @agg _ us hl2 hh2 =>
      unfold Hp at hio
      simp only [Bool.and_eq_true,Bool.not_eq_true'] at hio
      obtain ⟨⟨hst,hgt⟩,hkind⟩:=hio
      have hgd:=run_eqGuard_agg (P:=P) w op ty x y vs us hgt
      have hrun:(Op.equalIn 10000 ty (.agg vs) (.agg us)).run P w = .ok b w:=by
       split at hkind
       ·next n el hu =>
        simp only [Bool.and_eq_true,beq_iff_eq] at hkind
        obtain ⟨⟨hit,hc1⟩,hcn⟩:=hkind
        obtain ⟨kk,hue⟩:∃kk,P.underlying el=some (.int kk):=by
         unfold Iz at hit
         split at hit
         ·next kk hu=>exact ⟨kk,hu⟩
         ·cases hit
        obtain ⟨ei,hei⟩:∃ei,P.info? el=some ei:=by
         unfold Program.cellsOf at hc1
         cases hi:P.info? el with
         | none=>simp [hi] at hc1
         | some i=>exact ⟨i,rfl⟩
        have hds:ds.length=us.size:=hl2
        rw [run_equalIn_array (P:=P) w 9999 vs us hu hei,hc1,List.range_eq_range']
        exact Nt hue 9998 hl1 hl2 hh1 hh2 n 0 b (by omega) (by simpa using hb)
       ·next fs hu =>
        simp only [Bool.and_eq_true,beq_iff_eq] at hkind
        obtain ⟨hall,hcn⟩:=hkind
        have hfo:P.fieldsOf ty=fs:=by simp [Program.fieldsOf,hu]
        rw [run_equalIn_struct (P:=P) w 9999 ty vs us (by rw [hfo]; exact hu) hst,hfo]
        refine Mx 9998 hl1 hl2 hh1 hh2 fs.toList 0 b (by simp; omega) (fun i f hf => ?_) (by simpa using hb)
        have:=Kq fs.toList hall i f hf
        simp only [Bool.and_eq_true,beq_iff_eq,bne_iff_ne] at this
        exact ⟨this.1.1,by omega,this.2⟩
       ·cases hkind
      refine .pure hr (cv:=.bool (b != neg)) ?_ .bool hq
      rcases hop with ⟨rfl,rfl⟩ | ⟨rfl,rfl⟩
      ·simp [execOp,ho,hcx,hcy,hgd,run_eql_struct,hrun]
      ·simp [execOp,ho,hcx,hcy,hgd,run_neq_struct,hrun]
   ·exact hq.elim
  ·exact hq.elim
 ·exact hq.elim
end ops
variable {P:Program} {M:Mem} {L:Lay} {w:World} {h:Bc} {e:Env} {a:Act} {Q:AV×Bc->Prop}
theorem A7u {k:IntKind} {R:AV->Prop}:∀(r:List AV) (vs:List Value) (x:Int),r.length=vs.length->(∀(i:Nat) c v,r[i]? = some c->vs[i]? = some v->VR M L c v)->(Mh k x r).all R->
  ∃n,R (.int k n)/\(vs.foldlM Builtin.max2 (.int k x)).run P w = .ok (.int k n) w
 | [],[],x,_,_,hq=>⟨x,hq,rfl⟩
 | [],_::_,x,hl,_,_=>by simp at hl
 | _::_,[],x,hl,_,_=>by simp at hl
 | c::r,v::vs,x,hl,hh,hq=>by
  have hv:=hh 0 c v rfl rfl
  cases c <;> simp only [Mh,Res.all] at hq
  next k' b =>
   split at hq
   ·next hk =>
    subst hk
    have:=hv.int_inv
    subst this
    obtain ⟨n,h1,h2⟩:=A7u r vs (if b>x then b else x) (by simpa using hl) (fun i c v e1 e2=>hh (i+1) c v e1 e2) hq
    refine ⟨n,h1,?_⟩
    simp only [List.foldlM_cons,Sem.run_bind,Builtin.max2,Sem.run_pure,Result.andThen_ok]
    exact h2
   ·exact hq.elim
theorem A7w {k:IntKind} {R:AV->Prop}:∀(r:List AV) (vs:List Value) (x:Int),r.length=vs.length->(∀(i:Nat) c v,r[i]? = some c->vs[i]? = some v->VR M L c v)->(Mi k x r).all R->
  ∃n,R (.int k n)/\(vs.foldlM Builtin.min2 (.int k x)).run P w = .ok (.int k n) w
 | [],[],x,_,_,hq=>⟨x,hq,rfl⟩
 | [],_::_,x,hl,_,_=>by simp at hl
 | _::_,[],x,hl,_,_=>by simp at hl
 | c::r,v::vs,x,hl,hh,hq=>by
  have hv:=hh 0 c v rfl rfl
  cases c <;> simp only [Mi,Res.all] at hq
  next k' b =>
   split at hq
   ·next hk =>
    subst hk
    have:=hv.int_inv
    subst this
    obtain ⟨n,h1,h2⟩:=A7w r vs (if b<x then b else x) (by simpa using hl) (fun i c v e1 e2=>hh (i+1) c v e1 e2) hq
    refine ⟨n,h1,?_⟩
    simp only [List.foldlM_cons,Sem.run_bind,Builtin.min2,Sem.run_pure,Result.andThen_ok]
    exact h2
   ·exact hq.elim
section ops
variable (hr:HR P M L w h) (hE:ER M L e a) (call:Bf) (key:Nat) {o:Oper}
include hr hE
theorem Ayb {args:Array Operand} {ts:Array TypeId} {tl:List TypeId} {ixs:List IX} (ho:o.op = .call { callee:=.builtin .max,args,argTypes:=ts }) (hx:It P tl args.toList=some ixs)
  (hq:(Bd call key (.max ixs) e h).all Q):OpOk P M L w h a o Q:=by
 obtain ⟨hl,hh⟩:=Lm hE hx
 simp only [Bd] at hq
 split at hq
 ·next k x r hm =>
  rw [hm] at hl hh
  rw [Res.all_bind] at hq
  have hargs:∃v vs,(args.map a.eval).toList=v::vs/\r.length=vs.length:=by
   have hl1:(args.map a.eval).toList.length=r.length+1:=by rw [Array.length_toList,<-hl]; rfl
   cases hargs:(args.map a.eval).toList with
   | nil=>rw [hargs] at hl1; simp at hl1
   | cons v vs=>rw [hargs] at hl1; exact ⟨v,vs,rfl,by simp at hl1; omega⟩
  obtain ⟨v,vs,hvs,hlen⟩:=hargs
  have hget:∀i,(args.map a.eval)[i]? = (v::vs)[i]?:=fun i=>by rw [<-hvs,Array.getElem?_toList]
  have hv:=(hh 0 _ v rfl (by rw [hget]; rfl)).int_inv
  subst hv
  obtain ⟨n,h1,h2⟩:=A7u (P:=P) (w:=w) r vs x hlen (fun i c v e1 e2=>hh (i+1) c v e1 (by rw [hget]; exact e2)) hq
  refine .pure hr (cv:=.int k n) ?_ .int h1
  simp only [execOp,ho,resolve,invoke,builtin,Builtin.max_,Sem.run_bind,Sem.run_pure,Result.andThen_ok,hvs,h2]
 ·exact hq.elim
theorem Ayc {args:Array Operand} {ts:Array TypeId} {tl:List TypeId} {ixs:List IX} (ho:o.op = .call { callee:=.builtin .min,args,argTypes:=ts }) (hx:It P tl args.toList=some ixs)
  (hq:(Bd call key (.min ixs) e h).all Q):OpOk P M L w h a o Q:=by
 obtain ⟨hl,hh⟩:=Lm hE hx
 simp only [Bd] at hq
 split at hq
 ·next k x r hm =>
  rw [hm] at hl hh
  rw [Res.all_bind] at hq
  have hargs:∃v vs,(args.map a.eval).toList=v::vs/\r.length=vs.length:=by
   have hl1:(args.map a.eval).toList.length=r.length+1:=by rw [Array.length_toList,<-hl]; rfl
   cases hargs:(args.map a.eval).toList with
   | nil=>rw [hargs] at hl1; simp at hl1
   | cons v vs=>rw [hargs] at hl1; exact ⟨v,vs,rfl,by simp at hl1; omega⟩
  obtain ⟨v,vs,hvs,hlen⟩:=hargs
  have hget:∀i,(args.map a.eval)[i]? = (v::vs)[i]?:=fun i=>by rw [<-hvs,Array.getElem?_toList]
  have hv:=(hh 0 _ v rfl (by rw [hget]; rfl)).int_inv
  subst hv
  obtain ⟨n,h1,h2⟩:=A7w (P:=P) (w:=w) r vs x hlen (fun i c v e1 e2=>hh (i+1) c v e1 (by rw [hget]; exact e2)) hq
  refine .pure hr (cv:=.int k n) ?_ .int h1
  simp only [execOp,ho,resolve,invoke,builtin,Builtin.min_,Sem.run_bind,Sem.run_pure,Result.andThen_ok,hvs,h2]
 ·exact hq.elim
theorem Ws (kk:Nat) {ty el t1 t2:TypeId} {x y:Operand} {ix iy:IX} {g:Option Nat} {z:List AV} (ho:o.op = .makeSlice ty x y) (hu:P.underlying ty=some (.slice el)) (hg:El P el=some g)
  (hz:Fu P el=some z) (hzl:z.length=Be g) (hx:cX P t1 x=some ix) (hy:cX P t2 y=some iy) (hpos:0<Be g) (hby:0<P.bytesOf el)
  (hq:(match Df (ix.ev e),Df (iy.ev e) with
   | some l,some c =>
    if l<=c/\Et c (P.bytesOf el)/\z.all oneB then
     let v:=(Bb h kk).next
     (.ret (.oslice kk v g 0 l (some c),setH h kk (.cells v (List.replicate c z).flatten)):Res (AV×Bc))
    else .fail
   | _,_ => .fail).all Q):OpOk P M L w h a o Q:=by
 have hxv:=Dl hE hx
 have hyv:=Dl hE hy
 generalize ix.ev e=av at hxv hq
 generalize iy.ev e=bv at hyv hq
 split at hq
 ·next l c hl hc =>
  obtain ⟨k1,m1,e1,h01,hm1⟩:=Gu hxv hl
  obtain ⟨k2,m2,e2,h02,hm2⟩:=Gu hyv hc
  split at hq
  ·next hcond =>
   obtain ⟨hlc,hroom,hone⟩:=hcond
   obtain ⟨i,zv,hi,hzv,hsz0,hzrow⟩:=Gg hz hone
   have hsz:i.size=Be g:=by omega
   have hbytes:P.bytesOf el=i.bytes:=by simp [Program.bytesOf,hi]
   rw [hbytes] at hroom hby
   have hrm:=Jb hroom
   have hzs:zv.cells.size=Be g:=by have:=(hzrow M L).1; simp at this; omega
   have hcb:c*1<=c*i.bytes:=Nat.mul_le_mul_left _ hby
   have w1:IntKind.i64.wrap m1=m1:=IntWalk.i64_in m1 (by omega)
   have w2:IntKind.i64.wrap m2=m2:=IntWalk.i64_in m2 (by omega)
   have hzero:=Kp hzrow c (c*Be g) (by rw [hzl]) (by omega) M L
   have hlen:(List.replicate c z).flatten.length=c*Be g:=by simp [hzl]
   have hcell:∃cl:Array Value,cl.size=c*Be g/\RowL M L (List.replicate c z).flatten cl.toList/\(execOp a.eval o).run P w = .ok (.value (.slice (some ⟨w.heap.size,0,none⟩) l c)) { w with heap:=w.heap.push (.cells cl el) }:=by
    have hbig:¬((i.bytes:Int)*m2>2 ^ 48):=by
     have:((c*i.bytes:Nat):Int)<=1099511627776:=by omega
     rw [Nat.mul_comm] at this
     have hh:((i.bytes*c:Nat):Int)=(i.bytes:Int)*m2:=by rw [<-hm2]; push_cast; rw [Int.toNat_of_nonneg h02]
     omega
    have hcond2:¬((decide (m2<0)||decide ((i.bytes:Int)*m2>2 ^ 48))=true\/m1<0\/m1>m2):=by
     simp only [Bool.or_eq_true,decide_eq_true_eq]; omega
    by_cases h0:c*Be g=0
    ·have hc0:c=0:=by
      rcases Nat.mul_eq_zero.1 h0 with h | h
      ·exact h
      ·omega
     have hl0:l=0:=by omega
     subst hc0 hl0
     have hm20:m2=0:=by omega
     have hm10:m1=0:=by omega
     subst hm20 hm10
     have hrg:Array.range 0 = #[]:=by decide
     refine ⟨#[],by simp,by simpa using hzero,?_⟩
     simp [execOp,ho,e1,e2,Instr.makeSlice,run_underlying hu,asInt,asIntOf,typeInfo,hi,w1,sizeOf,newRow,hrg]
    ·refine ⟨_,by simp,hzero,?_⟩
     have hc0:c≠0:=by intro hc; rw [hc] at h0; simp at h0
     have hg0:Be g≠0:=by omega
     have g1:¬m2<0:=by omega
     have g2:¬m1<0:=by omega
     have g3:¬m2<m1:=by omega
     have g4:¬2 ^ 48<(i.bytes:Int)*m2:=hbig
     have g5:¬m2<=0:=by omega
     simp [execOp,ho,e1,e2,Instr.makeSlice,run_underlying hu,asInt,asIntOf,typeInfo,hi,w1,w2,g1,g2,g3,hm1,hm2,sizeOf,hsz,hc0,hg0,zeroValue,hzv,newRow]
     rw [if_neg (by simpa using hbig)]
     simp
     intro hh; exact (h0 hh).elim
   obtain ⟨cl,hcs,hrow,hrun⟩:=hcell
   obtain ⟨g1,g2⟩:=hr.new_row kk _ cl el { w with heap:=w.heap.push (.cells cl el) } rfl (by rw [hlen,hcs]; exact Nat.le_refl _) (by simpa using hrow.row)
   refine ⟨_,_,.inl hrun,⟨_,_,M,_,hq,g1,g2,?_⟩⟩
   have hlg:l*Be g<=c*Be g:=Nat.mul_le_mul_right _ hlc
   refine @VR.oslice M _ kk _ g 0 l (some c) ⟨w.heap.size,(List.replicate c z).flatten.length,cl.size⟩ c 0 (Lay.upd_self _ _ _ _) ?_ ?_ (fun _=>rfl) (fun c' hc => ?_) (fun hc=>by cases hc) hlc
   ·simp only [Nat.zero_add]; omega
   ·simp only [Nat.zero_add]; omega
   ·cases hc; exact ⟨rfl,by simp only [Nat.zero_add]; omega⟩
  ·exact hq.elim
 ·exact hq.elim
theorem Aes {ty el t1 t2:TypeId} {x y:Operand} {ix iy:IX} {g:Option Nat} {z:List AV} (ho:o.op = .makeSlice ty x y) (hu:P.underlying ty=some (.slice el)) (hg:El P el=some g)
  (hz:Fu P el=some z) (hzl:z.length=Be g) (hx:cX P t1 x=some ix) (hy:cX P t2 y=some iy) (hpos:0<Be g) (hby:0<P.bytesOf el)
  (hq:(Bd call key (.mkSlice g z (P.bytesOf el) ix iy) e h).all Q):OpOk P M L w h a o Q:=
 Ws hr hE h.length ho hu hg hz hzl hx hy hpos hby hq
theorem Abb {ty el t1 t2:TypeId} {x y:Operand} {ix iy:IX} {g:Option Nat} {z:List AV} (ho:o.op = .makeSlice ty x y) (hu:P.underlying ty=some (.slice el)) (hg:El P el=some g)
  (hz:Fu P el=some z) (hzl:z.length=Be g) (hx:cX P t1 x=some ix) (hy:cX P t2 y=some iy) (hpos:0<Be g) (hby:0<P.bytesOf el)
  (hq:(Bd call key (.mkSliceK g z (P.bytesOf el) ix iy) e h).all Q):OpOk P M L w h a o Q:=
 Ws hr hE key ho hu hg hz hzl hx hy hpos hby hq
theorem Amp {op:BinOp} {ty t ty':TypeId} {x y:Operand} {ix:IX} (ho:o.op = .binOp op ty x y ty') (hx:cX P t x=some ix) (hn:A7z P op ty y=true)
  (hq:(Bd call key (.isNil (Qa op) ix) e h).all Q):OpOk P M L w h a o Q:=by
 have hxv:=Dl hE hx
 simp only [Bd] at hq
 generalize ix.ev e=av at hxv hq
 unfold A7z at hn
 simp only [Bool.and_eq_true] at hn
 obtain ⟨⟨h1,h2⟩,h3⟩:=hn
 have hy:y = .const (.slice none 0 0):=by
  split at h2
  ·rfl
  ·cases h2
 subst hy
 obtain ⟨el,hu⟩:∃el,P.underlying ty=some (.slice el):=by
  split at h1
  ·next el hu=>exact ⟨el,hu⟩
  ·cases h1
 have hge:∀op l c ad,(eqGuard op ty x (.const (.slice none 0 0)) (.slice (some ad) l c) (.slice none 0 0)).run P w = .ok () w:=by
  intro op l c ad
  cases op <;> rfl
 have heq:∀l c ad,(Op.equal ty (.slice (some ad) l c) (.slice none 0 0)).run P w = .ok false w:=by
  intro l c ad
  unfold Op.equal Op.maxDepth
  unfold Op.equalIn
  simp only [Sem.run_bind,run_underlying hu,Result.andThen_ok,Sem.run_pure]
 have main:∀l c ad,a.eval x = .slice (some ad) l c->(execOp a.eval o).run P w = .ok (.value (.bool (Qa op))) w:=by
  intro l c ad hxa
  have hya:a.eval (.const (.slice none 0 0)) = .slice none 0 0:=rfl
  cases op <;> simp only [Bool.false_eq_true] at h3
  ·simp only [execOp,ho,hxa,hya,binOp,Sem.run_bind,hge,Result.andThen_ok,heq,Sem.run_pure,Qa]
  ·simp only [execOp,ho,hxa,hya,binOp,Sem.run_bind,hge,Result.andThen_ok,heq,Sem.run_pure,Bool.not_false,Qa]
 have hgeN:∀op l c,(eqGuard op ty x (.const (.slice none 0 0)) (.slice none l c) (.slice none 0 0)).run P w = .ok () w:=by
  intro op l c
  cases op <;> rfl
 have heqN:∀l c,(Op.equal ty (.slice none l c) (.slice none 0 0)).run P w = .ok true w:=by
  intro l c
  unfold Op.equal Op.maxDepth
  unfold Op.equalIn
  simp only [Sem.run_bind,run_underlying hu,Result.andThen_ok,Sem.run_pure,Option.isNone_none]
 have mainN:∀l c,a.eval x = .slice none l c->(execOp a.eval o).run P w = .ok (.value (.bool (!Qa op))) w:=by
  intro l c hxa
  have hya:a.eval (.const (.slice none 0 0)) = .slice none 0 0:=rfl
  cases op <;> simp only [Bool.false_eq_true] at h3
  ·simp only [execOp,ho,hxa,hya,binOp,Sem.run_bind,hgeN,Result.andThen_ok,heqN,Sem.run_pure,Qa,Bool.not_false]
  ·simp only [execOp,ho,hxa,hya,binOp,Sem.run_bind,hgeN,Result.andThen_ok,heqN,Sem.run_pure,Bool.not_true,Qa]
 generalize hcv:a.eval x=cv at hxv main mainN
 split at hq
 ·cases hxv with
  | slice=>exact .pure hr (cv:=.bool _) (main _ _ _ rfl) .bool hq
 ·have q0:=hq.2 0 (by omega)
  have q1:=hq.2 1 (by omega)
  simp only [if_true,Nat.one_ne_zero,if_false,Res.all] at q0 q1
  cases hxv with
  | slice=>exact .pure hr (cv:=.bool _) (main _ _ _ rfl) .bool q0
  | @empty _ _ ad _ =>
   cases ad with
   | none=>exact .pure hr (cv:=.bool _) (mainN _ _ rfl) .bool q1
   | some ad=>exact .pure hr (cv:=.bool _) (main _ _ _ rfl) .bool q0
 ·cases hxv with
  | oslice=>exact .pure hr (cv:=.bool _) (main _ _ _ rfl) .bool hq
 ·exact hq.elim
end ops
variable {P:Program} {M:Mem} {L:Lay} {w:World} {h:Bc} {e:Env} {a:Act} {Q:AV×Bc->Prop}
theorem Nz (g:Option Nat):Ej g 0 ([]:List AV)=[]:=by cases g <;> rfl
theorem RowL.take {new:List AV} {vs:List Value} (hl:RowL M L new vs) (n:Nat):RowL M L (new.take n) (vs.take n):=by
 refine ⟨by simp [hl.1],fun i x v hx hv => ?_⟩
 rw [List.getElem?_take] at hx hv
 split at hx
 ·next hi=>rw [if_pos hi] at hv; exact hl.2 i x v hx hv
 ·cases hx
section ops
variable (hr:HR P M L w h) (hE:ER M L e a) (call:Bf) (key:Nat) {o:Oper}
include hr hE
theorem Aiw {s el t:TypeId} {n:Nat} {grp:Option Nat} {x:Operand} {lo hi mx:Option Operand} {ix:IX} {il ih im:Option IX} (ho:o.op = .slice s x lo hi mx) (hs:P.underlying s=some (.array n el))
  (hg:El P el=some grp) (hpos:0<Be grp) (hx:cX P t x=some ix) (hlo:Iq P lo=some il) (hhi:Iq P hi=some ih) (hmx:Iq P mx=some im)
  (hq:(Bd call key (.sliceA grp n ix il ih im) e h).all Q):OpOk P M L w h a o Q:=by
 have hxv:=Dl hE hx
 obtain ⟨ei,hei,hesz⟩:=Gw hg
 simp only [Bd] at hq
 generalize ix.ev e=av at hxv hq
 generalize hcv:a.eval x=cv at hxv
 have hrun:∀aa l r cm,cv = .pointer (some aa)->(Instr.sliceBounds false n n (lo.map a.eval) (hi.map a.eval) (mx.map a.eval)).run P w = .ok (l,r,cm) w->
   (execOp a.eval o).run P w = .ok (.value (.slice (some (if cm=l then aa else aa.add (l*Be grp))) (r-l) (cm-l))) w:=fun aa l r cm hc hb=>by
  simp [execOp,ho,Instr.sliceAt,Instr.sureAddr,run_underlying hs,hcv,hc,hb,sizeOf,typeInfo,hei,hesz]
 split at hq
 ·next k ver off =>
  split at hq
  ·next v cs hob =>
   split at hq
   ·next hcond =>
    obtain ⟨hv,hle⟩:=hcond
    subst hv
    rw [Res.all_bind] at hq
    cases hxv with
    | @optr _ _ _ info hl =>
     obtain ⟨hmb,c0,t0,hb0,hn0,hs0,hle0,hrow⟩:=Fh hr hob hl
     obtain ⟨l,r,m,cm,hR,hb,h1,h2,h3,h4,h5⟩:=Ko (P:=P) (w:=w) (c:=n) hE hlo hhi hmx (by simp) (by simp) hq false
     refine .pure hr (hrun _ _ _ _ rfl hb) ?_ hR
     have hcm:m=some cm:=by
      rcases h5 with ⟨_,h5,h6⟩ | ⟨_,h5,_⟩
      ·rw [h5,h6]
      ·exact h5
     subst hcm
     have e1:l*Be grp+(r-l)*Be grp=r*Be grp:=by rw [<-Nat.add_mul]; congr 1; omega
     have e2:l*Be grp+(cm-l)*Be grp=cm*Be grp:=by rw [<-Nat.add_mul]; congr 1; omega
     have e3:cm*Be grp<=n*Be grp:=Nat.mul_le_mul_right _ h3
     have e4:r*Be grp<=cm*Be grp:=Nat.mul_le_mul_right _ h2
     have hobj:(if cm=l then (⟨info.blk,off,none⟩:Addr) else (⟨info.blk,off,none⟩:Addr).add (l*Be grp))=⟨info.blk,if cm=l then off else off+l*Be grp,none⟩:=by
      split
      ·rfl
      ·simp [Fs]
     rw [hobj]
     show VR M L (.oslice k v grp (off+l*Be grp) (r-l) (some (cm-l))) _
     refine .oslice hl (by omega) (by omega) (fun hne=>by rw [if_neg (by omega)]) (fun c' hc => ?_) (fun hc=>by cases hc) (by omega)
     cases hc
     exact ⟨rfl,by omega⟩
   ·exact hq.elim
  ·exact hq.elim
 ·next cells off =>
  split at hq
  ·next hle =>
   rw [Res.all_bind] at hq
   cases hxv with
   | @ptr _ _ b oo cs t0 fz f hmm hv ho1 hr1 =>
    obtain ⟨l,r,m,cm,hR,hb,h1,h2,h3,h4,h5⟩:=Ko (P:=P) (w:=w) (c:=n) hE hlo hhi hmx (by simp) (by simp) hq false
    refine .pure hr (hrun _ _ _ _ rfl hb) ?_ hR
    have e1:l*Be grp+(r-l)*Be grp=r*Be grp:=by rw [<-Nat.add_mul]; congr 1; omega
    have e3:cm*Be grp<=n*Be grp:=Nat.mul_le_mul_right _ h3
    have e4:r*Be grp<=cm*Be grp:=Nat.mul_le_mul_right _ h2
    show VR M L (.slice grp (Ej grp (r-l) ((cells.drop (off+l*Be grp)).take ((r-l)*Be grp))) false) _
    by_cases hcl:cm=l
    ·have hrl:r-l=0:=by omega
     rw [hrl]
     simp only [Nat.zero_mul,List.take_zero,Nz]
     exact .empty fun h=>by cases h
    ·rw [if_neg hcl,Fs]
     refine FR.toVR ?_
     refine Lj hmm (fun h=>by cases h) (by omega) (by simp; omega) fun i x hx => ?_
     simp only [List.getElem?_take,List.getElem?_drop] at hx
     split at hx
     ·refine ⟨_,?_,ho1 _ x hx,hr1 _ x hx⟩
      have:=hv _ x hx
      rw [<-this]; congr 1; omega
     ·cases hx
  ·exact hq.elim
 ·exact hq.elim
theorem Atv {ty el t1 t2:TypeId} {ats:Array TypeId} {x y:Operand} {ix iy:IX} {g:Option Nat} (ho:o.op = .call { callee:=.builtin .copy,args:=#[x,y],argTypes:=ats }) (hat:ats[0]? = some ty)
  (hu:P.underlying ty=some (.slice el)) (hg:El P el=some g) (hpos:0<Be g) (hx:cX P t1 x=some ix) (hy:cX P t2 y=some iy)
  (hq:(Bd call key (.copy g ix iy) e h).all Q):OpOk P M L w h a o Q:=by
 have hxv:=Dl hE hx
 have hyv:=Dl hE hy
 obtain ⟨ei,hei,hesz⟩:=Gw hg
 have hexec:(execOp a.eval o).run P w=((Builtin.copy_ ats o.type #[a.eval x,a.eval y]).run P w).andThen fun v w' => .ok (.value v) w':=by
  simp [execOp,ho,resolve,invoke,builtin]
 simp only [Bd] at hq
 generalize ix.ev e=av at hxv hq
 generalize iy.ev e=bv at hyv hq
 split at hq
 ·next k ver grp off len cap gy m new hcs =>
  split at hq
  ·next v cs hob =>
   split at hq
   ·next hcond =>
    obtain ⟨hgy,hgrp,hver,hle⟩:=hcond
    subst hgy hgrp hver
    obtain ⟨yb,yc,news,hcy,hnrow,hnl,hnc⟩:=A4z hr hyv hcs
    rw [hcy] at hexec
    generalize hcx:a.eval x=cx at hxv hexec
    cases hxv with
    | @oslice _ _ _ _ _ _ info c oo hl b1 b2 b3 b4 b5 b6 =>
     split at hq
     ·next hmin =>
      refine .pure hr (cv:=.int .i64 0) ?_ .int hq
      rw [hexec]
      have hfc:(Builtin.firstCells (Be grp) 0 (.slice yb m yc)).run P w = .ok #[] w:=by
       cases yb <;> simp [Builtin.firstCells,loadCells,loadCellsFrom]
      simp [Builtin.copy_,hat,run_underlying hu,Builtin.lenOf,hmin,sizeOf,typeInfo,hei,hesz,hfc,storeCells,goInt]
     ·next hmin =>
      have hm0:m≠0:=by intro h0; subst h0; simp at hmin
      have hl0:len≠0:=by intro h0; subst h0; simp at hmin
      obtain ⟨ad,rfl,hcells⟩:=hnc hm0
      have hoo:oo=off:=b3 (by omega)
      subst hoo
      obtain ⟨hmb,c0,t0,hb0,hn0,hs0,hle0,hrow⟩:=Fh hr hob hl
      have hmm:Nat.min m len<=m:=Nat.min_le_left _ _
      have hml:Nat.min m len<=len:=Nat.min_le_right _ _
      have hmul:Nat.min m len*Be grp<=m*Be grp:=Nat.mul_le_mul_right _ hmm
      have hmul2:Nat.min m len*Be grp<=len*Be grp:=Nat.mul_le_mul_right _ hml
      have htl:(news.take (Nat.min m len*Be grp)).length=Nat.min m len*Be grp:=by rw [List.length_take,hnl]; omega
      have hfc:=run_loadCells_list (P:=P) w ad (news.take (Nat.min m len*Be grp)) (fun j v hv=>by
       rw [List.getElem?_take] at hv
       split at hv
       ·exact hcells j v hv
       ·cases hv)
      rw [htl] at hfc
      have htrow:=hnrow.take (Nat.min m len*Be grp)
      obtain ⟨c1,t1,e1,e2,g1,g2⟩:=hr.write oo hob hl htrow (by omega)
      rw [hb0] at e1; cases e1
      have hst:=run_storeCells_at P info.blk oo t0 (news.take (Nat.min m len*Be grp)) 0 c0 w hb0 (by omega) htrow.one
      simp only [Nat.add_zero] at hst
      refine ⟨.int .i64 (Nat.min m len:Nat),_,.inl ?_,⟨_,_,M,L,hq,g1,g2,.int⟩⟩
      rw [hexec]
      simp [Builtin.copy_,hat,run_underlying hu,Builtin.lenOf,Builtin.firstCells,hfc,hst,goInt,Ft,sizeOf,typeInfo,hei,hesz]
   ·exact hq.elim
  ·exact hq.elim
 ·exact hq.elim
theorem Aml {ty el t1:TypeId} {ats:Array TypeId} {x:Operand} {ix:IX} {z:AV} (ho:o.op = .call { callee:=.builtin .clear,args:=#[x],argTypes:=ats }) (hat:ats[0]? = some ty)
  (hu:P.underlying ty=some (.slice el)) (hz:Fu P el=some [z]) (hx:cX P t1 x=some ix)
  (hq:(Bd call key (.clear z ix) e h).all Q):OpOk P M L w h a o Q:=by
 have hxv:=Dl hE hx
 simp only [Bd] at hq
 generalize ix.ev e=av at hxv hq
 generalize hcx:a.eval x=cx at hxv
 have hexec:(execOp a.eval o).run P w=((Builtin.clear_ ats o.type #[cx]).run P w).andThen fun v w' => .ok (.value v) w':=by
  simp [execOp,ho,resolve,invoke,builtin,hcx]
 split at hq
 ·next k ver off len cap =>
  split at hq
  ·next v cs hob =>
   split at hq
   ·next hcond =>
    obtain ⟨hver,hle,hone⟩:=hcond
    subst hver
    have hone':([z]:List AV).all oneB=true:=by simp [hone]
    obtain ⟨i,zv,hi,hzv,hsz0,hzrow⟩:=Gg hz hone'
    have hzs:zv.cells.size=1:=by have:=(hzrow M L).1; simp at this; omega
    cases hxv with
    | @oslice _ _ _ _ _ _ info c oo hl b1 b2 b3 b4 b5 b6 =>
     split at hq
     ·next hl0 =>
      subst hl0
      refine .pure hr (cv:=.tuple #[]) ?_ .undef hq
      rw [hexec]
      simp [Builtin.clear_,hat,run_underlying hu]
     ·next hl0 =>
      simp only [Be,Nat.mul_one] at b1 b2
      have hoo:oo=off:=b3 (by omega)
      subst hoo
      obtain ⟨hmb,c0,t0,hb0,hn0,hs0,hle0,hrow⟩:=Fh hr hob hl
      have hzr:=Kp hzrow len (len*zv.cells.size) (by simp [hzs]) (by simp) M L
      have hfl:(List.replicate len [z]).flatten=List.replicate len z:=by simp
      rw [hfl] at hzr
      have hzl:(Builtin.zeroCells zv.cells len).toList.length=len:=by simp [Builtin.zeroCells,hzs]
      obtain ⟨c1,t1,e1,e2,g1,g2⟩:=hr.write oo hob hl hzr (by have:=hzr.1; simp at this; simp; omega)
      rw [hb0] at e1; cases e1
      have hst:=run_storeCells_at P info.blk oo t0 (Builtin.zeroCells zv.cells len).toList 0 c0 w hb0 (by rw [hzl]; omega) (hzr.one)
      simp only [Nat.add_zero] at hst
      refine ⟨.tuple #[],_,.inl ?_,⟨_,_,M,L,hq,g1,g2,.undef⟩⟩
      rw [hexec]
      have hne:∃len',len=len'+1:=⟨len-1,by omega⟩
      obtain ⟨len',rfl⟩:=hne
      simp [Builtin.clear_,hat,run_underlying hu,zeroValue,typeInfo,hi,hzv,hst,Ft]
      simp [Builtin.zeroCells,Array.toList_range]
   ·exact hq.elim
  ·exact hq.elim
 ·exact hq.elim
theorem Air {ty el t1:TypeId} {ats:Array TypeId} {x:Operand} {ix:IX} {grp:Option Nat} {zs:List AV} (ho:o.op = .call { callee:=.builtin .clear,args:=#[x],argTypes:=ats }) (hat:ats[0]? = some ty)
  (hu:P.underlying ty=some (.slice el)) (hz:Fu P el=some zs) (hx:cX P t1 x=some ix)
  (hq:(Bd call key (.clearG grp zs ix) e h).all Q):OpOk P M L w h a o Q:=by
 have hxv:=Dl hE hx
 simp only [Bd] at hq
 generalize ix.ev e=av at hxv hq
 generalize hcx:a.eval x=cx at hxv
 have hexec:(execOp a.eval o).run P w=((Builtin.clear_ ats o.type #[cx]).run P w).andThen fun v w' => .ok (.value v) w':=by
  simp [execOp,ho,resolve,invoke,builtin,hcx]
 split at hq
 ·next k ver gx off len cap =>
  split at hq
  ·next v cs hob =>
   split at hq
   ·next hcond =>
    obtain ⟨hver,hgx,hle,hone',hzl,hgp⟩:=hcond
    subst hver hgx
    obtain ⟨i,zv,hi,hzv,hsz0,hzrow⟩:=Gg hz hone'
    have hzs:zv.cells.size=Be gx:=by have:=(hzrow M L).1; simp at this; omega
    cases hxv with
    | @oslice _ _ _ _ _ _ info c oo hl b1 b2 b3 b4 b5 b6 =>
     split at hq
     ·next hl0 =>
      subst hl0
      refine .pure hr (cv:=.tuple #[]) ?_ .undef hq
      rw [hexec]
      simp [Builtin.clear_,hat,run_underlying hu]
     ·next hl0 =>
      have hoo:oo=off:=b3 (by omega)
      subst hoo
      obtain ⟨hmb,c0,t0,hb0,hn0,hs0,hle0,hrow⟩:=Fh hr hob hl
      have hzr:=Kp hzrow len (len*zv.cells.size) (by rw [hzs,hzl]) (by omega) M L
      have hzl2:(Builtin.zeroCells zv.cells len).toList.length=len*Be gx:=by simp [Builtin.zeroCells,hzs]
      obtain ⟨c1,t1,e1,e2,g1,g2⟩:=hr.write oo hob hl hzr (by simp [hzs]; omega)
      rw [hb0] at e1; cases e1
      have hst:=run_storeCells_at P info.blk oo t0 (Builtin.zeroCells zv.cells len).toList 0 c0 w hb0 (by rw [hzl2]; omega) (hzr.one)
      simp only [Nat.add_zero] at hst
      refine ⟨.tuple #[],_,.inl ?_,⟨_,_,M,L,hq,g1,g2,.undef⟩⟩
      rw [hexec]
      have hne:∃len',len=len'+1:=⟨len-1,by omega⟩
      obtain ⟨len',rfl⟩:=hne
      simp [Builtin.clear_,hat,run_underlying hu,zeroValue,typeInfo,hi,hzv,hst,Ft]
      simp [Builtin.zeroCells,Array.toList_range]
   ·exact hq.elim
  ·exact hq.elim
 ·exact hq.elim
theorem Axz {x:Operand} {t s el:TypeId} {ats:Array TypeId} {ix:IX} (ho:o.op = .call { callee:=.builtin .cap,args:=#[x],argTypes:=ats }) (ht:ats[0]? = some s) (hs:P.underlying s=some (.slice el))
  (hx:cX P t x=some ix) (hq:(Bd call key (.cap ix) e h).all Q):OpOk P M L w h a o Q:=by
 have hxv:=Dl hE hx
 simp only [Bd] at hq
 generalize ix.ev e=av at hxv hq
 generalize hcv:a.eval x=cv at hxv
 have hrun:∀aa n c,cv = .slice aa n c->(execOp a.eval o).run P w = .ok (.value (.int .i64 c)) w:=fun aa n c hc=>by
  simp [execOp,ho,resolve,invoke,builtin,hcv,hc,Builtin.cap_,ht,run_underlying hs,goInt]
 split at hq
 ·cases hxv with
  | empty hh=>rw [hh rfl] at hrun; exact .pure hr (hrun _ _ 0 rfl) .int hq
  | slice a1 a2 a3 a4 a5 a6 a7=>rw [a2 rfl] at hrun; exact .pure hr (hrun _ _ _ rfl) .int hq
 ·exact hq.elim
omit hr hE in
theorem Zu (t tn ty e:TypeId) (i:TypeInfo) (z:Value) (k kn:IntKind) (ht:P.underlying t=some (.slice e)) (htn:P.underlying tn=some (.int kn)) (hi:P.info? e=some i) (hz:i.zero=some z)
  (aa:Option Addr) (n:Nat) (h0:0<n) (hs:0<i.size) (h63:(n:Int)<=9223372036854775807) (h48:n*i.bytes<=281474976710656) :
  (Builtin.append_ #[t,tn] ty #[.slice aa 0 0,.int k n]).run P w =
   .ok (.slice (some ⟨w.heap.size,0,none⟩) n (grownCap w n 0 e)) (w.drew.alloc (.cells (Builtin.zeroCells z.cells n++Builtin.zeroCells z.cells (grownCap w n 0 e-n)) e)):=by
 have hn:n≠0:=by omega
 have hw:IntKind.i64.wrap (n:Int)=n:=by rw [IntKind.wrap_i64]; omega
 have h63':¬(9223372036854775807<(n:Int)):=by omega
 have h48':¬(281474976710656<Builtin.nextslicecap n 0*i.bytes):=by rw [nextslicecap_zero h0]; omega
 have h48i:¬(281474976710656<(n:Int)*(i.bytes:Int)):=by
  rw [<-Int.natCast_mul]
  omega
 have hneg:¬((n:Int)<0):=by omega
 have hns:¬(n*i.size=0):=Nat.mul_ne_zero hn (by omega)
 cases aa <;> simp [Builtin.append_,run_underlying ht,run_underlying htn,sizeOf,typeInfo,zeroValue,hi,hz,asInt,asIntOf,hw,hn,hneg,hns,h63',h48',h48i,Question.forced,Builtin.firstCells,loadCells,loadCellsFrom,newRow,grownCap]
theorem Aeq {ty tn el t1 t2:TypeId} {x y:Operand} {ix iy:IX} {g:Option Nat} {z:List AV} {kn:IntKind} (ho:o.op = .call { callee:=.builtin .append,args:=#[x,y],argTypes:=#[ty,tn] })
  (hu:P.underlying ty=some (.slice el)) (hn:P.underlying tn=some (.int kn)) (hz:Fu P el=some z) (hzl:z.length=Be g) (hone:z.all oneB=true) (hpos:0<Be g) (hby:0<P.bytesOf el)
  (hx:cX P t1 x=some ix) (hy:cX P t2 y=some iy) (hq:(Bd call key (.appendZ g z (P.bytesOf el) ix iy) e h).all Q):OpOk P M L w h a o Q:=by
 have hxv:=Dl hE hx
 have hyv:=Dl hE hy
 obtain ⟨i,zv,hi,hzv,hsz0,hzrow⟩:=Gg hz hone
 have hsz:i.size=Be g:=by omega
 have hzs:zv.cells.size=Be g:=by have:=(hzrow M L).1; simp at this; omega
 have hbytes:P.bytesOf el=i.bytes:=by simp [Program.bytesOf,hi]
 rw [hbytes] at hq hby
 have hexec:(execOp a.eval o).run P w=((Builtin.append_ #[ty,tn] o.type #[a.eval x,a.eval y]).run P w).andThen fun v w' => .ok (.value v) w':=by
  simp [execOp,ho,resolve,invoke,builtin]
 simp only [Bd] at hq
 generalize ix.ev e=av at hxv hq
 generalize iy.ev e=bv at hyv hq
 split at hq
 ·next gx m hj =>
  obtain ⟨k,j,he,h0,hm⟩:=Gu hyv hj
  split at hq
  ·next hcond =>
   obtain ⟨hg,hm0,hroom,_⟩:=hcond
   subst hg
   have hr40:=Jb hroom
   have hjm:j=(m:Int):=by omega
   subst hjm
   have h1m:m*1<=m*i.bytes:=Nat.mul_le_mul_left _ hby
   obtain ⟨aa,hcx⟩:∃aa,a.eval x = .slice aa 0 0:=by
    generalize hcx:a.eval x=cx at hxv
    cases hxv with
    | empty hh=>rw [hh rfl]; exact ⟨_,rfl⟩
    | slice a1 a2 a3 a4 a5 a6 a7=>rw [a2 rfl]; exact ⟨_,rfl⟩
   have hrn:=Zu (P:=P) (w:=w) ty tn o.type el i zv k kn hu hn hi hzv aa m hm0 (by omega) (by omega) (by omega)
   have hzr:=Kp hzrow m (m*zv.cells.size) (by rw [hzs,hzl]) (by omega) M L
   have hzl2:(Builtin.zeroCells zv.cells m).toList.length=m*Be gx:=by simp [Builtin.zeroCells,hzs]
   have e9:∀X:Array Value,([]:List Value).toArray++X.toList.toArray=X:=fun X=>by simp
   have key':=Sd (Q:=Q) (w':=w.drew.alloc (.cells (Builtin.zeroCells zv.cells m++Builtin.zeroCells zv.cells (grownCap w m 0 el-m)) el)) (el:=el) hr h.length (g:=gx) (n:=0) (m:=m) (cap:=grownCap w m 0 el) (z:=zv.cells) (old:=[]) (olds:=[]) ⟨rfl,fun i x v hx=>by simp at hx⟩ hzr hzs (by simp) (by simpa [Builtin.zeroCells] using hzl2) (by have:=grownCap_ge w m 0 el; omega)
    (by show w.heap.push _=w.heap.push _; rw [Nat.zero_add,e9]; rfl) (by exact ⟨rfl,rfl,rfl⟩) (by have hq2:=hq; simp only [Res.all,List.nil_append,Nat.zero_add] at hq2 ⊢; exact hq2)
   rw [Nat.zero_add] at key'
   exact ⟨_,_,.inl (by rw [hexec,hcx,he,hrn]; rfl),key'⟩
  ·exact hq.elim
 ·exact hq.elim
end ops
end Go.Ev
