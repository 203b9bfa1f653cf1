/- Literals, parts of structs and arrays, addresses of elements. No condition but those that stand in each. -/
import Derived.Test.YtbgodhhdojjbmaaGreatAEvOpsA
import Derived.Laws.Append
import Derived.Laws.AppendOwn
set_option linter.unusedSimpArgs false
set_option linter.unusedVariables false
namespace Go.Ev
open Go
variable {P:Program} {M:Mem} {L:Lay} {w:World} {h:Bc} {e:Env} {a:Act} {Q:AV×Bc->Prop}
theorem Lt {α β:Type} {f:α->Option β}:∀(l:List α) (r:List β),l.mapM f=some r->r.length=l.length/\∀(i:Nat) x y,l[i]? = some x->r[i]? = some y->f x=some y
 | [],r,h=>by
  simp at h; subst h; exact ⟨rfl,fun i x y hx=>by simp at hx⟩
 | x::l,r,h=>by
  simp only [List.mapM_cons,Option.bind_eq_bind,Option.bind_eq_some_iff,Option.pure_def,Option.some.injEq] at h
  obtain ⟨b,hb,bs,hbs,rfl⟩:=h
  obtain ⟨h1,h2⟩:=Lt l bs hbs
  refine ⟨by simp [h1],fun i y z hy hz => ?_⟩
  cases i with
  | zero=>simp at hy hz; subst hy hz; exact hb
  | succ i=>simp at hy hz; exact h2 i y z hy hz
theorem Ve {α β:Type} {f:α->Sem β} {g:α->β} (w:World):∀(l:List α),(∀x∈l,(f x).run P w = .ok (g x) w)->(l.mapM f).run P w = .ok (l.map g) w
 | [],_=>rfl
 | x::l,h=>by
  have ih:=Ve w l fun y hy=>h y (List.mem_cons_of_mem _ hy)
  simp [List.mapM_cons,h x List.mem_cons_self,ih]
theorem A3e {α β:Type} {f:α->Sem β} {g:α->β} (w:World) (l:Array α) (h:∀x∈l.toList,(f x).run P w = .ok (g x) w):(l.mapM f).run P w = .ok (l.map g) w:=by
 rw [Array.mapM_eq_mapM_toList,Sem.run_map,Ve w l.toList h]
 simp only [Result.andThen_ok]
 congr 1
 apply Array.ext'
 simp
theorem Ku {t:TypeId} {i:TypeInfo} (hi:P.info? t=some i):P.cellsOf t=i.size:=by simp [Program.cellsOf,hi]
theorem Ij (z:List AV):∀(n i:Nat),i<n*z.length->(List.replicate n z).flatten[i]? = z[i%z.length]?
 | 0,i,h=>by simp at h
 | n+1,i,h=>by
  rw [List.replicate_succ,List.flatten_cons]
  by_cases hi:i<z.length
  ·rw [List.getElem?_append_left hi,Nat.mod_eq_of_lt hi]
  ·have h':i-z.length<n*z.length:=by rw [Nat.add_mul] at h; omega
   rw [List.getElem?_append_right (by omega),Ij z n _ h']
   congr 1
   rw [<-Nat.mod_eq_sub_mod (by omega)]
theorem Kp {z:List AV} {zv:Array Value} (hz:∀(M:Mem) (L:Lay),RowL M L z zv.toList) (n m:Nat) (hm:m=n*z.length) (hp:0<z.length) (M:Mem) (L:Lay) :
  RowL M L (List.replicate n z).flatten ((Array.range m).map (zv[·%zv.size]!)).toList:=by
 have hl:z.length=zv.size:=by simpa using (hz M L).1
 refine ⟨by simp [hm],fun i x v hx hv => ?_⟩
 have hi:i<n*z.length:=by
  have:=(List.getElem?_eq_some_iff.1 hx).1
  simpa using this
 rw [Ij z n i hi] at hx
 have hmod:i%zv.size<zv.size:=Nat.mod_lt _ (by omega)
 have hv':v=zv[i%zv.size]:=by
  have:i<m:=by omega
  simp [Array.getElem?_range,this] at hv
  rw [<-hv]
  simp [hmod]
 rw [hl] at hx
 exact (hz M L).2 (i%zv.size) x v hx (by rw [hv']; simp)
theorem A2o {cs:List AV} {v:Value} (ho:v.oneCell'=true) (hv:VR M L (.agg cs) v):False:=by
 cases hv; simp [Value.oneCell'] at ho
theorem Asx {x:AV} {v:Value} {M':Mem} (hn:Gz x=true) (h:VR M L x v):FR M' x v:=by
 cases h <;> first | exact .int | exact .bool | (simp [Gz] at hn)
theorem Ahh {x:AV} (hx:∀cs,x ≠ .agg cs):Ju none x=true:=by
 cases x <;> first | rfl | exact (hx _ rfl).elim
theorem A6u {g:Option Nat} {len:Nat} {cs:List AV} (hl:cs.length=len*Be g) (hn:∀x∈cs,∀ds,g=none->x ≠ .agg ds) :
  Ek g (Ej g len cs)=cs/\(Ej g len cs).length=len/\∀x∈Ej g len cs,Ju g x=true:=by
 cases g with
 | none =>
  simp only [Be,Nat.mul_one] at hl
  exact ⟨rfl,hl,fun x hx=>Ahh fun ds=>hn x hx ds rfl⟩
 | some n =>
  simp only [Be] at hl
  refine ⟨?_,by simp [Ej],fun x hx => ?_⟩
  ·simp only [Ek,Ej,List.flatMap_map,AV.cells]
   clear hn
   induction len generalizing cs with
   | zero=>simp at hl; subst hl; rfl
   | succ len ih =>
    rw [List.range_succ_eq_map,List.flatMap_cons,List.flatMap_map]
    have h1:(cs.drop n).length=len*n:=by simp [hl,Nat.add_mul]
    have:=ih h1
    simp only [List.drop_drop] at this
    have hrw:(List.flatMap (fun a=>List.take n (List.drop (n*1+a*n) cs)) (List.range len))=List.flatMap (fun a=>List.take n (List.drop ((a+1)*n) cs)) (List.range len):=by
     congr 1; funext a; congr 2; rw [Nat.add_mul]; omega
    simp only [Nat.mul_one] at hrw
    rw [hrw] at this
    simp only [Nat.succ_eq_add_one,Nat.zero_mul,List.drop_zero]
    rw [this,List.take_append_drop]
  ·simp only [Ej,List.mem_map,List.mem_range] at hx
   obtain ⟨i,hi,rfl⟩:=hx
   simp only [Ju,beq_iff_eq,List.length_take,List.length_drop,hl]
   have:i*n+n<=len*n:=by rw [<-Nat.succ_mul]; exact Nat.mul_le_mul_right _ hi
   omega
theorem Lj {g:Option Nat} {len cap b off:Nat} {cs:List AV} {c:Array Value} {t:TypeId} {fz:Nat×Nat} {ex:Bool} (hm:M b=some (.cells c t fz)) (hex:ex=true->cap=len) (hcp:len<=cap) (hl:cs.length=len*Be g)
  (hv:∀(i:Nat) (x:AV),cs[i]? = some x->∃v,c[off+i]? = some v/\v.oneCell'=true/\FR M x v):FR M (.slice g (Ej g len cs) ex) (.slice (some ⟨b,off,none⟩) len cap):=by
 have hn:∀x∈cs,∀ds,g=none->x ≠ .agg ds:=fun x hx ds _ he=>by
  obtain ⟨i,hi⟩:=List.mem_iff_getElem?.1 hx
  obtain ⟨v,_,h2,h3⟩:=hv i x hi
  rw [he] at h3
  exact A2o h2 (h3.toVR (L:=fun _ _=>none))
 obtain ⟨h1,h2,h3⟩:=A6u hl hn
 have key:=@FR.slice M g (Ej g len cs) ex b off cap c t fz (fun i=>c.getD (off+i) undef) hm (fun he=>by rw [h2]; exact hex he) (by rw [h2]; exact hcp) h3
 rw [h1,h2] at key
 have hg:∀(i:Nat) (x:AV),cs[i]? = some x->c[off+i]? = some (c.getD (off+i) undef)/\(c.getD (off+i) undef).oneCell'=true/\FR M x (c.getD (off+i) undef):=fun i x hx=>by
  obtain ⟨v,e1,e2,e3⟩:=hv i x hx
  have:c.getD (off+i) undef=v:=by simp [Array.getD_eq_getD_getElem?,e1]
  rw [this]; exact ⟨e1,e2,e3⟩
 exact key (fun i x hx=>(hg i x hx).1) (fun i x hx=>(hg i x hx).2.1) (fun i x hx=>(hg i x hx).2.2)
theorem Acw {grp:Option Nat} {t:TypeId} {cs:List AV} {vs:Array Value} {off:Nat} {R:AV->Prop} (hg:El P t=some grp) (hl:cs.length=vs.size)
  (hh:∀(i:Nat) (c:AV) (v:Value),cs[i]? = some c->vs[i]? = some v->VR M L c v) (hq:(rd grp cs off).all R) :
  ∃v cv,(part t vs off).run P w = .ok cv w/\VR M L v cv/\R v:=by
 cases grp with
 | none =>
  obtain ⟨d,i,hu,h1,h2,hi,hs⟩:=Se hg
  obtain ⟨v,hv,hq⟩:=Res.all_ofOpt hq
  have ho:off<vs.size:=by rw [<-hl]; exact (List.getElem?_eq_some_iff.1 hv).1
  have hvo:vs[off]? = some vs[off]:=Array.getElem?_eq_getElem ho
  exact ⟨v,vs[off],by simp [part,Li hu h1 h2,hvo],hh off v _ hv hvo,hq⟩
 | some n =>
  obtain ⟨d,i,hu,h1,hi,hs,hn⟩:=Sf hg
  simp only [rd] at hq
  split at hq
  ·next hle =>
   refine ⟨_,.agg (vs.extract off (off+n)),?_,?_,hq⟩
   ·simp [part,Ro hu h1,sizeOf,typeInfo,hi,hs]
   ·refine .agg (by simp; omega) fun j c v hj hv => ?_
    simp only [List.getElem?_take,List.getElem?_drop] at hj
    split at hj
    ·next hjn =>
     rw [Array.getElem?_extract] at hv
     split at hv
     ·exact hh (off+j) c v hj hv
     ·cases hv
    ·cases hj
  ·exact hq.elim
section ops
variable (hr:HR P M L w h) (hE:ER M L e a) (call:Bf) (key:Nat) {o:Oper}
include hr hE
theorem Amn {grp:Option Nat} {s t:TypeId} {x:Operand} {n:Nat} {fs:Array Field} {fd:Field} {ix:IX} (ho:o.op = .field s x n) (hs:P.underlying s=some (.struct fs)) (hf:fs[n]? = some fd)
  (hg:El P fd.type=some grp) (hx:cX P t x=some ix) (hq:(Bd call key (.field grp fd.offset ix) e h).all Q):OpOk P M L w h a o Q:=by
 have hxv:=Dl hE hx
 simp only [Bd] at hq
 generalize ix.ev e=av at hxv hq
 generalize hcv:a.eval x=cv at hxv
 split at hq
 ·cases hxv with
  | agg hl hh =>
   rw [Res.all_bind] at hq
   obtain ⟨v,cv,h1,h2,h3⟩:=Acw (w:=w) (R:=fun v=>Q (v,h)) hg hl hh hq
   exact .pure hr (by simp [execOp,ho,hcv,Instr.field,run_underlying hs,hf,asAgg,h1]) h2 h3
 ·exact hq.elim
omit hr hE in
theorem Gu {v:AV} {cv:Value} {j:Nat} (hv:VR M L v cv) (hj:Df v=some j):∃k i,cv = .int k i/\0<=i/\i.toNat=j:=by
 unfold Df at hj
 split at hj
 ·next k i =>
  split at hj
  ·next h0=>cases hj; exact ⟨k,i,hv.int_inv,h0,rfl⟩
  ·cases hj
 ·cases hj
theorem Amo {grp:Option Nat} {s el t t':TypeId} {x y:Operand} {n:Nat} {ix iy:IX} (ho:o.op = .index s x y) (hs:P.underlying s=some (.array n el))
  (hg:El P el=some grp) (hx:cX P t x=some ix) (hy:cX P t' y=some iy) (hq:(Bd call key (.index grp n ix iy) e h).all Q):OpOk P M L w h a o Q:=by
 have hxv:=Dl hE hx
 have hyv:=Dl hE hy
 obtain ⟨i,hi,hsz⟩:=Gw hg
 simp only [Bd] at hq
 generalize ix.ev e=av at hxv hq
 generalize iy.ev e=bv at hyv hq
 generalize hcv:a.eval x=cv at hxv
 split at hq
 ·next cs j hj =>
  obtain ⟨k,m,he,h0,hm⟩:=Gu hyv hj
  split at hq
  ·next hlt =>
   cases hxv with
   | agg hl hh =>
    rw [Res.all_bind] at hq
    obtain ⟨v,cv,h1,h2,h3⟩:=Acw (w:=w) (R:=fun v=>Q (v,h)) hg hl hh hq
    have hml:m<(n:Int):=by omega
    exact .pure hr (by simp [execOp,ho,hcv,he,Instr.index,asIntOf,run_underlying hs,h0,hml,hm,sizeOf,typeInfo,hi,hsz,h1]) h2 h3
  ·exact hq.elim
 ·exact hq.elim
theorem Aiy {t t':TypeId} {s:ByteArray} {y:Operand} {iy:IX} (ho:o.op = .index t (.const (.string s)) y) (hs:P.underlying t=some .string)
  (hy:cX P t' y=some iy) (hq:(Bd call key (.strIdx (s.data.toList.map (·.toNat)) iy) e h).all Q):OpOk P M L w h a o Q:=by
 have hyv:=Dl hE hy
 simp only [Bd] at hq
 generalize iy.ev e=bv at hyv hq
 split at hq
 ·next j hj =>
  obtain ⟨k,m,he,h0,hm⟩:=Gu hyv hj
  split at hq
  ·next b hb =>
   rw [List.getElem?_map,Option.map_eq_some_iff] at hb
   obtain ⟨c,hc,rfl⟩:=hb
   have hsj:s[m.toNat]? = some c:=by
    rw [Array.getElem?_toList] at hc
    obtain ⟨hlt,hc⟩:=Array.getElem?_eq_some_iff.1 hc
    subst hm
    have hlt':m.toNat<s.size:=hlt
    rw [getElem?_pos s m.toNat hlt']
    exact congrArg some hc
   have hev:a.eval (.const (.string s)) = .string s:=rfl
   exact .pure hr (cv:=.int .u8 c.toNat) (by simp [execOp,ho,hev,he,Instr.index,asIntOf,run_underlying hs,h0,hsj]) .int hq
  ·exact hq.elim
 ·exact hq.elim
theorem A8e {t:TypeId} {parts:Array (Nat×Operand)} {z:List AV} {ps:List (Nat×Nat×IX)} (ho:o.op = .build t parts) (hz:Fu P t=some z)
  (hp:(∃fs,P.underlying t=some (.struct fs)/\(fs.toList.all fun f=>(P.info? f.type).isSome)=true/\
    (parts.toList.mapM fun ((i,x):Nat×Operand)=>(fs[i]?).bind fun (f:Field)=>(cX P f.type x).map fun x=>(f.offset,P.cellsOf f.type,x))=some ps)\/
   (∃n el,P.underlying t=some (.array n el)/\(P.info? el).isSome=true/\(parts.toList.mapM fun ((i,x):Nat×Operand)=>(cX P el x).map fun x=>(i*P.cellsOf el,P.cellsOf el,x))=some ps))
  (hq:(Bd call key (.build z ps) e h).all Q):OpOk P M L w h a o Q:=by
 simp only [Bd] at hq
 split at hq
 ·next hone =>
  obtain ⟨i,zv,hi,hzv,hsz,hrow⟩:=Gg hz hone
  rw [Res.all_bind] at hq
  rcases hp with ⟨fs,hu,hall,hm⟩ | ⟨n,el,hu,hall,hm⟩
  ·obtain ⟨hl,hel⟩:=Lt _ _ hm
   obtain ⟨cs',c',h1,h2,h3,h4⟩:=Rf (Lf:=fun i=>(fs.map fun f=>(f.offset,P.cellsOf f.type))[i]?) hE parts.toList ps z zv.cells _ hl (fun i j x off sz ix e1 e2=>by
    have hd:=hel i (j,x) _ e1 e2
    simp only [Option.bind_eq_some_iff,Option.map_eq_some_iff,Prod.mk.injEq] at hd
    obtain ⟨f,hf,y,hy,rfl,rfl,rfl⟩:=hd
    exact ⟨by simp [hf],f.type,hy⟩) (hrow M L) hq
   refine .pure hr (cv:=.agg c') ?_ (.agg (by simpa using h2.1) fun i x v hx hv=>(h2.2 i x v hx (by rw [Array.getElem?_toList]; exact hv)).2) h3
   have hmm:=A3e (P:=P) (f:=fun f:Field=>(do pure (f.offset,<-sizeOf f.type):Sem (Nat×Nat))) (g:=fun f=>(f.offset,P.cellsOf f.type)) w fs (fun f hf=>by
    have:=List.all_eq_true.1 hall f hf
    obtain ⟨fi,hfi⟩:=Option.isSome_iff_exists.1 this
    simp [sizeOf,typeInfo,hfi,Ku hfi])
   have h1':Instr.fill (fun i=>(fs.map fun f=>(f.offset,P.cellsOf f.type))[i]?) zv.cells (parts.map fun (i,x)=>(i,a.eval x)).toList=some c':=by
    rw [Array.toList_map]; exact h1
   simp only [execOp,ho,Instr.build,zeroValue,typeInfo,Sem.run_bind,run_program,Result.andThen_ok,hi,Sem.run_pure,hzv,run_underlying hu,hmm,h1']
  ·obtain ⟨hl,hel⟩:=Lt _ _ hm
   obtain ⟨ei,hei⟩:=Option.isSome_iff_exists.1 hall
   obtain ⟨cs',c',h1,h2,h3,h4⟩:=Rf (Lf:=fun i=>some (i*P.cellsOf el,P.cellsOf el)) hE parts.toList ps z zv.cells _ hl (fun i j x off sz ix e1 e2=>by
    have hd:=hel i (j,x) _ e1 e2
    simp only [Option.map_eq_some_iff,Prod.mk.injEq] at hd
    obtain ⟨y,hy,rfl,rfl,rfl⟩:=hd
    exact ⟨rfl,el,hy⟩) (hrow M L) hq
   refine .pure hr (cv:=.agg c') ?_ (.agg (by simpa using h2.1) fun i x v hx hv=>(h2.2 i x v hx (by rw [Array.getElem?_toList]; exact hv)).2) h3
   have h1':Instr.fill (fun i=>some (i*ei.size,ei.size)) zv.cells (parts.map fun (i,x)=>(i,a.eval x)).toList=some c':=by
    rw [Array.toList_map,<-Ku hei]; exact h1
   simp only [execOp,ho,Instr.build,zeroValue,sizeOf,typeInfo,Sem.run_bind,run_program,Result.andThen_ok,hi,Sem.run_pure,hzv,run_underlying hu,hei,h1']
 ·exact hq.elim
theorem A5g {grp:Option Nat} {t el:TypeId} {len:Nat} {parts:Array (Nat×Operand)} {z:List AV} {ps:List (Nat×Nat×IX)} (ho:o.op = .buildSlice t len parts) (hu:P.underlying t=some (.slice el))
  (hg:El P el=some grp) (hz:Fu P el=some z) (h24:len*Be grp<=16777216) (hzl:z.length=Be grp) (hpos:0<Be grp)
  (hm:(parts.toList.mapM fun ((i,x):Nat×Operand)=>(cX P el x).map fun x=>(i*Be grp,Be grp,x))=some ps)
  (hq:(Bd call key (.buildSlice grp (List.replicate len z).flatten ps) e h).all Q):OpOk P M L w h a o Q:=by
 simp only [Bd] at hq
 obtain ⟨i,hi,hsz⟩:=Gw hg
 split at hq
 ·next hone =>
  have hlen:(List.replicate len z).flatten.length=len*Be grp:=by simp [hzl]
  rw [hlen,Nat.mul_div_cancel _ hpos,Res.all_bind] at hq
  replace hq:=Res.all_mono _ hq (R:=fun cs=>cs.all Gz=true/\Q (.slice grp (Ej grp len cs) true,h)) fun cs hcs=>by
   split at hcs
   ·next hn=>exact ⟨hn,hcs⟩
   ·exact hcs.elim
  have hz0:∀(c0:Array Value),(len*Be grp=0->c0 = #[])->(len*Be grp≠0->∀M L,RowL M L z c0.toList)->∀M L,RowL M L (List.replicate len z).flatten ((Array.range (len*Be grp)).map (c0[·%c0.size]!)).toList:=by
   intro c0 hc1 hc2 M L
   by_cases h0:len*Be grp=0
   ·rw [h0]
    have:(List.replicate len z).flatten=[]:=List.eq_nil_of_length_eq_zero (by omega)
    rw [this]
    exact ⟨by simp,fun i x v hx=>by simp at hx⟩
   ·exact Kp (hc2 h0) len (len*Be grp) (by rw [hzl]) (by omega) M L
  obtain ⟨c0,hc0,hrun⟩:∃c0:Array Value,(∀M L,RowL M L (List.replicate len z).flatten ((Array.range (len*Be grp)).map (c0[·%c0.size]!)).toList)/\
    (∀(pp:Array (Nat×Value)) c',Instr.fill (fun i=>some (i*Be grp,Be grp)) ((Array.range (len*Be grp)).map (c0[·%c0.size]!)) pp.toList=some c'->
     (Instr.buildSlice t len pp).run P w = .ok (.slice (some ⟨w.heap.size,0,none⟩) len len) { w with heap:=w.heap.push (.cells c' el) }):=by
   by_cases h0:len*Be grp=0
   ·refine ⟨#[],hz0 #[] (fun _=>rfl) (fun h=>(h h0).elim),fun pp c' hf => ?_⟩
    rw [h0] at hf
    have hr0:(Array.range 0).map (((#[]:Array Value))[·%(#[]:Array Value).size]!) = #[]:=by simp
    rw [hr0] at hf
    have hl0:len=0:=by
     rcases Nat.mul_eq_zero.1 h0 with h | h
     ·exact h
     ·omega
    subst hl0
    have hrg:Array.range 0 = #[]:=by decide
    simp [Instr.buildSlice,run_underlying hu,sizeOf,typeInfo,hi,hsz,hf,newRow,hrg]
   ·have hone':z.all oneB=true:=by
     rw [List.all_eq_true]
     intro x hx
     refine List.all_eq_true.1 hone x ?_
     rw [List.mem_flatten]
     refine ⟨z,?_,hx⟩
     rw [List.mem_replicate]
     refine ⟨fun hl0=>h0 (by rw [hl0,Nat.zero_mul]),rfl⟩
    obtain ⟨i',zv,hi',hzv,hsz',hrow⟩:=Gg hz hone'
    rw [hi] at hi'; cases hi'
    refine ⟨zv.cells,hz0 zv.cells (fun h=>(h0 h).elim) (fun _=>hrow),fun pp c' hf => ?_⟩
    have h24':¬len*Be grp>2 ^ 24:=by omega
    simp [Instr.buildSlice,run_underlying hu,sizeOf,typeInfo,zeroValue,hi,hzv,hsz,h0,h24',hf,newRow]
  obtain ⟨hl,hel⟩:=Lt _ _ hm
  obtain ⟨cs',c',h1,h2,h3,h4⟩:=Rf (Lf:=fun i=>some (i*Be grp,Be grp)) hE parts.toList ps _ _ _ hl (fun i j x off sz ix e1 e2=>by
    have hd:=hel i (j,x) _ e1 e2
    simp only [Option.map_eq_some_iff,Prod.mk.injEq] at hd
    obtain ⟨y,hy,rfl,rfl,rfl⟩:=hd
    exact ⟨rfl,el,hy⟩) (hc0 M L) hq
  have h1':Instr.fill (fun i=>some (i*Be grp,Be grp)) ((Array.range (len*Be grp)).map (c0[·%c0.size]!)) (parts.map fun (i,x)=>(i,a.eval x)).toList=some c':=by
   rw [Array.toList_map]; exact h1
  obtain ⟨g1,g2⟩:=hr.freeze_new (w':={ w with heap:=w.heap.push (.cells c' el) }) (.cells c' el) rfl
  have hle:Mem.le M (fun b=>if b=w.heap.size then some (Obj.cells c' el) else M b):=g2.mem
  obtain ⟨hnum,h3⟩:=h3
  refine ⟨.slice (some ⟨w.heap.size,0,none⟩) len len,_,.inl ?_,⟨_,_,_,_,h3,g1,g2,FR.toVR ?_⟩⟩
  ·simp only [execOp,ho,Sem.run_bind,hrun _ _ h1',Result.andThen_ok,Sem.run_pure]
  ·refine Lj (c:=c') (t:=el) (fz:=(0,0)) (by simp) (fun _=>rfl) (Nat.le_refl _) (by rw [h4,hlen]) fun i x hx => ?_
   rw [Nat.zero_add]
   obtain ⟨v,e1,e2,e3⟩:=h2.row i x hx
   exact ⟨v,by simpa using e1,e2,Asx (List.all_eq_true.1 hnum x (List.mem_of_getElem? hx)) e3⟩
 ·exact hq.elim
theorem A2r {grp:Option Nat} {t el:TypeId} {len:Nat} {parts:Array (Nat×Operand)} {z:List AV} {ps:List (Nat×Nat×IX)} (ho:o.op = .buildSlice t len parts) (hu:P.underlying t=some (.slice el))
  (hg:El P el=some grp) (hz:Fu P el=some z) (h24:len*Be grp<=16777216) (hzl:z.length=Be grp) (hpos:0<Be grp)
  (hm:(parts.toList.mapM fun ((i,x):Nat×Operand)=>(cX P el x).map fun x=>(i*Be grp,Be grp,x))=some ps)
  (hq:(Bd call key (.buildSliceO grp (List.replicate len z).flatten ps) e h).all Q):OpOk P M L w h a o Q:=by
 simp only [Bd] at hq
 obtain ⟨i,hi,hsz⟩:=Gw hg
 split at hq
 ·next hone =>
  have hlen:(List.replicate len z).flatten.length=len*Be grp:=by simp [hzl]
  rw [hlen,Nat.mul_div_cancel _ hpos,Res.all_bind] at hq
  have hz0:∀(c0:Array Value),(len*Be grp=0->c0 = #[])->(len*Be grp≠0->∀M L,RowL M L z c0.toList)->∀M L,RowL M L (List.replicate len z).flatten ((Array.range (len*Be grp)).map (c0[·%c0.size]!)).toList:=by
   intro c0 hc1 hc2 M L
   by_cases h0:len*Be grp=0
   ·rw [h0]
    have:(List.replicate len z).flatten=[]:=List.eq_nil_of_length_eq_zero (by omega)
    rw [this]
    exact ⟨by simp,fun i x v hx=>by simp at hx⟩
   ·exact Kp (hc2 h0) len (len*Be grp) (by rw [hzl]) (by omega) M L
  obtain ⟨c0,hc0,hrun⟩:∃c0:Array Value,(∀M L,RowL M L (List.replicate len z).flatten ((Array.range (len*Be grp)).map (c0[·%c0.size]!)).toList)/\
    (∀(pp:Array (Nat×Value)) c',Instr.fill (fun i=>some (i*Be grp,Be grp)) ((Array.range (len*Be grp)).map (c0[·%c0.size]!)) pp.toList=some c'->
     (Instr.buildSlice t len pp).run P w = .ok (.slice (some ⟨w.heap.size,0,none⟩) len len) { w with heap:=w.heap.push (.cells c' el) }):=by
   by_cases h0:len*Be grp=0
   ·refine ⟨#[],hz0 #[] (fun _=>rfl) (fun h=>(h h0).elim),fun pp c' hf => ?_⟩
    rw [h0] at hf
    have hr0:(Array.range 0).map (((#[]:Array Value))[·%(#[]:Array Value).size]!) = #[]:=by simp
    rw [hr0] at hf
    have hl0:len=0:=by
     rcases Nat.mul_eq_zero.1 h0 with h | h
     ·exact h
     ·omega
    subst hl0
    have hrg:Array.range 0 = #[]:=by decide
    simp [Instr.buildSlice,run_underlying hu,sizeOf,typeInfo,hi,hsz,hf,newRow,hrg]
   ·have hone':z.all oneB=true:=by
     rw [List.all_eq_true]
     intro x hx
     refine List.all_eq_true.1 hone x ?_
     rw [List.mem_flatten]
     refine ⟨z,?_,hx⟩
     rw [List.mem_replicate]
     refine ⟨fun hl0=>h0 (by rw [hl0,Nat.zero_mul]),rfl⟩
    obtain ⟨i',zv,hi',hzv,hsz',hrow⟩:=Gg hz hone'
    rw [hi] at hi'; cases hi'
    refine ⟨zv.cells,hz0 zv.cells (fun h=>(h0 h).elim) (fun _=>hrow),fun pp c' hf => ?_⟩
    have h24':¬len*Be grp>2 ^ 24:=by omega
    simp [Instr.buildSlice,run_underlying hu,sizeOf,typeInfo,zeroValue,hi,hzv,hsz,h0,h24',hf,newRow]
  obtain ⟨hl,hel⟩:=Lt _ _ hm
  obtain ⟨cs',c',h1,h2,h3,h4⟩:=Rf (Lf:=fun i=>some (i*Be grp,Be grp)) hE parts.toList ps _ _ _ hl (fun i j x off sz ix e1 e2=>by
    have hd:=hel i (j,x) _ e1 e2
    simp only [Option.map_eq_some_iff,Prod.mk.injEq] at hd
    obtain ⟨y,hy,rfl,rfl,rfl⟩:=hd
    exact ⟨rfl,el,hy⟩) (hc0 M L) hq
  have h1':Instr.fill (fun i=>some (i*Be grp,Be grp)) ((Array.range (len*Be grp)).map (c0[·%c0.size]!)) (parts.map fun (i,x)=>(i,a.eval x)).toList=some c':=by
   rw [Array.toList_map]; exact h1
  obtain ⟨g1,g2⟩:=hr.new_row h.length cs' c' el { w with heap:=w.heap.push (.cells c' el) } rfl (by have:=h2.1; simp at this; omega) (by simpa using h2.row)
  refine ⟨.slice (some ⟨w.heap.size,0,none⟩) len len,_,.inl ?_,⟨_,_,M,_,h3,g1,g2,?_⟩⟩
  ·simp only [execOp,ho,Sem.run_bind,hrun _ _ h1',Result.andThen_ok,Sem.run_pure]
  ·have hc2:c'.size=len*Be grp:=by have:=h2.1; simp at this; omega
   refine @VR.oslice M _ h.length _ grp 0 len (some len) ⟨w.heap.size,cs'.length,c'.size⟩ len 0 (Lay.upd_self _ _ _ _) ?_ ?_ (fun _=>rfl) (fun c2 hc => ?_) (fun hc=>by cases hc) (Nat.le_refl _)
   ·simp only [Nat.zero_add]; omega
   ·simp only [Nat.zero_add]; omega
   ·cases hc; exact ⟨rfl,by simp only [Nat.zero_add]; omega⟩
 ·exact hq.elim
end ops
variable {P:Program} {M:Mem} {L:Lay} {w:World} {h:Bc} {e:Env} {a:Act} {Q:AV×Bc->Prop}
theorem Jz {g:Option Nat} {x:AV} (hx:Ju g x=true):x.cells.length=Be g/\Ek g [x]=x.cells:=by
 cases g with
 | none=>cases x <;> first | exact ⟨rfl,rfl⟩ | (simp [Ju] at hx)
 | some n =>
  cases x <;> simp [Ju] at hx
  simp [AV.cells,Be,Ek,hx]
theorem Wf {g:Option Nat} {x:AV} {xs:List AV} (hx:Ju g x=true):Ek g (x::xs)=x.cells++Ek g xs:=by
 obtain ⟨_,h2⟩:=Jz hx
 cases g with
 | none=>simp only [Ek] at h2 ⊢; rw [<-h2]; rfl
 | some n=>simp [Ek]
theorem Qm {g:Option Nat}:∀{xs:List AV},(∀x∈xs,Ju g x=true)->(Ek g xs).length=xs.length*Be g
 | [],_=>by cases g <;> simp [Ek]
 | x::xs,hf=>by
  have hx:=hf x List.mem_cons_self
  rw [Wf hx,List.length_append,(Jz hx).1,Qm fun y hy=>hf y (List.mem_cons_of_mem _ hy),List.length_cons,Nat.add_mul]
  omega
theorem Wg {g:Option Nat}:∀{xs:List AV} (l:Nat),(∀x∈xs,Ju g x=true)->Ek g (xs.drop l)=(Ek g xs).drop (l*Be g)
 | [],l,_=>by cases g <;> simp [Ek]
 | x::xs,0,_=>by simp
 | x::xs,l+1,hf=>by
  have hx:=hf x List.mem_cons_self
  have hl:=(Jz hx).1
  rw [List.drop_succ_cons,Wg l fun y hy=>hf y (List.mem_cons_of_mem _ hy),Wf hx,List.drop_append]
  have:(l+1)*Be g-x.cells.length=l*Be g:=by rw [hl,Nat.add_mul]; omega
  have h0:x.cells.drop ((l+1)*Be g)=[]:=List.drop_of_length_le (by rw [hl,Nat.add_mul]; omega)
  rw [this,h0]; rfl
theorem Zd {g:Option Nat} {xs:List AV} {j:Nat} {v:AV} (hf:∀x∈xs,Ju g x=true) (hj:xs[j]? = some v) (i:Nat) (hi:i<v.cells.length) :
  (Ek g xs)[j*Be g+i]? = v.cells[i]?:=by
 have h1:=Wg j hf
 have hlt:j<xs.length:=(List.getElem?_eq_some_iff.1 hj).1
 have hd:xs.drop j=v::xs.drop (j+1):=by
  rw [List.drop_eq_getElem_cons hlt]
  congr 1
  exact (List.getElem?_eq_some_iff.1 hj).2
 have hv:=hf v (List.mem_of_getElem? hj)
 rw [hd,Wf hv] at h1
 rw [<-List.getElem?_drop,<-h1,List.getElem?_append_left hi]
theorem Wh {g:Option Nat} {xs:List AV} (l r:Nat) (hf:∀x∈xs,Ju g x=true) (i:Nat) (c:AV) (hc:(Ek g ((xs.take r).drop l))[i]? = some c):(Ek g xs)[l*Be g+i]? = some c:=by
 have hf':∀x∈xs.take r,Ju g x=true:=fun x hx=>hf x (List.mem_of_mem_take hx)
 rw [Wg l hf',List.getElem?_drop] at hc
 have hsplit:Ek g xs=Ek g (xs.take r)++Ek g (xs.drop r):=by
  have:∀(as bs:List AV),Ek g (as++bs)=Ek g as++Ek g bs:=by
   intro as bs; cases g <;> simp [Ek]
  rw [<-this,List.take_append_drop]
 rw [hsplit,List.getElem?_append_left]
 ·exact hc
 ·exact (List.getElem?_eq_some_iff.1 hc).1
theorem Jf {v:AV} {cv:Value} {y y':Nat} {R:Nat->Prop} {code:BoundsCode} (hv:VR M L v cv) (hy:y<=y') (hq:(Gd v y).all R) :
  ∃n,R n/\(Instr.sliceBound cv y' code).run P w = .ok n w/\n<=y:=by
 unfold Gd at hq
 split at hq
 ·next k i =>
  split at hq
  ·next hc =>
   have:=hv.int_inv
   refine ⟨i.toNat,hq,?_,by omega⟩
   subst this
   have hc':0<=i/\i<=(y':Int):=⟨hc.1,by omega⟩
   simp [Instr.sliceBound,asIntOf,hc']
  ·exact hq.elim
 ·exact hq.elim
theorem Nm {x:Option Operand} {ix:Option IX} (hE:ER M L e a) (hx:Iq P x=some ix) :
  (x=none/\ix=none)\/∃y iy,x=some y/\ix=some iy/\VR M L (iy.ev e) (a.eval y):=by
 cases x with
 | none=>simp [Iq] at hx; exact .inl ⟨rfl,hx.symm⟩
 | some y =>
  simp only [Iq,Option.map_eq_some_iff] at hx
  obtain ⟨iy,hy,rfl⟩:=hx
  exact .inr ⟨y,iy,rfl,rfl,Dl hE hy⟩
theorem Ko (hE:ER M L e a) {lo hi mx:Option Operand} {il ih im:Option IX} (hlo:Iq P lo=some il) (hhi:Iq P hi=some ih) (hmx:Iq P mx=some im)
  {len c:Nat} {ac:Option Nat} (h1:ac.getD len<=c) (h2:len<=ac.getD len) {R:Nat×Nat×Option Nat->Prop} (hq:(sliceB e len ac il ih im).all R) (isS:Bool) :
  ∃l r m cm,R (l,r,m)/\(Instr.sliceBounds isS len c (lo.map a.eval) (hi.map a.eval) (mx.map a.eval)).run P w = .ok (l,r,cm) w/\l<=r/\r<=cm/\cm<=c/\r<=ac.getD len/\
   ((im=none/\m=ac/\cm=c)\/(im.isSome=true/\m=some cm/\cm<=ac.getD len)):=by
 rcases Nm hE hmx with ⟨rfl,rfl⟩ | ⟨y3,i3,rfl,rfl,v3⟩
 ·rcases Nm hE hhi with ⟨rfl,rfl⟩ | ⟨y2,i2,rfl,rfl,v2⟩
  ·simp only [sliceB,Res.bind] at hq
   rcases Nm hE hlo with ⟨rfl,rfl⟩ | ⟨y1,i1,rfl,rfl,v1⟩
   ·refine ⟨0,len,ac,c,hq,?_,Nat.zero_le _,by omega,Nat.le_refl _,h2,.inl ⟨rfl,rfl,rfl⟩⟩
    simp [Instr.sliceBounds]
   ·simp only at hq
    rw [Res.all_bind] at hq
    obtain ⟨l,hl,hlrun,hlle⟩:=Jf (P:=P) (w:=w) (code:=.sliceB) v1 (Nat.le_refl len) hq
    refine ⟨l,len,ac,c,hl,?_,hlle,by omega,Nat.le_refl _,h2,.inl ⟨rfl,rfl,rfl⟩⟩
    simp [Instr.sliceBounds,hlrun]
  ·simp only [sliceB] at hq
   rw [Res.all_bind] at hq
   obtain ⟨r,hr,hrun,hrle⟩:=Jf (P:=P) (w:=w) (code:=if isS then .sliceAcap else .sliceAlen) v2 h1 hq
   rcases Nm hE hlo with ⟨rfl,rfl⟩ | ⟨y1,i1,rfl,rfl,v1⟩
   ·refine ⟨0,r,ac,c,hr,?_,Nat.zero_le _,by omega,Nat.le_refl _,hrle,.inl ⟨rfl,rfl,rfl⟩⟩
    simp [Instr.sliceBounds,hrun]
   ·simp only at hr
    rw [Res.all_bind] at hr
    obtain ⟨l,hl,hlrun,hlle⟩:=Jf (P:=P) (w:=w) (code:=.sliceB) v1 (Nat.le_refl r) hr
    refine ⟨l,r,ac,c,hl,?_,hlle,by omega,Nat.le_refl _,hrle,.inl ⟨rfl,rfl,rfl⟩⟩
    simp [Instr.sliceBounds,hrun,hlrun]
 ·rcases Nm hE hhi with ⟨rfl,rfl⟩ | ⟨y2,i2,rfl,rfl,v2⟩
  ·simp [sliceB,Res.all] at hq
  ·simp only [sliceB] at hq
   rw [Res.all_bind] at hq
   obtain ⟨m,hm,hmrun,hmle⟩:=Jf (P:=P) (w:=w) (code:=if isS then .slice3Acap else .slice3Alen) v3 h1 hq
   rw [Res.all_bind] at hm
   obtain ⟨r,hr,hrrun,hrle⟩:=Jf (P:=P) (w:=w) (code:=.slice3B) v2 (Nat.le_refl m) hm
   rcases Nm hE hlo with ⟨rfl,rfl⟩ | ⟨y1,i1,rfl,rfl,v1⟩
   ·refine ⟨0,r,some m,m,hr,?_,Nat.zero_le _,hrle,by omega,by omega,.inr ⟨rfl,rfl,hmle⟩⟩
    simp [Instr.sliceBounds,hmrun,hrrun]
   ·simp only at hr
    rw [Res.all_bind] at hr
    obtain ⟨l,hl,hlrun,hlle⟩:=Jf (P:=P) (w:=w) (code:=.slice3C) v1 (Nat.le_refl r) hr
    refine ⟨l,r,some m,m,hl,?_,hlle,hrle,by omega,by omega,.inr ⟨rfl,rfl,hmle⟩⟩
    simp [Instr.sliceBounds,hmrun,hrrun,hlrun]
section ops
variable (hr:HR P M L w h) (hE:ER M L e a) (call:Bf) (key:Nat) {o:Oper}
include hr hE
theorem Aya {x:Operand} {t s el:TypeId} {ats:Array TypeId} {ix:IX} (ho:o.op = .call { callee:=.builtin .len,args:=#[x],argTypes:=ats }) (ht:ats[0]? = some s) (hs:P.underlying s=some (.slice el))
  (hx:cX P t x=some ix) (hq:(Bd call key (.len ix) e h).all Q):OpOk P M L w h a o Q:=by
 have hxv:=Dl hE hx
 simp only [Bd] at hq
 generalize ix.ev e=av at hxv hq
 generalize hcv:a.eval x=cv at hxv
 have hrun:∀aa n c,cv = .slice aa n c->(execOp a.eval o).run P w = .ok (.value (.int .i64 n)) w:=fun aa n c hc=>by
  simp [execOp,ho,resolve,invoke,builtin,hcv,hc,Builtin.len_,ht,run_underlying hs,goInt]
 split at hq
 ·cases hxv with
  | empty hh=>exact .pure hr (hrun _ _ _ rfl) .int hq
  | slice a1 a2 a3 a4 a5 a6 a7=>exact .pure hr (hrun _ _ _ rfl) .int hq
 ·cases hxv with
  | oslice b1 b2 b3 b4 b5 b6 b7=>exact .pure hr (hrun _ _ _ rfl) .int hq
 ·exact hq.elim
theorem A8g {s el t t':TypeId} {x y:Operand} {ix iy:IX} (ho:o.op = .indexAddr s x y) (hs:P.underlying s=some (.slice el)) (hz:0<P.cellsOf el)
  (hx:cX P t x=some ix) (hy:cX P t' y=some iy) (hq:(Bd call key (.indexAddr (P.cellsOf el) ix iy) e h).all Q):OpOk P M L w h a o Q:=by
 have hxv:=Dl hE hx
 have hyv:=Dl hE hy
 simp only [Bd] at hq
 generalize ix.ev e=av at hxv hq
 generalize iy.ev e=bv at hyv hq
 generalize hcv:a.eval x=cv at hxv
 obtain ⟨ei,hei⟩:∃ei,P.info? el=some ei:=by
  unfold Program.cellsOf at hz
  cases hi:P.info? el with
  | none=>simp [hi] at hz
  | some i=>exact ⟨i,rfl⟩
 have hces:P.cellsOf el=ei.size:=Ku hei
 split at hq
 ·next grp xs ex j hj =>
  obtain ⟨k,m,he,h0,hm⟩:=Gu hyv hj
  split at hq
  ·next hg =>
   split at hq
   ·next v hv =>
    have hjl:j<xs.length:=(List.getElem?_eq_some_iff.1 hv).1
    cases hxv with
    | empty hh=>simp at hjl
    | @slice _ _ _ b off cap cs t0 fz f hmm hc hcp hf hvv hoo hrr =>
     have hml:m<(xs.length:Int):=by omega
     refine .pure hr (cv:=.pointer (some ⟨b,(off+j*ei.size)+0,none⟩)) ?_ ?_ hq
     ·simp [execOp,ho,hcv,he,Instr.indexAt,asIntOf,run_underlying hs,h0,hml,hm,sizeOf,typeInfo,hei,Fs]
     ·have hvc:=Jz (hf v (List.mem_of_getElem? hv))
      rw [<-hces,<-hg]
      refine .ptr (f:=fun i=>f (j*Be grp+i)) hmm (fun i c hi => ?_) (fun i c hi => ?_) (fun i c hi => ?_)
      ·have:=Zd hf hv i (List.getElem?_eq_some_iff.1 hi).1
       rw [Nat.add_assoc]; exact hvv _ c (this.trans hi)
      ·exact hoo _ c ((Zd hf hv i (List.getElem?_eq_some_iff.1 hi).1).trans hi)
      ·exact hrr _ c ((Zd hf hv i (List.getElem?_eq_some_iff.1 hi).1).trans hi)
   ·exact hq.elim
  ·exact hq.elim
 ·next k ver grp off len cap j hj =>
  obtain ⟨k',m,he,h0,hm⟩:=Gu hyv hj
  split at hq
  ·next hg =>
   cases hxv with
   | @oslice _ _ _ _ _ _ info c oo hl b1 b2 b3 b4 b5 b6 =>
    have hml:m<(len:Int):=by omega
    have hoo:oo=off:=b3 (by omega)
    subst hoo
    refine .pure hr (cv:=.pointer (some ⟨info.blk,oo+j*ei.size,none⟩)) ?_ (by rw [<-hces]; exact .optr hl) hq
    simp [execOp,ho,hcv,he,Instr.indexAt,asIntOf,run_underlying hs,h0,hml,hm,sizeOf,typeInfo,hei,Fs]
  ·exact hq.elim
 ·exact hq.elim
theorem A5i {s el t t':TypeId} {x y:Operand} {n:Nat} {ix iy:IX} (ho:o.op = .indexAddr s x y) (hs:P.underlying s=some (.array n el)) (hz:0<P.cellsOf el)
  (hx:cX P t x=some ix) (hy:cX P t' y=some iy) (hq:(Bd call key (.indexAddrA n (P.cellsOf el) ix iy) e h).all Q):OpOk P M L w h a o Q:=by
 have hxv:=Dl hE hx
 have hyv:=Dl hE hy
 simp only [Bd] at hq
 generalize ix.ev e=av at hxv hq
 generalize iy.ev e=bv at hyv hq
 generalize hcv:a.eval x=cv at hxv
 obtain ⟨ei,hei⟩:∃ei,P.info? el=some ei:=by
  unfold Program.cellsOf at hz
  cases hi:P.info? el with
  | none=>simp [hi] at hz
  | some i=>exact ⟨i,rfl⟩
 have hces:P.cellsOf el=ei.size:=Ku hei
 split at hq
 ·next cells off j hj =>
  obtain ⟨k,m,he,h0,hm⟩:=Gu hyv hj
  split at hq
  ·next hlt =>
   cases hxv with
   | @ptr _ _ b oo cs t0 fz f hmm hv ho1 hr1 =>
    have hml:m<(n:Int):=by omega
    refine .pure hr (cv:=.pointer (some ⟨b,oo+(off+j*ei.size),none⟩)) ?_ (by rw [<-hces]; exact .ptr hmm hv ho1 hr1) hq
    simp [execOp,ho,hcv,he,Instr.indexAt,Instr.sureAddr,asIntOf,run_underlying hs,h0,hml,hm,sizeOf,typeInfo,hei,Fs,Nat.add_assoc]
  ·exact hq.elim
 ·next k ver off j hj =>
  obtain ⟨k',m,he,h0,hm⟩:=Gu hyv hj
  split at hq
  ·next hlt =>
   cases hxv with
   | @optr _ _ _ info hl =>
    have hml:m<(n:Int):=by omega
    refine .pure hr (cv:=.pointer (some ⟨info.blk,off+j*ei.size,none⟩)) ?_ (by rw [<-hces]; exact .optr hl) hq
    simp [execOp,ho,hcv,he,Instr.indexAt,Instr.sureAddr,asIntOf,run_underlying hs,h0,hml,hm,sizeOf,typeInfo,hei,Fs]
  ·exact hq.elim
 ·exact hq.elim
theorem Ams {s el t:TypeId} {grp:Option Nat} {x:Operand} {lo hi mx:Option Operand} {ix:IX} {il ih im:Option IX} (ho:o.op = .slice s x lo hi mx) (hs:P.underlying s=some (.slice el))
  (hg:El P el=some grp) (hpos:0<Be grp) (hx:cX P t x=some ix) (hlo:Iq P lo=some il) (hhi:Iq P hi=some ih) (hmx:Iq P mx=some im)
  (hq:(Bd call key (.slice grp ix il ih im) e h).all Q):OpOk P M L w h a o Q:=by
 have hxv:=Dl hE hx
 obtain ⟨ei,hei,hesz⟩:=Gw hg
 simp only [Bd] at hq
 generalize ix.ev e=av at hxv hq
 generalize hcv:a.eval x=cv at hxv
 have hrun:∀aa len cap l r cm,cv = .slice aa len cap->(Instr.sliceBounds true len cap (lo.map a.eval) (hi.map a.eval) (mx.map a.eval)).run P w = .ok (l,r,cm) w->
   (execOp a.eval o).run P w = .ok (.value (.slice (if cm=l then aa else aa.map (·.add (l*Be grp))) (r-l) (cm-l))) w:=fun aa len cap l r cm hc hb=>by
  simp [execOp,ho,Instr.sliceAt,run_underlying hs,Instr.slice,hcv,hc,hb,sizeOf,typeInfo,hei,hesz]
 split at hq
 ·next gx xs exact =>
  split at hq
  ·exact hq.elim
  ·next hgx =>
   have hgx:gx=grp:=by simpa using hgx
   subst hgx
   rw [Res.all_bind] at hq
   -- the flag of what comes out
   cases hxv with
   | @empty _ _ aa cap hh =>
    obtain ⟨l,r,m,cm,hR,hb,h1,h2,h3,h4,h5⟩:=Ko (P:=P) (w:=w) (c:=cap) hE hlo hhi hmx (by simp) (by simp) hq true
    simp only [Option.getD_some,List.length_nil] at h4
    have hr0:r=0:=by omega
    have hl0:l=0:=by omega
    subst hr0 hl0
    refine .pure hr (hrun _ _ _ _ _ _ rfl hb) ?_ hR
    simp only [List.take_zero,List.drop_nil,Nat.sub_zero]
    refine .empty fun hf => ?_
    simp only [Bool.or_eq_true,Bool.and_eq_true,beq_iff_eq] at hf
    rcases hf with ⟨hf,_⟩ | ⟨hf1,hf2⟩
    ·have:=hh hf; omega
    ·rcases h5 with ⟨h5,_⟩ | ⟨_,h5,_⟩
     ·rw [h5] at hf1; simp at hf1
     ·rw [h5] at hf2; simpa using hf2
   | @slice _ _ _ b off cap cs t0 fz f hmm hc hcp hf hvv hoo hrr =>
    obtain ⟨l,r,m,cm,hR,hb,h1,h2,h3,h4,h5⟩:=Ko (P:=P) (w:=w) (c:=cap) hE hlo hhi hmx (by simpa using hcp) (by simp) hq true
    simp only [Option.getD_some] at h4
    refine .pure hr (hrun _ _ _ _ _ _ rfl hb) ?_ hR
    have hlen:((xs.take r).drop l).length=r-l:=by simp; omega
    have hflag:(((exact&&(r==xs.length))||(im.isSome&&(m==some r)))=true)->cm-l=r-l:=fun hfl=>by
     simp only [Bool.or_eq_true,Bool.and_eq_true,beq_iff_eq] at hfl
     rcases hfl with ⟨hf1,hf2⟩ | ⟨hf1,hf2⟩
     ·have:=hc hf1
      rcases h5 with ⟨_,_,h5⟩ | ⟨_,_,h5⟩
      ·omega
      ·simp only [Option.getD_some] at h5; omega
     ·rcases h5 with ⟨h5,_⟩ | ⟨_,h5,_⟩
      ·rw [h5] at hf1; simp at hf1
      ·rw [h5] at hf2; simp at hf2; omega
    by_cases hcl:cm=l
    ·have hrl:r-l=0:=by omega
     rw [hrl] at hlen ⊢
     rw [List.eq_nil_of_length_eq_zero hlen]
     exact .empty fun _=>by omega
    ·rw [if_neg hcl]
     simp only [Option.map_some,Fs]
     rw [<-hlen]
     refine .slice (f:=fun i=>f (l*Be gx+i)) hmm (fun hfl=>by rw [hlen]; exact hflag hfl) (by omega) (fun y hy=>hf y (List.mem_of_mem_take (List.mem_of_mem_drop hy))) (fun i c hi => ?_) (fun i c hi => ?_) (fun i c hi => ?_)
     ·rw [Nat.add_assoc]; exact hvv _ c (Wh l r hf i c hi)
     ·exact hoo _ c (Wh l r hf i c hi)
     ·exact hrr _ c (Wh l r hf i c hi)
 ·next k ver gx off len cap =>
  split at hq
  ·exact hq.elim
  ·next hgx =>
   have hgx:gx=grp:=by simpa using hgx
   subst hgx
   rw [Res.all_bind] at hq
   cases hxv with
   | @oslice _ _ _ _ _ _ info c oo hl b1 b2 b3 b4 b5 b6 =>
    have hge:cap.getD len<=c:=by
     cases cap with
     | none=>exact b6
     | some c'=>have:=(b4 c' rfl).1; simp; omega
    have hlg:len<=cap.getD len:=by
     cases cap with
     | none=>exact Nat.le_refl _
     | some c'=>have:=(b4 c' rfl).1; simp; omega
    obtain ⟨l,r,m,cm,hR,hb,h1,h2,h3,h4,h5⟩:=Ko (P:=P) (w:=w) (c:=c) hE hlo hhi hmx hge hlg hq true
    refine .pure hr (hrun _ _ _ _ _ _ rfl hb) ?_ hR
    have hn:∀q,q<=cap.getD len->off+q*Be gx<=info.n:=fun q hqq=>by
     have hmul:q*Be gx<=cap.getD len*Be gx:=Nat.mul_le_mul_right _ hqq
     cases cap with
     | none=>simp only [Option.getD_none] at hmul; omega
     | some c'=>have:=(b4 c' rfl).2; simp only [Option.getD_some] at hmul; omega
    have e1:l*Be gx+(r-l)*Be gx=r*Be gx:=by rw [<-Nat.add_mul]; congr 1; omega
    have e2:l*Be gx+(cm-l)*Be gx=cm*Be gx:=by rw [<-Nat.add_mul]; congr 1; omega
    have e3:cm*Be gx<=c*Be gx:=Nat.mul_le_mul_right _ h3
    have hobj:(if cm=l then some (⟨info.blk,oo,none⟩:Addr) else (some (⟨info.blk,oo,none⟩:Addr)).map (·.add (l*Be gx)))=some ⟨info.blk,if cm=l then oo else oo+l*Be gx,none⟩:=by
     split
     ·rfl
     ·simp [Fs]
    rw [hobj]
    show VR M L (.oslice k ver gx (off+l*Be gx) (r-l) (m.map (·-l))) _
    refine .oslice hl ?_ ?_ ?_ ?_ ?_ ?_
    ·have:=hn r h4; omega
    ·omega
    ·intro hne
     rw [if_neg (by omega),b3 (by omega)]
    ·intro c' hc'
     rcases h5 with ⟨_,hm,hcm⟩ | ⟨_,hm,hcm⟩
     ·subst hm
      simp only [Option.map_eq_some_iff] at hc'
      obtain ⟨c2,hc2,rfl⟩:=hc'
      have:=b4 c2 hc2
      refine ⟨by omega,?_⟩
      have e4:l*Be gx+(c2-l)*Be gx=c2*Be gx:=by rw [<-Nat.add_mul]; congr 1; omega
      omega
     ·subst hm
      simp only [Option.map_some,Option.some.injEq] at hc'
      subst hc'
      refine ⟨rfl,?_⟩
      have:=hn cm hcm
      omega
    ·intro hmn
     rcases h5 with ⟨_,hm,hcm⟩ | ⟨_,hm,hcm⟩
     ·subst hm
      simp only [Option.map_eq_none_iff] at hmn
      have:=b5 hmn
      subst hcm
      omega
     ·subst hm; simp at hmn
    ·omega
 ·exact hq.elim
theorem Aix {s el t:TypeId} {grp:Option Nat} {x:Operand} {lo hi mx:Option Operand} {ix:IX} {il ih im:Option IX} (ho:o.op = .slice s x lo hi mx) (hs:P.underlying s=some (.slice el))
  (hg:El P el=some grp) (hpos:0<Be grp) (hx:cX P t x=some ix) (hlo:Iq P lo=some il) (hhi:Iq P hi=some ih) (hmx:Iq P mx=some im)
  (hq:(Bd call key (.sliceW grp ix il ih im) e h).all Q):OpOk P M L w h a o Q:=by
 have hxv:=Dl hE hx
 obtain ⟨ei,hei,hesz⟩:=Gw hg
 simp only [Bd] at hq
 generalize ix.ev e=av at hxv hq
 generalize hcv:a.eval x=cv at hxv
 have hrun:∀aa len cap l r cm,cv = .slice aa len cap->(Instr.sliceBounds true len cap (lo.map a.eval) (hi.map a.eval) (mx.map a.eval)).run P w = .ok (l,r,cm) w->
   (execOp a.eval o).run P w = .ok (.value (.slice (if cm=l then aa else aa.map (·.add (l*Be grp))) (r-l) (cm-l))) w:=fun aa len cap l r cm hc hb=>by
  simp [execOp,ho,Instr.sliceAt,run_underlying hs,Instr.slice,hcv,hc,hb,sizeOf,typeInfo,hei,hesz]
 split at hq
 ·next k ver gx off len cap =>
  split at hq
  ·next v cs hob =>
   split at hq
   ·exact hq.elim
   ·next hcond =>
    simp only [not_or,Decidable.not_not,Nat.not_lt,Bool.not_eq_true,Option.isSome_eq_false_iff,Option.isNone_iff_eq_none] at hcond
    obtain ⟨hgx,hv,hcap,hlen⟩:=hcond
    subst hgx hv hcap
    rw [Res.all_bind] at hq
    cases hxv with
    | @oslice _ _ _ _ _ _ info c oo hl b1 b2 b3 b4 b5 b6 =>
     obtain ⟨_,_,_,_,hn0,_,_,_⟩:=Fh hr hob hl
     have b5:=b5 rfl
     obtain ⟨B,hB⟩:∃B,B=(cs.length-off)/Be gx:=⟨_,rfl⟩
     have hB1:B*Be gx<=cs.length-off:=by rw [hB]; exact Nat.div_mul_le_self _ _
     rw [<-hB] at hq
     have hge:(some B).getD len<=c:=by
      have:B*Be gx<=c*Be gx:=by omega
      exact Nat.le_of_mul_le_mul_right this hpos
     have hlg:len<=(some B).getD len:=by
      show len<=B
      rw [hB,Nat.le_div_iff_mul_le hpos]
      omega
     obtain ⟨l,r,m,cm,hR,hb,h1,h2,h3,h4,h5⟩:=Ko (P:=P) (w:=w) (c:=c) hE hlo hhi hmx hge hlg hq true
     refine .pure hr (hrun _ _ _ _ _ _ rfl hb) ?_ hR
     have hn:∀q,q<=B->off+q*Be gx<=info.n:=fun q hqq=>by
      have hmul:q*Be gx<=B*Be gx:=Nat.mul_le_mul_right _ hqq
      omega
     have e1:l*Be gx+(r-l)*Be gx=r*Be gx:=by rw [<-Nat.add_mul]; congr 1; omega
     have e2:l*Be gx+(cm-l)*Be gx=cm*Be gx:=by rw [<-Nat.add_mul]; congr 1; omega
     have e3:cm*Be gx<=c*Be gx:=Nat.mul_le_mul_right _ h3
     have hobj:(if cm=l then some (⟨info.blk,oo,none⟩:Addr) else (some (⟨info.blk,oo,none⟩:Addr)).map (·.add (l*Be gx)))=some ⟨info.blk,if cm=l then oo else oo+l*Be gx,none⟩:=by
      split
      ·rfl
      ·simp [Fs]
     rw [hobj]
     show VR M L (.oslice k v gx (off+l*Be gx) (r-l) (if im.isSome then m.map (·-l) else none)) _
     refine .oslice hl ?_ ?_ ?_ ?_ ?_ ?_
     ·have:=hn r h4; omega
     ·omega
     ·intro hne
      rw [if_neg (by omega),b3 (by omega)]
     ·intro c' hc'
      rcases h5 with ⟨hmn,hm,hcm⟩ | ⟨hms,hm,hcm⟩
      ·rw [hmn] at hc'; simp at hc'
      ·rw [hms] at hc'
       subst hm
       simp only [if_true,Option.map_some,Option.some.injEq] at hc'
       subst hc'
       refine ⟨rfl,?_⟩
       have:=hn cm hcm
       omega
     ·intro hmn
      rcases h5 with ⟨_,hm,hcm⟩ | ⟨hms,hm,hcm⟩
      ·subst hcm
       omega
      ·rw [hms] at hmn; subst hm; simp at hmn
     ·omega
  ·exact hq.elim
 ·exact hq.elim
end ops
variable {P:Program} {M:Mem} {L:Lay} {w:World} {h:Bc} {e:Env} {a:Act} {Q:AV×Bc->Prop}
theorem Lh {t ty el:TypeId} {i:TypeInfo} (ht:P.underlying t=some (.slice el)) (hi:P.info? el=some i) (base yb:Option Addr) (sLen sCap yc:Nat) (hl:sLen<=sCap) :
  (Builtin.append_ #[t,t] ty #[.slice base sLen sCap,.slice yb 0 yc]).run P w = .ok (.slice base sLen sCap) w:=by
 cases base <;> cases yb <;> simp [Builtin.append_,run_underlying ht,sizeOf,typeInfo,hi,Builtin.lenOf,hl,Builtin.firstCells,loadCells,loadCellsFrom,storeCells]
theorem Vd {t ty el:TypeId} {i:TypeInfo} (ht:P.underlying t=some (.slice el)) (hi:P.info? el=some i) {b o sLen sCap:Nat} {c:Array Value} {t0:TypeId}
  (hb:w.heap[b]? = some (.cells c t0 (0,0))) (ad:Addr) (n yc:Nat) (news:List Value) (hl:news.length=n*i.size) (hn:∀j v,news[j]? = some v->w.cell? (ad.add j)=some v)
  (h1:∀u∈news,u.oneCell'=true) (hroom:sLen+n<=sCap) (hfit:o+sLen*i.size+news.length<=c.size) :
  (Builtin.append_ #[t,t] ty #[.slice (some ⟨b,o,none⟩) sLen sCap,.slice (some ad) n yc]).run P w =
   .ok (.slice (some ⟨b,o,none⟩) (sLen+n) sCap) (w.setRow b (Ft c (o+sLen*i.size) news)):=by
 have hf:=run_firstCells_some (P:=P) w i.size n ad n yc news hl hn
 have hst:=run_storeCells_at P b (o+sLen*i.size) t0 news 0 c w hb (by omega) h1
 simp only [Nat.add_zero] at hst
 simp [Builtin.append_,run_underlying ht,sizeOf,typeInfo,hi,Builtin.lenOf,hroom,hf,Fs,hst,Ft]
theorem A4z (hr:HR P M L w h) {y:AV} {cv:Value} {g:Option Nat} {m:Nat} {new:List AV} (hv:VR M L y cv) (hc:De h y=some (g,m,new)) :
  ∃yb yc news,cv = .slice yb m yc/\RowL M L new news/\news.length=m*Be g/\(m≠0->∃ad,yb=some ad/\∀(j:Nat) v,news[j]? = some v->w.cell? (ad.add j)=some v):=by
 unfold De at hc
 split at hc
 ·next gx xs ex =>
  simp only [Option.some.injEq,Prod.mk.injEq] at hc
  obtain ⟨rfl,rfl,rfl⟩:=hc
  cases hv with
  | @empty _ _ aa cap hh =>
   refine ⟨aa,cap,[],rfl,⟨by cases gx <;> simp [Ek],fun i x v hx hv=>by simp at hv⟩,by simp,fun h0 => ?_⟩
   simp at h0
  | @slice _ _ _ b off cap cs t0 fz f hmm hcx hcp hf hvv hoo hrr =>
   have hfl:=Qm hf
   refine ⟨_,cap,(List.range (xs.length*Be gx)).map f,rfl,⟨by simp [hfl],fun i x v hx hv => ?_⟩,by simp,fun _=>⟨⟨b,off,none⟩,rfl,fun j v hv => ?_⟩⟩
   ·have:v=f i:=by
     simp only [List.getElem?_map,Option.map_eq_some_iff] at hv
     obtain ⟨j,hj,rfl⟩:=hv
     have:=(List.getElem?_eq_some_iff.1 hj).2
     simp at this
     rw [this]
    subst this
    exact ⟨hoo i x hx,(hrr i x hx).toVR⟩
   ·simp only [List.getElem?_map,Option.map_eq_some_iff] at hv
    obtain ⟨j',hj,rfl⟩:=hv
    have hj1:=(List.getElem?_eq_some_iff.1 hj).1
    have hj2:=(List.getElem?_eq_some_iff.1 hj).2
    simp at hj1 hj2
    subst hj2
    have hx:(Ek gx xs)[j]? = some (Ek gx xs)[j]:=List.getElem?_eq_getElem (by omega)
    rw [Fs]
    simp only [World.cell?,hr.mem _ _ hmm]
    exact hvv j _ hx
 ·next k ver gx off len cap =>
  split at hc
  ·next v cs hob =>
   split at hc
   ·next hcc =>
    simp only [Option.some.injEq,Prod.mk.injEq] at hc
    obtain ⟨rfl,rfl,rfl⟩:=hc
    obtain ⟨hv1,hle⟩:=hcc
    subst hv1
    cases hv with
    | @oslice _ _ _ _ _ _ info c o hl b1 b2 b3 b4 b5 b6 =>
     obtain ⟨hmb,c0,t0,hb0,hn0,hs0,hle0,hrow⟩:=Fh hr hob hl
     refine ⟨_,c,(c0.toList.drop off).take (len*Be gx),rfl,⟨by simp; omega,fun i x v hx hv => ?_⟩,by simp; omega,fun h0=>⟨_,rfl,fun j v hv => ?_⟩⟩
     ·simp only [List.getElem?_take,List.getElem?_drop] at hx hv
      split at hx
      ·next hi =>
       rw [if_pos hi,Array.getElem?_toList] at hv
       obtain ⟨v',e1,e2,e3⟩:=hrow _ x hx
       rw [hv] at e1; cases e1
       exact ⟨e2,e3⟩
      ·cases hx
     ·simp only [List.getElem?_take,List.getElem?_drop] at hv
      split at hv
      ·rw [Array.getElem?_toList] at hv
       rw [Fs,b3 (by omega)]
       simp only [World.cell?,hb0]
       exact hv
      ·cases hv
   ·cases hc
  ·cases hc
 ·cases hc
theorem Jb {n bytes:Nat} (hr:Et n bytes=true):n*bytes<=1099511627776:=by simpa [Et] using hr
theorem A5c {z:Array Value} {need cap:Nat} {olds:List Value} (hl:olds.length=need*z.size) (hc:need<=cap) :
  (olds.toArray++Builtin.zeroCells z (cap-need)).size=cap*z.size:=by
 simp only [Array.size_append,List.size_toArray,size_zeroCells,hl,<-Nat.add_mul]
 congr 1; omega
section ops
variable (hr:HR P M L w h) (hE:ER M L e a) (call:Bf) (key:Nat) {o:Oper}
include hr hE
omit hE in
theorem Sd {g:Option Nat} {olds news:List Value} {old new:List AV} {n m cap:Nat} {z:Array Value} {el:TypeId} {w':World} (hrow:RowL M L old olds) (hnew:RowL M L new news)
  (hzs:z.size=Be g) (hlo:olds.length=n*Be g) (hln:news.length=m*Be g) (hcap:n+m<=cap)
  (hw':w'.heap=w.heap.push (.cells (olds.toArray++news.toArray++Builtin.zeroCells z (cap-(n+m))) el)) (hso:SameOut w w')
  (hq:Q (.oslice key (Bb h key).next g 0 (n+m) none,setH h key (.cells (Bb h key).next (old++new)))) :
  Good P M L w h Q w' (.slice (some ⟨w.heap.size,0,none⟩) (n+m) cap):=by
 have hal:(olds++news).length=(n+m)*z.size:=by rw [List.length_append,hlo,hln,hzs,Nat.add_mul]
 have hsz:(olds.toArray++news.toArray++Builtin.zeroCells z (cap-(n+m))).size=cap*Be g:=by
  rw [<-hzs]
  have:=A5c (z:=z) hal hcap
  simpa [List.append_toArray] using this
 have hboth:RowL M L (old++new) (olds++news):=by
  refine ⟨by simp [hrow.1,hnew.1],fun i x v hx hv => ?_⟩
  by_cases hi:i<old.length
  ·rw [List.getElem?_append_left hi] at hx
   rw [List.getElem?_append_left (by rw [<-hrow.1]; exact hi)] at hv
   exact hrow.2 i x v hx hv
  ·rw [List.getElem?_append_right (by omega)] at hx
   rw [List.getElem?_append_right (by rw [<-hrow.1]; omega),<-hrow.1] at hv
   exact hnew.2 _ x v hx hv
 have hR:Row M L (old++new) (olds.toArray++news.toArray++Builtin.zeroCells z (cap-(n+m))):=by
  intro i x hx
  obtain ⟨v,e1,e2,e3⟩:=hboth.row i x hx
  refine ⟨v,?_,e2,e3⟩
  have hi:i<(olds++news).length:=by have:=(Array.getElem?_eq_some_iff.1 e1).1; simpa using this
  rw [Array.getElem?_append_left (by simpa using hi)]
  simpa using e1
 have hlen:(old++new).length=(n+m)*Be g:=by rw [hboth.1,hal,hzs]
 have hcg:(n+m)*Be g<=cap*Be g:=Nat.mul_le_mul_right _ hcap
 obtain ⟨g1,g2⟩:=hr.new_row key (old++new) _ el w' hw' (by rw [hlen,hsz]; exact hcg) hR hso
 refine ⟨_,_,M,_,hq,g1,g2,?_⟩
 refine @VR.oslice M _ key _ g 0 (n+m) none ⟨w.heap.size,(old++new).length,(olds.toArray++news.toArray++Builtin.zeroCells z (cap-(n+m))).size⟩ cap 0 (Lay.upd_self _ _ _ _) ?_ ?_ (fun _=>rfl) (fun c' hc=>by cases hc) ?_ hcap
 ·simp only [Nat.zero_add]; omega
 ·simp only [Nat.zero_add]; omega
 ·intro _; simp only [Nat.zero_add]; omega
theorem Aiq {t ty el t1 t2:TypeId} {x y:Operand} {ix iy:IX} {g:Option Nat} {z:List AV} (ho:o.op = .call { callee:=.builtin .append,args:=#[x,y],argTypes:=#[ty,ty] })
  (hu:P.underlying ty=some (.slice el)) (hg:El P el=some g) (hz:Fu P el=some z) (hzl:z.length=Be g) (hone:z.all oneB=true) (hpos:0<Be g) (hby:0<P.bytesOf el)
  (hx:cX P t1 x=some ix) (hy:cX P t2 y=some iy) (hq:(Bd call key (.append g (P.bytesOf el) ix iy) e h).all Q):OpOk P M L w h a o Q:=by
 have hxv:=Dl hE hx
 have hyv:=Dl hE hy
 obtain ⟨i,zv,hi,hzv,hsz0,hzrow⟩:=Gg hz hone
 have hsz:i.size=Be g:=by omega
 have hzs:zv.cells.size=Be g:=by have:=(hzrow M L).1; simp at this; omega
 have hbytes:P.bytesOf el=i.bytes:=by simp [Program.bytesOf,hi]
 rw [hbytes] at hq hby
 have hexec:(execOp a.eval o).run P w=((Builtin.append_ #[ty,ty] o.type #[a.eval x,a.eval y]).run P w).andThen fun v w' => .ok (.value v) w':=by
  simp [execOp,ho,resolve,invoke,builtin]
 simp only [Bd,Dh] at hq
 generalize ix.ev e=av at hxv hq
 generalize iy.ev e=bv at hyv hq
 split at hq
 ·exact hq.elim
 ·next gy m new hcs =>
  split at hq
  ·exact hq.elim
  ·next hgy =>
   have hgy:gy=g:=by simpa using hgy
   subst hgy
   obtain ⟨yb,yc,news,hcy,hnrow,hnl,hnc⟩:=A4z hr hyv hcs
   rw [hcy] at hexec
   generalize hcx:a.eval x=cx at hxv hexec
   have small:∀n,Et n i.bytes=true->((n:Nat):Int)<=9223372036854775807:=fun n hn=>by
    have:=Jb hn
    have:n*1<=n*i.bytes:=Nat.mul_le_mul_left _ hby
    omega
   split at hq
   ·next gx xs exact =>
    split at hq
    ·exact hq.elim
    ·next hcond =>
     simp only [not_or,Bool.not_eq_false] at hcond
     obtain ⟨hgx,hex,hroom⟩:=hcond
     have hgx:gx=gy:=by simpa using hgx
     have hroom:Et (xs.length+m) i.bytes=true:=by simpa using hroom
     subst hgx
     split at hq
     ·next hm0 =>
      subst hm0
      cases hxv with
      | empty hh =>
       exact .pure hr (by rw [hexec,Lh hu hi _ _ _ _ _ (Nat.zero_le _)]; rfl) (.empty hh) hq
      | slice b1 b2 b3 b4 b5 b6 b7 =>
       exact .pure hr (by rw [hexec,Lh hu hi _ _ _ _ _ b3]; rfl) (.slice b1 b2 b3 b4 b5 b6 b7) hq
     ·next hm0 =>
      obtain ⟨ad,rfl,hcells⟩:=hnc hm0
      cases hxv with
      | @empty _ _ aa cap hh =>
       have hcap:=hh hex
       subst hcap
       have hfl:Ek gx ([]:List AV)=[]:=by cases gx <;> rfl
       simp only [List.length_nil,Nat.zero_add] at hroom
       have hneed:=small m hroom
       have hrun:∃cap' w',m<=cap'/\w'.heap=w.heap.push (.cells (([]:List Value).toArray++news.toArray++Builtin.zeroCells zv.cells (cap'-(0+m))) el)/\SameOut w w'/\
         (Builtin.append_ #[ty,ty] o.type #[.slice aa 0 0,.slice (some ad) m yc]).run P w = .ok (.slice (some ⟨w.heap.size,0,none⟩) m cap') w':=by
        cases aa with
        | none =>
         have hb48:m*i.bytes<=281474976710656:=by have:=Jb hroom; omega
         have hrn:=run_append_nil (P:=P) w ty o.type el i zv hu hi hzv ad m yc news (by rw [hsz]; exact hnl) hcells (by omega) hneed hb48
         exact ⟨_,_,grownCap_ge w m 0 el,by show w.heap.push _=w.heap.push _; simp,by exact ⟨rfl,rfl,rfl⟩,hrn⟩
        | some ab =>
         have hrn:=run_append_grow (P:=P) w ty o.type el i zv hu hi hzv ab 0 0 [] (by simp) (fun j v hv=>by simp at hv) ad m yc news (by rw [hsz]; exact hnl) hcells (by omega)
          (by simpa using hneed) (growslice_fits (by omega) (by have:=Jb hroom; simp only [Nat.zero_add]; omega))
         simp only [Nat.zero_add] at hrn
         exact ⟨_,_,grownCap_ge w m 0 el,by show w.heap.push _=w.heap.push _; simp,by exact ⟨rfl,rfl,rfl⟩,hrn⟩
       obtain ⟨cap',w',hge,hw',hso,hrn⟩:=hrun
       have key':=Sd (Q:=Q) hr h.length (g:=gx) (n:=0) (m:=m) (old:=[]) (olds:=[]) ⟨rfl,fun i x v hx=>by simp at hx⟩ hnrow hzs (by simp) hnl (by omega) hw' hso
        (by have hq2:=hq; simp only [Res.all,hfl,List.nil_append,List.length_nil,Nat.zero_add] at hq2 ⊢; exact hq2)
       rw [Nat.zero_add] at key'
       exact ⟨_,w',.inl (by rw [hexec,hrn]; rfl),key'⟩
      | @slice _ _ _ b off cap cs t0 fz f hmm hcx' hcp hf hvv hoo hrr =>
       have hcap:=hcx' hex
       subst hcap
       have hfl:=Qm hf
       have hneed:=small _ hroom
       have hrn:=run_append_grow (P:=P) w ty o.type el i zv hu hi hzv ⟨b,off,none⟩ xs.length xs.length ((List.range (xs.length*Be gx)).map f) (by simp [hsz])
        (fun j v hv=>by
         simp only [List.getElem?_map,Option.map_eq_some_iff] at hv
         obtain ⟨j',hj,rfl⟩:=hv
         have hj1:=(List.getElem?_eq_some_iff.1 hj).1
         have hj2:=(List.getElem?_eq_some_iff.1 hj).2
         simp at hj1 hj2
         subst hj2
         rw [Fs]
         simp only [World.cell?,hr.mem _ _ hmm]
         exact hvv j _ (List.getElem?_eq_getElem (by omega)))
        ad m yc news (by rw [hsz]; exact hnl) hcells (by omega) hneed (growslice_fits (by omega) (by have:=Jb hroom; omega))
       refine ⟨_,_,.inl (by rw [hexec,hrn]; rfl),Sd (Q:=Q) hr h.length (g:=gx) (old:=Ek gx xs) (new:=new) (olds:=(List.range (xs.length*Be gx)).map f) ⟨by simp [hfl],fun j x v hx hv => ?_⟩ hnrow hzs (by simp) hnl (grownCap_ge w _ _ el) (by rfl) (by exact ⟨rfl,rfl,rfl⟩) hq⟩
       simp only [List.getElem?_map,Option.map_eq_some_iff] at hv
       obtain ⟨j',hj,rfl⟩:=hv
       have hj2:=(List.getElem?_eq_some_iff.1 hj).2
       simp at hj2
       subst hj2
       exact ⟨hoo j x hx,(hrr j x hx).toVR⟩
   ·next k ver gx off len cap =>
    split at hq
    ·next hm0 =>
     subst hm0
     cases hxv with
     | oslice b0 b1 b2 b3 b4 b5 b6 =>
      exact .pure hr (by rw [hexec,Lh hu hi _ _ _ _ _ b6]; rfl) (.oslice b0 b1 b2 b3 b4 b5 b6) hq
    ·next hm0 =>
     obtain ⟨ad,rfl,hcells⟩:=hnc hm0
     split at hq
     ·next v cs hob =>
      split at hq
      ·exact hq.elim
      ·next hcond =>
       simp only [not_or] at hcond
       obtain ⟨hgx,hver,hroom,hcsl⟩:=hcond
       have hgx:gx=gy:=by simpa using hgx
       have hver:v=ver:=by simpa using hver
       have hroom:Et (len+m) i.bytes=true:=by simpa using hroom
       subst hgx
       subst hver
       have hneed:=small _ hroom
       cases hxv with
       | @oslice _ _ _ _ _ _ info c oo hl b1 b2 b3 b4 b5 b6 =>
        obtain ⟨hmb,c0,t0,hb0,hn0,hs0,hle0,hrow⟩:=Fh hr hob hl
        have hnl':news.length=m*i.size:=by rw [hsz]; exact hnl
        have hlm:(len+m)*Be gx=len*Be gx+m*Be gx:=Nat.add_mul _ _ _
        -- in Lf
        have Lf:∀cap',len+m<=c->off+(len+m)*Be gx<=info.n->(∀c',cap'=some c'->c=c'/\off+c'*Be gx<=info.n)->(cap'=none->info.n<=off+c*Be gx)->
          Q (.oslice k v gx off (len+m) cap',setH h k (.cells v (Dk cs (off+len*Be gx) new)))->OpOk P M L w h a o Q:=by
         intro cap' h1 h2 h4 h5 hq'
         have hoo:oo=off:=b3 (by omega)
         subst hoo
         have hrn:=Vd (P:=P) (ty:=o.type) hu hi (o:=oo) (sLen:=len) (sCap:=c) hb0 ad m yc news hnl' hcells hnrow.one h1 (by rw [hsz,hnl]; omega)
         obtain ⟨c1,t1,e1,e2,g1,g2⟩:=hr.write (oo+len*Be gx) hob hl hnrow (by omega)
         rw [hb0] at e1; cases e1
         refine ⟨_,_,.inl (by rw [hexec,hrn]; rfl),⟨_,_,M,L,hq',by rw [hsz]; exact g1,by rw [hsz]; exact g2,?_⟩⟩
         exact .oslice hl h2 b2 (fun _=>rfl) h4 h5 h1
        -- into a new block
        have fresh:∀k' u,c<len+m->(k'=k->u=v+1)->True:=fun _ _ _ _=>trivial
        have oldrow:RowL M L ((cs.drop off).take (len*Be gx)) ((c0.toList.drop off).take (len*Be gx)):=by
         refine ⟨by simp; omega,fun i x u hx hv => ?_⟩
         simp only [List.getElem?_take,List.getElem?_drop] at hx hv
         split at hx
         ·next hi =>
          rw [if_pos hi,Array.getElem?_toList] at hv
          obtain ⟨v',f1,f2,f3⟩:=hrow _ x hx
          rw [hv] at f1; cases f1
          exact ⟨f2,f3⟩
         ·cases hx
        have oldcells:(len=0\/oo=off)->∀(j:Nat) u,((c0.toList.drop off).take (len*Be gx))[j]? = some u->w.cell? ((⟨info.blk,oo,none⟩:Addr).add j)=some u:=by
         intro hor j u hu'
         simp only [List.getElem?_take,List.getElem?_drop] at hu'
         split at hu'
         ·next hj =>
          rcases hor with h0 | h0
          ·subst h0; simp at hj
          ·rw [Array.getElem?_toList] at hu'
           rw [Fs,h0]
           simp only [World.cell?,hb0]
           exact hu'
         ·cases hu'
        have grow:c<len+m->∃capn w',len+m<=capn/\
          w'.heap=w.heap.push (.cells (((c0.toList.drop off).take (len*Be gx)).toArray++news.toArray++Builtin.zeroCells zv.cells (capn-(len+m))) el)/\SameOut w w'/\
          (Builtin.append_ #[ty,ty] o.type #[.slice (some ⟨info.blk,oo,none⟩) len c,.slice (some ad) m yc]).run P w = .ok (.slice (some ⟨w.heap.size,0,none⟩) (len+m) capn) w':=by
         intro hlt
         have hor:len=0\/oo=off:=by
          by_cases h0:c=0
          ·exact .inl (by omega)
          ·exact .inr (b3 h0)
         have hrn:=run_append_grow (P:=P) w ty o.type el i zv hu hi hzv ⟨info.blk,oo,none⟩ len c _ (by simp [hsz]; omega) (oldcells hor) ad m yc news hnl' hcells hlt hneed
          (growslice_fits (by omega) (by have:=Jb hroom; omega))
         exact ⟨_,_,grownCap_ge w _ _ el,by rfl,by exact ⟨rfl,rfl,rfl⟩,hrn⟩
        split at hq
        ·next c' =>
         obtain ⟨hcc,hcn⟩:=b4 c' rfl
         split at hq
         ·next hle =>
          split at hq
          ·next hfit =>
           exact Lf _ (by omega) (by omega) b4 b5 hq
          ·exact hq.elim
         ·next hgt =>
          obtain ⟨capn,w',hge,hw',hso,hrn⟩:=grow (by omega)
          exact ⟨_,w',.inl (by rw [hexec,hrn]; rfl),Sd (Q:=Q) hr h.length (g:=gx) oldrow hnrow hzs (by simp; omega) hnl hge hw' hso hq⟩
        ·have hinfo:=b5 rfl
         split at hq
         ·next hfit =>
          have hle:len+m<=c:=by
           by_cases hcl:len+m<=c
           ·exact hcl
           ·have:(c+1)*Be gx<=(len+m)*Be gx:=Nat.mul_le_mul_right _ (by omega)
            have:(c+1)*Be gx=c*Be gx+Be gx:=by rw [Nat.add_mul]; omega
            omega
          exact Lf _ hle (by omega) (fun c' hc=>by cases hc) (fun _=>hinfo) hq
         ·split at hq
          ·next hfull =>
           obtain ⟨hoff,hfl⟩:=hfull
           subst hoff
           have hLn:L k (v+1)=none:=by
            cases hLv:L k (v+1) with
            | none=>rfl
            | some i' =>
             have:=(hr.ver k (v+1) i' hLv).2
             rw [hob] at this
             simp [AObj.ver] at this
             omega
           have hne:Bb h k ≠ .none:=by rw [hob]; simp
           have hkv:(Bb h k).ver=v:=by rw [hob]; rfl
           have hdt:(cs.drop 0).take (len*Be gx)=cs:=by rw [List.drop_zero,List.take_of_length_le (by omega)]
           rw [hdt] at oldrow
           by_cases hroomc:len+m<=c
           ·-- there is Et: the same block,a new version
            have hoo:oo=0:=b3 (by omega)
            subst hoo
            have hcg:(len+m)*Be gx<=c*Be gx:=Nat.mul_le_mul_right _ hroomc
            have hrn:=Vd (P:=P) (ty:=o.type) hu hi (o:=0) (sLen:=len) (sCap:=c) hb0 ad m yc news hnl' hcells hnrow.one hroomc (by rw [hsz,hnl]; omega)
            simp only [Nat.zero_add] at hrn
            have hfitc:len*Be gx+news.length<=c0.size:=by omega
            have hle':Lay.le L (L.upd k (v+1) ⟨info.blk,(len+m)*Be gx,info.size⟩):=fun k' v' i' hi'=>by
             unfold Lay.upd
             split
             ·next hc=>obtain ⟨rfl,rfl⟩:=hc; rw [hLn] at hi'; cases hi'
             ·exact hi'
            have hrow2:Row M L (cs++new) (Ft c0 (len*Be gx) news):=by
             intro j x hx
             rw [Ny hfitc]
             by_cases hj:j<cs.length
             ·rw [List.getElem?_append_left hj] at hx
              rw [if_neg (by omega)]
              exact hrow j x hx
             ·rw [List.getElem?_append_right (by omega)] at hx
              have hjn:=(List.getElem?_eq_some_iff.1 hx).1
              have:=hnrow.1
              rw [if_pos ⟨by omega,by omega⟩,<-hfl]
              have hv:news[j-cs.length]? = some (news[j-cs.length]'(by omega)):=List.getElem?_eq_getElem _
              exact ⟨_,hv,(hnrow.2 _ x _ hx hv).1,(hnrow.2 _ x _ hx hv).2⟩
            have kput:=hr.put k (v+1) ⟨info.blk,(len+m)*Be gx,info.size⟩ (.cells (v+1) (cs++new)) (w.setRow info.blk (Ft c0 (len*Be gx) news)) (by simp) rfl (.inl hLn)
             (fun _=>by omega) hmb (.inr ⟨info,hne,by rw [hkv]; exact hl,rfl⟩) (by simp [World.setRow]) (fun b _ hb'=>setRow_other w info.blk b _ hb')
             ⟨_,t0,setRow_heap w info.blk c0 _ t0 _ hb0,by have:=hnrow.1; simp; omega,by rw [Xd hfitc]; exact hs0,by simp only; omega,
              fun j x hx=>let ⟨v',f1,f2,f3⟩:=hrow2 j x hx; ⟨v',f1,f2,f3.mono (fun _ _ h=>h) hle'⟩⟩
            refine ⟨_,_,.inl (by rw [hexec,hrn]; rfl),⟨_,_,M,_,hq,by rw [hsz]; exact kput.1,by rw [hsz]; exact kput.2,?_⟩⟩
            refine @VR.oslice M _ k _ gx 0 (len+m) none ⟨info.blk,(len+m)*Be gx,info.size⟩ c 0 (Lay.upd_self _ _ _ _) ?_ ?_ (fun _=>rfl) (fun c' hc=>by cases hc) ?_ hroomc
            ·simp only [Nat.zero_add]; omega
            ·simp only; omega
            ·intro _; simp only [Nat.zero_add]; omega
           ·-- no Et: a new block,a new version
            obtain ⟨capn,w',hge,hw',hso,hrn⟩:=grow (by omega)
            have hszn:((((c0.toList.drop 0).take (len*Be gx)).toArray++news.toArray++Builtin.zeroCells zv.cells (capn-(len+m)))).size=capn*Be gx:=by
             have h0:((c0.toList.drop 0).take (len*Be gx)).length=len*Be gx:=by simp; omega
             rw [Array.size_append,Array.size_append,List.size_toArray,List.size_toArray,size_zeroCells,h0,hnl,hzs,<-Nat.add_mul,<-Nat.add_mul]
             congr 1; omega
            have hcg:(len+m)*Be gx<=capn*Be gx:=Nat.mul_le_mul_right _ hge
            have hle':Lay.le L (L.upd k (v+1) ⟨w.heap.size,(len+m)*Be gx,capn*Be gx⟩):=fun k' v' i' hi'=>by
             unfold Lay.upd
             split
             ·next hc=>obtain ⟨rfl,rfl⟩:=hc; rw [hLn] at hi'; cases hi'
             ·exact hi'
            have hboth:RowL M L (cs++new) ((c0.toList.drop 0).take (len*Be gx)++news):=by
             refine ⟨by rw [List.length_append,List.length_append,oldrow.1,hnrow.1],fun j x u hx hv => ?_⟩
             have hol:=oldrow.1
             by_cases hj:j<cs.length
             ·rw [List.getElem?_append_left hj] at hx
              rw [List.getElem?_append_left (by omega)] at hv
              exact oldrow.2 j x u hx hv
             ·rw [List.getElem?_append_right (by omega)] at hx
              rw [List.getElem?_append_right (by omega),<-hol] at hv
              exact hnrow.2 _ x u hx hv
            have hrow2:Row M L (cs++new) (((c0.toList.drop 0).take (len*Be gx)).toArray++news.toArray++Builtin.zeroCells zv.cells (capn-(len+m))):=by
             intro j x hx
             obtain ⟨v',e1,e2,e3⟩:=hboth.row j x hx
             refine ⟨v',?_,e2,e3⟩
             have hj:j<((c0.toList.drop 0).take (len*Be gx)++news).length:=by have:=(Array.getElem?_eq_some_iff.1 e1).1; simpa using this
             rw [Array.getElem?_append_left (by simpa using hj)]
             simpa using e1
            have kput:=hr.put k (v+1) ⟨w.heap.size,(len+m)*Be gx,capn*Be gx⟩ (.cells (v+1) (cs++new)) w' (by simp) rfl (.inl hLn)
             (fun _=>by omega) hr.fresh (.inl rfl) (by rw [hw',Array.size_push]; omega) (fun b hb _=>by rw [hw',Array.getElem?_push,if_neg (by omega)])
             ⟨_,el,by simp [hw'],by have:=hnrow.1; simp; omega,hszn,hcg,
              fun j x hx=>let ⟨v',f1,f2,f3⟩:=hrow2 j x hx; ⟨v',f1,f2,f3.mono (fun _ _ h=>h) hle'⟩⟩ hso
            refine ⟨_,w',.inl (by rw [hexec,hrn]; rfl),⟨_,_,M,_,hq,kput.1,kput.2,?_⟩⟩
            refine @VR.oslice M _ k _ gx 0 (len+m) none ⟨w.heap.size,(len+m)*Be gx,capn*Be gx⟩ capn 0 (Lay.upd_self _ _ _ _) ?_ ?_ (fun _=>rfl) (fun c' hc=>by cases hc) ?_ hge
            ·simp only [Nat.zero_add]; omega
            ·simp only [Nat.zero_add]; omega
            ·intro _; simp only [Nat.zero_add]; omega
          ·exact hq.elim
     ·exact hq.elim
   ·exact hq.elim
end ops
end Go.Ev
