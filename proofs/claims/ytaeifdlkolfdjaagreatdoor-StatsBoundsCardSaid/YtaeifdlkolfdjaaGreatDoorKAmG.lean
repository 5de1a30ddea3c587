/- Texts of the proof, joined by program. -/
import Derived.Test.YtaeifdlkolfdjaaGreatDoorKAmE
set_option linter.unusedSimpArgs false
set_option linter.unusedVariables false
namespace Go.AM
open Go Go.RowKit
section
variable{P:Program}{w0 w:World}{F:Nat->Prop}{φ:Emb}{U U':Nat->Prop}{η:Heap}
theorem wrap64_id{n:Int}(h1: -9223372036854775808<=n)(h2:n<=9223372036854775807):IntKind.i64.wrap n=n:=by simp[IntKind.wrap,IntKind.bits,IntKind.signed];split<;>omega
theorem i64max:IntKind.i64.max=9223372036854775807:=by decide
theorem repl_get(z:List AV)(hz:0<z.length):∀(n k:Nat),(List.replicate n z).flatten[k]?=if k<n*z.length then z[k%z.length]? else none
 |0,k=>by simp
 |n+1,k=>by
  rw[List.replicate_succ,List.flatten_cons,List.getElem?_append,repl_get z hz n];by_cases h:k<z.length;.rw[if_pos h,if_pos (by rw[Nat.succ_mul];omega),Nat.mod_eq_of_lt h]
  .rw[if_neg h];by_cases h2:k-z.length<n*z.length;.have hm:k%z.length=(k-z.length)%z.length:=Nat.mod_eq_sub_mod (by omega);rw[if_pos h2,if_pos (by rw[Nat.succ_mul];omega),hm]
   .rw[if_neg h2,if_neg (by rw[Nat.succ_mul];omega)]
theorem repl_rel[Adr]{z:List AV}{zs:Array Value}(hz:0<z.length)(h:VRels w F φ z zs.toList)(m:Nat):∀k,m=k*z.length->VRels w F φ (List.replicate k z).flatten (((Array.range m).map (zs[·%zs.size]!)).toList):=by
 intro k hk;have hl:=h.length;simp only[Array.length_toList]at hl;refine(VRels_iff _ _).2 ⟨by simp[hk],λj a v ha hv=>?_⟩;rw[repl_get z hz]at ha;split at ha
 .rename_i hj;obtain⟨u,hu,hr⟩:=h.get ha;have :v=u:=by simp only[Array.toList_map,Array.toList_range,List.getElem?_map,Option.map_eq_some_iff]at hv;obtain⟨x,hx,rfl⟩:=hv;rw[List.getElem?_range (by omega)]at hx;cases hx;rw[hl]at hu;have :=(List.getElem?_eq_some_iff.1 hu);obtain⟨h1,h2⟩:=this;simp only[Array.length_toList]at h1;rw[getElem!_pos zs _ h1];simpa using h2
  rw[this];exact hr
 .cases ha
theorem isPs_flatten:∀(es:List (List AV)),es.all AV.isP.isPs=true->AV.isP.isPs es.flatten=true
 |[],_=>rfl
 |e::es,h=>by
  simp only[List.all_cons,Bool.and_eq_true]at h;rw[List.flatten_cons];have ih:=isPs_flatten es h.2;have :∀(a b:List AV),AV.isP.isPs a=true->AV.isP.isPs b=true->AV.isP.isPs (a++b)=true:=by intro a b ha hb;induction a with|nil=>exact hb|cons x xs ihx=>simp only[List.cons_append,AV.isP.isPs,Bool.and_eq_true]at ha⊢;exact⟨ha.1,ihx ha.2⟩
  exact this _ _ h.1 ih
theorem emb_rel[Adr]{blk:ABlk}{as:List AV}{vs:List Value}(h:VRels w F φ as vs)(hp:blk.pure=true->AV.isP.isPs as=true):VRels w F (blk.emb φ) as vs:=by
 unfold ABlk.emb;split;.rename_i e;exact isPs_rel as vs (hp e) h
 .exact h
theorem run_newVar_of(t:TypeId)(v:Value):(newVar t v).run P w=.ok ⟨w.heap.size,0,none⟩ (w.alloc (.cells v.cells t)):=rfl
theorem alloc_ok[Adr](h:HRel w0 w F φ U η){t:TypeId}{n nm:Nat}{z:List AV}(hz:tZero P t=some z)(hl:z.length=n)(hnm:¬U nm)(hU:∀b,U b->U' b)(hUn:U' nm):∃w' φ' x,(Instr.alloc t true (.tuple #[])).run P w=.ok x w'/\φ.sle φ'/\Ext F w w'/\HRel w0 w' F φ' U' (fupd η nm (some {g:=0,own:=true,pure:=AV.isP.isPs z,sz:=n,es:=[z]}))/\VRel w' F φ' (.ref nm 0 0 0) x:=by
 obtain⟨zv,r1,r2,r3,r4⟩:=run_zero_of (P:=P) hz w;obtain⟨a1,a2,a3,-⟩:=h.alloc (c:=zv.cells) (el:=t) (vs:=zv.cells.toList) nm hnm {g:=0,own:=true,pure:=AV.isP.isPs z,sz:=n,es:=[z]} rfl (by simp[hl]) (by simpa using r4 w F _) r3 (λk v hk=>by simpa using hk) hU hUn;refine⟨_,_,.pointer (some ⟨w.heap.size,0,none⟩),?_,a2,a3,a1,?_⟩;.simp[Instr.alloc,r1,run_newVar_of]
 .simp only[VRel];exact⟨_,_,φ.add_same _ _ _,by simp⟩
theorem box_ok[Adr](h:HRel w0 w F φ U η){t:TypeId}{nm:Nat}{v:AV}{y:Value}{cs:List AV}(hc:v.cells=some cs)(hy:VRel w F φ v y)(hnm:¬U nm)(hU:∀b,U b->U' b)(hUn:U' nm):∃w' φ' x,(Instr.box t y).run P w=.ok x w'/\φ.sle φ'/\Ext F w w'/\HRel w0 w' F φ' U' (fupd η nm (some {g:=0,own:=true,pure:=AV.isP.isPs cs,sz:=cs.length,es:=[cs]}))/\VRel w' F φ' (.ref nm 0 0 0) x:=by
 obtain⟨r1,r2⟩:=cells_rel hc hy;obtain⟨a1,a2,a3,-⟩:=h.alloc (c:=y.cells) (el:=t) (vs:=y.cells.toList) nm hnm {g:=0,own:=true,pure:=AV.isP.isPs cs,sz:=cs.length,es:=[cs]} rfl (by simp) (by simpa using emb_rel r1 (λe=>e)) r2 (λk v hk=>by simpa using hk) hU hUn;refine⟨_,_,.pointer (some ⟨w.heap.size,0,none⟩),?_,a2,a3,a1,?_⟩;.simp[Instr.box,run_newVar_of]
 .simp only[VRel];exact⟨_,_,φ.add_same _ _ _,by simp⟩
theorem setAll_fill[Adr](sz:Nat):∀(parts:List (Nat×AV))(es es':List (List AV)),(∀e∈es,e.length=sz)->setAll es parts sz=some es'->aFill (λi=>some (i*sz,sz)) es.flatten parts=some es'.flatten/\(∀e∈es',e.length=sz)/\es'.length=es.length
 |[],es,es',hl,h=>by simp only[setAll,Option.some.injEq]at h;subst h;exact⟨rfl,hl,rfl⟩
 |(i,v)::rest,es,es',hl,h=>by
  simp only[setAll]at h;split at h
  .rename_i cs hc;split at h
   .rename_i hcond;obtain⟨h1,h2⟩:=hcond;have he:es[i]?=some es[i]:=List.getElem?_eq_getElem h2;have hel:=hl _ (List.getElem_mem h2);have hf:=flatten_set sz es i 0 sz es[i] cs hl he (by omega) h1;simp only[List.take_zero,List.nil_append,Nat.zero_add,Nat.add_zero]at hf;rw[<-hel,List.drop_length,List.append_nil,hel]at hf;obtain⟨i1,i2,i3⟩:=setAll_fill sz rest (es.set i cs) es' (mem_set_len hl h1) h;refine⟨?_,i2,by rw[i3];simp⟩;have hb:i*sz+sz<=es.flatten.length:=by rw[flatten_len sz es hl];have :(i+1)*sz<=es.length*sz:=Nat.mul_le_mul_right _ h2;rwa[Nat.succ_mul]at this
    simp only[aFill,hc];rw[if_pos ⟨h1,hb⟩,<-hf];exact i1
   .cases h
  .cases h
theorem buildSlice_ok[Adr](h:HRel w0 w F φ U η){t:TypeId}{len nm nm':Nat}{parts:List (Nat×AV)}{cparts:Array (Nat×Value)}{v:AV}{blk:ABlk}(hb:aBuildSlice P t len parts nm=some (v,(nm',blk)))(hl:parts.length=cparts.size)(hp:∀(k:Nat)(p:Nat×AV)(q:Nat×Value),parts[k]?=some p->cparts[k]?=some q->p.1=q.1/\VRel w F φ p.2 q.2)(hnm:¬U nm)(hU:∀b,U b->U' b)(hUn:U' nm):nm'=nm/\ ∃w' φ' x,(Instr.buildSlice t len cparts).run P w=.ok x w'/\φ.sle φ'/\Ext F w w'/\HRel w0 w' F φ' U' (fupd η nm (some blk))/\VRel w' F φ' v x:=by
 unfold aBuildSlice at hb;split at hb
 .rename_i e he;split at hb
  .rename_i sz z hs hz;split at hb
   .rename_i hcond;obtain⟨c1,c2,c3⟩:=hcond;simp only[Option.map_eq_some_iff,Prod.mk.injEq]at hb;obtain⟨es,hes,rfl,rfl,rfl⟩:=hb;refine⟨rfl,?_⟩;obtain⟨zv,r1,r2,r3,r4⟩:=run_zero_of (P:=P) hz w;have hzl:=(r4 w F φ).length;simp only[Array.length_toList]at hzl;obtain⟨s1,s2,s3⟩:=setAll_fill sz parts (List.replicate len z) es (λx hx=>by rw[List.eq_of_mem_replicate hx];exact c2) hes;simp only[List.length_replicate]at s3;have hrep:=repl_rel (w:=w) (F:=F) (φ:=φ) (by omega) (r4 w F φ) (len*sz) len (by rw[c2]);have honec:∀x∈((Array.range (len*sz)).map (zv.cells[·%zv.cells.size]!)).toList,x.oneCell'=true:=by intro x hx;simp only[Array.toList_map,Array.toList_range,List.mem_map,List.mem_range]at hx;obtain⟨k,hk,rfl⟩:=hx;have :k%zv.cells.size<zv.cells.size:=Nat.mod_lt _ (by omega);rw[getElem!_pos zv.cells _ this];exact r3 _ (by simp)
    obtain⟨cells',f1,f2,f3⟩:=fill_rel (w:=w) (F:=F) (φ:=φ) parts cparts.toList _ _ _ s1 (by simpa using hl) (λk p q hp' hq'=>hp k p q hp' (by simpa using hq')) hrep honec;obtain⟨a1,a2,a3,-⟩:=h.alloc (c:=cells') (el:=e) (vs:=cells'.toList) nm hnm {g:=0,own:=true,pure:=es.all AV.isP.isPs,sz:=sz,es:=es} rfl s2 (emb_rel f2 (λe=>isPs_flatten es e)) f3 (λk v hk=>by simpa using hk) hU hUn;refine⟨_,_,.slice (some ⟨w.heap.size,0,none⟩) len len,?_,a2,a3,a1,?_⟩
    .simp only[Instr.buildSlice,Sem.run_bind,run_underlying (tSlice_un he),Result.andThen_ok,run_sizeOf_of hs];rw[if_neg (by omega)];by_cases hzz:len*sz=0
     .simp only[hzz,if_true,Sem.run_bind,Sem.run_pure,Result.andThen_ok];have e0:∀f:Nat->Value,(Array.range 0).map f=#[]:=λf=>by simp
      rw[hzz,e0]at f1;rw[e0,f1];simp[newRow]
     .simp only[hzz,if_false,Sem.run_bind,r1,Result.andThen_ok,Sem.run_pure];simp[f1,newRow]
    .simp only[VRel];refine .inr ⟨w.heap.size,len,φ.add_same _ _ _,by simp,Nat.le_refl _,e,cells'.size,by simp only[World.shape?,heap_alloc_new],?_⟩;have :=f2.length;rw[flatten_len sz es s2,s3]at this;simp only[Array.length_toList]at this;simp;omega
   .cases hb
  .cases hb
 .cases hb
theorem makeSlice_ok[Adr](h:HRel w0 w F φ U η){t:TypeId}{nm nm':Nat}{l c v:AV}{x y:Value}{blk:ABlk}(hb:aMakeSlice P t l c nm=some (v,(nm',blk)))(hx:VRel w F φ l x)(hy:VRel w F φ c y)(hnm:¬U nm)(hU:∀b,U b->U' b)(hUn:U' nm):nm'=nm/\ ∃w' φ' z,(Instr.makeSlice t x y).run P w=.ok z w'/\φ.sle φ'/\Ext F w w'/\HRel w0 w' F φ' U' (fupd η nm (some blk))/\VRel w' F φ' v z:=by
 unfold aMakeSlice at hb;split at hb
 .rename_i e k1 l k2 c he;split at hb
  .rename_i sz bs z hs hbs hz;split at hb
   .rename_i hcond;obtain⟨c1,c2,c3,c4,c5,c6⟩:=hcond;simp only[Option.some.injEq,Prod.mk.injEq]at hb;obtain⟨rfl,rfl,rfl⟩:=hb;refine⟨rfl,?_⟩;simp only[VRel]at hx hy;subst hx;subst hy;rw[i64max]at c3;obtain⟨zv,r1,r2,r3,r4⟩:=run_zero_of (P:=P) hz w;have hzl:=(r4 w F φ).length;simp only[Array.length_toList]at hzl;obtain⟨it,hit,hitb⟩:=tBytes_info hbs;have hrep:=repl_rel (w:=w) (F:=F) (φ:=φ) (by omega) (r4 w F φ) (l.toNat*sz) l.toNat (by rw[c5]);have hmul:l.toNat*sz<=c.toNat*sz:=Nat.mul_le_mul_right _ (by omega)
    have hrow:∀(k:Nat)(v:Value),((Array.range (l.toNat*sz)).map (zv.cells[·%zv.cells.size]!)).toList[k]?=some v->((Array.range (c.toNat*sz)).map (zv.cells[·%zv.cells.size]!))[k]?=some v:=by
     intro k v hk;simp only[Array.toList_map,Array.toList_range,List.getElem?_map,Option.map_eq_some_iff]at hk;obtain⟨j,hj,rfl⟩:=hk;have hlt:=(List.getElem?_eq_some_iff.1 hj);obtain⟨h1,h2⟩:=hlt;simp only[List.length_range]at h1;simp only[List.getElem_range]at h2;subst h2;have :k<((Array.range (c.toNat*sz)).map (zv.cells[·%zv.cells.size]!)).size:=by simp;omega
     rw[Array.getElem?_eq_getElem this];simp
    have honec:∀x∈((Array.range (l.toNat*sz)).map (zv.cells[·%zv.cells.size]!)).toList,x.oneCell'=true:=by intro x hx;simp only[Array.toList_map,Array.toList_range,List.mem_map,List.mem_range]at hx;obtain⟨k,hk,rfl⟩:=hx;have :k%zv.cells.size<zv.cells.size:=Nat.mod_lt _ (by omega);rw[getElem!_pos zv.cells _ this];exact r3 _ (by simp)
    have hflat:AV.isP.isPs (List.replicate l.toNat z).flatten=true:=isPs_flatten _ (by rw[List.all_eq_true];intro x hx;rw[List.eq_of_mem_replicate hx];exact r2);obtain⟨a1,a2,a3,-⟩:=h.alloc (c:=(Array.range (c.toNat*sz)).map (zv.cells[·%zv.cells.size]!)) (el:=e) (vs:=((Array.range (l.toNat*sz)).map (zv.cells[·%zv.cells.size]!)).toList) nm hnm {g:=0,own:=true,pure:=true,sz:=sz,es:=List.replicate l.toNat z} rfl (λx hx=>by rw[List.eq_of_mem_replicate hx];exact c5) (emb_rel hrep (λ_=>hflat)) honec hrow hU hUn;refine⟨_,_,.slice (some ⟨w.heap.size,0,none⟩) l.toNat c.toNat,?_,a2,a3,a1,?_⟩
    .have e1:IntKind.i64.wrap l=l:=wrap64_id (by omega) (by omega);have e2:IntKind.i64.wrap c=c:=wrap64_id (by omega) (by omega);simp only[Instr.makeSlice,Sem.run_bind,run_underlying (tSlice_un he),Result.andThen_ok,asInt,asIntOf,Sem.run_pure,run_typeInfo_of hit,e1,e2];have t1:(decide (c<0)||decide ((it.bytes:Int)*c>2^48))=false:=by rw[hitb];simp only[Bool.or_eq_false_iff,decide_eq_false_iff_not];omega
     rw[if_neg (by rw[t1];simp;omega)];simp only[Sem.run_bind,run_askRoom,Result.andThen_ok,run_sizeOf_of hs];by_cases hzz:c.toNat*sz=0
     .have e0:∀f:Nat->Value,(Array.range 0).map f=#[]:=λf=>by simp
      simp[hzz,e0,newRow]
     .simp[hzz,r1,newRow]
    .simp only[VRel];refine .inr ⟨w.heap.size,c.toNat,φ.add_same _ _ _,by simp,by omega,e,c.toNat*sz,by simp only[World.shape?,heap_alloc_new];simp,by simp⟩
   .cases hb
  .cases hb
 .cases hb
end
end Go.AM
