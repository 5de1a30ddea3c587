/- Texts of the proof, joined by program. -/
import Derived.Test.YtaeifdlkolfdjaaGreatDoorKBv
section
set_option linter.unusedSimpArgs false
set_option linter.unusedVariables false
namespace Go.AM
open Go Go.RowKit
section
variable{P:Program}
theorem run_isAgg_of{t:TypeId}{b:Bool}(h:tAgg P t=some b)(w:World):(isAgg t).run P w=.ok b w:=by unfold tAgg at h;unfold isAgg;cases hd:P.underlying t with|none=>rw[hd]at h;cases h|some d=>rw[hd]at h;simp only[Sem.run_bind,run_underlying hd,Result.andThen_ok];cases d<;>simp_all
theorem tSize_info{t:TypeId}{n:Nat}(h:tSize P t=some n):∃i,P.info? t=some i/\i.size=n:=by unfold tSize at h;cases hi:P.info? t with|none=>rw[hi]at h;cases h|some i=>rw[hi]at h;exact⟨i,rfl,by simpa using h⟩
theorem tBytes_info{t:TypeId}{n:Nat}(h:tBytes P t=some n):∃i,P.info? t=some i/\i.bytes=n:=by unfold tBytes at h;cases hi:P.info? t with|none=>rw[hi]at h;cases h|some i=>rw[hi]at h;exact⟨i,rfl,by simpa using h⟩
theorem run_typeInfo_of{t:TypeId}{i:TypeInfo}(h:P.info? t=some i)(w:World):(typeInfo t).run P w=.ok i w:=by simp[typeInfo,h]
theorem run_sizeOf_of[Adr]{t:TypeId}{n:Nat}(h:tSize P t=some n)(w:World):(sizeOf t).run P w=.ok n w:=by obtain⟨i,hi,rfl⟩:=tSize_info h;simp[sizeOf,run_typeInfo_of hi]
theorem avZ_rel[Adr]{v:Value}{a:AV}(h:avZ v=some a)(w:World)(F:Nat->Prop)(φ:Emb):VRel w F φ a v/\v.oneCell'=true/\a.isP=true:=by
 unfold avZ at h;split at h;all_goals first|(cases h;done)|(cases h;simp[VRel,Value.oneCell',AV.isP];done)|skip
 rename_i s;split at h;.rename_i hs;cases h;simp only[VRel,Value.oneCell',AV.isP,and_self,and_true,Value.string.injEq];cases s with|mk d=>have hd:d.size=0:=hs;have :=Array.eq_empty_of_size_eq_zero hd;subst this;rfl
 .cases h
theorem avZs_rel[Adr]{w:World}{F:Nat->Prop}{φ:Emb}:∀{vs:List Value}{as:List AV},avZs vs=some as->VRels w F φ as vs/\(∀v∈vs,v.oneCell'=true)/\AV.isP.isPs as=true
 |[],as,h=>by simp[avZs]at h;subst h;simp[VRels,AV.isP.isPs]
 |v::vs,as,h=>by
  simp only[avZs]at h;split at h
  .rename_i a l h1 h2;cases h;obtain⟨i1,i2,i3⟩:=avZs_rel (w:=w) (F:=F) (φ:=φ) h2;obtain⟨j1,j2,j3⟩:=avZ_rel h1 w F φ;refine⟨by simp only[VRels];exact⟨v,vs,rfl,j1,i1⟩,?_,by simp[AV.isP.isPs,j3,i3]⟩;intro x hx;rcases List.mem_cons.1 hx with rfl|hx;.exact j2
   .exact i2 x hx
  .cases h
theorem run_zero_of[Adr]{t:TypeId}{z:List AV}(h:tZero P t=some z)(w:World):∃v,(zeroValue t).run P w=.ok v w/\AV.isP.isPs z=true/\(∀x∈v.cells.toList,x.oneCell'=true)/\ ∀(w:World)(F:Nat->Prop)(φ:Emb),VRels w F φ z v.cells.toList:=by unfold tZero at h;cases hi:P.info? t with|none=>rw[hi]at h;cases h|some i=>rw[hi]at h;simp only[Option.bind_some]at h;cases hz:i.zero with|none=>rw[hz]at h;cases h|some v=>rw[hz]at h;simp only at h;exact⟨v,by simp[zeroValue,run_typeInfo_of hi,hz],(avZs_rel (w:=w) (F:=λ_=>True) (φ:=Emb.zero) h).2.2,(avZs_rel (w:=w) (F:=λ_=>True) (φ:=Emb.zero) h).2.1,λw F φ=>(avZs_rel h).1⟩
theorem run_zeroV_of[Adr]{t:TypeId}{z:AV}(h:tZeroV P t=some z)(w:World):∃v,(zeroValue t).run P w=.ok v w/\ ∀(w:World)(F:Nat->Prop)(φ:Emb),VRel w F φ z v:=by
 unfold tZeroV at h
 cases hi:P.info? t with
  |none=>rw[hi]at h;cases h
  |some i=>
   rw[hi]at h;simp only[Option.bind_some]at h
   cases hz:i.zero with
    |none=>rw[hz]at h;cases h
    |some v=>
     rw[hz]at h;refine⟨v,by simp[zeroValue,run_typeInfo_of hi,hz],λw F φ=>?_⟩;split at h;.rename_i cs e;cases e;simp only[Option.map_eq_some_iff]at h;obtain⟨l,hl,rfl⟩:=h;obtain⟨h1,h2,-⟩:=avZs_rel (w:=w) (F:=F) (φ:=φ) hl;simp only[VRel];exact⟨cs.toList,rfl,h1,h2⟩
     .rename_i u _ e;cases e;exact(avZ_rel h w F φ).1
     .rename_i e;cases e
theorem tConc_un{t:TypeId}(h:tConc P t=true):∃u,P.underlying t=some u/\ ∀ms,u≠.interface ms:=by
 unfold tConc at h;split at h;.cases h
 .rename_i u hne hu;exact⟨u,hu,λms e=>hne ms (by first|exact e|rw[<-e])⟩
 .cases h
theorem tArr_un{t e:TypeId}{n:Nat}(h:tArr P t=some (n,e)):P.underlying t=some (.array n e):=by
 unfold tArr at h;split at h;.cases h;assumption
 .cases h
theorem tSlice_un{t e:TypeId}(h:tSlice P t=some e):P.underlying t=some (.slice e):=by
 unfold tSlice at h;split at h;.cases h;assumption
 .cases h
theorem addr_add(b o n:Nat):(⟨b,o,none⟩:Addr).add n=⟨b,o+n,none⟩:=by unfold Addr.add;split<;>simp_all
theorem ofCells_rel[Adr]{w:World}{F:Nat->Prop}{φ:Emb}{ag:Bool}{cs:List AV}{v:AV}{vs:List Value}(h:AV.ofCells ag cs=some v)(hr:VRels w F φ cs vs)(h1:∀x∈vs,x.oneCell'=true):(ag=true/\VRel w F φ v (.agg ⟨vs⟩))\/(ag=false/\ ∃x,vs=[x]/\VRel w F φ v x):=by
 unfold AV.ofCells at h
 cases ag with
  |true=>simp at h;subst h;exact .inl ⟨rfl,by simp only[VRel];exact⟨vs,rfl,hr,h1⟩⟩
  |false=>
   simp only[Bool.false_eq_true,if_false]at h;split at h;.cases h;simp only[VRels]at hr;obtain⟨x,y,rfl,hx,rfl⟩:=hr;exact .inr ⟨rfl,x,rfl,hx⟩
   .cases h
theorem run_loadVar_of[Adr]{w:World}{F:Nat->Prop}{φ:Emb}{t:TypeId}{ag:Bool}{n b o:Nat}{cs:List AV}{v:AV}(hag:tAgg P t=some ag)(hn:tSize P t=some n)(hc:CRel w F φ cs b o)(hl:cs.length=n)(hv:AV.ofCells ag cs=some v):∃x,(loadVar t ⟨b,o,none⟩).run P w=.ok x w/\VRel w F φ v x:=by
 obtain⟨vs,h1,h2,h3⟩:=(CRel_iff cs o).1 hc;have hvl:vs.length=n:=by rw[<-h1.length];exact hl
 unfold loadVar;simp only[Sem.run_bind,run_isAgg_of hag,Result.andThen_ok];rcases ofCells_rel hv h1 h3 with⟨rfl,hx⟩|⟨rfl,x,rfl,hx⟩;.refine⟨.agg ⟨vs⟩,?_,hx⟩;have :=run_loadCells_list (P:=P) w ⟨b,o,none⟩ vs (λj u hj=>by rw[addr_add];exact h2 j u hj);simp only[if_true,Sem.run_bind,run_sizeOf_of hn,Result.andThen_ok,<-hvl,this,Sem.run_pure]
 .refine⟨x,?_,hx⟩;have :=h2 0 x rfl;simp only[Nat.add_zero]at this;simp[this]
theorem rdElem_some{η:Heap}{b g i:Nat}{e:List AV}(h:rdElem η b g i=some e):∃blk,η b=some blk/\blk.g=g/\blk.es[i]?=some e:=by
 unfold rdElem at h;split at h
 .rename_i blk hb;split at h;.rename_i hg;exact⟨blk,hb,hg,h⟩
  .cases h
 .cases h
theorem HRel.elem[Adr]{w0 w:World}{F:Nat->Prop}{φ:Emb}{U:Nat->Prop}{η:Heap}(h:HRel w0 w F φ U η){b g i:Nat}{e:List AV}(he:rdElem η b g i=some e):∃blk cb,η b=some blk/\blk.g=g/\blk.es[i]?=some e/\φ.blk b g=some (some cb,blk.sz)/\e.length=blk.sz/\CRel w F (blk.emb φ) e cb (i*blk.sz):=by obtain⟨blk,hb,rfl,hi⟩:=rdElem_some he;obtain⟨pl,h1,h2,h3⟩:=h.blk b blk hb;cases pl with|none=>simp only[LRel]at h3;rw[h3]at hi;cases hi|some cb=>obtain⟨-,-,-,h4⟩:=h3;refine⟨blk,cb,hb,rfl,hi,h1,h2 e (List.mem_of_getElem? hi),?_⟩;have :=ERel_get blk.es 0 i e h2 h4 hi;simpa using this
theorem load_ok[Adr]{w0 w:World}{F:Nat->Prop}{φ:Emb}{U:Nat->Prop}{η:Heap}(h:HRel w0 w F φ U η){t:TypeId}{a v:AV}{x:Value}{rd:List Nat}(hl:aLoad P t a η=some (v,rd))(hx:VRel w F φ a x):∃y,(Instr.loadAt t x).run P w=.ok y w/\VRel w F φ v y:=by
 unfold aLoad at hl;split at hl
 .rename_i ag n hag hn;split at hl
  .rename_i b g i j;split at hl
   .rename_i e he;split at hl;.rename_i hj;simp only[Option.map_eq_some_iff,Prod.mk.injEq]at hl;obtain⟨v',hv,rfl,-⟩:=hl;obtain⟨blk,cb,h1,h2,h3,h4,h5,h6⟩:=h.elem he;simp only[VRel]at hx;obtain⟨cb',sz',g1,rfl⟩:=hx;rw[h4]at g1;cases g1;have hc:=CRel_take _ _ n (CRel_drop _ _ j h6 (by omega));obtain⟨y,r1,r2⟩:=run_loadVar_of (P:=P) hag hn hc (by simp;omega) hv;exact⟨y,by simpa[Instr.loadAt,Instr.sureAddr]using r1,VRel.mono (Ext0.refl _ _) (λ_ h=>h) (blk.emb_le φ) _ _ r2⟩
    .cases hl
   .cases hl
  .rename_i cs;split at hl;.rename_i hj;simp only[Option.map_eq_some_iff,Prod.mk.injEq]at hl;obtain⟨v',hv,rfl,-⟩:=hl;simp only[VRel]at hx;obtain⟨b,o,rfl,-,h6⟩:=hx;obtain⟨y,r1,r2⟩:=run_loadVar_of (P:=P) hag hn (CRel_take _ _ n h6) (by simp;omega) hv;exact⟨y,by simpa[Instr.loadAt,Instr.sureAddr]using r1,VRel.mono (Ext0.refl _ _) (λ_ h=>h) (Emb.zero_le φ) _ _ r2⟩
   .cases hl
  .cases hl
 .cases hl
theorem list_row_set(c:List Value)(p n:Nat)(us vs:List Value)(hn:vs.length=n)(hu:p+n<=us.length)(hc:∀(k:Nat)(v:Value),us[k]?=some v->c[k]?=some v):∀(k:Nat)(v:Value),(us.take p++vs++us.drop (p+n))[k]?=some v->(c.take p++vs++c.drop (p+n))[k]?=some v:=by
 have hlen:us.length<=c.length:=by
  by_cases hz:us.length=0;.omega
  .have :us[us.length-1]?=some us[us.length-1]:=List.getElem?_eq_getElem (by omega);have :=(List.getElem?_eq_some_iff.1 (hc _ _ this)).1;omega
 intro k v hk;rw[List.append_assoc,List.getElem?_append]at hk⊢;simp only[List.length_take]at hk⊢;rw[Nat.min_eq_left (by omega)]at hk⊢;split at hk;.rename_i h1;rw[if_pos h1];rw[List.getElem?_take]at hk⊢;rw[if_pos h1]at hk⊢;exact hc k v hk
 .rename_i h1;rw[if_neg h1];rw[List.getElem?_append]at hk⊢;split at hk;.rename_i h2;rw[if_pos h2];exact hk
  .rename_i h2;rw[if_neg h2];rw[List.getElem?_drop]at hk⊢;exact hc _ v hk
theorem run_storeVar_of[Adr]{w:World}{t:TypeId}{n cb o:Nat}{c:Array Value}{el:TypeId}{v:Value}(hn:tSize P t=some n)(hs:v.cells.size=n)(hc:w.heap[cb]?=some (.cells c el (0,0)))(ho:o+n<=c.size)(h1:∀x∈v.cells.toList,x.oneCell'=true):(storeVar t ⟨cb,o,none⟩ v).run P w=.ok () (w.setRow cb (c.toList.take o++v.cells.toList++c.toList.drop (o+n)).toArray):=by unfold storeVar;simp only[Sem.run_bind,run_sizeOf_of hn,Result.andThen_ok,hs,ne_eq,not_true,if_false];have :=run_storeCells_at (P:=P) cb o el v.cells.toList 0 c w hc (by simp;omega) h1;simp only[Nat.add_zero,Array.length_toList,hs]at this;simp[this]
theorem store_ok[Adr]{w0 w:World}{F:Nat->Prop}{φ:Emb}{U:Nat->Prop}{η:Heap}(h:HRel w0 w F φ U η){t:TypeId}{a v:AV}{x y:Value}{nm:Nat}{blk':ABlk}(hs:aStore P t a v η=some (nm,blk'))(hx:VRel w F φ a x)(hy:VRel w F φ v y):∃w' φ',(Instr.storeAt t x y).run P w=.ok () w'/\φ.sle φ'/\Ext F w w'/\HRel w0 w' F φ' U (fupd η nm (some blk')):=by
 unfold aStore at hs;split at hs
 .rename_i n b g i j cs hn hcs;split at hs
  .rename_i blk hb;split at hs
   .rename_i hcond;obtain⟨rfl,hown,hcl⟩:=hcond;split at hs
    .rename_i e he;split at hs
     .rename_i hj;simp only[Option.some.injEq,Prod.mk.injEq]at hs;obtain⟨rfl,rfl⟩:=hs;simp only[VRel]at hx;obtain⟨cb,sz,g1,rfl⟩:=hx;obtain⟨pl,h1,h2,h3⟩:=h.blk b blk hb;rw[g1]at h1;cases h1;obtain⟨f1,f2,⟨c,el,fz,f3,⟨hfz,-⟩,f4⟩,f5⟩:=h3;obtain rfl:=hfz hown;have hlen:=h2 e (List.mem_of_getElem? he);obtain⟨vs1,k1⟩:=cells_rel hcs hy;have hvl:=vs1.length;have hi:=(List.getElem?_eq_some_iff.1 he).1;have hbound:i*blk.sz+j+n<=blk.es.length*blk.sz:=by have :(i+1)*blk.sz<=blk.es.length*blk.sz:=Nat.mul_le_mul_right _ hi;rw[Nat.succ_mul]at this;omega
      rw[ERel_flat,CRel_iff]at f5;obtain⟨us,u1,u2,u3⟩:=f5;have hul:=u1.length;rw[flatten_len _ _ h2]at hul;have hrun:=run_storeVar_of (P:=P) (w:=w) (v:=y) (o:=i*blk.sz+j) hn (by rw[<-hcl,hvl];simp) f3 (by omega) k1;have hflat:=flatten_set blk.sz blk.es i j n e cs h2 he (by omega) hcl
      have hemb:VRels w F (({blk with es:=blk.es.set i (e.take j++cs++e.drop (j+n)),pure:=blk.pure&&AV.isP.isPs cs}:ABlk).emb φ) (blk.es.set i (e.take j++cs++e.drop (j+n))).flatten (us.take (i*blk.sz+j)++y.cells.toList++us.drop (i*blk.sz+j+n)):=by
       rw[hflat];unfold ABlk.emb at u1⊢;by_cases hp:blk.pure=true
       .rw[if_pos hp]at u1;by_cases hq:AV.isP.isPs cs=true;.simp only[hp,hq,Bool.and_true,if_true];exact((u1.take _).append (isPs_rel cs _ hq vs1)).append (u1.drop _)
        .simp only[hp,hq,Bool.and_false,Bool.false_eq_true,if_false];have u1':=VRels.mono (Ext0.refl F w) (λ_ h=>h) (Emb.zero_le φ) _ _ u1;exact((u1'.take _).append vs1).append (u1'.drop _)
       .rw[if_neg hp]at u1;simp only[hp,Bool.false_and,Bool.false_eq_true,if_false];exact((u1.take _).append vs1).append (u1.drop _)
      have hrow:=list_row_set c.toList (i*blk.sz+j) n us y.cells.toList (by rw[<-hvl];exact hcl) (by omega) (λk v hk=>by have :=u2 k v hk;simp only[World.cell?,f3,Nat.zero_add]at this;simpa using this)
      obtain⟨φ',r1,r2,r3,r4⟩:=h.rewrite (blk':={blk with es:=blk.es.set i (e.take j++cs++e.drop (j+n)),pure:=blk.pure&&AV.isP.isPs cs}) (c':=(c.toList.take (i*blk.sz+j)++y.cells.toList++c.toList.drop (i*blk.sz+j+n)).toArray) hb g1 hown f3 (by
       have :y.cells.toList.length=n:=by rw[<-hvl];exact hcl
       simp only[List.size_toArray,List.length_append,List.length_take,List.length_drop,Array.length_toList,this];omega) rfl (.inl rfl) (λz hz=>mem_set_len h2 (by simp only[List.length_append,List.length_take,List.length_drop,hcl];omega) z hz) hemb (by
       intro z hz;rcases List.mem_append.1 hz with hz|hz
       .rcases List.mem_append.1 hz with hz|hz;.exact u3 z (List.mem_of_mem_take hz)
        .exact k1 z hz
       .exact u3 z (List.mem_of_mem_drop hz)) (λk v hk=>by simpa using hrow k v hk);exact⟨_,φ',by simpa[Instr.storeAt,Instr.sureAddr]using hrun,r1,r3,r4⟩
     .cases hs
    .cases hs
   .cases hs
  .cases hs
 .cases hs
end
end Go.AM
end
section
set_option linter.unusedSimpArgs false
set_option linter.unusedVariables false
namespace Go.AM
open Go Go.RowKit
section
variable{P:Program}{w0 w:World}{F:Nat->Prop}{φ:Emb}{U:Nat->Prop}{η:Heap}
theorem tField_spec{t:TypeId}{f off:Nat}{ty:TypeId}(h:tField P t f=some (off,ty)):∃fs fd n,P.underlying t=some (.struct fs)/\fs[f]?=some fd/\fd.offset=off/\fd.type=ty/\tSize P ty=some (n+1):=by
 unfold tField at h;split at h
 .rename_i fs hu;split at h
  .rename_i fd hf;split at h;.rename_i n hz;simp only[Option.some.injEq,Prod.mk.injEq]at h;exact⟨fs,fd,n,hu,hf,h.1,h.2,by rw[<-h.2];exact hz⟩
   .cases h
  .cases h
 .cases h
theorem fieldAddr_ok[Adr]{t:TypeId}{a v:AV}{x:Value}{f:Nat}(h:aFieldAddr P t a f=some v)(hx:VRel w F φ a x):∃y,(Instr.fieldAt t x f).run P w=.ok y w/\VRel w F φ v y:=by
 unfold aFieldAddr at h;split at h
 .rename_i off ty b g i j hf;cases h;obtain⟨fs,fd,n,h1,h2,rfl,rfl,hn⟩:=tField_spec hf;simp only[VRel]at hx;obtain⟨cb,sz,h6,rfl⟩:=hx;refine⟨.pointer (some ⟨cb,i*sz+j+fd.offset,none⟩),?_,?_⟩;.simp[Instr.fieldAt,run_underlying h1,h2,Instr.sureAddr,fieldPlace,run_sizeOf_of hn,addr_add]
  .simp only[VRel];exact⟨cb,sz,h6,by rw[Nat.add_assoc]⟩
 .rename_i off ty cs hf;split at h
  .rename_i hle;cases h;obtain⟨fs,fd,n,h1,h2,rfl,rfl,hn⟩:=tField_spec hf;simp only[VRel]at hx;obtain⟨b,o,rfl,h6,h7⟩:=hx;refine⟨.pointer (some ⟨b,o+fd.offset,none⟩),?_,?_⟩;.simp[Instr.fieldAt,run_underlying h1,h2,Instr.sureAddr,fieldPlace,run_sizeOf_of hn,addr_add]
   .simp only[VRel];exact⟨b,o+fd.offset,rfl,h6,CRel_drop _ _ _ h7 hle⟩
  .cases h
 .cases h
theorem field_ok[Adr]{t:TypeId}{cs:List AV}{v:AV}{x:Value}{f off:Nat}{ty:TypeId}(hf:tField P t f=some (off,ty))(hp:∀vs:List Value,VRels w F φ cs vs->(∀c∈vs,c.oneCell'=true)->∃y,(part ty ⟨vs⟩ off).run P w=.ok y w/\VRel w F φ v y)(hx:VRel w F φ (.agg cs) x):∃y,(Instr.field t x f).run P w=.ok y w/\VRel w F φ v y:=by obtain⟨fs,fd,n,h1,h2,rfl,rfl,hn⟩:=tField_spec hf;simp only[VRel]at hx;obtain⟨vs,rfl,h3,h4⟩:=hx;obtain⟨y,r1,r2⟩:=hp vs h3 h4;exact⟨y,by simp[Instr.field,run_underlying h1,h2,asAgg,r1],r2⟩
theorem run_part_of[Adr]{t:TypeId}{cs:List AV}{off:Nat}{v:AV}{vs:List Value}(h:aPart P t cs off=some v)(hr:VRels w F φ cs vs)(h1:∀x∈vs,x.oneCell'=true):∃y,(part t ⟨vs⟩ off).run P w=.ok y w/\VRel w F φ v y:=by
 unfold aPart at h;split at h
 .rename_i n hag hn;cases h;refine⟨.agg ⟨(vs.drop off).take n⟩,?_,?_⟩;.simp only[part,Sem.run_bind,run_isAgg_of hag,Result.andThen_ok,if_true,run_sizeOf_of hn,Sem.run_pure];congr 2;rw[List.extract_toArray,List.extract_eq_take_drop,show off+n-off=n by omega]
  .simp only[VRel];exact⟨_,rfl,(hr.drop off).take n,λc hc=>h1 c (List.mem_of_mem_drop (List.mem_of_mem_take hc))⟩
 .rename_i n hag hn;obtain⟨y,hy,hv⟩:=hr.get h;refine⟨y,?_,hv⟩;simp[part,run_isAgg_of hag,hy]
 .cases h
theorem indexAddr_ok[Adr]{t:TypeId}{a ix v:AV}{x y:Value}(hi:aIndexAddr P t a ix=some v)(hx:VRel w F φ a x)(hy:VRel w F φ ix y):∃z,(Instr.indexAt t x y).run P w=.ok z w/\VRel w F φ v z:=by
 unfold aIndexAddr at hi;split at hi
 .rename_i e k n he;simp only[VRel]at hy;subst hy;split at hi
  .rename_i sz b g sz' off len hs;split at hi
   .rename_i hb;cases hi;obtain⟨rfl,hb⟩:=hb;simp only[VRel]at hx;rcases hx with⟨_,_,h3,_⟩|⟨cb,cap,h1,rfl,h3,h4⟩;.omega
    .refine⟨.pointer (some ⟨cb,off*sz'+n.toNat*sz',none⟩),?_,?_⟩;.simp[Instr.indexAt,asIntOf,run_underlying (tSlice_un he),hb,run_sizeOf_of hs,addr_add]
     .simp only[VRel];exact⟨cb,sz',h1,by rw[Nat.add_mul];rfl⟩
   .cases hi
  .rename_i sz sz' es hs;split at hi
   .rename_i hb;split at hi
    .rename_i el hel;cases hi;obtain⟨rfl,hb⟩:=hb;simp only[VRel]at hx;obtain⟨a,cap,rfl,h2,h3,h4⟩:=hx;have hlt:=(List.getElem?_eq_some_iff.1 hel).1;obtain⟨b,o,rfl,h5,h6⟩:=h4 (by intro e;rw[e]at hlt;simp at hlt);refine⟨.pointer (some ⟨b,o+n.toNat*sz',none⟩),?_,?_⟩
     .have :n<es.length:=by omega
      simp[Instr.indexAt,asIntOf,run_underlying (tSlice_un he),hb,this,run_sizeOf_of hs,addr_add]
     .simp only[VRel];exact⟨b,_,rfl,h5,ERel_get es o n.toNat el h3 h6 hel⟩
    .cases hi
   .cases hi
  .cases hi
 .rename_i k n he;simp only[VRel]at hy;subst hy;split at hi
  .rename_i len e ha;split at hi
   .rename_i sz b g i j hs;split at hi
    .rename_i hb;cases hi;simp only[VRel]at hx;obtain⟨cb,sz',h6,rfl⟩:=hx;refine⟨.pointer (some ⟨cb,i*sz'+j+n.toNat*sz,none⟩),?_,?_⟩;.simp[Instr.indexAt,asIntOf,run_underlying (tArr_un ha),Instr.sureAddr,hb,run_sizeOf_of hs,addr_add]
     .simp only[VRel];exact⟨cb,sz',h6,by rw[Nat.add_assoc]⟩
    .cases hi
   .rename_i sz cs hs;split at hi
    .rename_i hb;cases hi;simp only[VRel]at hx;obtain⟨b,o,rfl,h6,h7⟩:=hx;refine⟨.pointer (some ⟨b,o+n.toNat*sz,none⟩),?_,?_⟩;.simp[Instr.indexAt,asIntOf,run_underlying (tArr_un ha),Instr.sureAddr,hb.1,hb.2.1,run_sizeOf_of hs,addr_add]
     .simp only[VRel];exact⟨b,_,rfl,h6,CRel_drop _ _ _ h7 hb.2.2⟩
    .cases hi
   .cases hi
  .cases hi
 .cases hi
theorem foldl_set_list(off:Nat):∀(vs:List Value)(k:Nat)(cells:Array Value),off+k+vs.length<=cells.size->((vs.zipIdx k).foldl (λcs (x:Value×Nat)=>cs.setIfInBounds (off+x.2) x.1) cells).toList=cells.toList.take (off+k)++vs++cells.toList.drop (off+k+vs.length)|[],k,cells,_=>by simp|v::vs,k,cells,h=>by simp only[List.length_cons]at h;simp only[List.zipIdx_cons,List.foldl_cons];rw[foldl_set_list off vs (k+1) _ (by simp;omega)];simp only[Array.toList_setIfInBounds,List.length_cons];have e:=list_seg_step cells.toList (off+k) v vs (by simp;omega);rw[show off+(k+1)=off+k+1 by omega];simpa[Nat.add_assoc,Nat.add_comm 1]using e
theorem fill_rel[Adr]{place:Nat->Option (Nat×Nat)}:∀(parts:List (Nat×AV))(cparts:List (Nat×Value))(cs cs':List AV)(cells:Array Value),aFill place cs parts=some cs'->parts.length=cparts.length->(∀(k:Nat)(p:Nat×AV)(q:Nat×Value),parts[k]?=some p->cparts[k]?=some q->p.1=q.1/\VRel w F φ p.2 q.2)->VRels w F φ cs cells.toList->(∀x∈cells.toList,x.oneCell'=true)->∃cells',Instr.fill place cells cparts=some cells'/\VRels w F φ cs' cells'.toList/\(∀x∈cells'.toList,x.oneCell'=true)
 |[],cparts,cs,cs',cells,h,hl,_,hr,h1=>by cases cparts with|nil=>simp only[aFill,Option.some.injEq]at h;subst h;exact⟨cells,rfl,hr,h1⟩|cons q qs=>simp at hl
 |(i,v)::rest,cparts,cs,cs',cells,h,hl,hp,hr,h1=>by
  cases cparts with
   |nil=>simp at hl
   |cons q qs=>
    obtain⟨q1,q2⟩:=q;obtain⟨rfl,hv⟩:=hp 0 (i,v) (q1,q2) rfl rfl;simp only at hv;simp only[aFill]at h;split at h
    .rename_i off n vs hpl hc;split at h
     .rename_i hcond;obtain⟨c1,c2⟩:=hcond;obtain⟨r1,r2⟩:=cells_rel hc hv;have hlen:=r1.length;have hcl:=hr.length;have hsz:q2.cells.size=n:=by rw[<-c1,hlen];simp
      simp only[Array.length_toList]at hcl;have hfold:((q2.cells.zipIdx).foldl (λcs (x:Value×Nat)=>cs.setIfInBounds (off+x.2) x.1) cells).toList=cells.toList.take off++q2.cells.toList++cells.toList.drop (off+n):=by have :=foldl_set_list off q2.cells.toList 0 cells (by simp;omega);rw[<-Array.foldl_toList,Array.toList_zipIdx];simpa[hsz]using this
      obtain⟨cells',f1,f2,f3⟩:=fill_rel rest qs _ cs' ((q2.cells.zipIdx).foldl (λcs (x:Value×Nat)=>cs.setIfInBounds (off+x.2) x.1) cells) h (by simpa using hl) (λk p q hp' hq'=>hp (k+1) p q (by simpa using hp') (by simpa using hq')) (by rw[hfold];exact((hr.take off).append r1).append (hr.drop (off+n))) (by
       rw[hfold];intro x hx;rcases List.mem_append.1 hx with hx|hx
       .rcases List.mem_append.1 hx with hx|hx;.exact h1 x (List.mem_of_mem_take hx)
        .exact r2 x hx
       .exact h1 x (List.mem_of_mem_drop hx));refine⟨cells',?_,f2,f3⟩;simp only[Instr.fill,hpl];rw[if_neg (by simp[hsz];omega)];exact f1
     .cases h
    .cases h
theorem places_eq{fs:List Field}{pl:List (Nat×Nat)}(h:fs.mapM (λf=>(tSize P f.type).map λn=>(f.offset,n))=some pl):fs.mapM (λf=>(P.info? f.type).map λi=>(f.offset,i.size))=some pl:=by rw[<-h];congr 1;funext f;simp[tSize,Option.map_map,Function.comp_def]
theorem build_ok[Adr]{t:TypeId}{parts:List (Nat×AV)}{cparts:Array (Nat×Value)}{v:AV}(h:aBuild P t parts=some v)(hl:parts.length=cparts.size)(hp:∀(k:Nat)(p:Nat×AV)(q:Nat×Value),parts[k]?=some p->cparts[k]?=some q->p.1=q.1/\VRel w F φ p.2 q.2):∃y,(Instr.build t cparts).run P w=.ok y w/\VRel w F φ v y:=by
 unfold aBuild at h;split at h
 .rename_i pl z hpl hz;simp only[Option.map_eq_some_iff]at h;obtain⟨cs',hf,rfl⟩:=h;unfold tPlaces at hpl;split at hpl;.rename_i fs hu;unfold tZero at hz;cases hi:P.info? t with|none=>rw[hi]at hz;cases hz|some it=>rw[hi]at hz;simp only[Option.bind_some]at hz;cases hzz:it.zero with|none=>rw[hzz]at hz;cases hz|some zv=>rw[hzz]at hz;simp only at hz;obtain⟨z1,z2,z3⟩:=avZs_rel (w:=w) (F:=F) (φ:=φ) hz;obtain⟨cells',f1,f2,f3⟩:=fill_rel (w:=w) (F:=F) (φ:=φ) parts cparts.toList z cs' zv.cells hf (by simpa using hl) (λk p q hp' hq'=>hp k p q hp' (by simpa using hq')) z1 z2;refine⟨.agg cells',run_build w t cparts cells' ?_,by simp only[VRel];exact⟨cells'.toList,by simp,f2,f3⟩⟩;unfold Program.built;simp only[hi,hu,hzz,places_eq hpl];rw[<-f1];congr 1;funext x;simp
  .cases hpl
 .cases h
end
end Go.AM
end
