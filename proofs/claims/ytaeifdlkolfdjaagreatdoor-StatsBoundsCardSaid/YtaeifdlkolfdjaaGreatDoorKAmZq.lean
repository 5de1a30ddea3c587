/- Texts of the proof, joined by program. -/
import Derived.Test.YtaeifdlkolfdjaaGreatDoorKBe
set_option linter.unusedSimpArgs false
set_option linter.unusedVariables false
namespace Go.AM
open Go Go.RowKit
section
variable{ε:Bool}{P:Program}{w0 w:World}{F:Nat->Prop}{φ:Emb}{U U':Nat->Prop}{η:Heap}{τ:Nat->AV}{nt:Nat}{a:Act}{ds:List Deferred}{nx:Nat}{ops:Array Oper}{ans:Nat->Option (AV×List ABlk)}
theorem apT_seZ(τ:Nat->AV):apT τ seZ=τ:=rfl
theorem apsT_seZ[Adr](τ:Nat->AV):∀(c:Nat)(l:List SE),apsT τ (List.replicate c seZ++l)=apsT τ l|0,l=>rfl|c+1,l=>by rw[List.replicate_succ,List.cons_append];show apsT (apT τ seZ) _=_;rw[apT_seZ];exact apsT_seZ τ c l
theorem apsH_seZ(η:Heap):∀(c:Nat)(l:List SE),apsH η (List.replicate c seZ++l)=apsH η l|0,l=>rfl|c+1,l=>by rw[List.replicate_succ,List.cons_append];show apsH (apH η seZ) _=_;exact apsH_seZ η c l
def LkRel[Adr](w:World)(F:Nat->Prop)(φ:Emb)(l:Nat)(m:List (AV×AV)):Prop:=∃(k:Nat) (es:Array MapEntry) (c:Nat),φ.loop l=some k/\w.heap[k]?=some (.map es c)/\MRel w F m es.toList
theorem LkRel.grow[Adr]{l:Nat}{m:List (AV×AV)}{w':World}{F':Nat->Prop}{φ':Emb}(h:LkRel w F φ l m)(g:Grow w0 w F φ w' F' φ'):LkRel w' F' φ' l m:=by obtain⟨k,es,c,h1,h2,h3⟩:=h;exact⟨k,es,c,by rw[g.sle.lp];exact h1,g.ext.objs k _ h2 (by intros;simp),MRel.mono g.ext.toExt0 g.sub h3⟩
theorem mapGet_run[Adr]{o:Oper}{t:TypeId}{x ix:Operand}{l:Nat}{m:List (AV×AV)}{ok:Bool}{n v:AV}(hop:o.op=.lookup t x ix ok)(e1:VRel w F φ (.mp l) (a.eval x))(e2:VRel w F φ n (a.eval ix))(hl:LkRel w F φ l m)(hv:mapGet P t m n ok=some v):∃r,(execOp a.eval o).run P w=.ok (.value r) w/\VRel w F φ v r:=by
 simp only[VRel]at e1;obtain⟨k,hk1,e1⟩:=e1;obtain⟨k',es,c,hk2,hr,hmr⟩:=hl;rw[hk1]at hk2;cases hk2;unfold mapGet at hv;split at hv;rotate_left;.cases hv
 rename_i kt et hu;split at hv;rotate_left;.cases hv
 rename_i d z hd1 hz;split at hv;rotate_left;.cases hv
 rename_i hp;have hc:=checkKey_plain hd1 hp es.isEmpty (a.eval ix) w;split at hv
 .rename_i j b hfd;cases hv;obtain⟨t',v',e,-,q1,q2,-⟩:=afind_rel e2 m es.toList 0 _ hmr hfd;have hr2:VRel w F φ b v':=VRel.mono (Ext0.refl F w) (λ_ h=>h) (Emb.zero_le φ) _ _ q2
  cases ok with
   |false=>refine⟨v',?_,hr2⟩;unfold execOp;simp only[hop,Instr.lookup,e1,Sem.run_bind,run_underlying hu,Result.andThen_ok,run_getObj_mp hr,Sem.run_pure,hc,Instr.findKey,run_underlying hd1,q1];rfl
   |true=>
    refine⟨.tuple #[v',.bool true],?_,?_⟩;.unfold execOp;simp only[hop,Instr.lookup,e1,Sem.run_bind,run_underlying hu,Result.andThen_ok,run_getObj_mp hr,Sem.run_pure,hc,Instr.findKey,run_underlying hd1,q1];rfl
    .simp only[if_true,VRel];exact⟨[v',.bool true],rfl,by simp only[VRels];exact⟨_,_,rfl,hr2,_,_,rfl,by simp only[VRel],rfl⟩⟩
 .rename_i hfd;cases hv;have q1:=afind_rel e2 m es.toList 0 _ hmr hfd;obtain⟨zv,hz1,hz2⟩:=run_zeroV_of (P:=P) hz w
  cases ok with
   |false=>refine⟨zv,?_,hz2 w F φ⟩;unfold execOp;simp only[hop,Instr.lookup,e1,Sem.run_bind,run_underlying hu,Result.andThen_ok,run_getObj_mp hr,Sem.run_pure,hc,Instr.findKey,run_underlying hd1,q1,hz1];rfl
   |true=>
    refine⟨.tuple #[zv,.bool false],?_,?_⟩;.unfold execOp;simp only[hop,Instr.lookup,e1,Sem.run_bind,run_underlying hu,Result.andThen_ok,run_getObj_mp hr,Sem.run_pure,hc,Instr.findKey,run_underlying hd1,q1,hz1];rfl
    .simp only[if_true,VRel];exact⟨[zv,.bool false],rfl,by simp only[VRels];exact⟨_,_,rfl,hz2 w F φ,_,_,rfl,by simp only[VRel],rfl⟩⟩
 .cases hv
theorem lookF_some[Adr]{lk:Nat->Option (List (AV×AV))}{o:Oper}{τ:Nat->AV}{se:SE}(h:lookF P nt lk o τ=some se):∃t x ix ok l m v,o.op=.lookup t x ix ok/\o.guard=none/\dstOk nt o=true/\evalO τ x=.mp l/\lk l=some m/\mapGet P t m (evalO τ ix) ok=some v/\se=⟨o.dst,v,[],opTmps [x,ix],[],none⟩:=by
 unfold lookF at h;split at h;rotate_left;.cases h
 rename_i t x ix ok hop;split at h;rotate_left;.cases h
 rename_i hg;split at h;rotate_left;.cases h
 rename_i hd;split at h;rotate_left;.cases h
 rename_i l hl;split at h;rotate_left;.cases h
 rename_i m hm;split at h;rotate_left;.cases h
 rename_i v hv;cases h;exact⟨t,x,ix,ok,l,m,v,hop,hg,hd,hl,hm,hv,rfl⟩
theorem lookF_of[Adr]{lk:Nat->Option (List (AV×AV))}{o:Oper}{τ:Nat->AV}{t:TypeId}{x ix:Operand}{ok:Bool}{l:Nat}{m:List (AV×AV)}{v:AV}(h1:o.op=.lookup t x ix ok)(h2:o.guard=none)(h3:dstOk nt o=true)(h4:evalO τ x=.mp l)(h5:lk l=some m)(h6:mapGet P t m (evalO τ ix) ok=some v):lookF P nt lk o τ=some ⟨o.dst,v,[],opTmps [x,ix],[],none⟩:=by unfold lookF;simp only[h1,h2,h3,h4,h5,h6]
theorem stepX_local[Adr]{lk:Nat->Option (List (AV×AV))}{o:Oper}{ans:Option (AV×List ABlk)}{nm:Nat}{τ τ':Nat->AV}{η η':Heap}{se:SE}(h:stepX lk ε P nt ops o ans nm τ η=some se)(ht:∀t,t∈se.rt->τ' t=τ t)(hb:∀b,b∈se.rb->η' b=η b):stepX lk ε P nt ops o ans nm τ' η'=some se:=by unfold stepX at h⊢;cases hl:isLook o.op with|false=>rw[hl]at h;exact stepF_local h ht hb|true=>rw[hl]at h;obtain⟨t,x,ix,ok,l,m,v,h1,h2,h3,h4,h5,h6,rfl⟩:=lookF_some h;have ev:=evalO_local (τ:=τ) (τ':=τ') [x,ix] ht;exact lookF_of h1 h2 h3 (by rw[ev x (by simp)];exact h4) h5 (by rw[ev ix (by simp)];exact h6)
def SL[Adr](P:Program)(nt:Nat)(ops:Array Oper)(nx:Nat)(lk:Nat->Option (List (AV×AV)))(i:Nat)(o:Oper)(τ:Nat->AV)(η:Heap)(se:SE):Prop:=∀(τ':Nat->AV)(η':Heap),(∀t,t∈se.rt->τ' t=τ t)->(∀b,b∈se.rb->η' b=η b)->∀(w0 w:World)(F:Nat->Prop)(φ:Emb)(U U':Nat->Prop)(ds:List Deferred)(a:Act),HRel w0 w F φ U η'->TRel w F φ τ' nt a.tmps->a.defers=ds->ops[i]?=some o->(∀l m,lk l=some m->LkRel w F φ l m)->(∀m,m<8->¬U (nx+8*i+m))->(∀b,U b->U' b)->(∀m,m<8->U' (nx+8*i+m))->∀(r:Option Nat)(n:Nat)(K:Act->World->Prop)(Q:Exit->Act->World->Prop),Goes w0 w F φ U' (apH η' se) (apT τ' se) nt ds K->wpOpIn (fen r) n P ops Q i K a w
theorem SL.loc[Adr]{lk:Nat->Option (List (AV×AV))}{i:Nat}{o:Oper}{τ':Nat->AV}{η':Heap}{se:SE}(h:SL P nt ops nx lk i o τ η se)(ht:∀t,t∈se.rt->τ' t=τ t)(hb:∀b,b∈se.rb->η' b=η b):SL P nt ops nx lk i o τ' η' se:=λτ2 η2 h1 h2=>h τ2 η2 (λt k=>(h1 t k).trans (ht t k)) λb k=>(h2 b k).trans (hb b k)
theorem SL.of[Adr]{lk:Nat->Option (List (AV×AV))}{i:Nat}{o:Oper}{an:Option (AV×List ABlk)}{se:SE}(hs:stepX lk ε P nt ops o an (nx+8*i) τ η=some se)(hob:∀ob,se.ob=some ob->ob.holds P):SL P nt ops nx lk i o τ η se:=by
 intro τ' η' ht hb w0 w F φ U U' ds a hh hT hd hi hlk hf hU hUn r n K Q hK;have hs:=stepX_local hs ht hb;unfold Go.AM.stepX at hs
 cases hl:isLook o.op with
  |false=>rw[hl]at hs;exact stepF_ok (U':=U') hh hT hd hi hs hob hf hU hUn r n hK
  |true=>
   rw[hl]at hs;obtain⟨t,x,ix,ok,l,m,v,h1,h2,h3,h4,h5,h6,hse⟩:=lookF_some hs;have er:=eval_rel hT;have e1:=er x;rw[h4]at e1;obtain⟨rv,hrv,hrr⟩:=mapGet_run (P:=P) h1 e1 (er ix) (hlk l m h5) h6;unfold wpOpIn;simp only[hi];rw[if_pos (by simp[Region.wanted,h2])];refine⟨λ_ _=>trivial,?_⟩;rw[show(fen r).round=r from rfl,Oper.semAt_eq r _ _ (by rw[h1];intro c;simp),hrv,Oper.uponIn_value];refine hK _ w φ F ?_ ?_ (by rw[put_defers];exact hd) ⟨Emb.sle_refl φ,λ_ h=>h,λ_ h=>.inl h,Ext.refl F w⟩;.rw[hse];exact hh.weakenU hU
   .rw[hse];exact hT.put (ds_lt h3) hrr
theorem RInv.stepS[Adr]{lk:Nat->Option (List (AV×AV))}{ses:List SE}{D:List Nat}{w':World}{F':Nat->Prop}{φ':Emb}(h:RInv w0 w F φ nx ses η τ nt ds D a w' F' φ')(hlk:∀l m,lk l=some m->LkRel w F φ l m){i:Nat}{o:Oper}(hi:ops[i]?=some o)(hD:i∉D)(hs:SL P nt ops nx lk i o (apsT τ (D.map λi=>ses.getD i seZ)) (apsH η (D.map λi=>ses.getD i seZ)) (ses.getD i seZ))(r:Option Nat)(n:Nat){K:Act->World->Prop}{Q:Exit->Act->World->Prop}(hK:∀a' w'' F'' φ'',RInv w0 w F φ nx ses η τ nt ds (D++[i]) a' w'' F'' φ''->K a' w''):wpOpIn (fen r) n P ops Q i K a w':=by
 refine hs _ _ (λ_ _=>rfl) (λ_ _=>rfl) w0 w' F' φ' _ (Used nx (D++[i])) ds a h.heap h.tmps h.dfr hi (λl m e=>(hlk l m e).grow h.grow) (λm hm=>?_) (λb hb=>?_) (λm hm=>?_) r n K Q λa' w'' φ'' F'' k1 k2 k3 k4=>?_
 .rintro(q|⟨j,hj,m',hm',e⟩);.omega
  .have :i=j:=by omega
   exact hD (this▸hj)
 .rcases hb with q|⟨j,hj,m',hm',e⟩;.exact .inl q
  .exact .inr ⟨j,List.mem_append_left _ hj,m',hm',e⟩
 .exact .inr ⟨i,by simp,m,hm,rfl⟩
 .refine hK a' w'' F'' φ'' ⟨?_,?_,k3,h.grow.trans k4⟩;.rw[List.map_append,apsH_append];exact k1
  .rw[List.map_append,apsT_append];exact k2
def RunS(S:Nat->Oper->(Nat->AV)->Heap->SE->Prop):List (Nat×Oper)->(Nat->AV)->Heap->List SE->Prop|[],_,_,[]=>True|(i,o)::l,τ,η,se::ses=>S i o τ η se/\RunS S l (apT τ se) (apH η se) ses|_,_,_,_=>False
theorem runS_get{S:Nat->Oper->(Nat->AV)->Heap->SE->Prop}:∀(os:List Oper)(i:Nat)(τ:Nat->AV)(η:Heap)(ses:List SE),RunS S (numbered i os) τ η ses->ses.length=os.length/\ ∀(k:Nat)(o:Oper),os[k]?=some o->S (i+k) o (apsT τ (ses.take k)) (apsH η (ses.take k)) (ses.getD k seZ)|[],i,τ,η,[],h=>by simp|[],i,τ,η,_::_,h=>h.elim|o::os,i,τ,η,[],h=>h.elim|o::os,i,τ,η,se::ses,h=>by obtain⟨h1,h2⟩:=runS_get os (i+1) _ _ ses h.2;refine⟨by simp[h1],λk p hk=>?_⟩;cases k with|zero=>simp at hk;subst hk;simpa[apsT,apsH]using h.1|succ k=>have :=h2 k p (by simpa using hk);rw[show i+1+k=i+(k+1)by omega]at this;simpa[apsT,apsH]using this
theorem runS_append{S:Nat->Oper->(Nat->AV)->Heap->SE->Prop}:∀(l1:List (Nat×Oper)){l2:List (Nat×Oper)}{τ:Nat->AV}{η:Heap}{s1 s2:List SE},RunS S l1 τ η s1->RunS S l2 (apsT τ s1) (apsH η s1) s2->RunS S (l1++l2) τ η (s1++s2)|[],_,_,_,[],_,_,k=>k|[],_,_,_,_::_,_,h,_=>h.elim|_::_,_,_,_,[],_,h,_=>h.elim|(i,o)::l1,_,_,_,se::s1,_,h,k=>⟨h.1,runS_append l1 h.2 k⟩
theorem draw_seg[Adr]{lk:Nat->Option (List (AV×AV))}{c c':Nat}{ses1:List SE}(hcc:c<=c')(hc':c'<=ops.size)(h:HRel w0 w F φ (λb=>b<nx) η)(ht:TRel w F φ τ nt a.tmps)(hd:a.defers=ds)(hlk:∀l m,lk l=some m->LkRel w F φ l m)(hr:RunS (SL P nt ops nx lk) (numbered c ((ops.toList.drop c).take (c'-c))) τ η ses1)(r:Option Nat)(n:Nat){Q:Exit->Act->World->Prop}(hback:backs 0 ops.toList=true)(hpairs:pairsOk (masks ops.toList []) (List.replicate c seZ++ses1) c'=true)(hclo:∀i,i<c->∀k,((masks ops.toList []).getD i 0).testBit k=true->k<c)(hcut:∀j,c'<=j->j<ops.size->∀i,i<c'->((masks ops.toList []).getD j 0).testBit i=true){listed:Array Bool}(hls:listed.size=ops.size)(hli:∀i,i<ops.size->(listed.getD i false=true↔i<c))(hK:Done w0 w F φ nx c' (apsH η ses1) (apsT τ ses1) nt ds λa w=>∀listed':Array Bool,listed'.size=ops.size->(∀i,i<ops.size->(listed'.getD i false=true↔i<c'))->wpAnyIn (fen r) n P .any ops Q (ops.size-c') listed' a w):wpAnyIn (fen r) n P .any ops Q (ops.size-c) listed a w:=by
 obtain⟨hl0,hstep0⟩:=runS_get ((ops.toList.drop c).take (c'-c)) c τ η ses1 hr;obtain⟨ses,hses⟩:∃ses,ses=List.replicate c seZ++ses1:=⟨_,rfl⟩;have hl1:ses1.length=c'-c:=by rw[hl0];simp;omega
 have hl:ses.length=c':=by rw[hses];simp;omega
 have hget:∀i,i<c->ses.getD i seZ=seZ:=λi hi=>by rw[hses,List.getD_eq_getElem?_getD,List.getElem?_append_left (by simpa using hi)];simp[List.getElem?_replicate,hi]
 have hget2:∀i,c<=i->ses.getD i seZ=ses1.getD (i-c) seZ:=λi hi=>by rw[hses,List.getD_eq_getElem?_getD,List.getElem?_append_right (by simpa using hi)];simp[List.getD_eq_getElem?_getD]
 have hstep:∀i o,c<=i->i<c'->ops[i]?=some o->SL P nt ops nx lk i o (apsT τ (ses.take i)) (apsH η (ses.take i)) (ses.getD i seZ):=by
  intro i o h1 h2 h3;have hk:=hstep0 (i-c) o (by rw[List.getElem?_take,if_pos (by omega),List.getElem?_drop,show c+(i-c)=i by omega,Array.getElem?_toList];exact h3);rw[show c+(i-c)=i by omega]at hk;rw[hget2 i h1];have :ses.take i=List.replicate c seZ++ses1.take (i-c):=by rw[hses,List.take_append,List.length_replicate,List.take_of_length_le (by simpa using h1)]
  rw[this,apsT_seZ,apsH_seZ];exact hk
 rw[<-hses]at hpairs;have e1:apsH η ses1=apsH η ses:=by rw[hses,apsH_seZ]
 have e2:apsT τ ses1=apsT τ ses:=by rw[hses,apsT_seZ]
 rw[e1,e2]at hK
 have key:∀(f:Nat)(listed:Array Bool)(D:List Nat),D.length+f=c'->listed.size=ops.size->(∀i,i<ops.size->(listed.getD i false=true↔i∈D))->(∀i,i<c->i∈D)->Ord (masks ops.toList []) ses c' D->∀a w' F' φ',RInv w0 w F φ nx ses η τ nt ds D a w' F' φ'->wpAnyIn (fen r) n P .any ops Q (f+(ops.size-c')) listed a w':=by
  intro f
  induction f with
   |zero=>
    intro listed D hlen hsz hlist hpre0 hord a w' F' φ' hi;have hall:∀i,i<c'->i∈D:=by intro i hi;exact full_of_nodup D c' hord.nodup hord.lt (by omega) i hi
    rw[Nat.zero_add];obtain⟨q1,q2⟩:=hord.all (τ:=τ) (η:=η) hl hall;exact hi.fin hord.lt hl q2 q1 hK listed hsz λi hi=>⟨λq=>hord.lt i ((hlist i hi).1 q),λq=>(hlist i hi).2 (hall i q)⟩
   |succ f ih=>
    intro listed D hlen hsz hlist hpre0 hord a w' F' φ' hi;rw[Nat.succ_add];simp only[wpAnyIn];refine⟨λhnil=>?_,λi hready=>?_⟩
    .exfalso;obtain⟨i,hi1,hi2,hi3⟩:=least_missing D c' (by omega)
     have hmem:i∈Region.ready .any ops listed:=by
      rw[mem_ready];refine⟨?_,ops[i]'(by omega),Array.getElem?_eq_getElem (by omega),λe he hbe=>?_⟩;.have :=(hlist i (by omega));rw[Array.getD_eq_getD_getElem?,Array.getElem?_eq_getElem (by omega)]at this⊢;simp at this⊢;cases hh:listed[i]'(by omega)with|false=>rfl|true=>exact absurd (this.1 hh) hi2
      .have hon:=backs_get ops.toList 0 i (ops[i]'(by omega)) hback (by rw[Array.getElem?_toList,Array.getElem?_eq_getElem (by omega)]) e (by simpa using he) hbe;exact(hlist e.on (by omega)).2 (hi3 e.on (by omega))
     rw[hnil]at hmem;simp at hmem
    .rw[mem_ready]at hready;obtain⟨h1,o,h2,h3⟩:=hready;have hlt:=(Array.getElem?_eq_some_iff.1 h2).1;have hD:i∉D:=by intro hm;have :=(hlist i hlt).2 hm;rw[Array.getD_eq_getD_getElem?,Array.getElem?_eq_getElem (by omega)]at h1 this;simp at h1 this;rw[h1]at this;cases this
     have hlist':∀i,listed.getD i false=true->i∈D:=by
      intro j hj;by_cases hjl:j<ops.size;.exact(hlist j hjl).1 hj
      .rw[Array.getD_eq_getD_getElem?,Array.getElem?_eq_none (by omega)]at hj;simp at hj
     have hpre:=mask_done (D:=D) hback (λi hi=>⟨by have :=hord.lt i hi;omega,hord.closed i hi⟩) hlist' h2 h3
     have hltc:i<c':=by
      by_cases q:i<c';.exact q
      .exfalso;obtain⟨j,hj1,hj2,-⟩:=least_missing D c' (by omega);exact hj2 (hpre j (hcut i (by omega) hlt j hj1))
     have hge:c<=i:=by
      by_cases q:c<=i;.exact q
      .exact absurd (hpre0 i (by omega)) hD
     obtain⟨ag1,ag2⟩:=hord.agree (τ:=τ) (η:=η) hl hpairs hltc hD hpre;have hs:=hstep i o hge hltc h2;refine hi.stepS (P:=P) hlk h2 hD (hs.loc ag1 ag2) r n λa' w'' F'' φ'' hi'=>ih (listed.setIfInBounds i true) (D++[i]) (by simp;omega) (by simp[hsz]) (λj hj=>?_) (λj hj=>List.mem_append_left _ (hpre0 j hj)) ⟨?_,?_,?_,?_⟩ a' w'' F'' φ'' hi'
     .rw[Array.getD_eq_getD_getElem?,Array.getElem?_setIfInBounds];by_cases e:i=j;.subst e;rw[if_pos rfl,if_pos (by omega)];simp
      .rw[if_neg e,<-Array.getD_eq_getD_getElem?,hlist j hj];simp only[List.mem_append,List.mem_singleton];constructor;.exact λq=>.inl q
       .rintro(q|q);.exact q
        .exact absurd q.symm e
     .rw[List.nodup_append];exact⟨hord.nodup,by simp,λx hx y hy e=>by simp at hy;subst hy;exact hD (e▸hx)⟩
     .intro j hj;rcases List.mem_append.1 hj with q|q;.exact hord.lt j q
      .simp at q;omega
     .intro j hj k hk;rcases List.mem_append.1 hj with q|q;.exact List.mem_append_left _ (hord.closed j q k hk)
      .simp at q;subst q;exact List.mem_append_left _ (hpre k hk)
     .rw[List.pairwise_append];refine⟨hord.rise,by simp,λx hx y hy=>?_⟩;simp at hy;subst hy;rcases Nat.lt_trichotomy x y with q|q|q;.exact .inl q
      .subst q;exact absurd hx hD
      .right;by_cases hb:((masks ops.toList []).getD x 0).testBit y=true;.exact absurd (hord.closed x hx y hb) hD
       .exact pairsOk_spec hpairs q (hord.lt x hx) (by simpa using hb)
 have hmap:(List.range c).map (λi=>ses.getD i seZ)=List.replicate c seZ++[]:=by
  rw[List.append_nil];apply List.ext_getElem;.simp
  .intro i h1 h2;simp only[List.length_map,List.length_range]at h1;simp[List.getElem_replicate];have :=hget i h1;simpa[List.getD_eq_getElem?_getD]using this
 have hfuel:ops.size-c=(c'-c)+(ops.size-c'):=by omega
 rw[hfuel];refine key (c'-c) listed (List.range c) (by simp;omega) hls (λi hi=>by rw[hli i hi,List.mem_range]) (λi hi=>List.mem_range.2 hi) ⟨List.nodup_range,λi hi=>by have :=List.mem_range.1 hi;omega,λi hi k hk=>List.mem_range.2 (hclo i (List.mem_range.1 hi) k hk),?_⟩ a w F φ ⟨?_,?_,hd,⟨Emb.sle_refl φ,λ_ h=>h,λ_ h=>.inl h,Ext.refl F w⟩⟩;.exact List.pairwise_lt_range.imp λh=>.inl h
 .rw[hmap,apsH_seZ];exact h.weakenU λb hb=>.inl hb
 .rw[hmap,apsT_seZ];exact ht
end
def AWPG[Adr](P:Program)(nt:Nat)(ops:Array Oper)(c:Nat)(K:Exit->St->Prop)(s:St):Prop:=∀(x:Cx)(w0 w:World)(F:Nat->Prop)(φ:Emb)(a:Act),Fits x w0 w F φ nt a s->∀(Q:Exit->Act->World->Prop),(∀e a' w' s' φ' F',Fits x w0 w' F' φ' nt a' s'->GrowW w0 w F φ w' F' φ'->K e s'->Q e a' w')->∀listed:Array Bool,listed.size=ops.size->(∀i,i<ops.size->(listed.getD i false=true↔i<c))->wpAnyIn (fen x.r) 0 P .any ops Q (ops.size-c) listed a w
theorem cutB_ok{M:List Nat}{n c:Nat}(h:cutB M n c=true):∀j,c<=j->j<n->∀i,i<c->(M.getD j 0).testBit i=true:=by
 intro j hj hn i hi;unfold cutB at h;rw[List.all_eq_true]at h;have :=h j (List.mem_range.2 hn);rw[Bool.or_eq_true]at this;rcases this with q|q;.have :=Nat.le_of_ble_eq_true (show Nat.ble (j+1) c=true from q);omega
 .have e:=Nat.eq_of_beq_eq_true q;have e2:(Nat.land (M.getD j 0) (2^c-1)).testBit i=(2^c-1).testBit i:=by rw[e]
  have e3:(2^c-1).testBit i=true:=by rw[Nat.testBit_two_pow_sub_one];simpa using hi
  rw[e3]at e2;have :(M.getD j 0&&&(2^c-1)).testBit i=true:=e2;rw[Nat.testBit_and,e3,Bool.and_true]at this;exact this
theorem mask_lt[Adr]{ops:List Oper}(hb:backs 0 ops=true):∀(i k:Nat),i<ops.length->((masks ops []).getD i 0).testBit k=true->k<i:=by
 intro i
 induction i using Nat.strongRecOn with
  |ind i ih=>
   intro k hi h;have hg:=masks_get ops [] i ops[i] (List.getElem?_eq_getElem hi);simp only[List.length_nil,Nat.zero_add]at hg;rw[hg]at h;obtain⟨e,he,hbd,hk⟩:=maskOf_bit h;have hon:=backs_get ops 0 i ops[i] hb (List.getElem?_eq_getElem hi) e (by simpa using he) hbd;rcases hk with rfl|hk;.omega
   .have :((masks ops []).getD e.on 0).testBit k=true:=by simp only[List.getD_eq_getElem?_getD]at hk⊢;rw[List.getElem?_take,if_pos (by omega)]at hk;exact hk
    have :=ih e.on (by omega) k (by omega) this;omega
theorem uponIn_congr{F:Fence}{n:Nat}{P:Program}{o:Oper}{a:Act}{next:Act->World->Prop}{Q Q':Exit->Act->World->Prop}(h:∀e,e≠.normal->Q e=Q' e){r:Result Next}(hr:o.uponIn F n P a next Q r):o.uponIn F n P a next Q' r:=by
 have hp:∀ch,Q (.panic ch)=Q' (.panic ch):=λch=>h _ (by simp);have ho:LetsOut Q=LetsOut Q':=by unfold LetsOut;rw[h _ (by simp)]
 cases r with
  |ok x w'=>cases x<;>simp only[Oper.uponIn]at hr⊢ <;>first|exact hr|(simp only[<-hp,<-ho];exact hr)
  |halt x w'=>cases x<;>simp only[Oper.uponIn]at hr⊢ <;>first|exact hr|(rw[<-hp];exact hr)
theorem wpOpIn_congr[Adr]{F:Fence}{n:Nat}{P:Program}{ops:Array Oper}{i:Nat}{K:Act->World->Prop}{a:Act}{w:World}{Q Q':Exit->Act->World->Prop}(h:∀e,e≠.normal->Q e=Q' e)(hr:wpOpIn F n P ops Q i K a w):wpOpIn F n P ops Q' i K a w:=by
 unfold wpOpIn at hr⊢;split;.rename_i ho;simp only[ho]at hr;exact hr
 .rename_i o ho;simp only[ho]at hr;split;.rename_i hw;rw[if_pos hw]at hr;exact⟨hr.1,uponIn_congr h hr.2⟩
  .rename_i hw;rw[if_neg hw]at hr;exact hr
section
variable{P:Program}{nt:Nat}{K:Exit->St->Prop}{s:St}{ops:Array Oper}
theorem awp_drawG[Adr]{id:Nat}(hmix:P.follows .mixedOrders=true)(h:AWPG P nt ops 0 K s):AWP P nt (.region id ops true) K s:=by intro x w0 w F φ a hf;have g:Grow w0 w F φ w.drew F φ:=⟨Emb.sle_refl φ,λ_ h=>h,λ_ h=>.inl h,ext_drew F w⟩;refine wpIn_region_any hmix ?_;have :=h x w0 w.drew F φ a ⟨hf.mem.step g (hf.mem.heap.heap_same (w':=w.drew) rfl hf.mem.heap.below.drew) rfl (Nat.le_refl _),hf.tmps.mono g,hf.env.mono g.weak rfl⟩ (λe a' w'=>∃s' φ' F',Fits x w0 w' F' φ' nt a' s'/\GrowW w0 w F φ w' F' φ'/\K e s') (λe a' w' s' φ' F' h1 h2 h3=>⟨s',φ',F',h1,g.weak.trans h2,h3⟩) (Array.replicate ops.size false) (by simp) (λi hi=>by rw[Array.getD_eq_getD_getElem?,Array.getElem?_replicate];simp[hi]);simpa using this
theorem awpg_nil[Adr]{c:Nat}(hc:ops.size<=c)(h:K .normal s):AWPG P nt ops c K s:=by
 intro x w0 w F φ a hf Q hQ listed hls hli;have :ops.size-c=0:=by omega
 rw[this];refine⟨?_,hQ _ _ _ s φ F hf (GrowW.refl _ _ _ _) h⟩;rw[List.eq_nil_iff_forall_not_mem];intro i hi;rw[mem_ready]at hi;obtain⟨h1,o,h2,-⟩:=hi;have hlt:=(Array.getElem?_eq_some_iff.1 h2).1;have :=(hli i hlt).2 (by omega);rw[Array.getD_eq_getD_getElem?,Array.getElem?_eq_getElem (by omega)]at h1 this;simp at h1 this;rw[h1]at this;cases this
theorem awpg_one[Adr]{c:Nat}(hc:c<ops.size)(hback:backs 0 ops.toList=true)(hcut:cutB (masks ops.toList []) ops.size (c+1)=true)(h:AWPO P nt ops [c] (thenK (AWPG P nt ops (c+1) K) K) s):AWPG P nt ops c K s:=by
 intro x w0 w F φ a hf Q hQ listed hls hli;have hn:ops.size-c=(ops.size-(c+1))+1:=by omega
 rw[hn];simp only[wpAnyIn]
 have hready:∀i,i∈Region.ready .any ops listed->i=c:=by
  intro i hi;rw[mem_ready]at hi;obtain⟨h1,o,h2,h3⟩:=hi;have hlt:=(Array.getElem?_eq_some_iff.1 h2).1;have hge:¬i<c:=λq=>by have :=(hli i hlt).2 q;rw[Array.getD_eq_getD_getElem?,Array.getElem?_eq_getElem (by omega)]at h1 this;simp at h1 this;rw[h1]at this;cases this
  by_cases q:i=c;.exact q
  .exfalso
   have hpre:=mask_done (D:=List.range c) hback (λi hi=>by have :=List.mem_range.1 hi;exact⟨by omega,λk hk=>List.mem_range.2 (by have :=mask_lt hback i k (by simpa using by omega) hk;omega)⟩) (λj hj=>by
    by_cases hjl:j<ops.size;.exact List.mem_range.2 ((hli j hjl).1 hj)
    .rw[Array.getD_eq_getD_getElem?,Array.getElem?_eq_none (by omega)]at hj;simp at hj) h2 h3 c (cutB_ok hcut i (by omega) hlt c (by omega));have :=List.mem_range.1 hpre;omega
 have hmem:c∈Region.ready .any ops listed:=by
  rw[mem_ready];refine⟨?_,ops[c],Array.getElem?_eq_getElem hc,λe he hbe=>?_⟩;.have :=(hli c hc);rw[Array.getD_eq_getD_getElem?,Array.getElem?_eq_getElem (by omega)]at this⊢;simp at this⊢;exact this
  .have hon:=backs_get ops.toList 0 c ops[c] hback (by rw[Array.getElem?_toList,Array.getElem?_eq_getElem hc]) e (by simpa using he) hbe;exact(hli e.on (by omega)).2 (by omega)
 refine⟨λhnil=>by rw[hnil]at hmem;simp at hmem,λi hi=>?_⟩;rw[hready i hi];obtain⟨Q',hQ'⟩:∃Q':Exit->Act->World->Prop,Q'=λe a w=>match e with|.normal=>wpAnyIn (fen x.r) 0 P .any ops Q (ops.size-(c+1)) (listed.setIfInBounds c true) a w|e=>Q e a w:=⟨_,rfl⟩
 have hw:=h x w0 w F φ a hf Q' (λe a' w' s' φ' F' h1 h2 h3=>by
  rw[hQ']
  cases e with
   |normal=>
    refine h3 x w0 w' F' φ' a' h1 Q (λe a2 w2 s2 φ2 F2 k1 k2 k3=>hQ e a2 w2 s2 φ2 F2 k1 (h2.trans k2) k3) _ (by simp[hls]) (λj hj=>?_);rw[Array.getD_eq_getD_getElem?,Array.getElem?_setIfInBounds];by_cases e:c=j;.subst e;rw[if_pos rfl,if_pos (by omega)];simp
    .rw[if_neg e,<-Array.getD_eq_getD_getElem?,hli j hj];omega
   |exit id=>exact hQ _ _ _ _ _ _ h1 h2 h3
   |goto l=>exact hQ _ _ _ _ _ _ h1 h2 h3
   |ret=>exact hQ _ _ _ _ _ _ h1 h2 h3
   |panic ch=>exact hQ _ _ _ _ _ _ h1 h2 h3
   |outgrown=>exact hQ _ _ _ _ _ _ h1 h2 h3);rw[wpOpsIn_cons]at hw;have hfun:wpOpsIn (fen x.r) 0 P ops Q' []=λa w=>wpAnyIn (fen x.r) 0 P .any ops Q (ops.size-(c+1)) (listed.setIfInBounds c true) a w:=by funext a w;simp only[wpOpsIn,hQ']
 rw[hfun]at hw;refine wpOpIn_congr (λe he=>?_) hw;rw[hQ'];cases e with|normal=>exact absurd rfl he|exit id=>rfl|goto l=>rfl|ret=>rfl|panic ch=>rfl|outgrown=>rfl
theorem awpg_seg[Adr]{lk:Nat->Option (List (AV×AV))}{c c':Nat}{ses:List SE}{t:St}(hcc:c<=c')(hc':c'<=ops.size)(hlk:∀l m,lk l=some m->∃y,alg s.lp l=some y/\y.mp=some (.map m))(hr:RunS (SL P nt ops s.nx lk) (numbered c ((ops.toList.drop c).take (c'-c))) (frGet s.fr) (alg s.hp) ses)(hback:backs 0 ops.toList=true)(hcut:cutB (masks ops.toList []) ops.size c'=true)(hpairs:pairsOk (masks ops.toList []) (List.replicate c seZ++ses) c'=true)(hfr:∀k,(apsT (frGet s.fr) ses k).Le (frGet t.fr k))(hhp:alg t.hp=apsH (alg s.hp) ses)(hnx:t.nx=s.nx+8*c')(hlp:t.lp=s.lp)(h:AWPG P nt ops c' K t):AWPG P nt ops c K s:=by intro x w0 w F φ a hf Q hQ listed hls hli;refine draw_seg hcc hc' hf.mem.heap hf.tmps rfl (λl m e=>by obtain⟨y,q1,q2⟩:=hlk l m e;obtain⟨k',es,c,hk2,h0,hr,hmr,-⟩:=(hf.mem.lps l y q1).2 _ q2;exact⟨k',es,c,hk2,hr,hmr⟩) hr x.r 0 hback hpairs (λi hi k hk=>by have :=mask_lt hback i k (by simpa using by omega) hk;omega) (cutB_ok hcut) hls hli ?_;intro a' w' φ' F' k1 k2 k3 k4;have hm:Mem w0 w' F' φ' ⟨t.fr,t.hp,s.nx+8*c',s.lp⟩:=hf.mem.step k4 (by rw[<-hhp]at k1;exact k1) rfl (by simp);refine h x w0 w' F' φ' a' ⟨?_,⟨k2.size,λk=>hfr k _ _ _ _ (k2.val k),k2.glob⟩,hf.env.mono k4.weak k3⟩ Q λe a2 w2 s2 φ2 F2 q1 q2 q3=>hQ e a2 w2 s2 φ2 F2 q1 (k4.weak.trans q2) q3;obtain⟨tf,th,tn,tl⟩:=t;simp only at hnx hlp;subst hnx hlp;exact hm
def AWPAny[Adr](P:Program)(nt:Nat)(ops:Array Oper)(fuel:Nat)(listed:Array Bool)(K:Exit->St->Prop)(s:St):Prop:=∀(x:Cx)(w0 w:World)(F:Nat->Prop)(φ:Emb)(a:Act),Fits x w0 w F φ nt a s->∀(Q:Exit->Act->World->Prop),(∀e a' w' s' φ' F',Fits x w0 w' F' φ' nt a' s'->GrowW w0 w F φ w' F' φ'->K e s'->Q e a' w')->wpAnyIn (fen x.r) 0 P .any ops Q fuel listed a w
theorem awpAny_zero[Adr]{listed:Array Bool}(hr:Region.ready .any ops listed=[])(h:K .normal s):AWPAny P nt ops 0 listed K s:=λx w0 w F φ a hf Q hQ=>⟨hr,hQ _ _ _ s φ F hf (GrowW.refl _ _ _ _) h⟩
theorem awpAny_step[Adr]{fuel:Nat}{listed:Array Bool}(hr:Region.ready .any ops listed=[]->K .normal s)(h:∀i,i∈Region.ready .any ops listed->AWPO P nt ops [i] (thenK (AWPAny P nt ops fuel (listed.setIfInBounds i true) K) K) s):AWPAny P nt ops (fuel+1) listed K s:=by
 intro x w0 w F φ a hf Q hQ;simp only[wpAnyIn];refine⟨λhnil=>hQ _ _ _ s φ F hf (GrowW.refl _ _ _ _) (hr hnil),λi hi=>?_⟩;obtain⟨Q',hQ'⟩:∃Q':Exit->Act->World->Prop,Q'=λe a w=>match e with|.normal=>wpAnyIn (fen x.r) 0 P .any ops Q fuel (listed.setIfInBounds i true) a w|e=>Q e a w:=⟨_,rfl⟩;have hw:=h i hi x w0 w F φ a hf Q' (λe a' w' s' φ' F' h1 h2 h3=>by rw[hQ'];cases e with|normal=>exact h3 x w0 w' F' φ' a' h1 Q (λe a2 w2 s2 φ2 F2 k1 k2 k3=>hQ e a2 w2 s2 φ2 F2 k1 (h2.trans k2) k3)|exit id=>exact hQ _ _ _ _ _ _ h1 h2 h3|goto l=>exact hQ _ _ _ _ _ _ h1 h2 h3|ret=>exact hQ _ _ _ _ _ _ h1 h2 h3|panic ch=>exact hQ _ _ _ _ _ _ h1 h2 h3|outgrown=>exact hQ _ _ _ _ _ _ h1 h2 h3);rw[wpOpsIn_cons]at hw;have hfun:wpOpsIn (fen x.r) 0 P ops Q' []=λa w=>wpAnyIn (fen x.r) 0 P .any ops Q fuel (listed.setIfInBounds i true) a w:=by funext a w;simp only[wpOpsIn,hQ']
 rw[hfun]at hw;refine wpOpIn_congr (λe he=>?_) hw;rw[hQ'];cases e with|normal=>exact absurd rfl he|exit id=>rfl|goto l=>rfl|ret=>rfl|panic ch=>rfl|outgrown=>rfl
theorem awpg_any[Adr]{c:Nat}(h:AWPAny P nt ops (ops.size-c) (doneTo ops.size c) K s):AWPG P nt ops c K s:=by
 intro x w0 w F φ a hf Q hQ listed hls hli
 have e:listed=doneTo ops.size c:=by
  apply Array.ext;.simp[doneTo,hls]
  .intro i h1 h2;have :=hli i (by omega);rw[Array.getD_eq_getD_getElem?,Array.getElem?_eq_getElem h1]at this;simp only[Option.getD_some]at this;simp only[doneTo,Array.getElem_map,Array.getElem_range];by_cases q:i<c;.rw[this.2 q];exact(Nat.ble_eq_true_of_le (show i+1<=c from q)).symm
   .have e1:listed[i]=false:=by cases hh:listed[i]with|false=>rfl|true=>exact absurd (this.1 hh) q
    rw[e1];have :Nat.blt i c=false:=by cases hh:Nat.blt i c with|false=>rfl|true=>exact absurd (Nat.le_of_ble_eq_true hh) q
    exact this.symm
 rw[e];exact h x w0 w F φ a hf Q hQ
end
end Go.AM
