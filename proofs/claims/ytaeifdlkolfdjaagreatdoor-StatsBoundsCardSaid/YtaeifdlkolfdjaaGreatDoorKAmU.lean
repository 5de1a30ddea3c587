/- Texts of the proof, joined by program. -/
import Derived.Test.YtaeifdlkolfdjaaGreatDoorKAmS
section
set_option linter.unusedSimpArgs false
set_option linter.unusedVariables false
namespace Go.AM
open Go Go.RowKit
variable{ε:Bool}
def AWPO[Adr](P:Program)(nt:Nat)(ops:Array Oper)(l:List Nat)(K:Exit->St->Prop)(s:St):Prop:=∀(x:Cx)(w0 w:World)(F:Nat->Prop)(φ:Emb)(a:Act),Fits x w0 w F φ nt a s->∀(Q:Exit->Act->World->Prop),(∀e a' w' s' φ' F',Fits x w0 w' F' φ' nt a' s'->GrowW w0 w F φ w' F' φ'->K e s'->Q e a' w')->wpOpsIn (fen x.r) 0 P ops Q l a w
def wants(nt:Nat)(ops:Array Oper)(o:Oper)(τ:Nat->AV):Bool:=match o.guard with|none=>true|some (j,want)=>match(ops[j]?).bind (·.dst)with|some d=>decide (d<nt)&&(match τ d with|.bool b=>b==want|_=>false)|none=>false
section
variable{P:Program}{nt:Nat}{K:Exit->St->Prop}{s:St}{ops:Array Oper}
theorem awp_ops[Adr]{id:Nat}(h:AWPO P nt ops (List.range ops.size) K s):AWP P nt (.region id ops false) K s:=by intro x w0 w F φ a hf;exact wpIn_region (h x w0 w F φ a hf _ λe a' w' s' φ' F' h1 h2 h3=>⟨s',φ',F',h1,h2,h3⟩)
theorem awpo_nil[Adr](h:K .normal s):AWPO P nt ops [] K s:=λ_ _ _ F φ _ hf _ hQ=>hQ _ _ _ s φ F hf (GrowW.refl _ _ _ _) h
theorem awpo_op[Adr]{i:Nat}{o:Oper}{rest:List Nat}{ans:Option (AV×List ABlk)}{se:SE}(hi:ops[i]?=some o)(hs:stepF ε P nt ops o ans s.nx (frGet s.fr) (alg s.hp)=some se)(hob:oblsHold P [se])(h:AWPO P nt ops rest K ⟨frPut s.fr se.d se.v,hsets s.hp se.wr,s.nx+8,s.lp⟩):AWPO P nt ops (i::rest) K s:=by intro x w0 w F φ a hf Q hQ;rw[wpOpsIn_cons];refine stepF_ok (U':=λb=>b<s.nx+8) hf.mem.heap hf.tmps rfl hi hs (λob e=>hob.get se (by simp) ob e) (λm hm=>by omega) (λb hb=>by omega) (λm hm=>by omega) x.r 0 ?_;intro a' w' φ' F' h1 h2 h3 g;refine h x w0 w' F' φ' a' ⟨hf.mem.step g (by rw[alg_hsets];exact h1) rfl (by simp),by rw[frGet_put];exact h2,hf.env.mono g.weak h3⟩ Q λe a2 w2 s2 φ2 F2 k1 k2 k3=>hQ e a2 w2 s2 φ2 F2 k1 (g.weak.trans k2) k3
theorem wanted_of[Adr]{x:Cx}{w0 w:World}{F:Nat->Prop}{φ:Emb}{a:Act}(hf:Fits x w0 w F φ nt a s){o:Oper}(h:wants nt ops o (frGet s.fr)=true):Region.wanted o (yielded ops a.tmps)=true:=by
 unfold wants at h;split at h;.rename_i hg;simp[Region.wanted,hg]
 .rename_i j want hg;split at h
  .rename_i d hj;simp only[Bool.and_eq_true,decide_eq_true_eq]at h;obtain⟨hdn,h⟩:=h;split at h
   .rename_i b hb;have hv:=hf.tmps.val d;rw[hb]at hv;simp only[VRel]at hv
    have hy:yielded ops a.tmps j=some b:=by
     unfold yielded;rw[hj];simp only[Option.bind_some];have :a.tmps[d]?=some (.bool b):=by rw[Array.getElem?_eq_getElem (by rw[hf.tmps.size];exact hdn)];rw[Array.getD_eq_getD_getElem?,Array.getElem?_eq_getElem (by rw[hf.tmps.size];exact hdn)]at hv;simpa using hv
     rw[this]
    simp only[Region.wanted,hg,hy];simpa using h
   .cases h
  .cases h
theorem ds_lt{o:Oper}(h:dstOk nt o=true):∀t,o.dst=some t->t<nt:=by intro t e;unfold dstOk at h;rw[e]at h;simpa using h
theorem put_defers(a:Act)(d:Option Nat)(v:Value):(a.put d v).defers=a.defers:=by cases d<;>rfl
end
end Go.AM
end
section
set_option linter.unusedSimpArgs false
set_option linter.unusedVariables false
namespace Go.AM
open Go Go.RowKit
section
variable{w0 w:World}{F:Nat->Prop}{φ:Emb}{s:St}
theorem Mem.putLoop[Adr]{k l:Nat}{rec:Loop}{x:LBlk}(h:Mem w0 w F φ s)(hl:alg s.lp l=some x)(hk:φ.loop l=some k)(hr:w.heap[k]?=some (.loop rec))(st:LoopState)(pe:Option Code):Mem w0 (w.putObj k (.loop {rec with state:=st,pending:=pe})) F φ {s with lp:=hset s.lp l {x with st:=st,pend:=pe}}/\GrowW w0 w F φ (w.putObj k (.loop {rec with state:=st,pending:=pe})) F φ:=by
 have hlt:k<w.heap.size:=(Array.getElem?_eq_some_iff.1 hr).1;have hx:=Ext0.put (o':=.loop {rec with state:=st,pending:=pe}) h.heap.fwk hr rfl;have hop:∀k',Opened w k'->Opened (w.putObj k (.loop {rec with state:=st,pending:=pe})) k':=λk' ho=>by unfold Opened;rw[World.putObj_heap_other (λe=>by subst e;unfold Opened at ho;rw[hr]at ho;cases ho)];exact ho
 have hg:GrowW w0 w F φ (w.putObj k (.loop {rec with state:=st,pending:=pe})) F φ:=by
  refine⟨Emb.le_refl φ,λ_ h=>h,λ_ h=>.inl h,hx,hop,λk' rec' hk'=>?_,λk' o hk' ho=>?_⟩
  .by_cases e:k'=k;.subst e;rw[hr]at hk';cases hk';exact⟨_,World.putObj_heap_same hlt,rfl⟩
   .exact⟨rec',by rw[World.putObj_heap_other e];exact hk',rfl⟩
  .exact⟨o,by rw[World.putObj_heap_other λe=>by subst e;rw[hr]at hk';cases hk';cases ho];exact hk',ho⟩
 have hmp:=(h.lps l x hl).isLoop hk hr;obtain⟨k0,rec0,h1,h2,h3,h4,h5,h6,h7,h8,h9,h10⟩:=(h.lps l x hl).1 hmp;rw[hk]at h1;cases h1;rw[hr]at h3;cases h3;refine⟨⟨h.heap.put hr rfl h2,λl' y hy=>?_,λl' k' e=>by rw[World.putObj_size];exact h.lused l' k' e,h.linj⟩,hg⟩;change alg (hset s.lp l {x with st:=st,pend:=pe}) l'=some y at hy;rw[alg_hset]at hy;by_cases e:l'=l;.subst e;rw[fupd_same]at hy;cases hy;exact RecL.recd ⟨k,_,hk,h2,World.putObj_heap_same hlt,rfl,rfl,h6,h7,h8,h9.monoW hg,hop _ h10⟩ hmp
 .rw[fupd_other _ _ _ _ e]at hy;refine(h.lps l' y hy).mono hg λk' o' e1 _ e2=>?_;rw[World.putObj_heap_other λe3=>?_];exact e2;rcases e1 with e1|⟨⟨es,c,rfl⟩,-⟩;.exact e (h.linj l' l k (by rw[e1,e3]) hk)
  .subst e3;rw[hr]at e2;cases e2
end
def frPuts(fr:List (Nat×AV)):List Nat->List AV->List (Nat×AV)|p::ps,v::vs=>frPuts ((p,v)::fr) ps vs|_,_=>fr
theorem puts_rel[Adr]{w:World}{F:Nat->Prop}{φ:Emb}{nt:Nat}:∀(ps:List Nat)(avs:List AV)(vs:List Value)(fr:List (Nat×AV))(tmps:Array Value),avs.length=ps.length->ps.all (λp=>decide (p<nt))=true->VRels w F φ avs vs->TRel w F φ (frGet fr) nt tmps->TRel w F φ (frGet (frPuts fr ps avs)) nt ((ps.zip vs).foldl (λtmps (t,a)=>tmps.setIfInBounds t a) tmps)|[],[],vs,fr,tmps,_,_,_,ht=>by simpa[frPuts]using ht|p::ps,v::avs,vs,fr,tmps,hl,hp,hv,ht=>by simp only[VRels]at hv;obtain⟨y,ys,rfl,h1,h2⟩:=hv;simp only[List.all_cons,Bool.and_eq_true,decide_eq_true_eq]at hp;simp only[frPuts,List.zip_cons_cons,List.foldl_cons];refine puts_rel ps avs ys ((p,v)::fr) _ (by simpa using hl) hp.2 h2 ?_;have :=ht.put (d:=some p) (λt e=>by cases e;exact hp.1) h1 (a:={tmps:=tmps,defers:=[]});rw[<-frGet_put]at this;exact this|[],_::_,_,_,_,hl,_,_,_=>by simp at hl|_::_,[],_,_,_,hl,_,_,_=>by simp at hl
def roundK(l:Nat)(N:Bool->St->Prop):Exit->St->Prop|.normal,s=>∃y,alg s.lp l=some y/\N true {s with lp:=hset s.lp l {y with st:=.ready,pend:=none}}|.ret,s=>∃y,alg s.lp l=some y/\N false {s with lp:=hset s.lp l {y with st:=.done,pend:=some .ret}}|.exit id,s=>∃y,alg s.lp l=some y/\N false {s with lp:=hset s.lp l {y with st:=.done,pend:=some (.exit id)}}|.goto t,s=>∃y,alg s.lp l=some y/\N false {s with lp:=hset s.lp l {y with st:=.done,pend:=some (.goto t)}}|_,_=>False
section
variable{P:Program}{nt:Nat}{K:Exit->St->Prop}{s:St}{ops:Array Oper}
theorem awpo_yield[Adr]{i:Nat}{o:Oper}{rest:List Nat}{f:Operand}{args:List Operand}{l:Nat}{x:LBlk}(hi:ops[i]?=some o)(hc:isCall o.op=some (f,args))(hw:wants nt ops o (frGet s.fr)=true)(hd:dstOk nt o=true)(hfv:evalO (frGet s.fr) f=.yld l)(hl:alg s.lp l=some x)(hmp:x.mp=none)(hlen:args.length=x.ps.length)(hps:x.ps.all (λp=>decide (p<x.nt))=true)(h:AWP P x.nt x.assign (thenK (λs1=>∃y,alg s1.lp l=some y/\y.st=.ready/\AWP P x.nt x.body (roundK l λb s2=>AWPO P nt ops rest K ⟨frPut s.fr o.dst (.bool b),s2.hp,s2.nx,s2.lp⟩) {s1 with lp:=hset s1.lp l {y with st:=.busy,pend:=y.pend}}) (λ_ _=>False)) ⟨frPuts x.fr x.ps (args.map (evalO (frGet s.fr))),s.hp,s.nx,s.lp⟩):AWPO P nt ops (i::rest) K s:=by
 intro cx w0 w F φ a hf Q hQ;rw[wpOpsIn_cons];unfold wpOpIn;simp only[hi];rw[if_pos (wanted_of hf hw)];refine⟨λ_ _=>trivial,?_⟩;unfold isCall at hc;split at hc;rotate_left;.cases hc
 rename_i c hop;split at hc;rotate_left;.cases hc
 rename_i f' hcal;simp only[Option.some.injEq,Prod.mk.injEq]at hc;obtain⟨rfl,rfl⟩:=hc;have hargs:=rels_map (eval_rel hf.tmps) c.args.toList;have hv:=eval_rel hf.tmps f';rw[hfv]at hv;simp only[VRel]at hv;obtain⟨k,hk,hvf⟩:=hv;obtain⟨k0,rec,h1,h2,h3,h4,h5,h6,h7,h8,h9,h10⟩:=(hf.mem.lps l x hl).1 hmp;rw[hk]at h1;cases h1;rw[show(fen cx.r).round=cx.r from rfl,Oper.semAt_eq cx.r _ _ (by rw[hop];intro c;simp)]
 have hsz:(c.args.map a.eval).size=rec.params.size:=by
  have :rec.params.size=x.ps.length:=by rw[<-h6];simp
  rw[this,<-hlen];simp
 have hrun:(execOp a.eval o).run P w=.ok (.round k rec.fn ((rec.params.zip (c.args.map a.eval)).foldl (λtmps (t,a)=>tmps.setIfInBounds t a) rec.tmps) rec.assign rec.body) w:=by unfold execOp;simp only[hop,Sem.run_bind,resolve,hcal,hvf,Deferred.ofValue,Sem.run_pure,Result.andThen_ok,invoke];rw[Array.empty_append];exact run_yield h3 hsz
 rw[hrun,Oper.uponIn_round];refine⟨λh=>by simp[fen,Fence.wide]at h,?_⟩;rw[h7,h8];refine roundIn_of_wpIn trivial ?_;have htm:TRel w F φ (frGet (frPuts x.fr x.ps (c.args.toList.map (evalO (frGet s.fr))))) x.nt ((rec.params.zip (c.args.map a.eval)).foldl (λtmps (t,a)=>tmps.setIfInBounds t a) rec.tmps):=by have :=puts_rel x.ps (c.args.toList.map (evalO (frGet s.fr))) (c.args.toList.map a.eval) x.fr rec.tmps (by simpa using hlen) hps hargs h9;rw[<-h6]at this⊢;rw[<-Array.foldl_toList,Array.toList_zip,Array.toList_map];exact this
 have hfits:Fits ⟨some k,w.heap.size,[]⟩ w0 w F φ x.nt {tmps:=(rec.params.zip (c.args.map a.eval)).foldl (λtmps (t,a)=>tmps.setIfInBounds t a) rec.tmps,defers:=[]} ⟨frPuts x.fr x.ps (c.args.toList.map (evalO (frGet s.fr))),s.hp,s.nx,s.lp⟩:=⟨⟨hf.mem.heap,hf.mem.lps,hf.mem.lused,hf.mem.linj⟩,htm,⟨⟨[],rfl,List.nodup_nil,λD hD=>by simp at hD⟩,λl0 hl0=>by cases hl0;exact⟨rec,h3,h10⟩,hf.mem.heap.below.size,Nat.le_refl _⟩⟩;refine wpIn_mono (h _ w0 w F φ _ hfits) ?_;rintro e a1 w1 ⟨s1,φ1,F1,g1,g2,g3⟩
 cases e with
  |exit id=>exact g3.elim
  |ret=>exact g3.elim
  |goto l=>exact g3.elim
  |panic ch=>exact g3.elim
  |outgrown=>exact g3.elim
  |normal=>
   obtain⟨y,hy,hrd,hbody⟩:=g3;have hk1:=g2.le.2 _ _ hk;obtain⟨recA,hA1,-⟩:=g2.lps k rec h3;have hmpA:=(g1.mem.lps l y hy).isLoop hk1 hA1;obtain⟨k1,rec1,q1,q2,q3,q4,q5,q6,q7,q8,q9,q10⟩:=(g1.mem.lps l y hy).1 hmpA;rw[hk1]at q1;cases q1;obtain⟨m1,m2⟩:=g1.mem.putLoop hy hk1 q3 .busy y.pend;refine⟨_,run_beginRound q3 (by rw[q4,hrd]),?_⟩;rw[show({rec1 with state:=.busy}:Loop)={rec1 with state:=.busy,pending:=y.pend}by rw[<-q5]];refine wpIn_mono (hbody ⟨some k,w.heap.size,[]⟩ w0 _ F1 φ1 a1 ⟨⟨m1.heap,m1.lps,m1.lused,m1.linj⟩,g1.tmps.monoW m2,g1.env.mono m2 rfl⟩) ?_;rintro e2 a2 w2 ⟨s2,φ2,F2,t1,t2,t3⟩;have fin:∀(jump:Option Code)(z:LBlk),alg s2.lp l=some z->AWPO P nt ops rest K ⟨frPut s.fr o.dst (.bool jump.isNone),s2.hp,s2.nx,hset s2.lp l {z with st:=if jump.isNone then .ready else .done,pend:=jump}⟩->∃v w',(Instr.endRound k jump).run P w2=.ok v w'/\wpOpsIn (fen cx.r) 0 P ops Q rest (a.put o.dst v) w':=by intro jump z hz hN;have hk2:=t2.le.2 _ _ hk1;obtain⟨recB,hB1,-⟩:=(m2.trans t2).lps k rec1 q3;have hmpB:=(t1.mem.lps l z hz).isLoop hk2 hB1;obtain⟨k2,rec2,u1,u2,u3,u4,u5,u6,u7,u8,u9,u10⟩:=(t1.mem.lps l z hz).1 hmpB;rw[hk2]at u1;cases u1;obtain⟨m3,m4⟩:=t1.mem.putLoop hz hk2 u3 (if jump.isNone then .ready else .done) jump;have hg:=(g2.trans m2).trans (t2.trans m4);refine⟨_,_,run_endRound jump u3,hN cx w0 _ F2 φ2 _ ⟨⟨m3.heap,m3.lps,m3.lused,m3.linj⟩,?_,hf.env.mono hg (put_defers _ _ _)⟩ Q λe a2 w2 s2 φ2 F2 p1 p2 p3=>hQ e a2 w2 s2 φ2 F2 p1 (hg.trans p2) p3⟩;rw[frGet_put];exact(hf.tmps.monoW hg).put (ds_lt hd) (by simp[VRel])
   cases e2 with|normal=>obtain⟨z,hz,hN⟩:=t3;exact fin none z hz hN|ret=>obtain⟨z,hz,hN⟩:=t3;exact fin (some .ret) z hz hN|exit id=>obtain⟨z,hz,hN⟩:=t3;exact fin (some (.exit id)) z hz hN|goto t=>obtain⟨z,hz,hN⟩:=t3;exact fin (some (.goto t)) z hz hN|panic ch=>exact t3.elim|outgrown=>exact t3.elim
end
end Go.AM
end
section
set_option linter.unusedSimpArgs false
set_option linter.unusedVariables false
namespace Go.AM
open Go Go.RowKit
theorem HRel.allocO[Adr]{w0 w:World}{F:Nat->Prop}{φ φ':Emb}{U U':Nat->Prop}{η:Heap}(h:HRel w0 w F φ U η)(hb:φ'.blk=φ.blk)(hle:φ.le φ')(hU:∀b,U b->U' b)(o:Obj):HRel w0 (w.alloc o) F φ' U' η:=by have hx:=ext_alloc h.fb o;refine⟨h.below.alloc h.below.size o,λb hb'=>Nat.lt_of_lt_of_le (h.fb b hb') hx.size,λb g x e=>hU b (h.used b g x (by rw[hb]at e;exact e)),λb g cb sz e=>Nat.lt_of_lt_of_le (h.inb b g cb sz (by rw[hb]at e;exact e)) hx.size,λb x hbx=>?_,λb x hbx g hg=>by rw[hb];exact h.gen b x hbx g hg,λb b' x y cb sz sz' hx hy e1 e2=>h.inj b b' x y cb sz sz' hx hy (by rw[hb]at e1;exact e1) (by rw[hb]at e2;exact e2),λb o' hb' ho=>h.fwk b o' hb' (by rw[heap_alloc_old w o b (h.fb b hb')]at ho;exact ho)⟩;obtain⟨pl,p1,p2,p3⟩:=h.blk b x hbx;refine⟨pl,by rw[hb];exact p1,p2,p3.mono hx.toExt0 hle λcb e=>?_⟩;subst e;exact heap_alloc_old _ _ _ (h.inb _ _ _ _ p1)
def Emb.addLoop(φ:Emb)(l k:Nat):Emb:={φ with loop:=λl'=>if l'=l then some k else φ.loop l'}
section
variable{w0 w:World}{F:Nat->Prop}{φ:Emb}{s:St}
theorem Mem.allocO[Adr](h:Mem w0 w F φ s)(o:Obj):Mem w0 (w.alloc o) F φ s/\GrowW w0 w F φ (w.alloc o) F φ:=by
 have hx:=ext_alloc h.heap.fb o;have old:∀(k:Nat)(p:Obj),w.heap[k]?=some p->(w.alloc o).heap[k]?=some p:=λk p hk=>by rw[heap_alloc_old w o k (Array.getElem?_eq_some_iff.1 hk).1];exact hk
 have hg:GrowW w0 w F φ (w.alloc o) F φ:=⟨Emb.le_refl φ,λ_ h=>h,λ_ h=>.inl h,hx.toExt0,λk hk=>old k _ hk,λk rec hk=>⟨rec,old k _ hk,rfl⟩,λk o' hk ho=>⟨o',old k _ hk,ho⟩⟩;exact⟨⟨h.heap.allocO rfl (Emb.le_refl φ) (λ_ h=>h) o,λl x hl=>(h.lps l x hl).mono hg λk o _ _ e=>old k _ e,λl k e=>⟨(h.lused l k e).1,Nat.lt_of_lt_of_le (h.lused l k e).2 hx.toExt0.size⟩,h.linj⟩,hg⟩
theorem Mem.allocLoop[Adr](h:Mem w0 w F φ s){nt:Nat}{tmps:Array Value}(ht:TRel w F φ (frGet s.fr) nt tmps)(fn:FuncId)(ps:Array Nat)(assign body:Code){D:Nat}(hD:Opened w D):Mem w0 (w.alloc (.loop {state:=.ready,pending:=none,fn,tmps,params:=ps,assign,body,defers:=D})) F (φ.addLoop s.nx w.heap.size) ⟨[],s.hp,s.nx+1,(s.nx,⟨s.fr,nt,ps.toList,assign,body,.ready,none,none⟩)::s.lp⟩/\GrowW w0 w F φ (w.alloc (.loop {state:=.ready,pending:=none,fn,tmps,params:=ps,assign,body,defers:=D})) F (φ.addLoop s.nx w.heap.size):=by
 obtain⟨o,ho⟩:∃o:Loop,o={state:=.ready,pending:=none,fn,tmps,params:=ps,assign,body,defers:=D}:=⟨_,rfl⟩;rw[<-ho];have hx:=ext_alloc h.heap.fb (.loop o);have old:∀(k:Nat)(p:Obj),w.heap[k]?=some p->(w.alloc (.loop o)).heap[k]?=some p:=λk p hk=>by rw[heap_alloc_old w _ k (Array.getElem?_eq_some_iff.1 hk).1];exact hk
 have hno:φ.loop s.nx=none:=by cases e:φ.loop s.nx with|none=>rfl|some k=>have :=(h.lused _ _ e).1;omega
 have hle:φ.le (φ.addLoop s.nx w.heap.size):=by refine⟨λ_ _ _ h=>h,λl k hk=>?_⟩;simp only[Emb.addLoop];rw[if_neg (λe=>by subst e;rw[hno]at hk;cases hk)];exact hk
 have hg:GrowW w0 w F φ (w.alloc (.loop o)) F (φ.addLoop s.nx w.heap.size):=⟨hle,λ_ h=>h,λ_ h=>.inl h,hx.toExt0,λk hk=>old k _ hk,λk rec hk=>⟨rec,old k _ hk,rfl⟩,λk o' hk ho=>⟨o',old k _ hk,ho⟩⟩
 have cases':∀l k,(φ.addLoop s.nx w.heap.size).loop l=some k->(l=s.nx/\k=w.heap.size)\/φ.loop l=some k:=λl k e=>by
  simp only[Emb.addLoop]at e;split at e;.rename_i q;cases e;exact .inl ⟨q,rfl⟩
  .exact .inr e
 refine⟨⟨h.heap.allocO (φ':=φ.addLoop s.nx w.heap.size) rfl hle (λb hb=>Nat.lt_succ_of_lt hb) _,λl x hl=>?_,λl k e=>?_,λl l' k e1 e2=>?_⟩,hg⟩
 .simp only[alg]at hl;split at hl
  .rename_i e;subst e;cases hl;have e1:o.tmps=tmps:=by rw[ho]
   have e2:o.defers=D:=by rw[ho]
   refine RecL.recd ?_ rfl;refine⟨w.heap.size,o,by simp[Emb.addLoop],h.heap.below.size,heap_alloc_new _ _,by rw[ho],by rw[ho],by rw[ho],by rw[ho],by rw[ho],?_,?_⟩;.rw[e1];exact ht.monoW hg
   .rw[e2];exact hg.opn _ hD
  .exact(h.lps l x hl).mono hg λk o _ _ e=>old k _ e
 .have :=hx.toExt0.size;rcases cases' l k e with⟨rfl,rfl⟩|q;.exact⟨Nat.lt_succ_self _,by simp⟩
  .have :=h.lused _ _ q;simp only;omega
 .rcases cases' l k e1 with⟨rfl,rfl⟩|q
  .rcases cases' l' _ e2 with⟨rfl,-⟩|q';.rfl
   .have :=(h.lused _ _ q').2;omega
  .rcases cases' l' k e2 with⟨rfl,rfl⟩|q';.have :=(h.lused _ _ q).2;omega
   .exact h.linj _ _ _ q q'
end
section
variable{P:Program}{nt:Nat}{K:Exit->St->Prop}{s:St}
def behindK[Adr](P:Program)(nt:Nat)(K:Exit->St->Prop)(s:St):AV->St->Prop:=λ_ s2=>∃y,alg s2.lp s.nx=some y/\(y.st==.busy)=false/\match y.pend with|none=>K .normal ⟨s.fr,s2.hp,s2.nx,keepHp (s.lp.map (·.1)) s2.lp⟩|some c=>AWP P nt c K ⟨s.fr,s2.hp,s2.nx,keepHp (s.lp.map (·.1)) s2.lp⟩
theorem awp_rangeFunc[Adr]{g:Operand}{ps:Array Tmp}{assign body:Code}{fid:FuncId}{first cap:List AV}(hg:evalO (frGet s.fr) g=.fn fid first cap)(h:EWP P fid (first++[.yld s.nx]++cap) (behindK P nt K s) ⟨[],s.hp,s.nx+1,(s.nx,⟨s.fr,nt,ps.toList,assign,body,.ready,none,none⟩)::s.lp⟩):AWP P nt (.rangeFunc g ps assign body) K s:=by
 intro cx w0 w F φ a hf;refine wpIn_rangeFunc λfn _=>?_;have hv:=eval_rel hf.tmps g;rw[hg]at hv;simp only[VRel]at hv;obtain⟨fs,cs,hvf,v1,v2⟩:=hv;obtain⟨hent,hcalls⟩:=h
 have key:∀(wD:World)(D:Nat)(mark:List Deferred),Mem w0 wD F φ s->GrowW w0 w F φ wD F φ->Opened wD D->Env cx w0 wD {a with defers:=mark++a.defers}->(Instr.enterLoop fn a.tmps ps assign body (fen cx.r).round).run P w=.ok (wD.heap.size,mark) (wD.alloc (.loop {state:=.ready,pending:=none,fn,tmps:=a.tmps,params:=ps,assign,body,defers:=D}))->∃(l:Nat) (mark:List Deferred) (w₁:World) (d:Deferred) (w₁':World) (f:FuncId) (args:Array Value) (w₂:World),(Instr.enterLoop fn a.tmps ps assign body (fen cx.r).round).run P w=.ok (l,mark) w₁/\(resolve a.eval (rangeCall g l) 0).run P w₁=.ok d w₁'/\(∀f',Target.leads P w₁' d.target d.args=some f'->(fen cx.r).fn f')/\(invoke d.target d.args).run P w₁'=.ok (.enter f args) w₂/\((fen cx.r).depth.isSome=true->1<=0)/\CallsIn (fen cx.r) (0-1) P f args w₂ (rangePost (fen cx.r) 0 P l (λe a' w'=>∃s' φ' F',Fits cx w0 w' F' φ' nt a' s'/\GrowW w0 w F φ w' F' φ'/\K e s') {a with defers:=mark++a.defers}):=by
  intro wD D mark hm hg1 hD henv hrun;obtain⟨m1,m2⟩:=hm.allocLoop (hf.tmps.monoW hg1) fn ps assign body hD;have hg2:=hg1.trans m2;obtain⟨W,hW⟩:∃W,wD.alloc (.loop {state:=.ready,pending:=none,fn,tmps:=a.tmps,params:=ps,assign,body,defers:=D})=W:=⟨_,rfl⟩;rw[hW]at m1 m2 hg2 hrun;have hargs:VRels W F (φ.addLoop s.nx wD.heap.size) (first++[.yld s.nx]++cap) (fs++[.func (.yield wD.heap.size) #[] #[]]++cs):=by refine((VRels.mono hg2.ext hg2.sub hg2.le _ _ v1).append ?_).append (VRels.mono hg2.ext hg2.sub hg2.le _ _ v2);simp only[VRels,VRel];exact⟨_,[],rfl,⟨_,by simp[Emb.addLoop],rfl⟩,rfl⟩
  have hc:=calls_fen (hcalls w0 W F _ _ m1 (hf.tmps.glob.mono hg2.ext hg2.sub) hargs) cx.r (0-1);refine⟨wD.heap.size,mark,W,{target:=.fn (.func fid) ⟨cs⟩,args:=⟨fs⟩++#[.func (.yield wD.heap.size) #[] #[]]},W,fid,⟨fs++[.func (.yield wD.heap.size) #[] #[]]++cs⟩,W,hrun,?_,λ_ _=>trivial,?_,λh=>by simp[fen,Fence.wide]at h,?_⟩;.simp only[resolve,hvf,Deferred.ofValue,Sem.run_pure];simp[Act.eval]
  .simp only[invoke];rw[hent];congr 2;apply Array.ext';simp
  .refine CallsIn.mono hc ?_;rintro en w3 ⟨v,r,s2,φ2,F2,rfl,k1,k2,k3,y,hy,hst,hfin⟩;have hl2:=k2.le.2 s.nx wD.heap.size (by simp[Emb.addLoop]);obtain⟨recA,hA1,-⟩:=k2.lps wD.heap.size {state:=.ready,pending:=none,fn,tmps:=a.tmps,params:=ps,assign,body,defers:=D} (by rw[<-hW];exact heap_alloc_new _ _);obtain⟨k,rec,q1,q2,q3,q4,q5,q6,q7,q8,q9,q10⟩:=(k1.lps _ y hy).1 ((k1.lps _ y hy).isLoop hl2 hA1);rw[hl2]at q1;cases q1;obtain⟨m3,m4⟩:=k1.putLoop hy hl2 q3 .exhausted y.pend;have hgt:=(hg2.trans k2).trans m4
   have hfits:Fits cx w0 (w3.putObj wD.heap.size (.loop {rec with state:=.exhausted,pending:=y.pend})) F2 φ2 nt {a with defers:=mark++a.defers} ⟨s.fr,s2.hp,s2.nx,keepHp (s.lp.map (·.1)) s2.lp⟩:=by
    refine⟨⟨m3.heap,λl x hl=>?_,m3.lused,m3.linj⟩,hf.tmps.monoW hgt,henv.mono ((m2.trans k2).trans m4) rfl⟩;have hne:l≠s.nx:=by obtain⟨x0,hx0⟩:=alg_mem l _ (alg_keep_in _ _ _ _ hl);obtain⟨k',e,-⟩:=(hm.lps l x0 hx0).at;have :=(hm.lused _ _ e).1;omega
    refine m3.lps l x ?_;show alg (hset s2.lp s.nx _) l=some x;rw[alg_hset,fupd_other _ _ _ _ hne];exact alg_keepHp _ _ _ _ hl
   have hend:=run_endLoop (P:=P) q3 (by rw[q4];intro e;rw[e]at hst;cases hst);rw[show({rec with state:=.exhausted}:Loop)={rec with state:=.exhausted,pending:=y.pend}by rw[<-q5],q5]at hend;refine⟨y.pend,_,hend,?_⟩;split;.rename_i e;rw[e]at hfin hfits hgt⊢;exact⟨_,φ2,F2,hfits,hgt,hfin⟩
   .rename_i c e;rw[e]at hfin hfits hgt;rw[e];refine wpIn_mono (hfin cx w0 _ F2 φ2 _ hfits) ?_;rintro e2 a3 w4 ⟨s4,φ4,F4,t1,t2,t3⟩;exact⟨s4,φ4,F4,t1,hgt.trans t2,t3⟩
 cases hr:cx.r with
  |none=>
   obtain⟨m1,m2⟩:=hf.mem.allocO (.deferred (some []));rw[hr]at key;refine key _ w.heap.size [markOf w.heap.size] m1 m2 (heap_alloc_new _ _) ?_ ?_
   .have he:=hf.env.mono m2 (a':=a) rfl;obtain⟨Ds,d1,d2,d3⟩:=hf.env.dfr;refine⟨⟨w.heap.size::Ds,by simp[d1],List.nodup_cons.2 ⟨λhm=>?_,d2⟩,λD hD=>?_⟩,he.rnd,he.lo⟩;.have :w.heap.size<w.heap.size:=(Array.getElem?_eq_some_iff.1 (d3 _ hm).2).1;omega
    .rcases List.mem_cons.1 hD with e|e;.subst e;exact⟨hf.env.lo.2,heap_alloc_new _ _⟩
     .exact⟨(d3 D e).1,m2.opn _ (d3 D e).2⟩
   .have :=run_enterLoop_outer (P:=P) (w:=w) fn a.tmps ps assign body;rw[show(fen none).round=none from rfl,this];simp[markOf]
  |some l0=>
   obtain⟨rec0,r1,r2⟩:=hf.env.rnd l0 hr;rw[hr]at key;refine key w rec0.defers [] hf.mem (GrowW.refl _ _ _ _) r2 ?_ ?_;.simpa using hf.env
   .exact run_enterLoop_inner r1 fn a.tmps ps assign body
end
end Go.AM
end
