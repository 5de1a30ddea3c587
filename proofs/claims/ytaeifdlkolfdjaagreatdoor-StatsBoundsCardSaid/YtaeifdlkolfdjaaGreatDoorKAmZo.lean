/- Texts of the proof, joined by program. -/
import Derived.Test.YtaeifdlkolfdjaaGreatDoorKAmZn
section
set_option linter.unusedSimpArgs false
set_option linter.unusedVariables false
namespace Go.AM
open Go Go.RowKit
section
variable{P:Program}{nt:Nat}{K:Exit->St->Prop}{s:St}
def LoopIn(F:Fence)(n:Nat)(P:Program)(c:Code)(Q:Exit->Act->World->Prop)(a:Act)(w:World):Prop:=∀(b:Frame)(k:List Item)(cs:List Frame),b.roundOf=F.round->F.fn b.fn->F.room (cs.length+1+n)->∃e a' w',Q e a' w'/\ArrivesIn (Machine.fenced P F) P (lone (b.atR a (.code c::.inLoop c::k)) cs w) b k cs e a' w'
theorem loopIn_wp{F:Fence}{n:Nat}{c:Code}{Q:Exit->Act->World->Prop}{a:Act}{w:World}(h:LoopIn F n P c Q a w):(Code.loop c).wpIn F n P Q a w:=by intro b k cs hro hb hr;obtain⟨e,a',w',hq,harr⟩:=h b k cs hro hb hr;exact⟨e,a',w',hq,.of_steps (.one (fenced_calm hb hr rfl) stepR_loop) harr⟩
theorem loopIn_step{F:Fence}{n:Nat}{c:Code}{Q:Exit->Act->World->Prop}{a:Act}{w:World}(h:c.wpIn F n P (Exit.then (LoopIn F n P c Q) Q) a w):LoopIn F n P c Q a w:=by intro b k cs hro hb hr;obtain⟨e,a1,w1,hq,harr⟩:=h b (.inLoop c::k) cs hro hb hr;have out:∀e',e'≠Exit.normal->Q e' a1 w1->ArrivesIn (Machine.fenced P F) P (lone (b.atR a (.code c::.inLoop c::k)) cs w) b (.inLoop c::k) cs e' a1 w1->∃e a' w',Q e a' w'/\ArrivesIn (Machine.fenced P F) P (lone (b.atR a (.code c::.inLoop c::k)) cs w) b k cs e a' w':=λe' hne hq' harr'=>⟨e',a1,w1,hq',harr'.pass (x:=.inLoop c) rfl (λ_ _=>.inl hne)⟩;cases e with|normal=>obtain⟨e2,a2,w2,hq2,harr2⟩:=hq b k cs hro hb hr;exact⟨e2,a2,w2,hq2,.of_steps (StepsIn.trans harr (.one (fenced_calm hb hr rfl) stepR_inLoop)) harr2⟩|exit id=>exact out _ (by simp) hq harr|goto l=>exact out _ (by simp) hq harr|ret=>exact out _ (by simp) hq harr|panic ch=>exact out _ (by simp) hq harr|outgrown=>exact out _ (by simp) hq harr
def AWPL[Adr](P:Program)(nt:Nat)(c:Code)(K:Exit->St->Prop)(s:St):Prop:=∀(x:Cx)(w0 w:World)(F:Nat->Prop)(φ:Emb)(a:Act),Fits x w0 w F φ nt a s->LoopIn (fen x.r) 0 P c (λe a' w'=>∃s' φ' F',Fits x w0 w' F' φ' nt a' s'/\GrowW w0 w F φ w' F' φ'/\K e s') a w
theorem awp_loopL[Adr]{c:Code}(h:AWPL P nt c K s):AWP P nt (.loop c) K s:=λx w0 w F φ a hf=>loopIn_wp (h x w0 w F φ a hf)
theorem LoopIn.mono{F:Fence}{n:Nat}{c:Code}{Q Q':Exit->Act->World->Prop}{a:Act}{w:World}(h:LoopIn F n P c Q a w)(hq:∀e a w,Q e a w->Q' e a w):LoopIn F n P c Q' a w:=λb k cs hro hb hr=>let⟨e,a',w',q,r⟩:=h b k cs hro hb hr;⟨e,a',w',hq _ _ _ q,r⟩
theorem awpl_step[Adr]{c:Code}(h:AWP P nt c (thenK (AWPL P nt c K) K) s):AWPL P nt c K s:=by intro cx w0 w F φ a hf;refine loopIn_step (wpIn_mono (h cx w0 w F φ a hf) ?_);rintro e a1 w1 ⟨s1,φ1,F1,h1,h2,h3⟩;cases e with|normal=>refine(h3 cx w0 w1 F1 φ1 a1 h1).mono ?_;rintro e a2 w2 ⟨s2,φ2,F2,k1,k2,k3⟩;exact⟨s2,φ2,F2,k1,h2.trans k2,k3⟩|exit id=>exact⟨s1,φ1,F1,h1,h2,h3⟩|goto l=>exact⟨s1,φ1,F1,h1,h2,h3⟩|ret=>exact⟨s1,φ1,F1,h1,h2,h3⟩|panic c=>exact⟨s1,φ1,F1,h1,h2,h3⟩|outgrown=>exact⟨s1,φ1,F1,h1,h2,h3⟩
end
structure Sim(s t:St):Prop where
 fr:frGet s.fr=frGet t.fr
 hp:alg s.hp=alg t.hp
 nx:s.nx=t.nx
 lp:s.lp=t.lp
theorem Sim.fits[Adr]{x:Cx}{w0 w:World}{F:Nat->Prop}{φ:Emb}{nt:Nat}{a:Act}{s t:St}(e:Sim s t)(h:Fits x w0 w F φ nt a s):Fits x w0 w F φ nt a t:=by obtain⟨sf,sh,sn,sl⟩:=s;obtain⟨tf,th,tn,tl⟩:=t;obtain⟨e1,e2,e3,e4⟩:=e;simp only at e1 e2 e3 e4;subst e3 e4;obtain⟨⟨m1,m2,m3,m4⟩,h2,h3⟩:=h;simp only at m1 m2 m3 m4 h2;rw[e2]at m1;rw[e1]at h2;exact⟨⟨m1,m2,m3,m4⟩,h2,h3⟩
theorem awp_sim[Adr]{P:Program}{nt:Nat}{K:Exit->St->Prop}{s t:St}{c:Code}(e:Sim s t)(h:AWP P nt c K t):AWP P nt c K s:=λx w0 w F φ a hf=>h x w0 w F φ a (e.fits hf)
theorem awpo_sim[Adr]{P:Program}{nt:Nat}{K:Exit->St->Prop}{s t:St}{ops:Array Oper}{l:List Nat}(e:Sim s t)(h:AWPO P nt ops l K t):AWPO P nt ops l K s:=λx w0 w F φ a hf=>h x w0 w F φ a (e.fits hf)
def sitRec(u:List UInt8)(p:Nat):LBlk:=⟨[],0,[],.skip,.skip,.ready,none,some (.sit u p)⟩
section
variable{w0 w:World}{F:Nat->Prop}{φ:Emb}{s:St}
theorem run_getObj_sit{P:Program}{l:Nat}{w:World}{b:ByteArray}{q:Nat}(h:w.heap[l]?=some (.stringIter b q)):(getObj l).run P w=.ok (.stringIter b q) w:=by simp[getObj,Sem.run,h]
theorem run_setObj_sit{P:Program}{l:Nat}{w:World}{b:ByteArray}{q:Nat}(o:Obj)(h:w.heap[l]?=some (.stringIter b q)):(setObj l o).run P w=.ok () (w.putObj l o):=by simp[setObj,Sem.run,h,World.putObj]
theorem putObj_self{w:World}{k:Nat}{o:Obj}(h:w.heap[k]?=some o):w.putObj k o=w:=by
 have :w.heap.setIfInBounds k o=w.heap:=by
  obtain⟨h1,h2⟩:=Array.getElem?_eq_some_iff.1 h;apply Array.ext;.simp
  .intro i h3 h4;rw[Array.getElem_setIfInBounds];split;.rename_i e;subst e;exact h2.symm
   .rfl
 unfold World.putObj;rw[this]
theorem Mem.allocSit[Adr](h:Mem w0 w F φ s)(u:List UInt8)(q:Nat):Mem w0 (w.alloc (.stringIter ⟨u.toArray⟩ q)) F (φ.addLoop s.nx w.heap.size) ⟨s.fr,s.hp,s.nx+8,(s.nx,sitRec u q)::s.lp⟩/\GrowW w0 w F φ (w.alloc (.stringIter ⟨u.toArray⟩ q)) F (φ.addLoop s.nx w.heap.size):=by
 obtain⟨ob,hob⟩:∃ob:Obj,ob=.stringIter ⟨u.toArray⟩ q:=⟨_,rfl⟩;rw[<-hob];have hx:=ext_alloc h.heap.fb ob;have old:∀(k:Nat)(p:Obj),w.heap[k]?=some p->(w.alloc ob).heap[k]?=some p:=λk p hk=>by rw[heap_alloc_old w _ k (Array.getElem?_eq_some_iff.1 hk).1];exact hk
 have hno:φ.loop s.nx=none:=by cases e:φ.loop s.nx with|none=>rfl|some k=>have :=(h.lused _ _ e).1;omega
 have hle:φ.le (φ.addLoop s.nx w.heap.size):=by refine⟨λ_ _ _ h=>h,λl k hk=>?_⟩;simp only[Emb.addLoop];rw[if_neg (λe=>by subst e;rw[hno]at hk;cases hk)];exact hk
 have hg:GrowW w0 w F φ (w.alloc ob) F (φ.addLoop s.nx w.heap.size):=⟨hle,λ_ h=>h,λ_ h=>.inl h,hx.toExt0,λk hk=>old k _ hk,λk rec hk=>⟨rec,old k _ hk,rfl⟩,λk o hk ho=>⟨o,old k _ hk,ho⟩⟩
 have cases':∀l k,(φ.addLoop s.nx w.heap.size).loop l=some k->(l=s.nx/\k=w.heap.size)\/φ.loop l=some k:=λl k e=>by
  simp only[Emb.addLoop]at e;split at e;.rename_i q;cases e;exact .inl ⟨q,rfl⟩
  .exact .inr e
 refine⟨⟨h.heap.allocO (φ':=φ.addLoop s.nx w.heap.size) rfl hle (λb hb=>Nat.lt_of_lt_of_le hb (Nat.le_add_right _ _)) _,λl x hl=>?_,λl k e=>?_,λl l' k e1 e2=>?_⟩,hg⟩
 .simp only[alg]at hl;split at hl;.rename_i e;subst e;cases hl;exact RecO.recd (m:=.sit u q) ⟨w.heap.size,by simp[Emb.addLoop],h.heap.below.size,by rw[heap_alloc_new,hob]⟩ rfl
  .exact(h.lps l x hl).mono hg λk o _ _ e=>old k _ e
 .have :=hx.toExt0.size;rcases cases' l k e with⟨rfl,rfl⟩|q;.exact⟨by simp only;omega,by simp⟩
  .have :=h.lused _ _ q;simp only;omega
 .rcases cases' l k e1 with⟨rfl,rfl⟩|q
  .rcases cases' l' _ e2 with⟨rfl,-⟩|q';.rfl
   .have :=(h.lused _ _ q').2;omega
  .rcases cases' l' k e2 with⟨rfl,rfl⟩|q';.have :=(h.lused _ _ q).2;omega
   .exact h.linj _ _ _ q q'
theorem Mem.putSit[Adr]{k l:Nat}{x:LBlk}{u:List UInt8}{q q':Nat}(h:Mem w0 w F φ s)(hl:alg s.lp l=some x)(hk:φ.loop l=some k)(hr:w.heap[k]?=some (.stringIter ⟨u.toArray⟩ q))(h0:w0.heap.size<=k):Mem w0 (w.putObj k (.stringIter ⟨u.toArray⟩ q')) F φ {s with lp:=hset s.lp l {x with mp:=some (.sit u q')}}/\GrowW w0 w F φ (w.putObj k (.stringIter ⟨u.toArray⟩ q')) F φ:=by
 have hlt:k<w.heap.size:=(Array.getElem?_eq_some_iff.1 hr).1;have hx:=Ext0.put (o':=.stringIter ⟨u.toArray⟩ q') h.heap.fwk hr rfl
 have hg:GrowW w0 w F φ (w.putObj k (.stringIter ⟨u.toArray⟩ q')) F φ:=by
  refine⟨Emb.le_refl φ,λ_ h=>h,λ_ h=>.inl h,hx,λk' ho=>?_,λk' rec' hk'=>?_,λk' o1 hk' ho=>?_⟩;.unfold Opened;rw[World.putObj_heap_other (λe=>by subst e;unfold Opened at ho;rw[hr]at ho;cases ho)];exact ho
  .exact⟨rec',by rw[World.putObj_heap_other λe=>by subst e;rw[hr]at hk';cases hk'];exact hk',rfl⟩
  .by_cases e:k'=k;.subst e;exact⟨_,World.putObj_heap_same hlt,rfl⟩
   .exact⟨o1,by rw[World.putObj_heap_other e];exact hk',ho⟩
 refine⟨⟨h.heap.put hr rfl h0,λl' y hy=>?_,λl' k' e=>by rw[World.putObj_size];exact h.lused l' k' e,h.linj⟩,hg⟩;change alg (hset s.lp l {x with mp:=some (.sit u q')}) l'=some y at hy;rw[alg_hset]at hy;by_cases e:l'=l;.subst e;rw[fupd_same]at hy;cases hy;exact RecO.recd (m:=.sit u q') ⟨k,hk,h0,World.putObj_heap_same hlt⟩ rfl
 .rw[fupd_other _ _ _ _ e]at hy;refine(h.lps l' y hy).mono hg λk' o' e1 _ e2=>?_;rw[World.putObj_heap_other λe3=>?_];exact e2;rcases e1 with e1|⟨⟨es,c,rfl⟩,-⟩;.exact e (h.linj l' l k (by rw[e1,e3]) hk)
  .subst e3;rw[hr]at e2;cases e2
end
section
variable{P:Program}{nt:Nat}{K:Exit->St->Prop}{s:St}{ops:Array Oper}
theorem awpo_pur[Adr]{l:List Nat}{t:Nat}{v:AV}{rd:List Nat}(hp:pur (alg s.hp) 60 (frGet s.fr t)=some (v,rd))(h:AWPO P nt ops l K ⟨(t,v)::s.fr,hsets s.hp (freezeAll (alg s.hp) rd),s.nx,s.lp⟩):AWPO P nt ops l K s:=by
 intro cx w0 w F φ a hf Q hQ;have hh:=hf.mem.heap;have hfz:=hh.freeze rd;have hF:∀b,F b->Lent F φ (alg s.hp) rd b:=λb hb=>.inl hb
 have hg:GrowW w0 w F φ w (Lent F φ (alg s.hp) rd) φ:=⟨Emb.le_refl φ,hF,λb hb=>by
  rcases hb with hb|⟨n,-,blk,hb,sz,e⟩;.exact .inl hb
  .obtain⟨pl,p1,-,p3⟩:=hh.blk n blk hb;rw[e]at p1;cases p1;exact .inr p3.1,Ext0.refl F w,λ_ h=>h,λ_ rec h=>⟨rec,h,rfl⟩,λ_ o h e=>⟨o,h,e⟩⟩;have hv:=pur_ok hh 60 _ _ _ _ hp (hf.tmps.val t);have ht:=hf.tmps.monoW hg;refine h cx w0 w _ φ a ⟨⟨by rw[alg_hsets];exact hfz,λl x hx=>(hf.mem.lps l x hx).mono hg λ_ _ _ _ h=>h,hf.mem.lused,hf.mem.linj⟩,⟨ht.size,λt'=>?_,ht.glob⟩,hf.env.mono hg rfl⟩ Q λe a2 w2 s2 φ2 F2 k1 k2 k3=>hQ e a2 w2 s2 φ2 F2 k1 (hg.trans k2) k3;rw[frGet_cons];split;.rename_i e;subst e;exact VRel.mono (Ext0.refl _ w) (λ_ h=>h) (Emb.zero_le φ) _ _ hv
 .exact ht.val t'
end
def sitNext(u:List UInt8)(p:Nat):Option (AV×Nat):=match u[p]? with|none=>some (.tup [.bool false],p)|some c=>if c.toNat<128 then some (.tup [.bool true,.int .i64 p,.int .i32 c.toNat],p+1)else none
section
variable{P:Program}{nt:Nat}{K:Exit->St->Prop}{s:St}{ops:Array Oper}
theorem awpo_rangeS[Adr]{i:Nat}{o:Oper}{rest:List Nat}{t:TypeId}{x:Operand}{u:List UInt8}(hi:ops[i]?=some o)(hop:o.op=.range t x)(hw:wants nt ops o (frGet s.fr)=true)(hd:dstOk nt o=true)(hu:P.underlying t=some .string)(hx:evalO (frGet s.fr) x=.str u)(h:AWPO P nt ops rest K ⟨frPut s.fr o.dst (.itr s.nx),s.hp,s.nx+8,(s.nx,sitRec u 0)::s.lp⟩):AWPO P nt ops (i::rest) K s:=by
 intro cx w0 w F φ a hf Q hQ;rw[wpOpsIn_cons];unfold wpOpIn;simp only[hi];rw[if_pos (wanted_of hf hw)];refine⟨λ_ _=>trivial,?_⟩;rw[show(fen cx.r).round=cx.r from rfl,Oper.semAt_eq cx.r _ _ (by rw[hop];intro c;simp)];have e1:=eval_rel hf.tmps x;rw[hx]at e1;simp only[VRel]at e1;have hrun:(execOp a.eval o).run P w=.ok (.value (.pointer (some ⟨w.heap.size,0,none⟩))) (w.alloc (.stringIter ⟨u.toArray⟩ 0)):=by unfold execOp;simp only[hop,Instr.range,Sem.run_bind,run_underlying hu,Result.andThen_ok,e1,Sem.run_pure];rfl
 rw[hrun,Oper.uponIn_value];obtain⟨m1,m2⟩:=hf.mem.allocSit u 0;refine h cx w0 _ F _ _ ⟨⟨m1.heap,m1.lps,m1.lused,m1.linj⟩,?_,hf.env.mono m2 (put_defers _ _ _)⟩ Q λe a2 w2 s2 φ2 F2 g1 g2 g3=>hQ e a2 w2 s2 φ2 F2 g1 (m2.trans g2) g3;rw[frGet_put];exact(hf.tmps.monoW m2).put (ds_lt hd) (by simp only[VRel];exact⟨_,by simp[Emb.addLoop],rfl⟩)
theorem awpo_nextS[Adr]{i:Nat}{o:Oper}{rest:List Nat}{x:Operand}{l:Nat}{y:LBlk}{u:List UInt8}{p p':Nat}{v:AV}(hi:ops[i]?=some o)(hop:o.op=.next x true)(hw:wants nt ops o (frGet s.fr)=true)(hd:dstOk nt o=true)(hx:evalO (frGet s.fr) x=.itr l)(hl:alg s.lp l=some y)(hm:y.mp=some (.sit u p))(hv:sitNext u p=some (v,p'))(h:AWPO P nt ops rest K ⟨frPut s.fr o.dst v,s.hp,s.nx+8,hset s.lp l {y with mp:=some (.sit u p')}⟩):AWPO P nt ops (i::rest) K s:=by
 intro cx w0 w F φ a hf Q hQ;rw[wpOpsIn_cons];unfold wpOpIn;simp only[hi];rw[if_pos (wanted_of hf hw)];refine⟨λ_ _=>trivial,?_⟩;rw[show(fen cx.r).round=cx.r from rfl,Oper.semAt_eq cx.r _ _ (by rw[hop];intro c;simp)];have e1:=eval_rel hf.tmps x;rw[hx]at e1;simp only[VRel]at e1;obtain⟨k,hk1,e1⟩:=e1;obtain⟨k',hk,h0,hr⟩:=(hf.mem.lps l y hl).2 _ hm;rw[hk1]at hk;cases hk;obtain⟨m1,m2⟩:=hf.mem.putSit (q':=p') hl hk1 hr h0
 obtain⟨r,hrun,hrr⟩:∃r,((execOp a.eval o).run P w=.ok (.value r) (w.putObj k (.stringIter ⟨u.toArray⟩ p')))/\ ∀w' F' φ',VRel w' F' φ' v r:=by
  unfold sitNext at hv;have hsz:(⟨u.toArray⟩:ByteArray).size=u.length:=size_mk u;split at hv
  .rename_i hn;cases hv;have hge:¬p<(⟨u.toArray⟩:ByteArray).size:=by rw[hsz];have :=List.getElem?_eq_none_iff.1 hn;omega
   refine⟨.tuple #[.bool false],?_,λw' F' φ'=>by simp only[VRel];exact⟨[.bool false],rfl,by simp only[VRels,VRel];exact⟨_,_,rfl,rfl,rfl⟩⟩⟩;have hself:w.putObj k (.stringIter ⟨u.toArray⟩ p)=w:=putObj_self hr;rw[hself];unfold execOp;simp only[hop,Instr.next,e1,Sem.run_bind,run_getObj_sit hr,Result.andThen_ok,hge,if_false,Sem.run_pure]
  .rename_i c hc;split at hv
   .rename_i hlt;cases hv;have hlt2:p<(⟨u.toArray⟩:ByteArray).size:=by rw[hsz];exact(List.getElem?_eq_some_iff.1 hc).1
    have hdec:Utf8.decode ⟨u.toArray⟩ p=(c.toNat,1):=by
     have hg:(⟨u.toArray⟩:ByteArray).get! (p+0)=c:=by obtain⟨l1,l2⟩:=List.getElem?_eq_some_iff.1 hc;show u.toArray[p+0]! =c;rw[Nat.add_zero,getElem!_pos u.toArray p (by simpa using l1)];simpa using l2
     simp only[Utf8.decode,hg];rw[if_pos (by omega)]
    refine⟨.tuple #[.bool true,.int .i64 p,.int .i32 c.toNat],?_,λw' F' φ'=>by simp only[VRel];exact⟨[.bool true,.int .i64 p,.int .i32 c.toNat],rfl,by simp only[VRels,VRel];exact⟨_,_,rfl,rfl,_,_,rfl,rfl,_,_,rfl,rfl,rfl⟩⟩⟩;unfold execOp;simp only[hop,Instr.next,e1,Sem.run_bind,run_getObj_sit hr,Result.andThen_ok,hlt2,if_true,hdec,run_setObj_sit _ hr,Sem.run_pure,goInt]
   .cases hv
 rw[hrun,Oper.uponIn_value];refine h cx w0 _ F _ _ ⟨⟨m1.heap.weakenU λb hb=>Nat.lt_of_lt_of_le hb (Nat.le_add_right _ _),m1.lps,λl k e=>⟨Nat.lt_of_lt_of_le (m1.lused l k e).1 (Nat.le_add_right _ _),(m1.lused l k e).2⟩,m1.linj⟩,?_,hf.env.mono m2 (put_defers _ _ _)⟩ Q λe a2 w2 s2 φ2 F2 g1 g2 g3=>hQ e a2 w2 s2 φ2 F2 g1 (m2.trans g2) g3;rw[frGet_put];exact(hf.tmps.monoW m2).put (ds_lt hd) (hrr _ _ _)
theorem awpo_invX[Adr]{i:Nat}{o:Oper}{rest:List Nat}{fid:FuncId}{args:List AV}(hi:ops[i]?=some o)(hc:isInv P o.op (frGet s.fr)=some (.fn fid [] [],args))(hw:wants nt ops o (frGet s.fr)=true)(hd:dstOk nt o=true)(h:EWX P fid args (afterX P nt ops rest o.dst K s) s):AWPO P nt ops (i::rest) K s:=by
 have hent:=h.1;unfold isInv at hc;split at hc;rotate_left;.cases hc
 rename_i c hop;split at hc;rotate_left;.cases hc
 rename_i rcv name hcal;split at hc;rotate_left;.cases hc
 rename_i f x hrec;simp only[Option.some.injEq,Prod.mk.injEq,AV.fn.injEq,and_true]at hc;obtain⟨rfl,rfl⟩:=hc;refine awpo_enter hi hw hd (by rw[hop];intro c;simp) (λw F φ a he=>?_) h;unfold recvO at hrec;split at hrec;rotate_left;.cases hrec
 rename_i t x' hev;split at hrec;rotate_left;.cases hrec
 rename_i fm hm;simp only[Option.some.injEq,Prod.mk.injEq]at hrec;obtain⟨rfl,rfl⟩:=hrec;have hrv:=he rcv;rw[hev]at hrv;simp only[VRel]at hrv;obtain⟨y,hy,hxy⟩:=hrv;refine⟨y::c.args.toList.map a.eval,?_,by simp only[VRels];exact⟨y,_,rfl,hxy,rels_map he c.args.toList⟩⟩;unfold execOp;simp only[hop,Sem.run_bind,resolve,hcal,Sem.run_pure,Result.andThen_ok,invoke,hy];have e0:(#[Value.iface t y]++c.args.map a.eval)[0]?=some (.iface t y):=by rw[<-Array.getElem?_toList,Array.toList_append];rfl
 have e1:(#[Value.iface t y]++c.args.map a.eval).extract 1 (#[Value.iface t y]++c.args.map a.eval).size=c.args.map a.eval:=by apply Array.ext';simp[Array.toList_extract];exact List.take_of_length_le (by simp)
 simp only[e0,e1,callMethod,Sem.run_bind,Result.andThen_ok];have hn:∃k,P.types.size+Made.depth=k+1:=Nat.exists_eq_succ_of_ne_zero (by simp[Made.depth]);obtain⟨k,hk⟩:=hn;simp only[run_program,Result.andThen_ok,hk,method_ok hm k y w];rw[hent];congr 2;apply Array.ext';simp
end
section
variable{P:Program}{nt:Nat}{K K':Exit->St->Prop}{s:St}
theorem awpo_mono[Adr]{ops:Array Oper}{l:List Nat}(h:AWPO P nt ops l K s)(hk:∀e s,K e s->K' e s):AWPO P nt ops l K' s:=λx w0 w F φ a hf Q hQ=>h x w0 w F φ a hf Q λe a' w' s' φ' F' h1 h2 h3=>hQ e a' w' s' φ' F' h1 h2 (hk _ _ h3)
end
end Go.AM
end
section
set_option linter.unusedSimpArgs false
set_option linter.unusedVariables false
namespace Go.AM
open Go Go.RowKit
def mitRec(l0:Nat)(left:ML)(cur:Option (AV×AV)):LBlk:=⟨[],0,[],.skip,.skip,.ready,none,some (.mit l0 left cur)⟩
section
variable{w0 w:World}{F:Nat->Prop}{φ:Emb}{s:St}
theorem run_getObj_mit{P:Program}{l:Nat}{w:World}{b:Option Nat}{si la:Nat}{se:Array Nat}(h:w.heap[l]?=some (.mapIter b si se la)):(getObj l).run P w=.ok (.mapIter b si se la) w:=by simp[getObj,Sem.run,h]
theorem run_setObj_mit{P:Program}{l:Nat}{w:World}{b:Option Nat}{si la:Nat}{se:Array Nat}(o:Obj)(h:w.heap[l]?=some (.mapIter b si se la)):(setObj l o).run P w=.ok () (w.putObj l o):=by simp[setObj,Sem.run,h,World.putObj]
theorem Mem.allocMit[Adr](h:Mem w0 w F φ s){l0 bm c:Nat}{es:Array MapEntry}{m:ML}(hb:φ.loop l0=some bm)(hr:w.heap[bm]?=some (.map es c))(hm:MRel w F m.a es.toList)(hbo:BornOk es.toList c):Mem w0 (w.alloc (.mapIter (some bm) c #[] c)) F (φ.addLoop s.nx w.heap.size) ⟨s.fr,s.hp,s.nx+8,(s.nx,mitRec l0 m none)::s.lp⟩/\GrowW w0 w F φ (w.alloc (.mapIter (some bm) c #[] c)) F (φ.addLoop s.nx w.heap.size):=by
 obtain⟨ob,hob⟩:∃ob:Obj,ob=.mapIter (some bm) c #[] c:=⟨_,rfl⟩;rw[<-hob];have hx:=ext_alloc h.heap.fb ob;have old:∀(k:Nat)(p:Obj),w.heap[k]?=some p->(w.alloc ob).heap[k]?=some p:=λk p hk=>by rw[heap_alloc_old w _ k (Array.getElem?_eq_some_iff.1 hk).1];exact hk
 have hno:φ.loop s.nx=none:=by cases e:φ.loop s.nx with|none=>rfl|some k=>have :=(h.lused _ _ e).1;omega
 have hle:φ.le (φ.addLoop s.nx w.heap.size):=by refine⟨λ_ _ _ h=>h,λl k hk=>?_⟩;simp only[Emb.addLoop];rw[if_neg (λe=>by subst e;rw[hno]at hk;cases hk)];exact hk
 have hg:GrowW w0 w F φ (w.alloc ob) F (φ.addLoop s.nx w.heap.size):=⟨hle,λ_ h=>h,λ_ h=>.inl h,hx.toExt0,λk hk=>old k _ hk,λk rec hk=>⟨rec,old k _ hk,rfl⟩,λk o hk ho=>⟨o,old k _ hk,ho⟩⟩
 have cases':∀l k,(φ.addLoop s.nx w.heap.size).loop l=some k->(l=s.nx/\k=w.heap.size)\/φ.loop l=some k:=λl k e=>by
  simp only[Emb.addLoop]at e;split at e;.rename_i q;cases e;exact .inl ⟨q,rfl⟩
  .exact .inr e
 refine⟨⟨h.heap.allocO (φ':=φ.addLoop s.nx w.heap.size) rfl hle (λb hb=>Nat.lt_of_lt_of_le hb (Nat.le_add_right _ _)) _,λl x hl=>?_,λl k e=>?_,λl l' k e1 e2=>?_⟩,hg⟩
 .simp only[alg]at hl;split at hl
  .rename_i e;subst e;cases hl;refine RecO.recd (m:=.mit l0 m none) ⟨w.heap.size,bm,es,c,c,#[],c,by simp[Emb.addLoop],h.heap.below.size,by rw[heap_alloc_new,hob],hle.2 _ _ hb,old _ _ hr,hbo,Nat.le_refl _,Nat.le_refl _,?_,λkv e=>by cases e⟩ rfl;have :(es.toList.filter λe=>!(#[]:Array Nat).contains e.born)=es.toList:=List.filter_eq_self.2 λx _=>by simp
   rw[this];exact hm.mono hx.toExt0 λ_ h=>h
  .exact(h.lps l x hl).mono hg λk o _ _ e=>old k _ e
 .have :=hx.toExt0.size;rcases cases' l k e with⟨rfl,rfl⟩|q;.exact⟨by simp only;omega,by simp⟩
  .have :=h.lused _ _ q;simp only;omega
 .rcases cases' l k e1 with⟨rfl,rfl⟩|q
  .rcases cases' l' _ e2 with⟨rfl,-⟩|q';.rfl
   .have :=(h.lused _ _ q').2;omega
  .rcases cases' l' k e2 with⟨rfl,rfl⟩|q';.have :=(h.lused _ _ q).2;omega
   .exact h.linj _ _ _ q q'
theorem Mem.same[Adr]{w1:World}(h:Mem w0 w F φ s)(hh:w1.heap=w.heap)(hb:Below w0.heap.size w0 w1):Mem w0 w1 F φ s/\GrowW w0 w F φ w1 F φ:=by have hx:Ext0 F w w1:=⟨by rw[hh];exact Nat.le_refl _,λb _=>by rw[hh],λb x hx=>by rw[shape_of_heap (w:=w) (by rw[hh])];exact hx⟩;have hg:GrowW w0 w F φ w1 F φ:=⟨Emb.le_refl φ,λ_ h=>h,λ_ h=>.inl h,hx,λk hk=>by unfold Opened at hk⊢;rw[hh];exact hk,λk rec hk=>⟨rec,by rw[hh];exact hk,rfl⟩,λk o hk ho=>⟨o,by rw[hh];exact hk,ho⟩⟩;exact⟨⟨h.heap.heap_same hh hb,λl x hl=>(h.lps l x hl).mono hg λk o _ _ e=>by rw[hh];exact e,λl k e=>by rw[hh];exact h.lused l k e,h.linj⟩,hg⟩
theorem Mem.putMit[Adr]{k l l0 bm c si la:Nat}{se se':Array Nat}{es:Array MapEntry}{x:LBlk}{left:ML}{cur:Option (AV×AV)}(h:Mem w0 w F φ s)(hl:alg s.lp l=some x)(hk:φ.loop l=some k)(hr:w.heap[k]?=some (.mapIter (some bm) si se la))(h0:w0.heap.size<=k)(hb:φ.loop l0=some bm)(hrb:w.heap[bm]?=some (.map es c))(hbo:BornOk es.toList si)(hsc:si<=c)(hm:MRel w F left.a (es.toList.filter λe=>!se'.contains e.born))(hc:∀kv,cur=some kv->∃e,e∈es.toList/\se'.back?=some e.born/\VRel w F Emb.zero kv.1 e.key/\VRel w F Emb.zero kv.2 e.val):Mem w0 (w.putObj k (.mapIter (some bm) si se' c)) F φ {s with lp:=hset s.lp l {x with mp:=some (.mit l0 left cur)}}/\GrowW w0 w F φ (w.putObj k (.mapIter (some bm) si se' c)) F φ:=by
 have hlt:k<w.heap.size:=(Array.getElem?_eq_some_iff.1 hr).1;have hx:=Ext0.put (o':=.mapIter (some bm) si se' c) h.heap.fwk hr rfl
 have hg:GrowW w0 w F φ (w.putObj k (.mapIter (some bm) si se' c)) F φ:=by
  refine⟨Emb.le_refl φ,λ_ h=>h,λ_ h=>.inl h,hx,λk' ho=>?_,λk' rec' hk'=>?_,λk' o1 hk' ho=>?_⟩;.unfold Opened;rw[World.putObj_heap_other (λe=>by subst e;unfold Opened at ho;rw[hr]at ho;cases ho)];exact ho
  .exact⟨rec',by rw[World.putObj_heap_other λe=>by subst e;rw[hr]at hk';cases hk'];exact hk',rfl⟩
  .by_cases e:k'=k;.subst e;exact⟨_,World.putObj_heap_same hlt,rfl⟩
   .exact⟨o1,by rw[World.putObj_heap_other e];exact hk',ho⟩
 refine⟨⟨h.heap.put hr rfl h0,λl' y hy=>?_,λl' k' e=>by rw[World.putObj_size];exact h.lused l' k' e,h.linj⟩,hg⟩;change alg (hset s.lp l {x with mp:=some (.mit l0 left cur)}) l'=some y at hy;rw[alg_hset]at hy;by_cases e:l'=l
 .subst e;rw[fupd_same]at hy;cases hy;refine RecO.recd (m:=.mit l0 left cur) ⟨k,bm,es,c,si,se',c,hk,h0,World.putObj_heap_same hlt,hb,?_,hbo,hsc,hsc,hm.mono hx (λ_ h=>h),λkv e=>?_⟩ rfl;.rw[World.putObj_heap_other λe=>by subst e;rw[hr]at hrb;cases hrb];exact hrb
  .obtain⟨e0,q2,q3,q4,q5⟩:=hc kv e;exact⟨rfl,e0,q2,q3,VRel.mono hx (λ_ h=>h) (Emb.le_refl _) _ _ q4,VRel.mono hx (λ_ h=>h) (Emb.le_refl _) _ _ q5⟩
 .rw[fupd_other _ _ _ _ e]at hy;refine(h.lps l' y hy).mono hg λk' o' e1 _ e2=>?_;rw[World.putObj_heap_other λe3=>?_];exact e2;rcases e1 with e1|⟨⟨es,c,rfl⟩,-⟩;.exact e (h.linj l' l k (by rw[e1,e3]) hk)
  .subst e3;rw[hr]at e2;cases e2
end
theorem run_next_at[Adr]{P:Program}{w:World}(ty:TypeId){k bm since last clock:Nat}{seen:Array Nat}{es:Array MapEntry}(hk:w.heap[k]?=some (.mapIter (some bm) since seen last))(hb:w.heap[bm]?=some (.map es clock))(hold:∀x∈es.toList,x.born<since)(hsc:since<=last):((es.toList.filter λe=>!seen.contains e.born)=[]/\(Instr.next (.pointer (some ⟨k,0,none⟩)) false ty).run P w=.ok (.tuple #[.bool false]) w)\/ ∃(j:Nat) (e:MapEntry) (w1:World),(es.toList.filter λe=>!seen.contains e.born)[j]?=some e/\(w1=w\/w1=w.drew)/\(Instr.next (.pointer (some ⟨k,0,none⟩)) false ty).run P w=.ok (.tuple #[.bool true,e.key,e.val]) (w1.putObj k (.mapIter (some bm) since (seen.push e.born) clock)):=by
 have htest:(!seen.isEmpty&&!es.isEmpty&&es.all (λx=>decide (x.born>=last)))=false:=by
  cases he:es.isEmpty with
   |true=>simp
   |false=>
    have hall:es.all (λx=>decide (x.born>=last))=false:=by
     rw[Bool.eq_false_iff];intro h;rw[Array.all_eq_true_iff_forall_mem]at h
     have h0:0<es.size:=by
      rcases Nat.eq_zero_or_pos es.size with h0|h0;.simp[Array.isEmpty,h0]at he
      .exact h0
     have hm:es[0]∈es:=Array.getElem_mem h0;have h1:=h _ hm;have h2:=hold es[0] (by simp);simp at h1;omega
    simp[hall]
 have hL0:(es.toList.filter λe=>!seen.contains e.born)=(es.filter λe=>!seen.contains e.born).toList:=by rw[Array.toList_filter]
 rw[hL0];simp only[Instr.next,Sem.run_bind,run_getObj_mit hk,Result.andThen_ok,run_getObj_mp hb,htest,Bool.false_eq_true,if_false];have hmem:∀x∈(Array.filter (λe=>!seen.contains e.born) es).toList,x.born<since:=λx hx=>hold x (by simp at hx⊢;exact hx.1);generalize Array.filter (λe=>!seen.contains e.born) es=L at hmem⊢;have e1:L.filter (λx=>decide (x.born<since))=L:=Array.filter_eq_self.2 (λx hx=>by simpa using hmem x (by simpa using hx));have e2:L.filter (λx=>decide (x.born>=since))=#[]:=by rw[Array.filter_eq_empty_iff];intro x hx;have :=hmem x (by simpa using hx);simp;omega
 simp only[e1,e2,Array.append_empty];by_cases h0:L.size=0;.left;have :L=#[]:=Array.eq_empty_of_size_eq_zero h0;subst this;refine⟨rfl,?_⟩;simp[choose,Sem.run,Question.forced]
 .right;have hne:L.isEmpty=false:=by simp[Array.isEmpty,h0]
  simp only[hne,Bool.false_eq_true,if_false,Array.empty_append,Array.size_map]
  have hch:∃(j:Nat) (w1:World),j<L.size/\(w1=w\/w1=w.drew)/\(choose (Question.mapNext L.size)).run P w=.ok j w1:=by
   by_cases hf:L.size<=1;.exact⟨0,w,by omega,.inl rfl,by simp[choose,Sem.run,Question.forced,hf]⟩
   .exact⟨_,w.drew,Nat.mod_lt _ (by omega),.inr rfl,by simp only[choose,Sem.run,Question.forced,decide_eq_true_eq,hf,if_false,Question.cut];rfl⟩
  obtain⟨j,w1,hj,hal,hrun⟩:=hch;refine⟨j,L[j],w1,by simp[hj],hal,?_⟩;have hk1:w1.heap[k]?=some (.mapIter (some bm) since seen last):=by rcases hal with rfl|rfl<;>exact hk
  simp only[hrun,Result.andThen_ok,Array.getElem?_map,Array.getElem?_eq_getElem hj,Option.map_some,Sem.run_bind,run_setObj_mit _ hk1,Sem.run_pure]
theorem filter_out{es:List MapEntry}{b:Nat}:∀{j:Nat},(es.map (·.born)).Nodup->(es.map (·.born))[j]?=some b->(es.filter λe=>!(e.born==b))=es.eraseIdx j:=by
 induction es with
  |nil=>intro j _ h;simp at h
  |cons e es ih=>
   intro j hn hj;rw[List.map_cons,List.nodup_cons]at hn
   cases j with
    |zero=>simp only[List.map_cons,List.getElem?_cons_zero,Option.some.injEq]at hj;subst hj;rw[List.filter_cons];simp only[beq_self_eq_true,Bool.not_true,Bool.false_eq_true,if_false,List.eraseIdx_cons_zero];refine List.filter_eq_self.2 λx hx=>?_;simp only[Bool.not_eq_true',beq_eq_false_iff_ne];intro e2;exact hn.1 (List.mem_map.2 ⟨x,hx,e2⟩)
    |succ j=>
     simp only[List.map_cons,List.getElem?_cons_succ]at hj;have hne:(e.born==b)=false:=by rw[beq_eq_false_iff_ne];rintro rfl;exact hn.1 (List.mem_of_getElem? hj)
     rw[List.filter_cons,hne,List.eraseIdx_cons_succ,<-ih hn.2 hj];simp
theorem find_stamp{e:MapEntry}:∀{l:List MapEntry},(l.map (·.born)).Nodup->e∈l->l.find? (·.born==e.born)=some e
 |x::l,hn,he=>by
  have hn':x.born∉l.map (·.born)/\(l.map (·.born)).Nodup:=List.nodup_cons.1 hn;rcases List.mem_cons.1 he with rfl|h;.simp
  .have hx:(x.born==e.born)=false:=by rw[beq_eq_false_iff_ne];intro e2;exact hn'.1 (e2▸List.mem_map.2 ⟨e,h,rfl⟩)
   rw[List.find?_cons,hx];exact find_stamp hn'.2 h
theorem MRel.at[Adr]{w:World}{F:Nat->Prop}:∀{l:List (AV×AV)}{es:List MapEntry}{j:Nat}{e:MapEntry},MRel w F l es->es[j]?=some e->∃kv,l[j]?=some kv/\VRel w F Emb.zero kv.1 e.key/\VRel w F Emb.zero kv.2 e.val|[],es,j,e,h,hj=>by simp only[MRel]at h;subst h;simp at hj|(k,v)::l,es,0,e,h,hj=>by simp only[MRel]at h;obtain⟨e0,es',rfl,h1,h2,h3⟩:=h;simp at hj;subst hj;exact⟨(k,v),rfl,h1,h2⟩|(k,v)::l,es,j+1,e,h,hj=>by simp only[MRel]at h;obtain⟨e0,es',rfl,h1,h2,h3⟩:=h;simp at hj;obtain⟨kv,q1,q2⟩:=MRel.at h3 hj;exact⟨kv,by simpa using q1,q2⟩
theorem encM_get{k:CT}{v:VT}{xs:List (k.T×v.T)}{j:Nat}{kv:AV×AV}(h:(encM k v xs)[j]?=some kv):∃a,xs[j]?=some a/\kv=(k.av a.1,v.av a.2):=by unfold encM at h;rw[List.getElem?_map]at h;obtain⟨a,h1,h2⟩:=Option.map_eq_some_iff.1 h;exact⟨a,h1,h2.symm⟩
theorem encM_drop{k:CT}{v:VT}:∀(xs:List (k.T×v.T))(j:Nat),encM k v (dropAt xs j)=dropAt (encM k v xs) j|[],_=>rfl|_::_,0=>rfl|a::l,j+1=>congrArg ((k.av a.1,v.av a.2):: ·) (encM_drop l j)
section
variable{P:Program}{nt:Nat}{K:Exit->St->Prop}{s:St}{ops:Array Oper}
theorem awpo_rangeM[Adr]{i:Nat}{o:Oper}{rest:List Nat}{t kt et:TypeId}{x:Operand}{l0:Nat}{y:LBlk}{ob:Ob}{m:ML}(hi:ops[i]?=some o)(hop:o.op=.range t x)(hw:wants nt ops o (frGet s.fr)=true)(hd:dstOk nt o=true)(hu:P.underlying t=some (.map kt et))(hx:evalO (frGet s.fr) x=.mp l0)(hl:alg s.lp l0=some y)(hm:y.mp=some ob)(hob:obMp ob=some m.a)(h:AWPO P nt ops rest K ⟨frPut s.fr o.dst (.itr s.nx),s.hp,s.nx+8,(s.nx,mitRec l0 m none)::s.lp⟩):AWPO P nt ops (i::rest) K s:=by
 intro cx w0 w F φ a hf Q hQ;rw[wpOpsIn_cons];unfold wpOpIn;simp only[hi];rw[if_pos (wanted_of hf hw)];refine⟨λ_ _=>trivial,?_⟩;rw[show(fen cx.r).round=cx.r from rfl,Oper.semAt_eq cx.r _ _ (by rw[hop];intro c;simp)];have e1:=eval_rel hf.tmps x;rw[hx]at e1;simp only[VRel]at e1;obtain⟨bm,hb,e1⟩:=e1;obtain⟨bm',es,c,hb2,h0,hr,hmr,hbo⟩:=RecO.mp hob ((hf.mem.lps l0 y hl).2 _ hm);rw[hb]at hb2;cases hb2;have hrun:(execOp a.eval o).run P w=.ok (.value (.pointer (some ⟨w.heap.size,0,none⟩))) (w.alloc (.mapIter (some bm) c #[] c)):=by unfold execOp;simp only[hop,Instr.range,Sem.run_bind,run_underlying hu,Result.andThen_ok,e1,run_getObj_mp hr,Sem.run_pure];rfl
 rw[hrun,Oper.uponIn_value];obtain⟨m1,m2⟩:=hf.mem.allocMit hb hr hmr hbo;refine h cx w0 _ F _ _ ⟨⟨m1.heap,m1.lps,m1.lused,m1.linj⟩,?_,hf.env.mono m2 (put_defers _ _ _)⟩ Q λe a2 w2 s2 φ2 F2 g1 g2 g3=>hQ e a2 w2 s2 φ2 F2 g1 (m2.trans g2) g3;rw[frGet_put];exact(hf.tmps.monoW m2).put (ds_lt hd) (by simp only[VRel];exact⟨_,by simp[Emb.addLoop],rfl⟩)
theorem awpo_nextM[Adr]{i:Nat}{o:Oper}{rest:List Nat}{x:Operand}{l l0:Nat}{y:LBlk}{left:ML}{cur:Option (AV×AV)}(hi:ops[i]?=some o)(hop:o.op=.next x false)(hw:wants nt ops o (frGet s.fr)=true)(hd:dstOk nt o=true)(hx:evalO (frGet s.fr) x=.itr l)(hl:alg s.lp l=some y)(hm:y.mp=some (.mit l0 left cur))(he:left.a=[]->AWPO P nt ops rest K ⟨frPut s.fr o.dst (.tup [.bool false]),s.hp,s.nx+8,s.lp⟩)(h:∀j kv,left.a[j]?=some kv->∃left':ML,left'.a=dropAt left.a j/\AWPO P nt ops rest K ⟨frPut s.fr o.dst (.tup [.bool true,kv.1,kv.2]),s.hp,s.nx+8,hset s.lp l {y with mp:=some (.mit l0 left' (some kv))}⟩):AWPO P nt ops (i::rest) K s:=by
 intro cx w0 w F φ a hf Q hQ;rw[wpOpsIn_cons];unfold wpOpIn;simp only[hi];rw[if_pos (wanted_of hf hw)];refine⟨λ_ _=>trivial,?_⟩;rw[show(fen cx.r).round=cx.r from rfl,Oper.semAt_eq cx.r _ _ (by rw[hop];intro c;simp)];have e1:=eval_rel hf.tmps x;rw[hx]at e1;simp only[VRel]at e1;obtain⟨k,hk1,e1⟩:=e1;obtain⟨k',bm,es,c,si,se,la,hk,h0,hr,hb,hrb,hbo,hsc,hsi,hmr,hcur⟩:=(hf.mem.lps l y hl).2 _ hm;rw[hk1]at hk;cases hk;have hex:∀{v:Value}{w':World},(Instr.next (.pointer (some ⟨k,0,none⟩)) false o.type).run P w=.ok v w'->(execOp a.eval o).run P w=.ok (.value v) w':=λ{v w'} hv=>by unfold execOp;simp only[hop,e1,Sem.run_bind,hv,Result.andThen_ok,Sem.run_pure]
 rcases run_next_at (P:=P) o.type hr hrb hbo.2 hsc with⟨hnil,hrun⟩|⟨j,e,w1,hj,hw1,hrun⟩
 .rw[hex hrun,Oper.uponIn_value];rw[hnil]at hmr;have hl0:left.a=[]:=by generalize left.a=L at hmr;cases L with|nil=>rfl|cons p q=>obtain⟨p1,p2⟩:=p;simp only[MRel]at hmr;obtain⟨_,_,q1,-⟩:=hmr;cases q1
  refine he hl0 cx w0 _ F _ _ ⟨⟨hf.mem.heap.weakenU λb hb=>Nat.lt_of_lt_of_le hb (Nat.le_add_right _ _),hf.mem.lps,λl k e=>⟨Nat.lt_of_lt_of_le (hf.mem.lused l k e).1 (Nat.le_add_right _ _),(hf.mem.lused l k e).2⟩,hf.mem.linj⟩,?_,hf.env.mono (GrowW.refl w0 w F φ) (put_defers _ _ _)⟩ Q hQ;rw[frGet_put];exact hf.tmps.put (ds_lt hd) (by simp only[VRel];exact⟨[.bool false],rfl,by simp only[VRels,VRel];exact⟨_,_,rfl,rfl,rfl⟩⟩)
 .rw[hex hrun,Oper.uponIn_value];obtain⟨kv,hkv,hk2,hv2⟩:=hmr.at hj
  have hsame:Mem w0 w1 F φ s/\GrowW w0 w F φ w1 F φ:=by
   rcases hw1 with rfl|rfl;.exact⟨hf.mem,GrowW.refl _ _ _ _⟩
   .exact hf.mem.same rfl hf.mem.heap.below.drew
  have hheap:w1.heap=w.heap:=by rcases hw1 with rfl|rfl<;>rfl
  obtain⟨m1,g1⟩:=hsame;have hr1:w1.heap[k]?=some (.mapIter (some bm) si se la):=by rw[hheap];exact hr
  have hrb1:w1.heap[bm]?=some (.map es c):=by rw[hheap];exact hrb
  have hmem:e∈es.toList:=(List.mem_filter.1 (List.mem_of_getElem? hj)).1;have hfil:(es.toList.filter λe2=>!(se.push e.born).contains e2.born)=(es.toList.filter λe2=>!se.contains e2.born).eraseIdx j:=by rw[<-filter_out (b:=e.born) ((List.filter_sublist.map _).nodup hbo.1) (by rw[List.getElem?_map,hj];rfl),List.filter_filter];refine List.filter_congr λx _=>?_;rw[Array.contains_push,Bool.not_or,Bool.and_comm]
  have hmr1:MRel w1 F (dropAt left.a j) (es.toList.filter λe2=>!(se.push e.born).contains e2.born):=by rw[hfil];exact(MRel.drop _ _ _ hmr).mono g1.ext λ_ h=>h
  have hmono:∀{a:AV}{v:Value},VRel w F Emb.zero a v->VRel w1 F Emb.zero a v:=λ{a v} q=>VRel.mono g1.ext (λ_ h=>h) (Emb.le_refl _) _ _ q;obtain⟨left',hl',hA⟩:=h j kv hkv;rw[<-hl']at hmr1;obtain⟨m2,g2⟩:=m1.putMit (cur:=some kv) (se':=se.push e.born) (c:=c) hl hk1 hr1 h0 hb hrb1 hbo hsi hmr1 λkv' q=>by cases q;exact⟨e,hmem,by simp,hmono hk2,hmono hv2⟩
  have g3:=g1.trans g2;refine hA cx w0 _ F _ _ ⟨⟨m2.heap.weakenU λb hb=>Nat.lt_of_lt_of_le hb (Nat.le_add_right _ _),m2.lps,λl k e=>⟨Nat.lt_of_lt_of_le (m2.lused l k e).1 (Nat.le_add_right _ _),(m2.lused l k e).2⟩,m2.linj⟩,?_,hf.env.mono g3 (put_defers _ _ _)⟩ Q λe a2 w2 s2 φ2 F2 p1 p2 p3=>hQ e a2 w2 s2 φ2 F2 p1 (g3.trans p2) p3;rw[frGet_put];have hz:∀{a:AV}{v:Value},VRel w F Emb.zero a v->VRel (w1.putObj k (.mapIter (some bm) si (se.push e.born) c)) F φ a v:=λ{a v} q=>VRel.mono g3.ext (λ_ h=>h) (Emb.zero_le _) _ _ q;exact(hf.tmps.monoW g3).put (ds_lt hd) (by simp only[VRel];exact⟨[.bool true,e.key,e.val],rfl,by simp only[VRels,VRel];exact⟨_,_,rfl,rfl,_,_,rfl,hz hk2,_,_,rfl,hz hv2,rfl⟩⟩)
theorem awpo_entry[Adr]{i:Nat}{o:Oper}{rest:List Nat}{x:Operand}{l l0:Nat}{y:LBlk}{left:ML}{kv:AV×AV}(hi:ops[i]?=some o)(hop:o.op=.entry x)(hw:wants nt ops o (frGet s.fr)=true)(hd:dstOk nt o=true)(hx:evalO (frGet s.fr) x=.itr l)(hl:alg s.lp l=some y)(hm:y.mp=some (.mit l0 left (some kv)))(h:AWPO P nt ops rest K ⟨frPut s.fr o.dst (.tup [kv.1,kv.2]),s.hp,s.nx+8,s.lp⟩):AWPO P nt ops (i::rest) K s:=by
 refine awpo_value hi (by rw[hop];intro c;simp) hw hd (λw0 w F φ a hmem he=>?_) h;have e1:=he x;rw[hx]at e1;simp only[VRel]at e1;obtain⟨k,hk1,e1⟩:=e1;obtain⟨k',bm,es,c,si,se,la,hk,h0,hr,hb,hrb,hbo,hsc,hsi,hmr,hcur⟩:=(hmem.lps l y hl).2 _ hm;rw[hk1]at hk;cases hk;obtain⟨rfl,e,q2,q3,q4,q5⟩:=hcur kv rfl;refine⟨.tuple #[e.key,e.val],?_,?_⟩
 .have hfind:es.find? (·.born==e.born)=some e:=by rw[<-Array.find?_toList];exact find_stamp hbo.1 q2
  unfold execOp;simp only[hop,Instr.entry,e1,Sem.run_bind,run_getObj_mit hr,Result.andThen_ok,q3,run_getObj_mp hrb,bne_self_eq_false,Bool.false_eq_true,if_false,hfind,Sem.run_pure]
 .have hz:∀{a:AV}{v:Value},VRel w F Emb.zero a v->VRel w F φ a v:=λ{a v} q=>VRel.mono (Ext0.refl F w) (λ_ h=>h) (Emb.zero_le _) _ _ q;simp only[VRel];exact⟨[e.key,e.val],rfl,by simp only[VRels];exact⟨_,_,rfl,hz q4,_,_,rfl,hz q5,rfl⟩⟩
end
section
variable{P:Program}{nt:Nat}{K:Exit->St->Prop}{s:St}
def ScopeIn(F:Fence)(n:Nat)(P:Program)(c r:Code)(Q:Exit->Act->World->Prop)(a:Act)(w:World):Prop:=∀(b:Frame)(k:List Item)(cs:List Frame),b.roundOf=F.round->F.fn b.fn->F.room (cs.length+1+n)->∃e a' w',Q e a' w'/\ArrivesIn (Machine.fenced P F) P (lone (b.atR a (.code r::.inScope c::k)) cs w) b k cs e a' w'
theorem scopeIn_wp{F:Fence}{n:Nat}{c:Code}{Q:Exit->Act->World->Prop}{a:Act}{w:World}(h:ScopeIn F n P c c Q a w):(Code.scope c).wpIn F n P Q a w:=by intro b k cs hro hb hr;obtain⟨e,a',w',hq,harr⟩:=h b k cs hro hb hr;exact⟨e,a',w',hq,.of_steps (.one (fenced_calm hb hr rfl) stepR_scope) harr⟩
def jumpIn(c:Code)(next:Code->Act->World->Prop)(Q:Exit->Act->World->Prop):Exit->Act->World->Prop
 |.goto l,a,w=>match findLabel c l with|some rest=>next rest a w|none=>Q (.goto l) a w
 |e,a,w=>Q e a w
theorem scopeIn_step{F:Fence}{n:Nat}{c r:Code}{Q:Exit->Act->World->Prop}{a:Act}{w:World}(h:r.wpIn F n P (jumpIn c (λr a w=>ScopeIn F n P c r Q a w) Q) a w):ScopeIn F n P c r Q a w:=by
 intro b k cs hro hb hr;obtain⟨e,a1,w1,hq,harr⟩:=h b (.inScope c::k) cs hro hb hr
 cases e with
  |normal=>exact⟨.normal,a1,w1,hq,StepsIn.trans harr (.one (fenced_calm hb hr rfl) stepR_inScope)⟩
  |exit id=>
   have hx:exitTo id (.inScope c::k)=exitTo id k:=by simp[exitTo]
   exact⟨.exit id,a1,w1,hq,λk' hk=>harr.1 k' (by rw[hx];exact hk),λhr' hk=>harr.2 hr' (by rw[hx];exact hk)⟩
  |goto l=>
   simp only[jumpIn]at hq;split at hq;.rename_i rest hfl;obtain⟨e2,a2,w2,hq2,harr2⟩:=hq b k cs hro hb hr;exact⟨e2,a2,w2,hq2,.of_steps (harr.1 _ (by simp[gotoIn,hfl])) harr2⟩
   .rename_i hfl;have hx:gotoIn l (.inScope c::k)=gotoIn l k:=by simp[gotoIn,hfl]
    exact⟨.goto l,a1,w1,hq,λk' hk=>harr.1 k' (by rw[hx];exact hk),λhr' hk=>harr.2 hr' (by rw[hx];exact hk)⟩
  |ret=>exact⟨_,a1,w1,hq,harr⟩
  |panic ch=>exact⟨_,a1,w1,hq,harr⟩
  |outgrown=>exact⟨_,a1,w1,hq,harr⟩
theorem ScopeIn.mono{F:Fence}{n:Nat}{c r:Code}{Q Q':Exit->Act->World->Prop}{a:Act}{w:World}(h:ScopeIn F n P c r Q a w)(hq:∀e a w,Q e a w->Q' e a w):ScopeIn F n P c r Q' a w:=λb k cs hro hb hr=>let⟨e,a',w',q,r⟩:=h b k cs hro hb hr;⟨e,a',w',hq _ _ _ q,r⟩
def AWPS[Adr](P:Program)(nt:Nat)(c r:Code)(K:Exit->St->Prop)(s:St):Prop:=∀(x:Cx)(w0 w:World)(F:Nat->Prop)(φ:Emb)(a:Act),Fits x w0 w F φ nt a s->ScopeIn (fen x.r) 0 P c r (λe a' w'=>∃s' φ' F',Fits x w0 w' F' φ' nt a' s'/\GrowW w0 w F φ w' F' φ'/\K e s') a w
theorem awp_scopeS[Adr]{c:Code}(h:AWPS P nt c c K s):AWP P nt (.scope c) K s:=λx w0 w F φ a hf=>scopeIn_wp (h x w0 w F φ a hf)
theorem awp_goto[Adr]{l:Nat}(h:K (.goto l) s):AWP P nt (.goto l) K s:=λ_ _ _ F φ _ hf=>wpIn_goto ⟨s,φ,F,hf,GrowW.refl _ _ _ _,h⟩
def jumpK(c:Code)(next:Code->St->Prop)(K:Exit->St->Prop):Exit->St->Prop
 |.goto l,s=>match findLabel c l with|some rest=>next rest s|none=>K (.goto l) s
 |e,s=>K e s
theorem awps_step[Adr]{c r:Code}(h:AWP P nt r (jumpK c (λr=>AWPS P nt c r K) K) s):AWPS P nt c r K s:=by
 intro cx w0 w F φ a hf;refine scopeIn_step (wpIn_mono (h cx w0 w F φ a hf) ?_);rintro e a1 w1 ⟨s1,φ1,F1,h1,h2,h3⟩
 cases e with
  |goto l=>
   simp only[jumpK]at h3;simp only[jumpIn];split at h3;.rename_i rest hfl;refine(h3 cx w0 w1 F1 φ1 a1 h1).mono ?_;rintro e a2 w2 ⟨s2,φ2,F2,k1,k2,k3⟩;exact⟨s2,φ2,F2,k1,h2.trans k2,k3⟩
   .rename_i hfl;exact⟨s1,φ1,F1,h1,h2,h3⟩
  |normal=>exact⟨s1,φ1,F1,h1,h2,h3⟩
  |exit id=>exact⟨s1,φ1,F1,h1,h2,h3⟩
  |ret=>exact⟨s1,φ1,F1,h1,h2,h3⟩
  |panic c=>exact⟨s1,φ1,F1,h1,h2,h3⟩
  |outgrown=>exact⟨s1,φ1,F1,h1,h2,h3⟩
end
end Go.AM
end
