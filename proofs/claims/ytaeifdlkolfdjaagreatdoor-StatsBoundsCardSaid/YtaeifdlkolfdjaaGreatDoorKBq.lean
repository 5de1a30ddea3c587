/- Texts of the proof, joined by program. -/
import Derived.Test.YtaeifdlkolfdjaaGreatDoorKBn
section
set_option linter.unusedSimpArgs false
set_option linter.unusedVariables false
namespace Go.AM
open Go Go.RowKit
section
variable{P:Program}{rec:Rc}{nt:Nat}{ops:Array Oper}
theorem wants_tau[Adr](s:Cs):frGet s.st.fr=tau s.fr:=frGet_toL _
theorem hp_vw[Adr](s:Cs):alg s.st.hp=vw s.hp:=alg_hpL _
theorem sim_fr[Adr]{s:Cs}{d:Option Nat}{v:AV}{hp:List (Nat×ABlk)}{hp':Tr CB}{nx:Nat}{lp:List (Nat×LBlk)}{lp':List (Nat×LB)}{fu:Fu}(e1:alg hp=vw hp')(e2:lp=lpL lp'):Sim ⟨frPut s.st.fr d v,hp,nx,lp⟩ (Cs.st ⟨putD s.fr d v,hp',nx,lp',fu⟩):=⟨frGet_put' _ _ _,by rw[e1];exact(alg_hpL _).symm,rfl,e2⟩
theorem good_plain[Adr](hs:Sound P rec){o:Oper}{i:Nat}{rest:List Nat}{s:Cs}{a:Option (AV×List ABlk)}{q:Os}(hi:ops[i]?=some o)(ha:Asked P o (tau s.fr) (vw s.hp) a)(h:holds (plainC P rec nt ops o rest s a) q):AWPO P nt ops (i::rest) (Ends q) s.st:=by
 unfold plainC at h;split at h;.rename_i se hse;refine awpo_op (ε:=true) (ans:=a) (se:=se) hi (by rw[wants_tau,hp_vw];exact hse) (ask_ok ha hse) ?_;exact awpo_sim (sim_fr (by rw[<-alg_hpL];exact alg_putW _ _) rfl) (hs _ _ h)
 .exact h.elim
theorem asked_call[Adr]{o:Oper}{f:Operand}{args:List Operand}{τ:Nat->AV}{η:Heap}{r:AV×List ABlk}(hc:isCall o.op=some (f,args))(h:AskF P (evalO τ f) (args.map (evalO τ)) η r):Asked P o τ η (some r):=by refine⟨λf' args' h' r' hr=>?_,λh'=>by rw[hc]at h';cases h'⟩;rw[hc]at h';cases h';cases hr;exact h
theorem asked_inv[Adr]{o:Oper}{f:AV}{args:List AV}{τ:Nat->AV}{η:Heap}{r:AV×List ABlk}(hc:isInv P o.op τ=some (f,args))(h:AskF P f args η r):Asked P o τ η (some r):=by
 refine⟨λf' args' h' r' hr=>?_,λ_ f' args' h' r' hr=>?_⟩
 .exfalso;unfold isInv at hc;unfold isCall at h';split at hc
  .rename_i c hop;rw[hop]at h';simp only at h';split at h';.rename_i g hg;rw[hg]at hc;cases hc
   .cases h'
  .cases hc
 .rw[hc]at h';cases h';cases hr;exact h
theorem good_after[Adr](hs:Sound P rec){rest:List Nat}{d:Option Nat}{s:Cs}{q:Os}:∀r s',VEnds (λo=>holds (afterC rec nt ops rest d s o) q) r s'->afterX P nt ops rest d (Ends q) s.st r s':=by intro r s' hv;cases r with|val r=>obtain⟨cs,hsim,ha⟩:=hv;simp only[afterC]at ha;have g:=hs _ _ ha;exact awpo_sim (sim_fr (by rw[hsim.hp];exact alg_hpL _) hsim.lp|>λq=>by rw[show s'.nx=cs.nx from hsim.nx];exact q) g|pan b=>obtain⟨cs,hsim,ha⟩:=hv;intro v hv;exact⟨⟨s.fr,cs.hp,cs.nx,cs.lp,s.fu⟩,⟨rfl,hsim.hp,hsim.nx,hsim.lp⟩,.inr ⟨b,v,ha,hv,rfl⟩⟩
theorem good_opn[Adr](hs:Sound P rec){A B:Type}{arg:List AV->Option A}{g:A->Option B}{res:B->AV}{o:Oper}{i:Nat}{rest:List Nat}{s:Cs}{q:Os}{f:Operand}{args:List Operand}{fid:FuncId}{first cap:List AV}(hi:ops[i]?=some o)(hcl:isCall o.op=some (f,args))(hw:wants nt ops o (tau s.fr)=true)(hd:dstOk nt o=true)(hf:evalO (tau s.fr) f=.fn fid first cap)(hc:∀args x y,arg args=some x->g x=some y->PCall P fid args (res y) []/\ ∀n,((res y).shift n).Le (res y))(h:holds (opnC rec nt ops o rest s (first++args.map (evalO (tau s.fr))++cap) arg g res) q):AWPO P nt ops (i::rest) (Ends q) s.st:=by
 unfold opnC at h;split at h;rotate_left;.exact h.elim
 rename_i p hp;split at h;rotate_left;.exact h.elim
 rename_i x hx;obtain⟨k1,y,k2,k3⟩:=holds_eqns h;obtain⟨pargs,e1,e2⟩:=pursC_ok 60 _ p hp k1;obtain⟨c1,c2⟩:=hc _ _ _ hx k2;have c1:=PCall_args c1 e2;obtain⟨fz,hfz⟩:∃fz,fz=(match p.rd.isEmpty||(res y).flatR with|true=>[]|false=>freezeC s.hp p.rd):=⟨_,rfl⟩;have k3:holds (rec (.ops nt ops rest ⟨putD s.fr o.dst (res y),putC s.hp fz,s.nx+8,s.lp,s.fu⟩)) q:=by rw[hfz];exact k3
 have hsem:semCall (vw s.hp) s.nx (evalO (tau s.fr) f) (args.map (evalO (tau s.fr))) (res y,[])=some (⟨(res y).shift s.nx,(if p.rd.isEmpty||(res y).flatR then[]else freezeAll (vw s.hp) p.rd),p.rd⟩,⟨fid,pargs,res y,[]⟩):=by rw[hf];unfold semCall;simp only[e1];simp[imports]
 have hst:=stepF_wants (P:=P) (ops:=ops) (ε:=true) (an:=some (res y,[])) (nm:=s.nx) (v:=(res y).shift s.nx) (wr:=if p.rd.isEmpty||(res y).flatR then[]else freezeAll (vw s.hp) p.rd) (rt:=opTmps (f::args)) (rb:=p.rd) (ob:=some ⟨fid,pargs,res y,[]⟩) (η:=vw s.hp) hd hw (λgt=>by unfold runO;rw[hcl];simp only[hsem]);refine awpo_op (ε:=true) (ans:=some (res y,[])) hi (by rw[wants_tau,hp_vw];exact hst) (by exact⟨c1,trivial⟩) ?_;refine cn_awpo (t:=Cs.st ⟨putD s.fr o.dst (res y),putC s.hp fz,s.nx+8,s.lp,s.fu⟩) (cn_wk (λk=>?_) (λb x' hb=>⟨x',?_,.inl rfl⟩) (Nat.le_refl _) rfl) (hs _ _ k3)
 .rw[frGet_put,show frGet (Cs.st ⟨putD s.fr o.dst (res y),putC s.hp fz,s.nx+8,s.lp,s.fu⟩).fr=tau (putD s.fr o.dst (res y))from frGet_toL _,tau_putD,wants_tau]
  cases o.dst with
   |none=>exact AV.Le.refl _
   |some d=>
    simp only[putT,fupd];split;.exact c2 _
    .exact AV.Le.refl _
 .rw[show alg (Cs.st ⟨putD s.fr o.dst (res y),putC s.hp fz,s.nx+8,s.lp,s.fu⟩).hp=vw (putC s.hp fz)from alg_hpL _,vw_putC]at hb;show alg (hsets s.st.hp _) b=some x';rw[alg_hsets,hp_vw,<-hb,hfz];cases p.rd.isEmpty||(res y).flatR with|true=>rfl|false=>simp only[Bool.false_eq_true,if_false];rw[vw_freeze]
theorem good_opw[Adr](hs:Sound P rec){A:Type}{arg:List AV->Option A}{n:Nat}{g:A->Option (List (U n))}{o:Oper}{i:Nat}{rest:List Nat}{s:Cs}{q:Os}{f:Operand}{args:List Operand}{fid:FuncId}{first cap:List AV}(hi:ops[i]?=some o)(hcl:isCall o.op=some (f,args))(hw:wants nt ops o (tau s.fr)=true)(hd:dstOk nt o=true)(hf:evalO (tau s.fr) f=.fn fid first cap)(hc:∀args x xs,arg args=some x->g x=some xs->PCall P fid args (.sl 0 0 (szU n) 0 xs.length) [(CB.t 0 true n xs).a])(h:holds (opwC rec nt ops o rest s (first++args.map (evalO (tau s.fr))++cap) arg n g) q):AWPO P nt ops (i::rest) (Ends q) s.st:=by
 unfold opwC at h;split at h;rotate_left;.exact h.elim
 rename_i p hp;split at h;rotate_left;.exact h.elim
 rename_i x hx;obtain⟨k1,xs,k2,k3⟩:=holds_eqns h;obtain⟨pargs,e1,e2⟩:=pursC_ok 60 _ p hp k1;have c1:=PCall_args (hc _ _ _ hx k2) e2;obtain⟨fz,hsem,hbw⟩:=opw_sem (nm:=s.nx) (xs:=xs) (f:=f) (args:=args) (τ:=tau s.fr) hf e1;have hst:=stepF_wants (P:=P) (ops:=ops) (ε:=true) (an:=some (.sl 0 0 (szU n) 0 xs.length,[(CB.t 0 true n xs).a])) (nm:=s.nx) (v:=.sl (s.nx+0) 0 (szU n) 0 xs.length) (wr:=fz++[(s.nx,(CB.t 0 true n xs).a)]) (rt:=opTmps (f::args)) (rb:=p.rd) (ob:=some ⟨fid,pargs,.sl 0 0 (szU n) 0 xs.length,[(CB.t 0 true n xs).a]⟩) (η:=vw s.hp) hd hw (λgt=>by unfold runO;rw[hcl];simp only[hsem]);refine awpo_op (ε:=true) (ans:=some (.sl 0 0 (szU n) 0 xs.length,[(CB.t 0 true n xs).a])) hi (by rw[wants_tau,hp_vw];exact hst) (by exact⟨c1,trivial⟩) ?_;refine cn_awpo (t:=Cs.st ⟨putD s.fr o.dst (.sl s.nx 0 (szU n) 0 xs.length),(putC s.hp (freezeC s.hp p.rd)).put s.nx (.t 0 true n xs),s.nx+8,s.lp,s.fu⟩) (cn_wk (λk=>?_) (λb x' hb=>?_) (Nat.le_refl _) rfl) (hs _ _ k3);.rw[frGet_put,show∀r hp',frGet (Cs.st ⟨putD s.fr o.dst r,hp',s.nx+8,s.lp,s.fu⟩).fr=tau (putD s.fr o.dst r)from λ_ _=>frGet_toL _,tau_putD,wants_tau];exact AV.Le.refl _
 .rw[show alg (Cs.st ⟨putD s.fr o.dst (.sl s.nx 0 (szU n) 0 xs.length),(putC s.hp (freezeC s.hp p.rd)).put s.nx (.t 0 true n xs),s.nx+8,s.lp,s.fu⟩).hp=vw ((putC s.hp (freezeC s.hp p.rd)).put s.nx (.t 0 true n xs))from alg_hpL _,vw_put,vw_putC]at hb;show∃x,alg (hsets s.st.hp (fz++[(s.nx,(CB.t 0 true n xs).a)])) b=some x/\_;rw[alg_hsets,hp_vw,apWr_append];exact opw_bw (hbw _ λ_ _=>rfl) b x' hb
theorem good_callC[Adr](hs:Sound P rec){ev:Ev}(hc:COk P ev.con){o:Oper}{i:Nat}{rest:List Nat}{s:Cs}{q:Os}{f:Operand}{args:List Operand}(hi:ops[i]?=some o)(hcl:isCall o.op=some (f,args))(hw:wants nt ops o (tau s.fr)=true)(h:holds (callC ev P rec nt ops o rest s (evalO (tau s.fr) f) (args.map (evalO (tau s.fr)))) q):AWPO P nt ops (i::rest) (Ends q) s.st:=by
 have e:frGet s.st.fr=tau s.fr:=wants_tau s;unfold callC at h;split at h;.exact h.elim
 rename_i hd;split at h
 .rename_i fid first cap hf;have byCall:holds (bnd (rec (.call fid (first++args.map (evalO (tau s.fr))++cap) s)) (afterC rec nt ops rest o.dst s)) q->AWPO P nt ops (i::rest) (Ends q) s.st:=λh=>by refine awpo_callX hi hcl (by rw[e];exact hw) hd (by rw[e];exact hf) ?_;rw[e];exact ewx_mono (hs _ _ (holds_bnd.1 h)) (good_after hs)
  split at h
  .rename_i g hg;split at h;.rename_i r s' hr;refine awpo_callX hi hcl (by rw[e];exact hw) hd (by rw[e];exact hf) (ewx_of_ewp ?_);rw[e];have :=hc.inp _ _ _ hg _ _ _ _ hr;refine⟨this.1,λw0 w F φ vs hm hgl hv=>(this.2 w0 w F φ vs hm hgl hv).mono ?_⟩;rintro en w' ⟨v,r',s2,φ',F',rfl,k1,k2,k3,rfl,hsim⟩;exact⟨v,r',s2,φ',F',rfl,k1,k2,k3,awpo_sim (sim_fr (by rw[hsim.hp];exact alg_hpL _) hsim.lp|>λq=>by rw[show s2.nx=s'.nx from hsim.nx];exact q) (hs _ _ h)⟩
   .exact byCall h
  .rename_i g hg;obtain⟨r,blks,h1,h2⟩:=askF_ok hs (holds_bnd.1 h);refine good_plain hs hi ?_ h1;rw[<-hf]at h2;exact asked_call hcl h2
  .rename_i g hg;split at h;.rename_i r hr;refine awpo_ext hi hcl (by rw[e];exact hw) hd (by rw[e];exact hf) (λw F φ vs hv=>?_) (awpo_sim (sim_fr (alg_hpL _) rfl) (hs _ _ h));rw[e]at hv;exact hc.ext _ _ _ hg _ _ hr w F φ vs hv
   .exact h.elim
  .rename_i A B arg g res hg;exact good_opn hs hi hcl hw hd hf (λargs x y h1 h2=>hc.opn _ _ _ _ _ hg args x y h1 h2) h
  .rename_i A arg n g hg;exact good_opw hs hi hcl hw hd hf (λargs x y h1 h2=>hc.opw _ _ _ _ _ hg args x y h1 h2) h
  .rename_i A B arg g res hg;split at h;.rename_i p hr;obtain⟨px,pe⟩:=p;obtain⟨h1,y,h2,h⟩:=holds_eqns h;refine awpo_callX hi hcl (by rw[e];exact hw) hd (by rw[e];exact hf) (ewx_of_ewp ?_);rw[e];have :=hc.opi _ _ _ _ _ hg _ _ _ _ _ hr h1 h2;refine⟨this.1,λw0 w F φ vs hm hgl hv=>(this.2 w0 w F φ vs hm hgl hv).mono ?_⟩;rintro en w' ⟨v,r',s2,φ',F',rfl,k1,k2,k3,rfl,hsim⟩;exact⟨v,_,s2,φ',F',rfl,k1,k2,k3,awpo_sim (sim_fr (by rw[hsim.hp];exact alg_hpL _) hsim.lp|>λq=>by rw[show s2.nx=(res (first++args.map (evalO (tau s.fr))++cap) s y).2.nx from hsim.nx];exact q) (hs _ _ h)⟩
   .exact byCall h
  .exact byCall h
 .rename_i l hf;split at h;rotate_left;.exact h.elim
  rename_i x hx;split at h;rotate_left;.exact h.elim
  rename_i hmp;split at h;rotate_left;.exact h.elim
  rename_i hl;simp only[Bool.and_eq_true,decide_eq_true_eq,List.length_map]at hl;have hx':alg s.st.lp l=some x.l:=by show alg (lpL s.lp) l=_;rw[alg_lpL,hx];rfl
  refine awpo_yield hi hcl (by rw[e];exact hw) hd (by rw[e];exact hf) hx' hmp hl.1 hl.2 ?_;have h1:=holds_bnd.1 h;have hsim0:Sim ⟨frPuts x.l.fr x.l.ps (args.map (evalO (frGet s.st.fr))),s.st.hp,s.st.nx,s.st.lp⟩ (Cs.st ⟨putsT x.fr x.ps (args.map (evalO (tau s.fr))),s.hp,s.nx,s.lp,⟨s.fu.n,[]⟩⟩):=by refine⟨?_,rfl,rfl,rfl⟩;rw[e];show frGet (frPuts x.fr.toL x.ps _)=frGet (putsT x.fr x.ps _).toL;rw[frGet_toL];exact frGet_puts _ _ _ _ (frGet_toL _)
  refine awp_sim hsim0 (awp_mono (hs _ _ h1) λe1 s1 he=>?_)
  have bad:e1≠.normal->False:=λhne=>by
   obtain⟨cs,-,hm⟩:=he;rcases hm with hm|⟨b,v,hm,-,-⟩
   .unfold assignC at hm;split at hm;.rename_i hq;cases hq;exact hne rfl
    .exact hm
   .exact hm
  cases e1 with
   |normal=>
    refine ends_normal (λcs ha hsim=>?_) he;simp only[assignC]at ha;split at ha;rotate_left;.exact ha.elim
    rename_i y hy;split at ha;rotate_left;.exact ha.elim
    rename_i hst;have hy':alg s1.lp l=some y.l:=by rw[hsim.lp];show alg (lpL cs.lp) l=_;rw[alg_lpL,hy];rfl
    refine⟨y.l,hy',hst,?_⟩;have k1:=holds_bnd.1 ha;have hsim1:Sim {s1 with lp:=hset s1.lp l {y.l with st:=.busy,pend:=y.l.pend}} (Cs.st {cs with lp:=hset cs.lp l {y with st:=.busy}}):=by refine⟨hsim.fr,hsim.hp,hsim.nx,?_⟩;show hset s1.lp l _=lpL (hset cs.lp l _);rw[hset_lpL,hsim.lp];rfl
    refine awp_sim hsim1 (awp_mono (hs _ _ k1) λe2 s2 he2=>?_);obtain⟨cs2,hsim2,hm⟩:=he2;rcases hm with ha2|⟨b,v,ha2,-,-⟩;rotate_left;.exact ha2.elim
    simp only[roundC]at ha2;split at ha2;rotate_left;.exact ha2.elim
    rename_i b s3 hr;unfold round at hr;split at hr;rotate_left;.cases hr
    rename_i y2 hy2;have hy2':alg s2.lp l=some y2.l:=by rw[hsim2.lp];show alg (lpL cs2.lp) l=_;rw[alg_lpL,hy2];rfl
    have go:∀(b:Bool)(z:LB),holds (rec (.ops nt ops rest ⟨putD s.fr o.dst (.bool b),cs2.hp,cs2.nx,hset cs2.lp l z,s.fu⟩)) q->AWPO P nt ops rest (Ends q) ⟨frPut s.st.fr o.dst (.bool b),s2.hp,s2.nx,hset s2.lp l z.l⟩:=by intro b z hz;have hq:Sim ⟨frPut s.st.fr o.dst (.bool b),s2.hp,s2.nx,hset s2.lp l z.l⟩ (Cs.st ⟨putD s.fr o.dst (.bool b),cs2.hp,cs2.nx,hset cs2.lp l z,s.fu⟩):=⟨frGet_put' _ _ _,hsim2.hp,hsim2.nx,by show hset s2.lp l z.l=lpL (hset cs2.lp l z);rw[hset_lpL,hsim2.lp];rfl⟩;exact awpo_sim hq (hs _ _ hz)
    cases e2 with|normal=>cases hr;exact⟨y2.l,hy2',go true _ ha2⟩|ret=>cases hr;exact⟨y2.l,hy2',go false _ ha2⟩|exit id=>cases hr;exact⟨y2.l,hy2',go false _ ha2⟩|goto t=>cases hr;exact⟨y2.l,hy2',go false _ ha2⟩|panic ch=>cases hr|outgrown=>cases hr
   |exit id=>exact(bad (by simp)).elim
   |goto l=>exact(bad (by simp)).elim
   |ret=>exact(bad (by simp)).elim
   |panic ch=>exact(bad (by simp)).elim
   |outgrown=>exact(bad (by simp)).elim
 .exact h.elim
theorem good_invC[Adr](hs:Sound P rec){ev:Ev}{o:Oper}{i:Nat}{rest:List Nat}{s:Cs}{q:Os}(hi:ops[i]?=some o)(hw:wants nt ops o (tau s.fr)=true)(h:holds (invC ev P rec nt ops o rest s) q):AWPO P nt ops (i::rest) (Ends q) s.st:=by
 have e:frGet s.st.fr=tau s.fr:=wants_tau s;unfold invC at h;split at h;.exact h.elim
 rename_i hd;split at h;rotate_left;.exact h.elim
 rename_i f args hinv;split at h;rotate_left;.exact h.elim
 rename_i fid;split at h;.exact h.elim
 .obtain⟨r,blks,h1,h2⟩:=askF_ok hs (holds_bnd.1 h);exact good_plain hs hi (asked_inv hinv h2) h1
 .exact h.elim
 .exact h.elim
 .exact h.elim
 .exact h.elim
 .exact awpo_invX hi (by rw[e];exact hinv) (by rw[e];exact hw) hd (ewx_mono (hs _ _ (holds_bnd.1 h)) (good_after hs))
theorem good_pur[Adr]{l:List Nat}{x:Operand}{s s':Cs}{K:Exit->St->Prop}(h:purS s x=some s')(hk:AWPO P nt ops l K s'.st):AWPO P nt ops l K s.st:=by
 unfold purS at h;split at h
 .rename_i t;split at h;.cases h;exact hk
  .split at h
   .rename_i v rd hp;cases h
    have hsim:Sim ⟨(t,v)::s.st.fr,hsets s.st.hp (freezeAll (alg s.st.hp) rd),s.st.nx,s.st.lp⟩ (Cs.st ⟨s.fr.put t v,putW s.hp (freezeAll (vw s.hp) rd),s.nx,s.lp,s.fu⟩):=by
     refine⟨?_,?_,rfl,rfl⟩;.show frGet ((t,v)::s.fr.toL)=frGet (s.fr.put t v).toL;rw[frGet_toL,tau_put,<-frGet_toL];funext k;rw[frGet_cons];rfl
     .rw[hp_vw];exact alg_putW _ _
    exact awpo_pur (t:=t) (v:=v) (rd:=rd) (by rw[wants_tau,hp_vw];exact hp) (awpo_sim hsim hk)
   .cases h
 .cases h;exact hk
theorem alg_st[Adr]{s:Cs}{l:Nat}{y:LB}(h:alg s.lp l=some y):alg s.st.lp l=some y.l:=by show alg (lpL s.lp) l=_;rw[alg_lpL,h];rfl
theorem hset_st[Adr]{s:Cs}(l:Nat)(y:LB):hset s.st.lp l y.l=lpL (hset s.lp l y):=by rw[hset_lpL];rfl
theorem noIt_lp{l:Nat}:∀{lp:List (Nat×LB)},noItC l lp=true->noItB l (lpL lp)=true
 |[],_=>rfl
 |(k,x)::lp,h=>by
  simp only[noItC]at h;simp only[lpL,List.map_cons,noItB];show(match x.mp with|some (.mit l0 _ _)=>if l0=l then false else noItB l (lpL lp)|_=>noItB l (lpL lp))=true;split at h
  .rename_i l0 a b hm;rw[hm];simp only;split at h;.cases h
   .rename_i q;rw[if_neg (λe=>by subst e;simp at q)];exact noIt_lp h
  .rename_i hm;split;.rename_i l0 a b hm2;exact absurd hm2 (hm l0 a b)
   .exact noIt_lp h
theorem noIt_st[Adr]{s:Cs}{l:Nat}(h:noItC l s.lp=true):noItB l s.st.lp=true:=noIt_lp h
theorem nextAll_ok{f:AV×AV->List (AV×AV)->R Out}{all:List (AV×AV)}{q:Os}:∀(l:List (AV×AV))(j0:Nat)(kv0:AV×AV),holds (nextAll f all j0 kv0 l) q->∀j kv,(kv0::l)[j]?=some kv->holds (f kv (dropAt all (j0+j))) q
 |[],j0,kv0,h,j,kv,hj=>by cases j with|zero=>simp at hj;subst hj;exact h|succ j=>simp at hj
 |kv1::l,j0,kv0,h,j,kv,hj=>by cases j with|zero=>simp at hj;subst hj;exact h.1|succ j=>rw[show j0+(j+1)=j0+1+j by omega];exact nextAll_ok l (j0+1) kv1 h.2 j kv (by simpa using hj)
def MLe[Adr]:List (AV×AV)->List (AV×AV)->Prop|[],[]=>True|p::m,q::m'=>p.1.Le q.1/\p.2.Le q.2/\MLe m m'|_,_=>False
theorem MLe.refl[Adr]:∀m,MLe m m|[]=>trivial|_::m=>⟨AV.Le.refl _,AV.Le.refl _,MLe.refl m⟩
theorem MLe.rel[Adr]{w:World}{F:Nat->Prop}:∀{m m':List (AV×AV)}{es:List MapEntry},MLe m m'->MRel w F m es->MRel w F m' es|[],[],_,_,h=>h|(a,b)::m,(c,d)::m',_,⟨h1,h2,h3⟩,⟨e,es',k1,k2,k3,k4⟩=>⟨e,es',k1,h1 _ _ _ _ k2,h2 _ _ _ _ k3,MLe.rel h3 k4⟩|[],_::_,_,h,_=>h.elim|_::_,[],_,h,_=>h.elim
theorem MLe.setAt[Adr]{n y n' y':AV}(h1:n.Le n')(h2:y.Le y'):∀(m:List (AV×AV))(j:Nat),MLe (setAt m j (n,y)) (setAt m j (n',y'))|[],_=>trivial|_::m,0=>⟨h1,h2,MLe.refl m⟩|_::m,j+1=>⟨AV.Le.refl _,AV.Le.refl _,MLe.setAt h1 h2 m j⟩
theorem MLe.app[Adr]{n y n' y':AV}(h1:n.Le n')(h2:y.Le y'):∀(m:List (AV×AV)),MLe (m++[(n,y)]) (m++[(n',y')])|[]=>⟨h1,h2,trivial⟩|_::m=>⟨AV.Le.refl _,AV.Le.refl _,MLe.app h1 h2 m⟩
theorem dec0_av:∀(k:CT){n:AV}{a:k.T},k.isW=false->(∀m,k≠.l m)->k.dec0 n=some a->n=k.av0 a
 |.b,n,a,_,_,h=>by cases n<;>cases h;rfl
 |.i k,n,a,_,_,h=>by
  simp only[CT.dec0]at h;split at h
  .split at h;.rename_i e;subst e;cases h;rfl
   .cases h
  .cases h
 |.s,n,a,_,_,h=>by cases n<;>cases h;rfl
 |.l m,_,_,_,h,_=>absurd rfl (h m)
 |.w m,_,_,h,_,_=>by cases h
theorem dec_key{d:TypeDesc}{k:CT}{n:AV}{a:k.T}(hk:keyCT d=some k)(hn:k.dec n=some a):n=k.av a:=by
 cases d<;>simp only[keyCT,Option.some.injEq,reduceCtorEq]at hk<;>subst hk;.exact dec0_av .b rfl (by simp) hn
 .exact dec0_av (.i _) rfl (by simp) hn
 .exact dec0_av .s rfl (by simp) hn
theorem keyB_enc{d:TypeDesc}{k:CT}(hk:keyCT d=some k)(a b:k.T):keyB d (k.av a) (k.av b)=some (k.eqB a b):=by
 cases d<;>simp only[keyCT,Option.some.injEq,reduceCtorEq]at hk<;>subst hk;.rfl
 .simp only[CT.av,keyB,if_true];rfl
 .rfl
theorem afind_enc{d:TypeDesc}{k:CT}(v:VT)(hk:keyCT d=some k)(a:k.T):∀(xs:List (k.T×v.T))(i:Nat),(mfind k xs a=none/\afind d (k.av a) (encM k v xs) i=some none/\ ∀c,encM k v (mput k xs a c)=encM k v xs++[(k.av a,v.av c)])\/ ∃b j,mfind k xs a=some b/\afind d (k.av a) (encM k v xs) i=some (some (i+j,v.av b))/\ ∀c,encM k v (mput k xs a c)=setAt (encM k v xs) j (k.av a,v.av c)
 |[],i=>.inl ⟨rfl,rfl,λ_=>rfl⟩
 |p::xs,i=>by
  have hb:=keyB_enc hk a p.1
  cases he:k.eqB a p.1 with
   |true=>refine .inr ⟨p.2,0,by simp only[mfind,he],?_,λc=>by simp only[mput,he,encM,List.map_cons,setAt]⟩;show(match keyB d (k.av a) (k.av p.1)with|some true=>some (some (i,v.av p.2))|some false=>afind d (k.av a) (encM k v xs) (i+1)|none=>none)=_;rw[hb,he];rfl
   |false=>
    have ha:afind d (k.av a) (encM k v (p::xs)) i=afind d (k.av a) (encM k v xs) (i+1):=by show(match keyB d (k.av a) (k.av p.1)with|some true=>some (some (i,v.av p.2))|some false=>afind d (k.av a) (encM k v xs) (i+1)|none=>none)=_;rw[hb,he]
    rcases afind_enc v hk a xs (i+1)with⟨h1,h2,h3⟩|⟨b,j,h1,h2,h3⟩;.exact .inl ⟨by simp only[mfind,he];exact h1,ha.trans h2,λc=>by have :=h3 c;simp only[encM]at this⊢;simp only[mput,he,List.map_cons,this,List.cons_append]⟩
    .exact .inr ⟨b,j+1,by simp only[mfind,he];exact h1,by rw[ha,h2,Nat.add_assoc,Nat.add_comm 1 j],λc=>by have :=h3 c;simp only[encM]at this⊢;simp only[mput,he,List.map_cons,this,setAt]⟩
theorem mapTy_ok{ev:Ev}{t et:TypeId}{k:CT}{v:VT}(h:mapTy ev P t=some (k,v,et)):∃kt kd,P.underlying t=some (.map kt et)/\P.underlying kt=some kd/\keyCT kd=some k:=by
 unfold mapTy at h;split at h
 .rename_i kt et' hu;split at h
  .rename_i kd vd h1 h2;split at h;.rename_i k' v' h3 h4;cases h;exact⟨kt,kd,hu,h1,h3⟩
   .cases h
  .cases h
 .cases h
theorem keyCT_plain{d:TypeDesc}{k:CT}(h:keyCT d=some k):plainKey d=true:=by cases d<;>simp only[keyCT,reduceCtorEq]at h<;>rfl
theorem VT.dec_le[Adr](v:VT){a:AV}{x:v.T}(h:v.dec a=some x):a.Le (v.av x):=λ_ _ _ _ hu=>v.dec_rel h hu
theorem obM_map[Adr]{w0 w:World}{F:Nat->Prop}{φ:Emb}{l:Nat}{k:CT}{v:VT}{o:Ob}{xs:List (k.T×v.T)}(h:obM k v o=some xs)(hr:RecO w0 w F φ l o):RecM w0 w F φ l (encM k v xs):=obM_ok h hr
theorem good_lookT[Adr](hs:Sound P rec){ev:Ev}{o:Oper}{i:Nat}{rest:List Nat}{s:Cs}{q:Os}{t:TypeId}{x ix:Operand}{l:Nat}{y:LB}{ob:Ob}{ok:Bool}{r:AV}(hi:ops[i]?=some o)(hop:o.op=.lookup t x ix ok)(hw:wants nt ops o (frGet s.st.fr)=true)(hd:dstOk nt o=true)(hx:evalO (frGet s.st.fr) x=.mp l)(hy:alg s.lp l=some y)(hm:y.mp=some ob)(hv:tLookup ev P t ob (evalO (frGet s.st.fr) ix) ok=some r)(h:holds (rec (.ops nt ops rest ⟨putD s.fr o.dst r,s.hp,s.nx+8,s.lp,s.fu⟩)) q):AWPO P nt ops (i::rest) (Ends q) s.st:=by
 unfold tLookup at hv;split at hv;.cases hv
 split at hv;rotate_left;.cases hv
 rename_i k v et hmt;split at hv;rotate_left;.cases hv
 rename_i xs a zv hox ha hz;split at hv;rotate_left;.cases hv
 rename_i z hz2;cases hv;obtain⟨kt,kd,u1,u2,u3⟩:=mapTy_ok hmt;have hn:=dec_key u3 ha
 obtain⟨v0,hv0,hle⟩:∃v0,mapGet P t (encM k v xs) (evalO (frGet s.st.fr) ix) ok=some v0/\v0.Le (okV ok (.tup [v.av ((mfind k xs a).getD z),.bool (mfind k xs a).isSome]) (v.av ((mfind k xs a).getD z))):=by
  rw[hn];unfold mapGet;simp only[u1,u2,hz,keyCT_plain u3,if_true];rcases afind_enc v u3 a xs 0 with⟨h1,h2,-⟩|⟨b,j,h1,h2,-⟩;.rw[h1,h2];cases ok with|false=>exact⟨_,rfl,v.dec_le hz2⟩|true=>exact⟨_,rfl,AV.Le.tup ⟨v.dec_le hz2,AV.Le.refl _,trivial⟩⟩
  .rw[h1,h2];cases ok with|false=>exact⟨_,rfl,AV.Le.refl _⟩|true=>exact⟨_,rfl,AV.Le.refl _⟩
 refine awpo_mapGet hi hop hw hd hx (alg_st hy) hm (λ_ _ _ _ hr=>obM_map hox hr) hv0 ?_;refine cn_awpo (t:=Cs.st ⟨putD s.fr o.dst _,s.hp,s.nx+8,s.lp,s.fu⟩) (cn_wk (λkk=>?_) (λb x' hb=>⟨x',hb,.inl rfl⟩) (Nat.le_refl _) rfl) (hs _ _ h);rw[frGet_put,show∀r',frGet (Cs.st ⟨putD s.fr o.dst r',s.hp,s.nx+8,s.lp,s.fu⟩).fr=tau (putD s.fr o.dst r')from λ_=>frGet_toL _,tau_putD,wants_tau]
 cases o.dst with
  |none=>exact AV.Le.refl _
  |some d=>
   simp only[putT,fupd];split;.exact hle
   .exact AV.Le.refl _
theorem cn_mp[Adr]{n:Nat}{s:St}{l:Nat}{y:LBlk}{o o':Ob}(hl:alg s.lp l=some y)(hm:y.mp=some o)(hr:∀w0 w F φ,RecO w0 w F φ l o->RecO w0 w F φ l o'):Cn n s ⟨s.fr,s.hp,s.nx,hset s.lp l {y with mp:=some o'}⟩:=by
 intro cx w0 w F φ nt a hf;refine⟨φ,⟨⟨hf.mem.heap,λl' x hx=>?_,hf.mem.lused,hf.mem.linj⟩,hf.tmps,hf.env⟩,λ_ _ _ _ e=>e,λ_ _ _ e=>e⟩;change alg (hset s.lp l {y with mp:=some o'}) l'=some x at hx;rw[alg_hset]at hx;unfold fupd at hx;split at hx;.rename_i e;subst e;cases hx;exact RecO.recd (m:=o') (hr _ _ _ _ ((hf.mem.lps _ y hl).2 _ hm)) rfl
 .exact hf.mem.lps l' x hx
theorem hset_hset{α:Type}(l:Nat)(x y:α):∀lp:List (Nat×α),hset (hset lp l x) l y=hset lp l y
 |[]=>by simp[hset]
 |(k,z)::lp=>by
  by_cases e:l=k;.subst e;simp[hset]
  .simp[hset,e,hset_hset l x y lp]
theorem noItB_hset{l l2:Nat}{y:LBlk}(hy:∀l0 a b,y.mp≠some (.mit l0 a b)):∀{lp:List (Nat×LBlk)},noItB l lp=true->noItB l (hset lp l2 y)=true
 |[],_=>by simp only[hset,noItB];try(split<;>first|rfl|(rename_i l0 a b h;exact absurd h (hy l0 a b)))
 |(k,z)::lp,h=>by
  have h2:noItB l lp=true:=by
   simp only[noItB]at h;split at h
   .split at h;.cases h
    .exact h
   .exact h
  simp only[hset];split;.simp only[noItB];first|exact h2|(split;rename_i l0 a b q;exact absurd q (hy l0 a b);exact h2)
  .simp only[noItB]at h⊢;split at h
   .split at h;.cases h
    .rename_i e;rw[if_neg e];exact noItB_hset hy h
   .exact noItB_hset hy h
theorem good_putT[Adr](hs:Sound P rec){ev:Ev}{o:Oper}{i:Nat}{rest:List Nat}{s s0:Cs}{q:Os}{t:TypeId}{x ix vx:Operand}{l:Nat}{y:LB}{ob ob':Ob}(hi:ops[i]?=some o)(hop:o.op=.mapUpdate t x ix vx)(hw:wants nt ops o (frGet s.st.fr)=true)(hd:dstOk nt o=true)(hx:evalO (frGet s.st.fr) x=.mp l)(hy:alg s.lp l=some y)(hm:y.mp=some ob)(hni:noItB l s.st.lp=true)(hv:tPut ev P t ob (evalO (frGet s.st.fr) ix) (evalO (frGet s.st.fr) vx)=some ob')(h:holds (rec (.ops nt ops rest ⟨putD s.fr o.dst .top,s.hp,s.nx+8,hset s.lp l {y with mp:=some ob'},s0.fu⟩)) q):AWPO P nt ops (i::rest) (Ends q) s.st:=by
 unfold tPut at hv;split at hv;.cases hv
 split at hv;rotate_left;.cases hv
 rename_i k v et hmt;split at hv;rotate_left;.cases hv
 rename_i xs a c hox ha hc;split at hv;rotate_left;.cases hv
 rename_i hP;cases hv;obtain⟨kt,kd,u1,u2,u3⟩:=mapTy_ok hmt;have hn:=dec_key u3 ha
 obtain⟨m',hm',hle⟩:∃m',mapPut P t (encM k v xs) (evalO (frGet s.st.fr) ix) (evalO (frGet s.st.fr) vx)=some m'/\MLe m' (encM k v (mput k xs a c)):=by
  unfold mapPut;simp only[u1,u2,keyCT_plain u3,hn,k.av_P,hP,Bool.and_self,if_true];rcases afind_enc v u3 a xs 0 with⟨h1,h2,h3⟩|⟨b,j,h1,h2,h3⟩;.rw[h2,h3];exact⟨_,rfl,MLe.app (AV.Le.refl _) (v.dec_le hc) _⟩
  .rw[h2,h3,Nat.zero_add];exact⟨_,rfl,MLe.setAt (AV.Le.refl _) (v.dec_le hc) _ _⟩
 refine cn_awpo (cn_mp (o':=.map (encM k v xs)) (alg_st hy) hm λ_ _ _ _ hr=>obM_map hox hr) ?_;have hl2:alg (hset s.st.lp l {y.l with mp:=some (.map (encM k v xs))}) l=some {y.l with mp:=some (.map (encM k v xs))}:=by rw[alg_hset];simp[fupd]
 refine awpo_mapPut hi hop hw hd hx hl2 rfl (noItB_hset (λ_ _ _ e=>by cases e) hni) hm' ?_;refine cn_awpo (cn_mp (l:=l) (o:=.map m') (o':=.md k v (mput k xs a c)) (by show alg (hset (hset s.st.lp l _) l _) l=_;rw[alg_hset];simp[fupd];rfl) rfl λ_ _ _ _ hr=>?_) ?_;.obtain⟨kk,es,c',r1,r2,r3,r4,r5⟩:=hr;exact⟨kk,es,c',r1,r2,r3,hle.rel r4,r5⟩
 .refine awpo_sim (sim_fr (alg_hpL _) ?_) (hs _ _ h);show hset (hset (hset s.st.lp l _) l _) l _=_;rw[hset_hset,hset_hset];exact hset_st l {y with mp:=some (.md k v (mput k xs a c))}
theorem good_spec[Adr](hs:Sound P rec){ev:Ev}{o:Oper}{i:Nat}{rest:List Nat}{s:Cs}{q:Os}(hi:ops[i]?=some o)(hw:wants nt ops o (tau s.fr)=true)(hk:∀c,o.op=.call c->c.callee=.builtin .delete)(h:holds (specC ev P rec nt ops o rest s) q):AWPO P nt ops (i::rest) (Ends q) s.st:=by
 have e:frGet s.st.fr=tau s.fr:=wants_tau s;unfold specC at h;split at h;.exact h.elim
 rename_i hd;split at h
 .rename_i x hop;split at h
  .rename_i t a hx;split at h;.rename_i u hc;exact awpo_panic hi hop (by rw[e];exact hw) (by rw[e];exact hx) hc λv hv=>⟨s,Sim.refl _,.inr ⟨_,v,h,hv,rfl⟩⟩
   .exact h.elim
  .exact h.elim
 .rename_i t hop;exact awpo_mkmap hi hop (by rw[e];exact hw) hd (awpo_sim (sim_fr (alg_hpL _) rfl) (hs _ _ h))
 .rename_i t x ix ok hop;split at h;rotate_left;.exact h.elim
  rename_i l hx;split at h;rotate_left;.exact h.elim
  rename_i y hy;split at h;rotate_left;.exact h.elim
  rename_i ob hm;split at h;.rename_i v hv;exact good_lookT hs hi hop (by rw[e];exact hw) hd (by rw[e];exact hx) hy hm (by rw[e];exact hv) h
  split at h;rotate_left;.exact h.elim
  rename_i m;split at h;rotate_left;.exact h.elim
  rename_i v hv;exact awpo_mapGet hi hop (by rw[e];exact hw) hd (by rw[e];exact hx) (alg_st hy) hm (λ_ _ _ _ h=>h) (by rw[e];exact hv) (awpo_sim (sim_fr (alg_hpL _) rfl) (hs _ _ h))
 .rename_i t x ix vx hop;split at h;rotate_left;.exact h.elim
  rename_i s2 hp;split at h;.exact h.elim
  rename_i hw2;split at h;rotate_left;.exact h.elim
  rename_i l hx;split at h;rotate_left;.exact h.elim
  rename_i y hy;split at h;rotate_left;.exact h.elim
  rename_i ob hm;split at h;rotate_left;.exact h.elim
  rename_i hni;have e2:frGet s2.st.fr=tau s2.fr:=wants_tau s2;split at h;.rename_i ob' hv;exact good_pur hp (good_putT hs hi hop (by rw[e2];exact hw2) hd (by rw[e2];exact hx) hy hm (noIt_st hni) (by rw[e2];exact hv) h)
  split at h;rotate_left;.exact h.elim
  rename_i m;split at h;rotate_left;.exact h.elim
  rename_i m' hv;exact good_pur hp (awpo_mapPut hi hop (by rw[e2];exact hw2) hd (by rw[e2];exact hx) (alg_st hy) hm (noIt_st hni) (by rw[e2];exact hv) (awpo_sim (sim_fr (alg_hpL _) (hset_st l {y with mp:=some (.map m')})) (hs _ _ h)))
 .rename_i t x ix vx hop;split at h;rotate_left;.exact h.elim
  rename_i s2 hp;split at h;.exact h.elim
  rename_i hw2;split at h;rotate_left;.exact h.elim
  rename_i l hx;split at h;rotate_left;.exact h.elim
  rename_i y hy;split at h;rotate_left;.exact h.elim
  rename_i m hm;split at h;rotate_left;.exact h.elim
  rename_i hni;split at h;rotate_left;.exact h.elim
  rename_i m' hv;have e2:frGet s2.st.fr=tau s2.fr:=wants_tau s2;exact good_pur hp (awpo_mapIns hi hop (by rw[e2];exact hw2) hd (by rw[e2];exact hx) (alg_st hy) hm (noIt_st hni) (by rw[e2];exact hv) (awpo_sim (sim_fr (alg_hpL _) (hset_st l {y with mp:=some (.map m')})) (hs _ _ h)))
 .rename_i t x hop;split at h;.rename_i u hu hx;exact awpo_rangeS hi hop (by rw[e];exact hw) hd hu (by rw[e];exact hx) (awpo_sim (sim_fr (alg_hpL _) rfl) (hs _ _ h))
  .rename_i kt et l hu hx;split at h;rotate_left;.exact h.elim
   rename_i y hy;split at h;.rename_i m hm;exact awpo_rangeM (m:=.l m) hi hop (by rw[e];exact hw) hd hu (by rw[e];exact hx) (alg_st hy) hm rfl (awpo_sim (sim_fr (alg_hpL _) rfl) (hs _ _ h))
   .rename_i k v xs hm;exact awpo_rangeM (m:=.d k v xs) hi hop (by rw[e];exact hw) hd hu (by rw[e];exact hx) (alg_st hy) hm rfl (awpo_sim (sim_fr (alg_hpL _) rfl) (hs _ _ h))
   .exact h.elim
  .exact h.elim
 .rename_i x hop;split at h;rotate_left;.exact h.elim
  rename_i l hx;split at h;rotate_left;.exact h.elim
  rename_i y hy;split at h;rotate_left;.exact h.elim
  rename_i l0 left cur hm;refine awpo_nextM hi hop (by rw[e];exact hw) hd (by rw[e];exact hx) (alg_st hy) hm (λhnil=>?_) (λj kv hj=>?_)
  .split at h;.exact awpo_sim (sim_fr (alg_hpL _) rfl) (hs _ _ h)
   .cases hnil
   .rename_i k v xs;exact awpo_sim (sim_fr (alg_hpL _) rfl) (hs _ _ (h.1 (List.map_eq_nil_iff.1 hnil)))
  .split at h;.cases hj
   .have ha:=nextAll_ok _ _ _ h j kv hj;rw[Nat.zero_add]at ha;exact⟨.l _,rfl,awpo_sim (sim_fr (alg_hpL _) (hset_st l {y with mp:=some (.mit l0 _ (some kv))})) (hs _ _ ha)⟩
   .rename_i k v xs;obtain⟨a,ha,rfl⟩:=encM_get hj;exact⟨.d k v (dropAt xs j),encM_drop xs j,awpo_sim (sim_fr (alg_hpL _) (hset_st l {y with mp:=some (.mit l0 _ (some (k.av a.1,v.av a.2)))})) (hs _ _ (h.2 j a ha))⟩
 .rename_i x hop;split at h;rotate_left;.exact h.elim
  rename_i l hx;split at h;rotate_left;.exact h.elim
  rename_i y hy;split at h;rotate_left;.exact h.elim
  rename_i l0 left cur hm;split at h;rotate_left;.exact h.elim
  rename_i kv;exact awpo_entry hi hop (by rw[e];exact hw) hd (by rw[e];exact hx) (alg_st hy) hm (awpo_sim (sim_fr (alg_hpL _) rfl) (hs _ _ h))
 .rename_i x hop;split at h;rotate_left;.exact h.elim
  rename_i l hx;split at h;rotate_left;.exact h.elim
  rename_i y hy;split at h;rotate_left;.exact h.elim
  rename_i u p hm;split at h;rotate_left;.exact h.elim
  rename_i v p' hv;exact awpo_nextS hi hop (by rw[e];exact hw) hd (by rw[e];exact hx) (alg_st hy) hm hv (awpo_sim (sim_fr (alg_hpL _) (hset_st l {y with mp:=some (.sit u p')})) (hs _ _ h))
 .rename_i c hop;split at h
  .rename_i t ts x ix ht ha;split at h;rotate_left;.exact h.elim
   rename_i l hx;split at h;rotate_left;.exact h.elim
   rename_i y hy;split at h;rotate_left;.exact h.elim
   rename_i m hm;split at h;rotate_left;.exact h.elim
   rename_i hni;split at h;rotate_left;.exact h.elim
   rename_i m' hv;exact awpo_mapDel hi hop (hk c hop) ha ht (by rw[e];exact hw) hd (by rw[e];exact hx) (alg_st hy) hm (noIt_st hni) (by rw[e];exact hv) (awpo_sim (sim_fr (alg_hpL _) (hset_st l {y with mp:=some (.map m')})) (hs _ _ h))
  .exact h.elim
 .exact h.elim
end
end Go.AM
end
section
set_option linter.unusedSimpArgs false
set_option linter.unusedVariables false
namespace Go.AM
open Go Go.RowKit
section
variable{P:Program}{rec:Rc}{nt:Nat}{ops:Array Oper}
theorem kind_call{o:Op}{f:Operand}{args:Array Operand}(h:kindOf o=.call f args):isCall o=some (f,args.toList):=by
 unfold kindOf at h;split at h
 .rename_i c;split at h;.rename_i g hg;cases h;simp[isCall,hg]
  .cases h
  .cases h
  .cases h
 all_goals cases h
theorem kind_spec{o:Op}(h:kindOf o=.spec):∀c,o=.call c->c.callee=.builtin .delete:=by
 rintro c rfl;simp only[kindOf]at h;split at h;.cases h
 .cases h
 .rename_i hc;exact hc
 .cases h
theorem frc_ok{L:Type}{n:Nat}{x:R L}{Q:L->Prop}(h:holds (frc n x) Q):holds x Q:=by
 unfold frc at h;split at h;.exact h
 .exact h.elim
theorem kind_plain[Adr]{P:Program}{o:Op}(h:kindOf o=.plain):isCall o=none/\ ∀τ,isInv P o τ=none:=by
 cases o<;>simp only[kindOf,reduceCtorEq]at h<;>try exact⟨rfl,λ_=>rfl⟩
 rename_i c;obtain⟨callee,args,ats⟩:=c;cases callee<;>simp only[reduceCtorEq]at h;exact⟨rfl,λ_=>rfl⟩
theorem gKind_none[Adr]{o:Oper}(h:gKind nt ops o=some none):dstOk nt o=true/\o.guard=none:=by
 unfold gKind at h;split at h;.cases h
 rename_i hd;split at h;.rename_i hg;exact⟨hd,hg⟩
 .split at h;.split at h<;>cases h
  .cases h
theorem gKind_some[Adr]{o:Oper}{d:Nat}{want:Bool}(h:gKind nt ops o=some (some (d,want))):dstOk nt o=true/\d<nt/\ ∃j,o.guard=some (j,want)/\(ops[j]?).bind (·.dst)=some d:=by
 unfold gKind at h;split at h;.cases h
 rename_i hd;split at h;.cases h
 rename_i j w' hg;split at h;rotate_left;.cases h
 rename_i d' hj;split at h;rotate_left;.cases h
 rename_i hlt;cases h;exact⟨hd,Nat.le_of_ble_eq_true hlt,j,hg,hj⟩
theorem runO_plain[Adr]{o:Oper}{s:Cs}(hk:kindOf o.op=.plain)(gt:List Nat):runO true P o none s.nx gt (tau s.fr) (vw s.hp)=(match opFn o.op P (evalO (tau s.fr)) (vw s.hp) s.nx with|some e=>some {d:=o.dst,v:=e.v,wr:=e.wr,rt:=gt++opTmps o.op.operands.toList,rb:=e.rd,ob:=none}|none=>none):=by obtain⟨k1,k2⟩:=kind_plain (P:=P) hk;unfold runO;rw[k1,opFn_eq];simp only[k2];cases opSemE true P o.op (evalO (tau s.fr)) (vw s.hp) s.nx<;>rfl
theorem good_exeX[Adr](hs:Sound P rec){o:Oper}{i:Nat}{rest:List Nat}{s:Cs}{q:Os}(hi:ops[i]?=some o)(hk:kindOf o.op=.plain)(hd:dstOk nt o=true)(hw:wants nt ops o (tau s.fr)=true)(h:holds (exeX P rec nt ops o rest s) q):AWPO P nt ops (i::rest) (Ends q) s.st:=by
 unfold exeX at h;split at h;.rename_i e he;have hst:=stepF_wants (P:=P) (ops:=ops) (ε:=true) (an:=none) (nm:=s.nx) (v:=e.v) (wr:=e.wr) (rt:=opTmps o.op.operands.toList) (rb:=e.rd) (ob:=none) (η:=vw s.hp) hd hw (λgt=>by rw[runO_plain hk,he]);refine awpo_op (ε:=true) (ans:=none) hi (by rw[wants_tau,hp_vw];exact hst) (by exact⟨trivial,trivial⟩) ?_;exact awpo_sim (sim_fr (by rw[<-alg_hpL];exact alg_putW _ _) rfl) (hs _ _ h)
 .exact h.elim
theorem isLd_ok{j d:Nat}{o:Oper}{t:TypeId}(h:isLd ops j d=some (o,t)):ops[j]?=some o/\o.op=.load t (.tmp d)/\o.guard=none:=by
 unfold isLd at h;split at h
 .rename_i o' ho;split at h
  .rename_i t' e hop hg;split at h;.rename_i hb;cases h;rw[Nat.eq_of_beq_eq_true hb];exact⟨ho,hop,hg⟩
   .cases h
  .cases h
 .cases h
theorem good_fetch[Adr](hs:Sound P rec){o:Oper}{i:Nat}{rest:List Nat}{s:Cs}{q:Os}{r:R Out}(hi:ops[i]?=some o)(hw:wants nt ops o (tau s.fr)=true)(hd:dstOk nt o=true)(h0:tFetch P nt ops o rest s (λfr rest=>rec (.ops nt ops rest ⟨fr,s.hp,s.nx+16,s.lp,s.fu⟩))=some r)(h:holds r q):AWPO P nt ops (i::rest) (Ends q) s.st:=by
 unfold tFetch at h0;split at h0;rotate_left;.cases h0
 rename_i t x ix0 d j rest' hop hdst;split at h0;rotate_left;.cases h0
 rename_i o2 t2 e hld hts;split at h0;rotate_left;.cases h0
 rename_i b g z off len k' k0 z' d2 hx hix hz hd2;split at h0;rotate_left;.cases h0
 rename_i g' own n xs ag z2 hb hag hz2;split at h0;rotate_left;.cases h0
 rename_i hc;cases h0;simp only[Bool.and_eq_true]at hc;obtain⟨c1,c2,c3,c4,c5,c6⟩:=hc;obtain⟨l1,l2,l3⟩:=isLd_ok hld;obtain⟨h1,a,h2,h3⟩:=h;have h3:=splU_iff.1 h3;change holds (match AV.ofCells ag ((encU n a).take z2)with|some v=>rec (.ops nt ops rest' ⟨(s.fr.put d (.ref b g k0.toNat 0)).put d2 v,s.hp,s.nx+16,s.lp,s.fu⟩)|none=>.bad) q at h3;split at h3;rotate_left;.exact h3.elim
 rename_i v hv;obtain⟨k1,k2,k3⟩:=idxS h2;refine good_top (ev:=⟨true,λ_=>none,λ_ _=>none,λ_ _=>none⟩) (r:=.len len xs.length (.ask (ix xs k0) λ_=>tv (.ref b g k0.toNat 0))) hi hw hd ?_ ⟨h1,a,h2,?_⟩;.rw[hop];simp only[tOp,tIndexAddr,hts,hix,hz,hx,hb];rw[c1,c2,c3,c4];rfl
 .refine good_top (ev:=⟨true,λ_=>none,λ_ _=>none,λ_ _=>none⟩) (r:=.ask (xs[k0.toNat]?) λe=>splU n e λcs=>match AV.ofCells ag ((cs.drop 0).take z2)with|some v=>tv v|none=>.bad) l1 (by unfold wants;rw[l3]) ?_ ?_ ⟨a,k3,?_⟩;.unfold dstOk;rw[hd2];simp only[decide_eq_true_eq];exact Nat.le_of_ble_eq_true c6
  .rw[l2];simp only[tOp,tLoad,evalT];rw[show tau (putD s.fr o.dst (AV.ref b g k0.toNat 0)) d=.ref b g k0.toNat 0 by rw[hdst];show tau (s.fr.put d _) d=_;rw[tau_put];simp[fupd]];simp only;rw[show(putC s.hp ([]:List (Nat×CB))).get b=some (.t g' own n xs)from hb];simp only[hag,hz2];rw[c1,Nat.zero_add,c5];rfl
  .have g3:AWPO P nt ops rest' (Ends q) _:=hs _ _ h3;refine splU_iff.2 ?_;show holds (match AV.ofCells ag (((encU n a).drop 0).take z2)with|some v=>tv v|none=>.bad) _;rw[show((encU n a).drop 0).take z2=(encU n a).take z2 by simp,hv];show AWPO P nt ops rest' (Ends q) _;rw[hdst,hd2];exact g3
theorem good_exeT[Adr](hs:Sound P rec){ev:Ev}{o:Oper}{i:Nat}{rest:List Nat}{s:Cs}{q:Os}(hi:ops[i]?=some o)(hk:kindOf o.op=.plain)(hw:wants nt ops o (tau s.fr)=true)(hd:dstOk nt o=true)(h:holds (exeT ev P rec nt ops o rest s) q):AWPO P nt ops (i::rest) (Ends q) s.st:=by
 unfold exeT at h;split at h;.rename_i r hr;exact good_fetch hs hi hw hd hr h
 .split at h;.rename_i r hr;exact good_top hi hw hd hr (holds_mono (λe he=>hs (.ops nt ops rest ⟨putD s.fr o.dst e.1,putC s.hp e.2,s.nx+8,s.lp,s.fu⟩) q he) (holds_bnd.1 h))
  .exact good_exeX hs hi hk hd hw h
theorem good_plainX[Adr](hs:Sound P rec){ev:Ev}{o:Oper}{i:Nat}{rest:List Nat}{s:Cs}{q:Os}(hi:ops[i]?=some o)(hk:kindOf o.op=.plain)(h:holds (plainX ev P rec nt ops o rest s) q):AWPO P nt ops (i::rest) (Ends q) s.st:=by
 unfold plainX at h;split at h;.exact h.elim
 .rename_i hgk;obtain⟨hd,hg⟩:=gKind_none hgk;split at h;.exact good_exeT hs hi hk (by unfold wants;rw[hg]) hd h
  .exact good_exeX hs hi hk hd (by unfold wants;rw[hg]) h
 .rename_i d want hgk;obtain⟨hd,hlt,j,hg,hj⟩:=gKind_some hgk
  have skip:∀{b:AV},tau s.fr d=b->((∃c,b=.bool c/\c≠want)\/ ∃vs,b=.tup vs)->holds (skipX rec nt ops o rest s) q->AWPO P nt ops (i::rest) (Ends q) s.st:=λ{b} hb hc h=>by
   refine awpo_op (ε:=true) (ans:=none) (se:=skipO o [d]) hi ?_ (by exact⟨trivial,trivial⟩) (awpo_sim (sim_fr (alg_hpL _) rfl) (hs _ _ h));rw[wants_tau];unfold stepF;simp only[hd,if_true,hg,hj];rw[if_pos hlt,hb];rcases hc with⟨c,rfl,hne⟩|⟨vs,rfl⟩;.simp only;rw[if_neg hne]
   .rfl
  unfold guardX at h;split at h
  .rename_i b hb;split at h
   .rename_i hq;have hw:wants nt ops o (tau s.fr)=true:=by unfold wants;rw[hg];simp only[hj,hb,hq,Bool.and_true,decide_eq_true_eq];exact hlt
    split at h;.exact good_exeT hs hi hk hw hd h
    .exact good_exeX hs hi hk hd hw h
   .rename_i hq;exact skip hb (.inl ⟨b,rfl,by simpa using hq⟩) h
  .rename_i vs hb;exact skip hb (.inr ⟨vs,rfl⟩) h
  .exact h.elim
theorem good_op[Adr](hs:Sound P rec){ev:Ev}(hc:COk P ev.con){o:Oper}{i:Nat}{rest:List Nat}{s:Cs}{q:Os}(hi:ops[i]?=some o)(h:holds (stepOp ev P rec nt ops o rest s) q):AWPO P nt ops (i::rest) (Ends q) s.st:=by
 unfold stepOp at h;split at h;.rename_i hk;exact good_plainX hs hi hk h
 .rename_i f args hk;unfold stepCallO at h;split at h;.rename_i hw;exact good_callC hs hc hi (kind_call hk) hw h
  .exact good_plain hs hi asked_none h
 .unfold stepInvO at h;split at h;.rename_i hw;exact good_invC hs hi hw h
  .exact good_plain hs hi asked_none h
 .rename_i hk;unfold stepSpecO at h;split at h;.rename_i hw;exact good_spec hs hi hw (kind_spec hk) h
  .exact good_plain hs hi asked_none h
theorem segOf_ok{d:Nat}:∀{l acc seg rest:List Nat}{p:Nat},segOf ops d acc l=some (seg,p,rest)->seg++rest=acc.reverse++l
 |[],acc,seg,rest,p,h=>by simp[segOf]at h
 |i::l,acc,seg,rest,p,h=>by
  simp only[segOf]at h;split at h
  .split at h
   .split at h;.cases h;simp
    .cases h
   .rw[segOf_ok h];simp
  .cases h
theorem frGet_ks(τ:Nat->AV)(k:Nat):∀ks:List Nat,frGet (ks.map λt=>(t,τ t)) k=if k∈ks then τ k else .top
 |[]=>rfl
 |a::ks=>by
  rw[List.map_cons,frGet_cons];by_cases ea:k=a;.subst ea;simp
  .rw[if_neg ea,frGet_ks τ k ks];simp[ea]
theorem good_joinG[Adr](hs:Sound P rec){l:List Nat}{d:Nat}{b:Bool}{s:Cs}{q:Os}(hb:tau s.fr d=.bool b)(h:holds (joinG rec nt ops l d b s) q):AWPO P nt ops l (Ends q) s.st:=by
 unfold joinG at h;split at h;rotate_left;.exact h.elim
 rename_i seg p rest hseg;have hcat:seg++rest=l:=by simpa using segOf_ok hseg
 obtain⟨ks,hks⟩:∃ks,ks=s.fr.keys.filter λt=>!(d::dstsOf ops seg).contains t:=⟨_,rfl⟩;simp only at h;rw[<-hks]at h;have h0:(if b=true then holds (segR rec nt ops seg ks d p (8*seg.length) s true) λv=>holds (rec (.ops nt ops rest {s with fr:=((putFr (ks.map λt=>(t,tau s.fr t))).put d (.bool b)).put p (.bool v),nx:=s.nx+8*seg.length})) q else holds (segR rec nt ops seg ks d p (8*seg.length) s false) λv=>holds (rec (.ops nt ops rest {s with fr:=((putFr (ks.map λt=>(t,tau s.fr t))).put d (.bool b)).put p (.bool v),nx:=s.nx+8*seg.length})) q):=h;have h1:holds (segR rec nt ops seg ks d p (8*seg.length) s b) λv=>holds (rec (.ops nt ops rest {s with fr:=((putFr (ks.map λt=>(t,tau s.fr t))).put d (.bool b)).put p (.bool v),nx:=s.nx+8*seg.length})) q:=by cases b with|true=>simpa using h0|false=>simpa using h0
 unfold segR at h1;have h2:=hs _ _ (holds_bnd.1 h1);rw[<-hcat];refine awpo_append (awpo_sim (t:=Cs.st {s with fr:=s.fr.put d (.bool b),fu:=⟨s.fu.n,d::s.fu.kn⟩}) ⟨?_,rfl,rfl,rfl⟩ (awpo_mono h2 λe s1 he=>?_))
 .show frGet s.fr.toL=frGet (s.fr.put d (.bool b)).toL;rw[frGet_toL,frGet_toL,tau_put];funext t;unfold fupd;split;.rename_i e;subst e;exact hb
  .rfl
 obtain⟨cs,hsim,hm⟩:=he;rcases hm with hm|⟨a,v,hm,-,-⟩;rotate_left;.exact hm.elim
 cases e with
  |normal=>
   simp only at hm;split at hm;rotate_left;.exact hm.elim
   rename_i v hv;split at hm;rotate_left;.exact hm.elim
   rename_i hnx;obtain⟨e1,hm⟩:=hm;have hm:holds (rec (.ops nt ops rest {s with fr:=((putFr (ks.map λt=>(t,tau s.fr t))).put d (.bool b)).put p (.bool v),nx:=s.nx+8*seg.length})) q:=hm;unfold same at e1;simp only[Prod.mk.injEq]at e1;obtain⟨f1,f2,f3⟩:=e1;have g1:∀t∈d::ks,tau cs.fr t=tau (s.fr.put d (.bool b)) t:=λt ht=>List.map_inj_left.1 f1 t ht;have g2:∀n∈s.hp.keys,cs.hp.get n=s.hp.get n:=λn hn=>List.map_inj_left.1 f2 n hn;refine awpo_sim hsim (cn_awpo (t:=Cs.st {s with fr:=((putFr (ks.map λt=>(t,tau s.fr t))).put d (.bool b)).put p (.bool v),nx:=s.nx+8*seg.length}) (cn_wk (λk=>?_) (λc x' hc=>⟨x',?_,.inl rfl⟩) (Nat.le_of_ble_eq_true hnx) ?_) (hs _ _ hm))
   .rw[show frGet cs.st.fr=tau cs.fr from frGet_toL _];show(tau cs.fr k).Le (frGet (((putFr (ks.map λt=>(t,tau s.fr t))).put d (.bool b)).put p (.bool v)).toL k);rw[frGet_toL,tau_put];simp only[fupd];split;.rename_i e;subst e;rw[hv];exact AV.Le.refl _
    .rw[tau_put];simp only[fupd];split;.rename_i e;subst e;rw[g1 _ (by simp),tau_put];simp only[fupd,if_true];exact AV.Le.refl _
     .rename_i e;rw[tau_putFr];by_cases hk:k∈ks
      .rw[g1 _ (by simp[hk]),tau_put];simp only[fupd];rw[if_neg e];have :frGet (ks.map λt=>(t,tau s.fr t)) k=tau s.fr k:=by rw[frGet_ks,if_pos hk]
       rw[this];exact AV.Le.refl _
      .have :frGet (ks.map λt=>(t,tau s.fr t)) k=.top:=by rw[frGet_ks,if_neg hk]
       rw[this];exact AV.Le.top _
   .rw[show alg cs.st.hp=vw cs.hp from alg_hpL _];rw[show alg (Cs.st {s with fr:=((putFr (ks.map λt=>(t,tau s.fr t))).put d (.bool b)).put p (.bool v),nx:=s.nx+8*seg.length}).hp=vw s.hp from alg_hpL _]at hc;unfold vw at hc⊢;cases hq:s.hp.get c with|none=>rw[hq]at hc;cases hc|some y=>rw[hq]at hc;rw[g2 c ((Tr.mem_keys _ _).2 ⟨y,hq⟩),hq];exact hc
   .show lpL s.lp=lpL cs.lp;rw[f3]
  |_=>exact hm.elim
theorem good_split[Adr](hs:Sound P rec){x:Bool}{l:List Nat}{d:Nat}{b:Bool}{s:Cs}{q:Os}(hb:tau s.fr d=.bool b)(h:holds (match x with|true=>.br b (rec (.ops nt ops l {s with fr:=s.fr.put d (.bool true),fu:=⟨s.fu.n,d::s.fu.kn⟩})) (rec (.ops nt ops l {s with fr:=s.fr.put d (.bool false),fu:=⟨s.fu.n,d::s.fu.kn⟩}))|false=>joinG rec nt ops l d b s) q):AWPO P nt ops l (Ends q) s.st:=by
 cases x with
  |false=>exact good_joinG hs hb h
  |true=>
   have key:holds (rec (.ops nt ops l {s with fr:=s.fr.put d (.bool b),fu:=⟨s.fu.n,d::s.fu.kn⟩})) q:=by change(if b=true then holds (rec (.ops nt ops l {s with fr:=s.fr.put d (.bool true),fu:=⟨s.fu.n,d::s.fu.kn⟩})) q else holds (rec (.ops nt ops l {s with fr:=s.fr.put d (.bool false),fu:=⟨s.fu.n,d::s.fu.kn⟩})) q)at h;cases b with|true=>simpa using h|false=>simpa using h
   refine awpo_sim (t:=Cs.st {s with fr:=s.fr.put d (.bool b),fu:=⟨s.fu.n,d::s.fu.kn⟩}) ⟨?_,rfl,rfl,rfl⟩ (hs _ _ key);show frGet s.fr.toL=frGet (s.fr.put d (.bool b)).toL;rw[frGet_toL,frGet_toL,tau_put,<-hb];funext k;unfold fupd;split;.rename_i e;rw[e]
   .rfl
theorem good_ops[Adr](hs:Sound P rec){ev:Ev}(hc:COk P ev.con){i:Nat}{rest:List Nat}{s:Cs}{q:Os}(h:holds (stepOps ev P rec nt ops i rest s) q):AWPO P nt ops (i::rest) (Ends q) s.st:=by
 unfold stepOps at h;have h:=frc_ok h;split at h;.exact h.elim
 rename_i o hi;split at h;.exact good_op hs hc hi h
 .split at h
  .split at h
   .rename_i b hb;split at h;.exact good_op hs hc hi h
    .exact good_split hs hb h
   .exact good_op hs hc hi h
  .exact good_op hs hc hi h
end
end Go.AM
end
