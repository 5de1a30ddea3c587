/- Texts of the proof, joined by program. -/
import Derived.Test.YtaeifdlkolfdjaaGreatDoorKBl
section
set_option linter.unusedSimpArgs false
set_option linter.unusedVariables false
namespace Go.AM
open Go Go.RowKit
section
variable{P:Program}{rec:Rc}{nt:Nat}{ops:Array Oper}
theorem segP_ok{d:Nat}:∀{l acc seg rest:List (Nat×Oper)}{p:Nat},segP d acc l=some (seg,p,rest)->seg++rest=acc.reverse++l
 |[],acc,seg,rest,p,h=>by simp[segP]at h
 |(i,o)::l,acc,seg,rest,p,h=>by
  simp only[segP]at h;split at h
  .split at h;.cases h;simp
   .cases h
  .rw[segP_ok h];simp
theorem dsts_other{bs:List Nat}{t:Nat}:∀{l:List (Nat×Oper)}{ses:List SE}{τ:Nat->AV},FpL ses (fpSeg ops bs l)->t∉dsts l->apsT τ ses t=τ t|[],[],_,_,_=>rfl|[],_::_,_,h,_=>h.elim|(i,o)::l,[],_,h,_=>h.elim|(i,o)::l,se::ses,τ,h,ht=>by have hd:se.d=o.dst:=h.1.1;show apsT (apT τ se) ses t=τ t;rw[dsts_other h.2 (λq=>ht (by simp only[dsts];cases o.dst<;>simp[q]))];unfold apT putT;rw[hd];cases e:o.dst with|none=>rfl|some d=>simp only[fupd];rw[if_neg (λq=>ht (by simp[dsts,e,q]))]
theorem tau_tops:∀(l:List Nat)(fr:Tr AV)(t:Nat),tau (topsT fr l) t=if t∈l then .top else tau fr t
 |[],fr,t=>by simp[topsT]
 |a::l,fr,t=>by
  simp only[topsT];rw[tau_tops l,tau_put];by_cases h:t∈l;.simp[h]
  .rw[if_neg h];by_cases e:t=a;.subst e;simp[fupd]
   .simp[fupd,h,e]
theorem apWr_append:∀(l l':List (Nat×ABlk))(η:Heap),apWr η (l++l')=apWr (apWr η l) l'|[],_,_=>rfl|(b,x)::l,l',η=>apWr_append l l' _
theorem opw_bw[Adr]{η η':Heap}{nm:Nat}{a:ABlk}(h:∀b x',η' b=some x'->∃x,η b=some x/\(x'=x\/BW x x'))(b:Nat)(x':ABlk)(hb:apWr η' [(nm,a)] b=some x'):∃x,apWr η [(nm,a)] b=some x/\(x'=x\/BW x x'):=by
 simp only[apWr]at hb⊢;unfold fupd at hb⊢;split at hb;.rename_i e;rw[if_pos e];exact⟨x',hb,.inl rfl⟩
 .rename_i e;rw[if_neg e];exact h b x' hb
theorem frzC_bw[Adr]{hp:Tr CB}:∀(l:List Nat)(η η':Heap),(∀b,b∈l->η' b=vw hp b)->(∀b x',η b=some x'->∃x,η' b=some x/\(x'=x\/BW x x'))->∀b x',apWr η ((freezeC hp l).map λp=>(p.1,p.2.a)) b=some x'->∃x,η' b=some x/\(x'=x\/BW x x')
 |[],η,η',_,h,b,x',hb=>h b x' hb
 |c::l,η,η',hc,h,b,x',hb=>by
  unfold freezeC at hb
  cases hq:hp.get c with
   |none=>rw[hq]at hb;exact frzC_bw l η η' (λb hb=>hc b (by simp[hb])) h b x' hb
   |some y=>
    rw[hq]at hb;refine frzC_bw l (fupd η c (some y.frz.a)) η' (λb hb=>hc b (by simp[hb])) (λb2 x2 h2=>?_) b x' hb;unfold fupd at h2;split at h2;.rename_i e;subst e;cases h2;exact⟨y.a,by rw[hc _ (by simp)];unfold vw;rw[hq],.inr (BW.frz y)⟩
    .exact h b2 x2 h2
theorem opw_sem[Adr]{hp:Tr CB}{nm n:Nat}{xs:List (U n)}{f:Operand}{args:List Operand}{τ:Nat->AV}{fid:FuncId}{first cap pargs:List AV}{rd:List Nat}(hf:evalO τ f=.fn fid first cap)(hp1:pur.purs (vw hp) 60 (first++args.map (evalO τ)++cap)=some (pargs,rd)):∃fz,semCall (vw hp) nm (evalO τ f) (args.map (evalO τ)) (.sl 0 0 (szU n) 0 xs.length,[(CB.t 0 true n xs).a])=some (⟨.sl (nm+0) 0 (szU n) 0 xs.length,fz++[(nm,(CB.t 0 true n xs).a)],rd⟩,⟨fid,pargs,.sl 0 0 (szU n) 0 xs.length,[(CB.t 0 true n xs).a]⟩)/\ ∀(η':Heap),(∀b,b∈rd->η' b=vw hp b)->∀b x',apWr η' ((freezeC hp rd).map λp=>(p.1,p.2.a)) b=some x'->∃x,apWr η' fz b=some x/\(x'=x\/BW x x'):=by
 obtain⟨c,hc⟩:∃c,c=(rd.isEmpty||((AV.sl 0 0 (szU n) 0 xs.length).flatR&&[(CB.t 0 true n xs).a].all ABlk.flat)):=⟨_,rfl⟩;refine⟨if c then[]else freezeAll (vw hp) rd,?_,λη' hag b x' hb=>?_⟩;.rw[hf];unfold semCall;simp only[hp1,List.length_singleton];rw[<-hc];cases c<;>simp[imports,AV.shift,ABlk.shift,CB.a]
 .cases c with|true=>exact frzC_bw rd η' η' hag (λb x' h=>⟨x',h,.inl rfl⟩) b x' hb|false=>rw[vw_freeze]at hb;exact⟨x',hb,.inl rfl⟩
theorem opnO_ok[Adr]{ev:Ev}(hc:COk P ev.con){fu nx i:Nat}{lk:Nat->Option (List (AV×AV))}{o:Oper}{τ:Nat->AV}{hp:Tr CB}{L:Type}{k:SE->Tr CB->R L}{bad no:R L}{Q:L->Prop}(h:holds (opnO ev fu nt ops o τ hp (nx+8*i) k bad no) Q):(∃se hp1,SL P nt ops nx lk i o τ (vw hp) se/\vw hp1=apH (vw hp) se/\holds (k se hp1) Q)\/holds bad Q\/holds no Q:=by
 unfold opnO at h;split at h;rotate_left;.exact .inr (.inr h)
 rename_i f args hcl;split at h;rotate_left;.exact .inr (.inr h)
 rename_i hw;simp only[Bool.and_eq_true]at hw;obtain⟨-,hw,hd⟩:=hw;split at h;rotate_left;.exact .inr (.inr h)
 rename_i fid first cap hf;split at h;rotate_left
 .rename_i A arg n g hk;split at h;rotate_left;.exact .inr (.inl h)
  rename_i p hp0;split at h;rotate_left;.exact .inr (.inl h)
  rename_i x hx;obtain⟨k1,xs,k2,k3⟩:=holds_eqns h;obtain⟨pargs,e1,e2⟩:=pursC_ok 60 _ p hp0 k1;have c1:=PCall_args (hc.opw fu fid arg n g hk _ _ _ hx k2) e2;obtain⟨fz,hfz,hbw⟩:=opw_sem (nm:=nx+8*i) (xs:=xs) (f:=f) (args:=args) (τ:=τ) hf e1;refine .inl ⟨_,_,?_,?_,k3⟩
  .have hst:=stepF_wants (P:=P) (ops:=ops) (ε:=true) (an:=some (.sl 0 0 (szU n) 0 xs.length,[(CB.t 0 true n xs).a])) (nm:=nx+8*i) (v:=.sl (nx+8*i+0) 0 (szU n) 0 xs.length) (wr:=fz++[(nx+8*i,(CB.t 0 true n xs).a)]) (rt:=opTmps (f::args)) (rb:=p.rd) (ob:=some ⟨fid,pargs,.sl 0 0 (szU n) 0 xs.length,[(CB.t 0 true n xs).a]⟩) (η:=vw hp) hd hw (λgt=>by unfold runO;rw[hcl];simp only[hfz]);have hl:isLook o.op=false:=by cases hop:o.op<;>first|rfl|(rw[hop]at hcl;cases hcl)
   have h0:SL P nt ops nx lk i o τ (vw hp) _:=SL.of (ε:=true) (an:=some (.sl 0 0 (szU n) 0 xs.length,[(CB.t 0 true n xs).a])) (by unfold stepX;rw[hl];exact hst) (λob e=>by cases e;exact c1);refine SL.wkb (f:=λv=>v) sees_id h0 rfl (λη' hag b x' hb=>?_) (λ_ h=>h) (λ_ h=>h) (AV.Le.refl _);unfold apH at hb⊢;simp only at hb⊢;rw[apWr_append]at hb⊢;exact opw_bw (hbw η' hag) b x' hb
  .show vw ((putC hp (freezeC hp p.rd)).put (nx+8*i) _)=apWr (vw hp) _;rw[apWr_append,vw_put,vw_putC];rfl
 .exact .inr (.inr h)
 rename_i A B arg g res hk;split at h;rotate_left;.exact .inr (.inl h)
 rename_i p hp0;split at h;rotate_left;.exact .inr (.inl h)
 rename_i x hx;obtain⟨k1,y,k2,k3⟩:=holds_eqns h;obtain⟨pargs,e1,e2⟩:=pursC_ok 60 _ p hp0 k1;obtain⟨c1,c2⟩:=hc.opn fu fid arg g res hk _ _ _ hx k2;have c1:=PCall_args c1 e2;refine .inl ⟨_,_,?_,?_,k3⟩
 .have hsem:semCall (vw hp) (nx+8*i) (evalO τ f) (args.map (evalO τ)) (res y,[])=some (⟨(res y).shift (nx+8*i),(if p.rd.isEmpty||(res y).flatR then[]else freezeAll (vw hp) p.rd),p.rd⟩,⟨fid,pargs,res y,[]⟩):=by rw[hf];unfold semCall;simp only[e1];simp[imports]
  have hst:=stepF_wants (P:=P) (ops:=ops) (ε:=true) (an:=some (res y,[])) (nm:=nx+8*i) (v:=(res y).shift (nx+8*i)) (wr:=if p.rd.isEmpty||(res y).flatR then[]else freezeAll (vw hp) p.rd) (rt:=opTmps (f::args)) (rb:=p.rd) (ob:=some ⟨fid,pargs,res y,[]⟩) (η:=vw hp) hd hw (λgt=>by unfold runO;rw[hcl];simp only[hsem]);have hl:isLook o.op=false:=by cases hop:o.op<;>first|rfl|(rw[hop]at hcl;cases hcl)
  have h0:SL P nt ops nx lk i o τ (vw hp) _:=SL.of (ε:=true) (an:=some (res y,[])) (by unfold stepX;rw[hl];exact hst) (λob e=>by cases e;exact c1);refine SL.wkb (f:=λv=>v) sees_id h0 rfl (λη' _ b x' hb=>⟨x',?_,.inl rfl⟩) (λ_ h=>h) (λ_ h=>h) (c2 _);unfold apH at hb⊢;rw[<-hb];unfold frzO;cases p.rd.isEmpty||(res y).flatR with|true=>rfl|false=>simp only[Bool.false_eq_true,if_false];rw[vw_freeze]
 .rw[vw_putC];rfl
theorem runC_ok[Adr](hs:Sound P rec){ev:Ev}(hc:COk P ev.con){lk:Nat->Option (List (AV×AV))}{fu nx:Nat}:∀(n:Nat){L:Type}(l:List (Nat×Oper))(kn dr:List Nat)(fr:Tr AV)(hp:Tr CB)(k:Option (Tr AV×Tr CB×List SE)->R L)(Q:L->Prop)(τ0:Nat->AV),(∀t,tau fr t=τ0 t\/(tau fr t=.top/\t∈dr))->holds (runC ev lk rec fu P nt ops nx n l kn dr fr hp k) Q->∃r,holds (k r) Q/\ ∀fr' hp' ses,r=some (fr',hp',ses)->∃ses',FpL ses' ses/\RunS (SL P nt ops nx lk) l τ0 (vw hp) ses'/\vw hp'=apsH (vw hp) ses'/\ ∀t,tau fr' t=apsT τ0 ses' t\/tau fr' t=.top
 |0,L,l,kn,dr,fr,hp,k,Q,τ0,hτ,h=>⟨none,h,λ_ _ _ e=>by cases e⟩
 |n+1,L,[],kn,dr,fr,hp,k,Q,τ0,hτ,h=>⟨_,h,λfr' hp' ses e=>by cases e;exact⟨[],trivial,trivial,rfl,λt=>(hτ t).imp id λq=>q.1⟩⟩
 |n+1,L,(i,o)::rest,kn,dr,fr,hp,k,Q,τ0,hτ,h=>by
  have next:∀(se:SE)(hp1:Tr CB),vw hp1=apH (vw hp) se->SL P nt ops nx lk i o (tau fr) (vw hp) se->holds (match se.rt.any λt=>dr.any (Nat.beq t)with|true=>k none|false=>runC ev lk rec fu P nt ops nx n rest kn dr (putD fr se.d se.v) hp1 λr=>match r with|some (fr',hp',ses)=>k (some (fr',hp',se::ses))|none=>k none) Q->∃r,holds (k r) Q/\ ∀fr' hp' ses,r=some (fr',hp',ses)->∃ses',FpL ses' ses/\RunS (SL P nt ops nx lk) ((i,o)::rest) τ0 (vw hp) ses'/\vw hp'=apsH (vw hp) ses'/\ ∀t,tau fr' t=apsT τ0 ses' t\/tau fr' t=.top:=by
   intro se hpA hpE hse h;split at h;.exact⟨none,h,λ_ _ _ e=>by cases e⟩
   .rename_i hdr
    have hrt:∀t,t∈se.rt->τ0 t=tau fr t:=λt ht=>by
     rcases hτ t with q|⟨-,q⟩;.exact q.symm
     .exfalso;rw[List.any_eq_false]at hdr;exact hdr t ht (any_beq.2 q)
    obtain⟨r,h1,h2⟩:=runC_ok hs hc n rest kn dr _ _ _ Q (apT τ0 se) (λt=>by
     rw[tau_putD];unfold apT putT
     cases e:se.d with
      |none=>exact hτ t
      |some d=>
       simp only[fupd];split;.exact .inl rfl
       .exact hτ t) h
    cases r with
     |none=>exact⟨none,h1,λ_ _ _ e=>by cases e⟩
     |some p=>
      obtain⟨fr1,hp1,ses1⟩:=p;refine⟨_,h1,λfr' hp' ses e=>?_⟩;cases e;obtain⟨ses',k1,k2,k3,k4⟩:=h2 _ _ _ rfl;refine⟨se::ses',⟨FpLe.refl _,k1⟩,⟨hse.loc hrt λ_ _=>rfl,?_⟩,?_,k4⟩;.rw[hpE]at k2;exact k2
      .rw[k3,hpE];rfl
  have plain:holds (match tOpU ev P nt ops o (tau fr) hp (nx+8*i)with
   |some (r,rd)=>match dstOk nt o with|true=>bnd r λe=>(match(SE.mk o.dst e.1 [] (gtOf ops o++opTmps o.op.operands.toList) rd none).rt.any λt=>dr.any (Nat.beq t)with|true=>k none|false=>runC ev lk rec fu P nt ops nx n rest kn dr (putD fr (SE.mk o.dst e.1 [] (gtOf ops o++opTmps o.op.operands.toList) rd none).d (SE.mk o.dst e.1 [] (gtOf ops o++opTmps o.op.operands.toList) rd none).v) hp λr=>match r with|some (fr',hp',ses)=>k (some (fr',hp',SE.mk o.dst e.1 [] (gtOf ops o++opTmps o.op.operands.toList) rd none::ses))|none=>k none)|false=>k none
   |none=>match tOpA ev P nt ops o (tau fr) hp (nx+8*i)with
    |some (r,nb,rd)=>match dstOk nt o with
     |true=>bnd r λe=>match e.2 with
      |[(b,c)]=>match Nat.beq b nb with|true=>(match(SE.mk o.dst e.1 [(nb,c.a)] (gtOf ops o++opTmps o.op.operands.toList) rd none).rt.any λt=>dr.any (Nat.beq t)with|true=>k none|false=>runC ev lk rec fu P nt ops nx n rest kn dr (putD fr (SE.mk o.dst e.1 [(nb,c.a)] (gtOf ops o++opTmps o.op.operands.toList) rd none).d (SE.mk o.dst e.1 [(nb,c.a)] (gtOf ops o++opTmps o.op.operands.toList) rd none).v) (hp.put nb c) λr=>match r with|some (fr',hp',ses)=>k (some (fr',hp',SE.mk o.dst e.1 [(nb,c.a)] (gtOf ops o++opTmps o.op.operands.toList) rd none::ses))|none=>k none)|false=>k none
      |_=>k none
     |false=>k none
    |none=>opnO ev fu nt ops o (tau fr) hp (nx+8*i) (λse hp1=>match se.rt.any λt=>dr.any (Nat.beq t)with|true=>k none|false=>runC ev lk rec fu P nt ops nx n rest kn dr (putD fr se.d se.v) hp1 λr=>match r with|some (fr',hp',ses)=>k (some (fr',hp',se::ses))|none=>k none) (k none) (askO rec fu P nt ops o (tau fr) (vw hp) λa=>match stepX lk true P nt ops o a (nx+8*i) (tau fr) (vw hp)with|some se=>(match se.rt.any λt=>dr.any (Nat.beq t)with|true=>k none|false=>runC ev lk rec fu P nt ops nx n rest kn dr (putD fr se.d se.v) (putW hp se.wr) λr=>match r with|some (fr',hp',ses)=>k (some (fr',hp',se::ses))|none=>k none)|none=>k none)) Q->∃r,holds (k r) Q/\ ∀fr' hp' ses,r=some (fr',hp',ses)->∃ses',FpL ses' ses/\RunS (SL P nt ops nx lk) ((i,o)::rest) τ0 (vw hp) ses'/\vw hp'=apsH (vw hp) ses'/\ ∀t,tau fr' t=apsT τ0 ses' t\/tau fr' t=.top:=by
   intro h;split at h
   .rename_i r rd ht;split at h
    .rename_i hd;have h:=holds_bnd.1 h;unfold tOpU at ht;split at ht;.cases ht
     split at ht;rotate_left;.cases ht
     rename_i hw hrd;split at ht;rotate_left;.cases ht
     rename_i r' ht';cases ht;obtain⟨v,k1,k2⟩:=SL.data (nx:=nx) (lk:=lk) hd hw hrd ht' h;exact next _ _ rfl k2 k1
    .exact⟨none,h,λ_ _ _ e=>by cases e⟩
   split at h
   .rename_i r nb rd ht;split at h
    .rename_i hd;obtain⟨e,k1,k2⟩:=SL.wr (nx:=nx) (lk:=lk) hd ht (holds_bnd.1 h);split at k1
     .rename_i b c he;split at k1;.rename_i hb;cases Nat.eq_of_beq_eq_true hb;exact next _ _ (by rw[vw_put];rfl) (k2 c he) k1
      .exact⟨none,k1,λ_ _ _ e=>by cases e⟩
     .exact⟨none,k1,λ_ _ _ e=>by cases e⟩
    .exact⟨none,h,λ_ _ _ e=>by cases e⟩
   .rcases opnO_ok (nx:=nx) (lk:=lk) (i:=i) hc h with⟨se,hp1,q1,q2,q3⟩|h|h;.exact next _ _ q2 q1 q3
    .exact⟨none,h,λ_ _ _ e=>by cases e⟩
    obtain⟨a,h1,h2⟩:=askO_ok hs h;split at h1
    .rename_i se hse;refine next se _ (vw_putW _ _) (SL.of hse λob e=>?_) h1;have hob:oblsHold P [se]:=by unfold stepX at hse;cases hl:isLook o.op with|true=>rw[hl]at hse;obtain⟨_,_,_,_,_,_,_,-,-,-,-,-,-,rfl⟩:=lookF_some hse;exact⟨trivial,trivial⟩|false=>rw[hl]at hse;exact ask_ok h2 hse
     exact hob.get se (by simp) ob e
    .exact⟨none,h1,λ_ _ _ e=>by cases e⟩
  simp only[runC]at h;split at h;.exact plain h
  split at h;rotate_left;.exact plain h
  rename_i d want hg;split at h;rotate_left;.exact plain h
  rename_i b hb;split at h;.exact plain h
  split at h;rotate_left;.exact⟨none,h,λ_ _ _ e=>by cases e⟩
  rename_i seg p rest' hseg;have hcat:seg++rest'=(i,o)::rest:=by simpa using segP_ok hseg
  obtain⟨half,hhalf⟩:∃half:Bool->R Bool,half=λc=>runC ev lk rec fu P nt ops nx n seg (d::kn) dr (fr.put d (.bool c)) hp λr=>match r with
   |some (fr',_,ses)=>match fpB ses (fpSeg ops hp.keys seg)with
    |true=>match tau fr' p with|.bool v=>.lf v|_=>.bad
    |false=>.bad
   |none=>.bad:=⟨_,rfl⟩;obtain⟨cont,hcont⟩:∃cont:Bool->R L,cont=λv=>runC ev lk rec fu P nt ops nx n rest' kn (((dsts seg).filter λt=>!Nat.beq t p)++dr) ((topsT fr (dsts seg)).put p (.bool v)) hp λr=>match r with|some (fr',hp',ses)=>k (some (fr',hp',fpSeg ops hp.keys seg++ses))|none=>k none:=⟨_,rfl⟩;have h0:holds (.sub (.br b (half true) (half false)) cont) Q:=by rw[hhalf,hcont];exact h
  have h1:holds (half b) λv=>holds (cont v) Q:=by have h0:(if b=true then holds (half true) λv=>holds (cont v) Q else holds (half false) λv=>holds (cont v) Q):=h0;cases b with|true=>simpa using h0|false=>simpa using h0
  rw[hhalf]at h1
  obtain⟨r1,k1,k2⟩:=runC_ok hs hc n seg _ _ _ _ _ _ τ0 (λt=>by
   rw[tau_put];simp only[fupd];split;.rename_i e;subst e;rw[<-hb];exact hτ _
   .exact hτ t) h1
  cases r1 with
   |none=>exact k1.elim
   |some q=>
    obtain⟨fr1,hp1,ses1⟩:=q;simp only at k1;split at k1;rotate_left;.exact k1.elim
    rename_i hfp;split at k1;rotate_left;.exact k1.elim
    rename_i v hv;obtain⟨ses',m1,m2,m3,m4⟩:=k2 _ _ _ rfl;obtain⟨f1,f2⟩:=fpB_ok hfp;have g1:FpL ses' (fpSeg ops hp.keys seg):=m1.trans f1;have g2:apsH (vw hp) ses'=vw hp:=apsH_nowr (m1.nowr f2);have k1:holds (cont v) Q:=k1;rw[hcont]at k1
    obtain⟨r2,p1,p2⟩:=runC_ok hs hc n rest' _ _ _ _ _ Q (apsT τ0 ses') (λt=>by
     rw[tau_put];simp only[fupd];split
     .rename_i e;subst e;rcases m4 t with q|q;.left;rw[<-q,hv]
      .rw[hv]at q;cases q
     .rename_i e;rw[tau_tops];by_cases q:t∈dsts seg;.rw[if_pos q];refine .inr ⟨rfl,List.mem_append_left _ (List.mem_filter.2 ⟨q,?_⟩)⟩;cases z:Nat.beq t p with|false=>rfl|true=>exact absurd (Nat.eq_of_beq_eq_true z) e
      .rw[if_neg q,dsts_other g1 q];exact(hτ t).imp id λz=>⟨z.1,List.mem_append_right _ z.2⟩) k1
    cases r2 with
     |none=>exact⟨none,p1,λ_ _ _ e=>by cases e⟩
     |some q2=>
      obtain⟨fr2,hp2,ses2⟩:=q2;refine⟨_,p1,λfr' hp' ses e=>?_⟩;cases e;obtain⟨ses'',n1,n2,n3,n4⟩:=p2 _ _ _ rfl;refine⟨ses'++ses'',g1.append n1,?_,?_,λt=>?_⟩;.rw[<-hcat];exact runS_append seg m2 (by rw[g2];exact n2)
      .rw[n3,apsH_append,g2]
      .rw[apsT_append];exact n4 t
end
end Go.AM
end
section
set_option linter.unusedSimpArgs false
set_option linter.unusedVariables false
namespace Go.AM
open Go Go.RowKit
section
variable{P:Program}{rec:Rc}{nt:Nat}
theorem good_seqlike[Adr]{c:Code}{s:Cs}{f:Out->R Out}{q:Os}{K:Exit->St->Prop}(hs:Sound P rec)(h:holds (bnd (rec (.code nt c s)) f) q)(hk:∀e s1,Ends (λo=>holds (f o) q) e s1->K e s1):AWP P nt c K s.st:=awp_mono (hs _ _ (holds_bnd.1 h)) hk
theorem good_loop[Adr](hs:Sound P rec){ev:Ev}{c:Code}{s:Cs}{q:Os}(h:holds (stepLoop ev rec nt c s) q):AWPL P nt c (Ends q) s.st:=by
 have plain:∀fu:Fu,holds (bnd (rec (.code nt c {s with fu:=fu})) (againC rec nt c)) q->AWPL P nt c (Ends q) s.st:=λfu h=>by refine awpl_step (good_seqlike (s:={s with fu:=fu}) hs h λe s1 he=>?_);cases e with|normal=>refine ends_normal (λcs ha hsim=>?_) he;have g:=hs _ _ ha;exact λx w0 w F φ a hf=>g x w0 w F φ a (hsim.fits hf)|_=>exact ends_pass (λ_=>rfl) (λ_ _=>rfl) he
 unfold stepLoop at h;split at h;.exact plain s.fu h
 .split at h;.exact plain s.fu h
  .split at h;.exact good_loopR hs h
   .split at h;.exact h.elim
    .exact plain _ h
theorem good_scoped[Adr](hs:Sound P rec){c r:Code}{s:Cs}{q:Os}(h:holds (stepScoped rec nt c r s) q):AWPS P nt c r (Ends q) s.st:=by
 refine awps_step (good_seqlike hs h λe s1 he=>?_)
 cases e with
  |goto l=>
   simp only[jumpK];obtain⟨cs,hsim,hm⟩:=he;rcases hm with hm|⟨x,v,hm,-,hc⟩;rotate_left;.cases hc
   simp only[jumpC]at hm;split at hm;.rename_i rest hfl;rw[hfl];have g:=hs _ _ hm;exact λx w0 w F φ a hf=>g x w0 w F φ a (hsim.fits hf)
   .rename_i hfl;rw[hfl];exact⟨cs,hsim,.inl hm⟩
  |_=>exact ends_pass (λ_=>rfl) (λ_ _=>rfl) he
theorem good_code[Adr](hs:Sound P rec){ev:Ev}{c:Code}{s:Cs}{q:Os}(h:holds (stepCode ev P rec nt c s) q):AWP P nt c (Ends q) s.st:=by
 have e0:frGet s.st.fr=tau s.fr:=frGet_toL _;unfold stepCode at h;split at h;.exact awp_skip (Ends.one (Sim.refl _) h)
 .exact awp_label (Ends.one (Sim.refl _) h)
 .exact awp_exit (Ends.one (Sim.refl _) h)
 .exact awp_ret (Ends.one (Sim.refl _) h)
 .rename_i x y;have key:AWP P nt x (Ends λo=>holds (thenC rec nt y o) q) s.st->AWP P nt (.seq x y) (Ends q) s.st:=λg=>by refine awp_seq (awp_mono g λe s1 he=>?_);cases e with|normal=>refine ends_normal (λcs ha hsim=>?_) he;exact awp_sim hsim (hs _ _ ha)|_=>exact ends_pass (λ_=>rfl) (λ_ _=>rfl) he
  unfold cSeq at h;split at h;.exact key (hs _ _ (holds_bnd.1 h))
  .split at h;.exact key (hs _ _ (holds_bnd.1 h))
   .exact key (good_joinR hs (holds_bnd.1 h))
 .rename_i c0 x y;unfold cCond at h;split at h
  .rename_i b hb
   have h:(b=true->holds (rec (.code nt x s)) q)/\(b=false->holds (rec (.code nt y s)) q):=by
    split at h;.have h:(if b=true then holds (rec (.code nt x s)) q else holds (rec (.code nt y s)) q):=h;cases b with|true=>exact⟨λ_=>by simpa using h,λe=>by cases e⟩|false=>exact⟨λe=>(by cases e),λ_=>by simpa using h⟩
    .cases b with|true=>exact⟨λ_=>h,λe=>by cases e⟩|false=>exact⟨λe=>(by cases e),λ_=>h⟩
   cases b with|true=>exact awp_cond (b:=true) (by rw[e0];exact hb) (hs _ _ (h.1 rfl))|false=>exact awp_cond (b:=false) (by rw[e0];exact hb) (hs _ _ (h.2 rfl))
  .rename_i hb;exact awp_cond_any (by rw[e0];exact hb) (hs _ _ h.1) (hs _ _ h.2)
  .exact h.elim
 .rename_i id c;unfold cBlock at h;refine awp_block (good_seqlike hs h λe s1 he=>?_)
  cases e with
   |exit i=>
    simp only[blockK];obtain⟨cs,h1,hm⟩:=he;rcases hm with hm|⟨x,v,hm,-,hc⟩
    .simp only[outB]at hm;split;.rename_i e;rw[show Nat.beq i id=true by subst e;exact Nat.beq_refl _]at hm;exact⟨cs,h1,.inl hm⟩
     .rename_i e;rw[show Nat.beq i id=false by cases q:Nat.beq i id with|false=>rfl|true=>exact absurd (Nat.eq_of_beq_eq_true q) e]at hm;exact⟨cs,h1,.inl hm⟩
    .cases hc
   |_=>exact ends_pass (λ_=>rfl) (λ_ _=>rfl) he
 .exact awp_loopL (hs _ _ h)
 .exact awp_scopeS (hs _ _ h)
 .exact awp_goto (Ends.one (Sim.refl _) h)
 .exact awp_ops (hs _ _ h)
 .unfold cDraw at h;split at h;.rename_i hc;simp only[Bool.and_eq_true]at hc;exact awp_drawG hc.1 (hs _ _ h hc.1 hc.2)
  .exact h.elim
 .rename_i g ps assign body;unfold cRange at h;split at h
  .rename_i fid first cap hg;have g1:=hs _ _ (holds_bnd.1 h);refine awp_rangeFunc (by rw[e0];exact hg) (ewp_of_ewx g1 (λr s2 hv=>?_) (λa s2 hv=>?_))
   .obtain⟨cs,hsim,ha⟩:=hv;simp only[behindF]at ha;split at ha;rotate_left;.exact ha.elim
    rename_i y hy;have hy':alg s2.lp s.st.nx=some y.l:=by rw[hsim.lp];show alg (lpL cs.lp) s.nx=_;rw[alg_lpL,hy];rfl
    split at ha;.exact ha.elim
    .rename_i hnb;have hb:(y.l.st==LoopState.busy)=false:=by cases hq:y.l.st with|busy=>exact absurd hq hnb|_=>rfl
     have hsim2:Sim ⟨s.st.fr,s2.hp,s2.nx,keepHp (s.st.lp.map (·.1)) s2.lp⟩ (Cs.st ⟨s.fr,cs.hp,cs.nx,keepHp (s.lp.map (·.1)) cs.lp,s.fu⟩):=by refine⟨rfl,hsim.hp,hsim.nx,?_⟩;show keepHp ((lpL s.lp).map (·.1)) s2.lp=lpL (keepHp (s.lp.map (·.1)) cs.lp);rw[lpL_names,keepHp_lpL,hsim.lp];rfl
     split at ha;.rename_i hp;refine⟨y.l,hy',hb,?_⟩;rw[show y.l.pend=none from hp];exact Ends.one hsim2 ha
     .rename_i c' hp;refine⟨y.l,hy',hb,?_⟩;rw[show y.l.pend=some c' from hp];exact awp_sim hsim2 (hs _ _ ha)
   .obtain⟨cs,hsim,ha⟩:=hv;exact ha.elim
  .exact h.elim
 .exact h.elim
theorem pairsS_ok{M:List Nat}{ses:List SE}{c n:Nat}(h:pairsS M ses c n=true):pairsOk M (List.replicate c seZ++ses) (c+n)=true:=by
 unfold pairsS at h;unfold pairsOk;rw[List.all_eq_true]at h⊢;intro j hj;rw[List.all_eq_true];intro i hi;have hj:=List.mem_range.1 hj;have hi:=List.mem_range.1 hi;by_cases hic:i<c
 .have :(List.replicate c seZ++ses).getD i seZ=seZ:=by rw[List.getD_eq_getElem?_getD,List.getElem?_append_left (by simpa using hic)];simp[List.getElem?_replicate,hic]
  rw[this];have hconf:∀y:SE,confl seZ y=false:=λy=>by unfold confl;cases hd:y.d<;>simp[seZ]
  rw[hconf];simp
 .have g:∀k,c<=k->(List.replicate c seZ++ses).getD k seZ=ses.getD (k-c) seZ:=λk hk=>by rw[List.getD_eq_getElem?_getD,List.getElem?_append_right (by simpa using hk)];simp[List.getD_eq_getElem?_getD]
  rw[g i (by omega),g j (by omega)];have h1:=h (j-c) (List.mem_range.2 (by omega));rw[List.all_eq_true]at h1;have h2:=h1 (i-c) (List.mem_range.2 (by omega));rw[show c+(j-c)=j by omega,show c+(i-c)=i by omega]at h2;exact h2
theorem pairsS_mono{M:List Nat}{ses ses':List SE}{c n:Nat}(hf:FpL ses' ses)(h:pairsS M ses c n=true):pairsS M ses' c n=true:=by unfold pairsS at h⊢;rw[List.all_eq_true]at h⊢;intro j hj;have h1:=h j hj;rw[List.all_eq_true]at h1⊢;intro i hi;have h2:=h1 i hi;rw[Bool.or_eq_true]at h2⊢;refine h2.imp id λq=>?_;rw[Bool.not_eq_true']at q⊢;exact confl_mono (hf.get i) (hf.get j) q
theorem lkC_ok{s:Cs}:∀l m,lkC s.lp l=some m->∃y,alg s.st.lp l=some y/\y.mp=some (.map m):=by
 intro l m h;unfold lkC at h;split at h;rotate_left;.cases h
 rename_i y hy;split at h;rotate_left;.cases h
 rename_i m' hm;cases h;exact⟨y.l,by rw[show s.st.lp=lpL s.lp from rfl,alg_lpL,hy];rfl,hm⟩
theorem good_draw[Adr](hs:Sound P rec){ev:Ev}(hc:COk P ev.con){ops:Array Oper}{c:Nat}{l:List Nat}{s:Cs}{q:Os}(hmix:P.follows .mixedOrders=true)(hback:backs 0 ops.toList=true)(h:holds (stepDraw ev P rec nt ops c l s) q):AWPG P nt ops c (Ends q) s.st:=by
 unfold stepDraw at h;split at h
 .split at h;.rename_i hc;exact awpg_nil (Nat.le_of_ble_eq_true hc) (Ends.one (Sim.refl _) h)
  .exact h.elim
 .rename_i c' rest;split at h
  .rename_i hc;have hc:=Nat.eq_of_beq_eq_true hc;subst hc;split at h;.rename_i hc;simp only[Bool.and_eq_true]at hc;refine awpg_one (Nat.le_of_ble_eq_true hc.1) hback hc.2 (awpo_mono (hs _ _ (holds_bnd.1 h)) λe s1 he=>?_);cases e with|normal=>refine ends_normal (λcs ha hsim=>?_) he;have g:=hs _ _ ha hmix hback;exact λx w0 w F φ a hf=>g x w0 w F φ a (hsim.fits hf)|_=>exact ends_pass (λ_=>rfl) (λ_ _=>rfl) he
   .exact h.elim
  .obtain⟨r,h1,h2⟩:=runC_ok hs hc _ _ _ _ _ _ _ _ (tau s.fr) (λt=>.inl rfl) h;split at h1
   .rename_i fr hp ses;split at h1
    .rename_i hc;simp only[Bool.and_eq_true]at hc;obtain⟨⟨⟨hc1,hc2⟩,hc3⟩,hc4⟩:=hc;have hcc:=Nat.le_of_ble_eq_true hc1;obtain⟨ses',q1,q2,q3,q4⟩:=h2 _ _ _ rfl;refine awpg_seg (t:=Cs.st ⟨fr,hp,s.nx+8*c',s.lp,s.fu⟩) hcc (Nat.le_of_ble_eq_true hc2) lkC_ok (by rw[show frGet s.st.fr=tau s.fr from frGet_toL _,show alg s.st.hp=vw s.hp from alg_hpL _];exact q2) hback hc3 (by have :=pairsS_ok (pairsS_mono q1 hc4);rwa[show c+(c'-c)=c' by omega]at this) (λk=>?_) ?_ rfl rfl (hs _ _ h1 hmix hback)
     .rw[show frGet s.st.fr=tau s.fr from frGet_toL _,show frGet (Cs.st ⟨fr,hp,s.nx+8*c',s.lp,s.fu⟩).fr=tau fr from frGet_toL _];rcases q4 k with z|z;.rw[z];exact AV.Le.refl _
      .rw[z];exact λ_ _ _ _ _=>trivial
     .rw[show alg s.st.hp=vw s.hp from alg_hpL _,show alg (Cs.st ⟨fr,hp,s.nx+8*c',s.lp,s.fu⟩).hp=vw hp from alg_hpL _];exact q3
    .exact awpg_any (hs _ _ h1)
   .exact awpg_any (hs _ _ h1)
theorem everyNext_ok{f:Nat->R Out}{q:Os}:∀{l:List Nat}{i0:Nat},holds (everyNext f i0 l) q->∀i,i∈i0::l->holds (f i) q
 |[],i0,h,i,hi=>by
  rcases List.mem_cons.1 hi with rfl|hi;.exact h
  .cases hi
 |j::l,i0,h,i,hi=>by
  rcases List.mem_cons.1 hi with rfl|hi;.exact h.1
  .exact everyNext_ok h.2 i hi
theorem good_every[Adr](hs:Sound P rec){ops:Array Oper}{fuel:Nat}{listed:Array Bool}{s:Cs}{q:Os}(h:holds (stepEvery rec nt ops fuel listed s) q):AWPAny P nt ops fuel listed (Ends q) s.st:=by
 unfold stepEvery at h;split at h;.rename_i hr;cases fuel with|zero=>exact awpAny_zero hr (Ends.one (Sim.refl _) h)|succ fuel=>exact awpAny_step (λ_=>Ends.one (Sim.refl _) h) (λi hi=>by rw[hr]at hi;cases hi)
 .rename_i i0 l0 hr;split at h;.exact h.elim
  .rename_i fuel;refine awpAny_step (λhnil=>by rw[hr]at hnil;cases hnil) (λi hi=>?_);rw[hr]at hi;have h0:=everyNext_ok h i hi;refine awpo_mono (hs _ _ (holds_bnd.1 h0)) λe s1 he=>?_;cases e with|normal=>refine ends_normal (λcs ha hsim=>?_) he;have g:=hs _ _ ha;exact λx w0 w F φ a hf=>g x w0 w F φ a (hsim.fits hf)|_=>exact ends_pass (λ_=>rfl) (λ_ _=>rfl) he
end
end Go.AM
end
section
set_option linter.unusedSimpArgs false
set_option linter.unusedVariables false
namespace Go.AM
open Go Go.RowKit
section
variable{P:Program}{nt:Nat}{ops:Array Oper}{K:Exit->St->Prop}{s:St}
theorem wpOps_app[Adr]{F:Fence}{n:Nat}{Q Q':Exit->Act->World->Prop}{l2:List Nat}(hn:∀a w,Q' .normal a w->wpOpsIn F n P ops Q l2 a w)(he:∀e,e≠.normal->Q' e=Q e):∀(l1:List Nat)(a:Act)(w:World),wpOpsIn F n P ops Q' l1 a w->wpOpsIn F n P ops Q (l1++l2) a w|[],a,w,h=>hn a w h|i::l1,a,w,h=>by rw[List.cons_append,wpOpsIn_cons];rw[wpOpsIn_cons]at h;exact wpOpIn_mono (λa w k=>wpOps_app hn he l1 a w k) (wpOpIn_congr he h)
theorem awpo_append[Adr]{l1 l2:List Nat}(h:AWPO P nt ops l1 (thenK (AWPO P nt ops l2 K) K) s):AWPO P nt ops (l1++l2) K s:=by intro x w0 w F φ a hf Q hQ;refine wpOps_app (Q':=λe a w=>match e with|.normal=>wpOpsIn (fen x.r) 0 P ops Q l2 a w|e=>Q e a w) (λa w k=>k) (λe he=>by cases e<;>first|rfl|exact absurd rfl he) l1 a w ?_;refine h x w0 w F φ a hf _ λe a' w' s' φ' F' h1 h2 h3=>?_;cases e with|normal=>exact h3 x w0 w' F' φ' a' h1 Q λe a2 w2 s2 φ2 F2 k1 k2 k3=>hQ e a2 w2 s2 φ2 F2 k1 (h2.trans k2) k3|_=>exact hQ _ _ _ _ _ _ h1 h2 h3
end
end Go.AM
end
