/- Texts of the proof, joined by program. -/
import Derived.Test.YtaeifdlkolfdjaaGreatDoorKBi
section
set_option linter.unusedSimpArgs false
set_option linter.unusedVariables false
namespace Go.AM
open Go Go.RowKit
theorem rho_okT[Adr](τ:Nat->AV):RhoOk (evalT τ) (evalO λt=>wkD (τ t)):=by intro x hx;cases x with|tmp t=>rfl|const v=>simp only[evalO,evalT,avC_wk]|global g=>exact absurd rfl hx|func f=>simp only[evalO,evalT,wkD]
theorem rho_eT[Adr](τ:Nat->AV):RhoE (evalT τ) (evalO τ):=by intro x hx;cases x with|tmp t=>rfl|const v=>rfl|global g=>exact absurd rfl hx|func f=>rfl
section
variable{P:Program}{nt:Nat}{ops:Array Oper}{τ:Nat->AV}{hp:Tr CB}{nm:Nat}
theorem tOp_ok[Adr]{ev:Ev}{o:Op}{r:TR}{Q:AV×List (Nat×CB)->Prop}(h:tOp ev P o (evalT τ) hp nm=some r)(hr:holds r Q):∃e f,Sees f/\Q e/\TOk P o (evalO λt=>f (τ t)) hp nm e:=by
 have wk:(∃e,Q e/\TOk P o (evalO λt=>wkD (τ t)) hp nm e)->∃e f,Sees f/\Q e/\TOk P o (evalO λt=>f (τ t)) hp nm e:=λ⟨e,h1,h2⟩=>⟨e,wkD,sees_wk,h1,h2⟩;cases o<;>simp only[tOp,reduceCtorEq]at h;case indexAddr t x i=>exact wk (tIndexAddr_ok (rho_okT τ) h hr)
 case load t a=>exact wk (tLoad_ok (rho_okT τ) h hr)
 case store t a x=>obtain⟨e,h1,h2⟩:=tStore_ok (rho_eT τ) h hr;exact⟨e,λv=>v,sees_id,h1,h2⟩
 case slice t x lo hi mx=>
  split at h;.cases h;exact hr.elim
  .exact wk (tSliceOp_ok (rho_okT τ) h hr)
 case makeSlice t l c=>exact wk (tMake_ok (rho_okT τ) h hr)
 case buildSlice t len parts=>obtain⟨e,h1,h2⟩:=tBuildSlice_ok (rho_eT τ) h hr;exact⟨e,λv=>v,sees_id,h1,h2⟩
 case binOp op t x y yt=>exact wk (tBin_ok (rho_okT τ) h hr)
 case pick c x y=>exact wk (tPick_ok (rho_okT τ) h hr)
 case index t x i=>exact wk (tIndex_ok (rho_okT τ) h hr)
 case call c=>
  split at h;.rename_i t x h1 h2 h3;exact wk (tLen_ok (rho_okT τ) h1 h2 h3 h hr)
  .rename_i t t' x y h1 h2 h3;exact wk (tAppend_ok (rho_okT τ) h1 h2 h3 h hr)
  .cases h
theorem tOp_call[Adr]{ev:Ev}{o:Op}{ρ:Operand->AV}{r:TR}(h:tOp ev P o ρ hp nm=some r):isCall o=none/\(∀τ,isInv P o τ=none)/\isLook o=false:=by
 cases o<;>simp only[tOp,reduceCtorEq]at h<;>try exact⟨rfl,λ_=>rfl,rfl⟩
 case call c=>obtain⟨callee,args,ats⟩:=c;cases callee with|builtin b=>exact⟨rfl,λ_=>rfl,rfl⟩|value f=>simp only at h;cases h|invoke f n=>simp only at h;cases h
theorem see_fr[Adr]{f:AV->AV}(hf:Sees f)(s:Cs):(frGet (wkFr f s.st.fr))=λt=>f (tau s.fr t):=by funext t;rw[frGet_wk hf,show frGet s.st.fr=tau s.fr from frGet_toL _]
theorem good_top[Adr]{ev:Ev}{o:Oper}{i:Nat}{rest:List Nat}{s:Cs}{q:Os}{r:TR}(hi:ops[i]?=some o)(hw:wants nt ops o (tau s.fr)=true)(hd:dstOk nt o=true)(h:tOp ev P o.op (evalT (tau s.fr)) s.hp s.nx=some r)(hr:holds r λe=>AWPO P nt ops rest (Ends q) (Cs.st ⟨putD s.fr o.dst e.1,putC s.hp e.2,s.nx+8,s.lp,s.fu⟩)):AWPO P nt ops (i::rest) (Ends q) s.st:=by obtain⟨h1,h2,-⟩:=tOp_call h;obtain⟨e,f,hf,k1,k2⟩:=tOp_ok h hr;exact good_tv hf hi hw hd h1 h2 (by rw[see_fr hf];exact k2) k1
theorem rdOf_sem[Adr]{ρ ρ':Operand->AV}(hρ:RhoOk ρ ρ'){o:Op}{rd:List Nat}{η:Heap}{e:Eff}(hr:rdOf ρ o=some rd)(h:opSem P o ρ' η nm=some e):e.wr=[]/\e.rd=rd:=by
 cases o<;>simp only[rdOf,reduceCtorEq]at hr
 case indexAddr t x i=>
  split at hr;.rename_i n xs hx;cases hr;rw[opSem]at h;cases hq:aIndexAddr P t (ρ' x) (ρ' i)with|none=>rw[hq]at h;cases h|some v=>rw[hq]at h;cases h;exact⟨rfl,rfl⟩
  .cases hr;rw[opSem]at h;cases hq:aIndexAddr P t (ρ' x) (ρ' i)with|none=>rw[hq]at h;cases h|some v=>rw[hq]at h;cases h;exact⟨rfl,rfl⟩
  .cases hr
 case load t a=>
  split at hr
  .rename_i b g i j hx;cases hr;rw[opSem,rho_of hρ hx (by simp)]at h;simp only[wkD]at h
   cases hq:aLoad P t (.ref b g i j) η with
    |none=>rw[hq]at h;cases h
    |some v=>
     rw[hq]at h;cases h;refine⟨rfl,?_⟩;simp only[aLoad]at hq;split at hq
     .split at hq
      .split at hq;.obtain⟨c,-,h2⟩:=Option.map_eq_some_iff.1 hq;rw[<-h2]
       .cases hq
      .cases hq
     .cases hq
  .cases hr
 case binOp op t x y yt=>cases hr;rw[opSem]at h;cases hq:aBin P op t (ρ' x) (ρ' y)with|none=>rw[hq]at h;cases h|some v=>rw[hq]at h;cases h;exact⟨rfl,rfl⟩
 case pick c x y=>
  cases hr;rw[opSem]at h;split at h;.cases h;exact⟨rfl,rfl⟩
  .cases h
 case slice t x lo hi mx=>cases hr;rw[opSem]at h;obtain⟨c,-,h2⟩:=Option.map_eq_some_iff.1 h;rw[<-h2];exact⟨rfl,rfl⟩
 case index t x i=>
  cases hr;rw[opSem]at h;split at h
  .split at h;.obtain⟨c,-,h2⟩:=Option.map_eq_some_iff.1 h;rw[<-h2];exact⟨rfl,rfl⟩
   .cases h
  .cases h
 case call c=>
  split at hr
  .rename_i hc;cases hr;simp only[opSem,hc]at h;unfold semBuiltin at h;split at h;.obtain⟨c,-,h2⟩:=Option.map_eq_some_iff.1 h;rw[<-h2];exact⟨rfl,rfl⟩
   all_goals simp_all
  .cases hr
theorem SL.wkb[Adr]{nx:Nat}{lk:Nat->Option (List (AV×AV))}{i:Nat}{o:Oper}{η:Heap}{se se0:SE}{f:AV->AV}(hf:Sees f)(h:SL P nt ops nx lk i o (λt=>f (τ t)) η se0)(hd:se.d=se0.d)(hw:∀(η':Heap),(∀b,b∈se.rb->η' b=η b)->∀b x',apH η' se b=some x'->∃x,apH η' se0 b=some x/\(x'=x\/BW x x'))(hrt:∀t,t∈se0.rt->t∈se.rt)(hrb:∀b,b∈se0.rb->b∈se.rb)(hv:se0.v.Le se.v):SL P nt ops nx lk i o τ η se:=by
 intro τ' η' ht hb w0 w F φ U U' ds a hh hT hdf hi hlk hfr hU hUn r n K Q hK;refine h (λt=>f (τ' t)) η' (λt k=>by rw[ht t (hrt t k)]) (λb k=>hb b (hrb b k)) w0 w F φ U U' ds a hh ⟨hT.size,λk=>hf.to _ _ _ _ _ (hT.val k),hT.glob⟩ hdf hi hlk hfr hU hUn r n K Q λa' w' φ' F' k1 k2 k3 k4=>hK a' w' φ' F' (hrel_bw k1 (λ_ h=>h) (hw η' hb)) ⟨k2.size,λk=>?_,k2.glob⟩ k3 k4;have :=k2.val k;unfold apT putT at this⊢;rw[hd]
 cases e:se0.d with
  |none=>rw[e]at this;exact hf.back _ _ _ _ _ this
  |some d=>
   rw[e]at this;simp only[fupd]at this⊢;split;.rename_i q;rw[if_pos q]at this;exact hv _ _ _ _ this
   .rename_i q;rw[if_neg q]at this;exact hf.back _ _ _ _ _ this
theorem SL.wk[Adr]{nx:Nat}{lk:Nat->Option (List (AV×AV))}{i:Nat}{o:Oper}{η:Heap}{se se0:SE}{f:AV->AV}(hf:Sees f)(h:SL P nt ops nx lk i o (λt=>f (τ t)) η se0)(hd:se.d=se0.d)(hw:se.wr=se0.wr)(hrt:∀t,t∈se0.rt->t∈se.rt)(hrb:∀b,b∈se0.rb->b∈se.rb)(hv:se0.v.Le se.v):SL P nt ops nx lk i o τ η se:=SL.wkb hf h hd (λη' _ b x' e=>⟨x',by unfold apH at e⊢;rw[<-hw];exact e,.inl rfl⟩) hrt hrb hv
theorem tOp_wk[Adr]{ev:Ev}{o:Op}{r:TR}{rd:List Nat}{Q:AV×List (Nat×CB)->Prop}(hrd:rdOf (evalT τ) o=some rd)(h:tOp ev P o (evalT τ) hp nm=some r)(hr:holds r Q):∃e,Q e/\TOk P o (evalO λt=>wkD (τ t)) hp nm e:=by
 cases o<;>simp only[tOp,rdOf,reduceCtorEq]at h hrd;case indexAddr t x i=>exact tIndexAddr_ok (rho_okT τ) h hr
 case load t a=>exact tLoad_ok (rho_okT τ) h hr
 case binOp op t x y yt=>exact tBin_ok (rho_okT τ) h hr
 case pick c x y=>exact tPick_ok (rho_okT τ) h hr
 case index t x i=>exact tIndex_ok (rho_okT τ) h hr
 case slice t x lo hi mx=>
  split at h;.cases h;exact hr.elim
  .exact tSliceOp_ok (rho_okT τ) h hr
 case call c=>
  split at h;.rename_i t x h1 h2 h3;exact tLen_ok (rho_okT τ) h1 h2 h3 h hr
  .rename_i t t' x y h1 h2 h3;exact tAppend_ok (rho_okT τ) h1 h2 h3 h hr
  .cases h
theorem SL.sem[Adr]{ev:Ev}{nx:Nat}{lk:Nat->Option (List (AV×AV))}{i:Nat}{o:Oper}{r:TR}{f:AV->AV}{e0:Eff}(hf:Sees f)(hd:dstOk nt o=true)(hw:wants nt ops o τ=true)(h:tOp ev P o.op (evalT τ) hp (nx+8*i)=some r)(k:opSem P o.op (evalO λt=>f (τ t)) (vw hp) (nx+8*i)=some e0):SL P nt ops nx lk i o (λt=>f (τ t)) (vw hp) ⟨o.dst,e0.v,e0.wr,gtOf ops o++opTmps o.op.operands.toList,e0.rd,none⟩:=by
 obtain⟨c1,c2,c3⟩:=tOp_call h;refine SL.of (ε:=false) (an:=none) ?_ λob e=>by cases e
 unfold stepX;rw[c3];refine stepF_wants hd (wants_see hf hw) λgt=>?_;unfold runO;rw[c1];simp only[c2,opSemE];rw[k]
theorem SL.data[Adr]{ev:Ev}{nx:Nat}{lk:Nat->Option (List (AV×AV))}{i:Nat}{o:Oper}{r:TR}{rd:List Nat}{Q:AV×List (Nat×CB)->Prop}(hd:dstOk nt o=true)(hw:wants nt ops o τ=true)(hrd:rdOf (evalT τ) o.op=some rd)(h:tOp ev P o.op (evalT τ) hp (nx+8*i)=some r)(hr:holds r Q):∃e,Q e/\SL P nt ops nx lk i o τ (vw hp) ⟨o.dst,e.1,[],gtOf ops o++opTmps o.op.operands.toList,rd,none⟩:=by obtain⟨e,k1,e0,k2,k3,-⟩:=tOp_wk hrd h hr;obtain⟨q1,q2⟩:=rdOf_sem (rho_okT τ) hrd k2;exact⟨e,k1,SL.wk sees_wk (SL.sem sees_wk hd hw h k2) rfl q1.symm (λ_ h=>h) (λb hb=>by rw[<-q2];exact hb) k3⟩
theorem slRd_wk(v:AV):slRd (wkD v)=slRd v:=by cases v<;>rfl
theorem aElems_rd{η:Heap}{sz:Nat}{v:AV}{es:List (List AV)}{rd:List Nat}(h:aElems η sz v=some (es,rd)):slRd v=some rd:=by
 unfold aElems at h;split at h;.cases h;rfl
 .cases h;rfl
 .split at h<;>cases h;rfl
 .split at h;.split at h<;>cases h;rfl
  .cases h
 .cases h
def apWrt(nm:Nat)(rd0:List Nat)(nb:Nat)(rd:List Nat):AV->Prop|.nils=>nb=nm/\rd=rd0|.emp=>nb=nm/\rd=rd0|.sl b _ _ _ _=>nb=b/\rd=b::rd0|_=>True
theorem aAppend_wr{P:Program}{t t':TypeId}{s x v1:AV}{η:Heap}{nm nb v2:Nat}{v3:ABlk}{v4 rd0 rd:List Nat}(h:aAppend P t t' s x η nm=some (v1,(v2,v3),v4))(hx:slRd x=some rd0)(hs:apWrt nm rd0 nb rd s):v2=nb/\v4=rd:=by
 unfold aAppend at h;split at h;rotate_left;.cases h
 split at h;rotate_left;.cases h
 split at h;rotate_left;.cases h
 split at h;rotate_left;.cases h
 rename_i hel;have e:=aElems_rd hel;rw[hx]at e;cases e;split at h;.split at h<;>cases h;exact⟨hs.1.symm,hs.2.symm⟩
 .split at h<;>cases h;exact⟨hs.1.symm,hs.2.symm⟩
 .split at h;.split at h<;>cases h;exact⟨hs.1.symm,hs.2.symm⟩
  .cases h
 .cases h
theorem wr_sem[Adr]{f:AV->AV}(hf:Sees f){o:Op}{η:Heap}{e:Eff}{b:Nat}{rd:List Nat}(hn:wrOf (evalT τ) nm o=some (b,rd))(h:opSem P o (evalO λt=>f (τ t)) η nm=some e):∃x,e.wr=[(b,x)]/\e.rd=rd:=by
 cases o<;>simp only[wrOf,reduceCtorEq]at hn
 case makeSlice t l c=>
  cases hn;rw[opSem]at h;generalize(evalO λt=>f (τ t))=ρ at h
  cases hq:aMakeSlice P t (ρ l) (ρ c) nm with
   |none=>rw[hq]at h;cases h
   |some v=>
    rw[hq]at h;cases h;unfold aMakeSlice at hq;split at hq
    .split at hq
     .split at hq;.cases hq;exact⟨_,rfl,rfl⟩
      .cases hq
     .cases hq
    .cases hq
 case buildSlice t len parts=>
  cases hn;rw[opSem]at h;generalize(evalO λt=>f (τ t))=ρ at h
  cases hq:aBuildSlice P t len (parts.toList.map λp=>(p.1,ρ p.2)) nm with
   |none=>rw[hq]at h;cases h
   |some v=>
    rw[hq]at h;cases h;unfold aBuildSlice at hq;split at hq
    .split at hq
     .split at hq;.obtain⟨es,-,rfl⟩:=Option.map_eq_some_iff.1 hq;exact⟨_,rfl,rfl⟩
      .cases hq
     .cases hq
    .cases hq
 case store t a x=>
  split at hn
  .rename_i b' g i j ha;cases hn;have ha':(evalO λt=>f (τ t)) a=.ref b g i j:=by cases a with|tmp t=>simp only[evalT]at ha;simp only[evalO];rw[ha,hf.ref]|const v=>exact ha|global g=>cases ha|func f=>cases ha
   rw[opSem,ha']at h
   cases hq:aStore P t (.ref b g i j) ((evalO λt=>f (τ t)) x) η with
    |none=>rw[hq]at h;cases h
    |some v=>
     rw[hq]at h;cases h
     have :v.1=b:=by
      unfold aStore at hq;split at hq
      .rename_i h2 h3;cases h2;split at hq
       .split at hq
        .split at hq
         .split at hq;.cases hq;rfl
          .cases hq
         .cases hq
        .cases hq
       .cases hq
      .cases hq
     obtain⟨v1,v2⟩:=v;cases this;exact⟨v2,rfl,rfl⟩
  .cases hn
 case call c=>
  split at hn;rotate_left;.cases hn
  rename_i s x hc hxs;simp only[opSem,hc,hxs,List.map_cons,List.map_nil]at h;unfold semBuiltin at h;have hρ:∀y:Operand,evalT τ y≠.top->(evalO λt=>f (τ t)) y=evalT τ y\/(evalO λt=>f (τ t)) y=wkD (evalT τ y):=by intro y hy;cases y with|tmp t=>exact hf.one _|const v=>exact .inl rfl|global g=>exact absurd rfl hy|func g=>exact .inl rfl
  generalize(evalO λt=>f (τ t))=ρ at h hρ
  have hx:∀rd0,slRd (evalT τ x)=some rd0->slRd (ρ x)=some rd0:=by
   intro rd0 e;rcases hρ x (λq=>by rw[q]at e;cases e)with q|q;.rw[q];exact e
   .rw[q,slRd_wk];exact e
  split at h;.rename_i h1 h2 h3;cases h1
  .rename_i t t' s' x' h1 h2 h3;cases h3
   cases hq:aAppend P t t' (ρ s) (ρ x) η nm with
    |none=>rw[hq]at h;cases h
    |some v=>
     rw[hq]at h;cases h;obtain⟨v1,⟨v2,v3⟩,v4⟩:=v;split at hn;rotate_right;.cases hn
     all_goals rename_i e1 e2;obtain⟨q1,q2⟩:=Prod.mk.inj (Option.some.inj hn);obtain⟨k1,k2⟩:=aAppend_wr hq (hx _ e1) (nb:=b) (rd:=rd) (by rcases hρ s (λq=>by rw[q]at e2;cases e2)with q|q<;>rw[q,e2]<;>exact⟨q1.symm,q2.symm⟩);exact⟨v3,by show[(v2,v3)]=_;rw[k1],k2⟩
  .rename_i h2 h3;cases h2
  .rename_i h2 h3;cases h2
  .cases h
theorem SL.wr[Adr]{ev:Ev}{nx:Nat}{lk:Nat->Option (List (AV×AV))}{i nb:Nat}{rd:List Nat}{o:Oper}{r:TR}{Q:AV×List (Nat×CB)->Prop}(hd:dstOk nt o=true)(h0:tOpA ev P nt ops o τ hp (nx+8*i)=some (r,nb,rd))(hr:holds r Q):∃e,Q e/\ ∀c,e.2=[(nb,c)]->SL P nt ops nx lk i o τ (vw hp) ⟨o.dst,e.1,[(nb,c.a)],gtOf ops o++opTmps o.op.operands.toList,rd,none⟩:=by
 unfold tOpA at h0;split at h0;rotate_left;.cases h0
 rename_i hc;simp only[Bool.and_eq_true]at hc;split at h0;rotate_left;.cases h0
 rename_i p r' hn ht;cases h0;obtain⟨e,f,hf,k1,e0,k2,k3,k4⟩:=tOp_ok ht hr;obtain⟨x,q1,q2⟩:=wr_sem hf hn k2;refine⟨e,k1,λc hc'=>SL.wkb hf (SL.sem hf hd hc.2 ht k2) rfl (λη' _ b x' hb=>?_) (λ_ h=>h) (λb hb=>by rw[<-q2];exact hb) k3⟩;have hx:∃y,apWr (vw hp) [(nb,x)] nb=some y/\(c.a=y\/BW y c.a):=by rw[<-q1];exact k4 _ _ (by rw[hc'];show vw (hp.put nb c) _=_;rw[vw_put];simp[fupd])
 obtain⟨y,hy,hy2⟩:=hx
 have hy:y=x:=by
  have :apWr (vw hp) [(nb,x)] nb=some x:=by simp[apWr,fupd]
  rw[this]at hy;cases hy;rfl
 subst hy;unfold apH at hb⊢;simp only[q1,apWr]at hb⊢;unfold fupd at hb⊢;split at hb;.rename_i hbn;rw[if_pos hbn];cases hb;exact⟨y,rfl,hy2⟩
 .rename_i hbn;rw[if_neg hbn];exact⟨x',hb,.inl rfl⟩
end
end Go.AM
end
section
set_option linter.unusedSimpArgs false
set_option linter.unusedVariables false
namespace Go.AM
open Go Go.RowKit
section
variable{P:Program}{rec:Rc}{nt:Nat}{ops:Array Oper}
def AskF[Adr](P:Program)(f:AV)(args:List AV)(η:Heap)(r:AV×List ABlk):Prop:=∀fid first cap pargs rd,f=.fn fid first cap->pur.purs η 60 (first++args++cap)=some (pargs,rd)->PCall P fid pargs r.1 r.2
theorem askF_ok[Adr](hs:Sound P rec){fu:Nat}{f:AV}{args:List AV}{η:Heap}{Q:Out->Prop}(h:holds (askF rec fu f args η) Q):∃r blks,Q (.ans r blks)/\AskF P f args η (r,blks):=by
 unfold askF at h;split at h
 .rename_i fid first cap;split at h;.rename_i pargs rd hp;obtain⟨r,blks,h1,h2⟩:=hs _ _ h;refine⟨r,blks,h1,λfid' first' cap' pargs' rd' e hq=>?_⟩;cases e;rw[hp]at hq;cases hq;exact h2
  .exact h.elim
 .exact h.elim
theorem sem_ok[Adr]{η:Heap}{nm:Nat}{f:AV}{args:List AV}{r:AV×List ABlk}{e:Eff}{ob:Obl}(hsem:semCall η nm f args r=some (e,ob))(hq:AskF P f args η r):ob.holds P:=by
 unfold semCall at hsem;split at hsem
 .rename_i fid first cap;split at hsem
  .rename_i pargs rd hp;split at hsem;.cases hsem;exact hq _ _ _ _ _ rfl hp
   .cases hsem
  .cases hsem
 .cases hsem
def Asked[Adr](P:Program)(o:Oper)(τ:Nat->AV)(η:Heap)(a:Option (AV×List ABlk)):Prop:=(∀f args,isCall o.op=some (f,args)->∀r,a=some r->AskF P (evalO τ f) (args.map (evalO τ)) η r)/\(isCall o.op=none->∀f args,isInv P o.op τ=some (f,args)->∀r,a=some r->AskF P f args η r)
theorem asked_none[Adr]{o:Oper}{τ:Nat->AV}{η:Heap}:Asked P o τ η none:=⟨λ_ _ _ _ h=>(by cases h),λ_ _ _ _ _ h=>(by cases h)⟩
theorem ask_ok[Adr]{o:Oper}{τ:Nat->AV}{η:Heap}{nm:Nat}{a:Option (AV×List ABlk)}{se:SE}(ha:Asked P o τ η a)(h:stepF true P nt ops o a nm τ η=some se):oblsHold P [se]:=by
 have key:∀gt,runO true P o a nm gt τ η=some se->oblsHold P [se]:=by
  intro gt h;unfold runO at h;split at h
  .rename_i f args hc;split at h
   .rename_i r;split at h;.rename_i e ob hsem;cases h;exact⟨sem_ok hsem (ha.1 f args hc _ rfl),trivial⟩
    .cases h
   .cases h
  .rename_i hc;split at h
   .rename_i f args hinv;split at h
    .rename_i r;split at h;.rename_i e ob hsem;cases h;exact⟨sem_ok hsem (ha.2 hc f args hinv _ rfl),trivial⟩
     .cases h
    .cases h
   .split at h;.cases h;exact⟨trivial,trivial⟩
    .cases h
 unfold stepF at h;split at h
 .split at h;.exact key _ h
  .split at h
   .split at h
    .split at h
     .split at h;.exact key _ h
      .cases h;exact⟨trivial,trivial⟩
     .cases h;exact⟨trivial,trivial⟩
     .cases h
    .cases h
   .cases h
 .cases h
theorem askO_ok[Adr](hs:Sound P rec){fu:Nat}{o:Oper}{τ:Nat->AV}{η:Heap}{L:Type}{k:Option (AV×List ABlk)->R L}{Q:L->Prop}(h:holds (askO rec fu P nt ops o τ η k) Q):∃a,holds (k a) Q/\Asked P o τ η a:=by
 unfold askO at h;split at h
 .rename_i f args hc;split at h
  .obtain⟨r,blks,h1,h2⟩:=askF_ok hs (holds_bnd.1 h);refine⟨_,h1,?_,?_⟩;.intro f' args' h r' e;rw[hc]at h;cases h;cases e;exact h2
   .intro h;rw[hc]at h;cases h
  .exact⟨_,h,asked_none⟩
 .rename_i hc;split at h
  .rename_i f args hi;split at h
   .obtain⟨r,blks,h1,h2⟩:=askF_ok hs (holds_bnd.1 h);refine⟨_,h1,?_,?_⟩;.intro f' args' h;rw[hc]at h;cases h
    .intro _ f' args' h r' e;rw[hi]at h;cases h;cases e;exact h2
   .exact⟨_,h,asked_none⟩
  .exact⟨_,h,asked_none⟩
def FpLe(x y:SE):Prop:=x.d=y.d/\(∀p∈x.wr,∃q∈y.wr,q.1=p.1)/\(∀t∈x.rt,t∈y.rt)/\ ∀b∈x.rb,b∈y.rb
theorem FpLe.refl(x:SE):FpLe x x:=⟨rfl,λp h=>⟨p,h,rfl⟩,λ_ h=>h,λ_ h=>h⟩
theorem FpLe.trans{x y z:SE}(h:FpLe x y)(k:FpLe y z):FpLe x z:=⟨h.1.trans k.1,λp hp=>let⟨q,h1,h2⟩:=h.2.1 p hp;let⟨r,h3,h4⟩:=k.2.1 q h1;⟨r,h3,h4.trans h2⟩,λt ht=>k.2.2.1 t (h.2.2.1 t ht),λb hb=>k.2.2.2 b (h.2.2.2 b hb)⟩
def FpL:List SE->List SE->Prop|[],[]=>True|x::xs,y::ys=>FpLe x y/\FpL xs ys|_,_=>False
theorem FpL.trans:∀{x y z:List SE},FpL x y->FpL y z->FpL x z|[],[],[],_,_=>trivial|_::_,_::_,_::_,h,k=>⟨h.1.trans k.1,h.2.trans k.2⟩|[],_::_,_,h,_=>h.elim|_::_,[],_,h,_=>h.elim|[],[],_::_,_,k=>k.elim|_::_,_::_,[],_,k=>k.elim
theorem FpL.append:∀{x y z u:List SE},FpL x y->FpL z u->FpL (x++z) (y++u)|[],[],_,_,_,k=>k|_::_,_::_,_,_,h,k=>⟨h.1,h.2.append k⟩|[],_::_,_,_,h,_=>h.elim|_::_,[],_,_,h,_=>h.elim
theorem FpL.len:∀{x y:List SE},FpL x y->x.length=y.length|[],[],_=>rfl|_::_,_::_,h=>by simp[h.2.len]|[],_::_,h=>h.elim|_::_,[],h=>h.elim
theorem FpL.get:∀{x y:List SE},FpL x y->∀i,FpLe (x.getD i seZ) (y.getD i seZ)|[],[],_,i=>FpLe.refl _|_::_,_::_,h,0=>h.1|_::xs,_::ys,h,i+1=>by simpa[List.getD_cons_succ]using h.2.get i|[],_::_,h,_=>h.elim|_::_,[],h,_=>h.elim
theorem any_beq{l:List Nat}{t:Nat}:l.any (Nat.beq t)=true↔t∈l:=by rw[List.any_eq_true];exact⟨λ⟨x,h1,h2⟩=>Nat.eq_of_beq_eq_true h2▸h1,λh=>⟨t,h,Nat.beq_refl t⟩⟩
theorem optB_ok:∀{a b:Option Nat},optB a b=true->a=b|none,none,_=>rfl|some a,some b,h=>by rw[Nat.eq_of_beq_eq_true h]|none,some _,h=>by cases h|some _,none,h=>by cases h
theorem fpB_ok:∀{x y:List SE},fpB x y=true->FpL x y/\ ∀se∈x,se.wr=[]
 |[],[],_=>⟨trivial,λ_ h=>by cases h⟩
 |x::xs,y::ys,h=>by
  simp only[fpB,Bool.and_eq_true,List.all_eq_true]at h;obtain⟨h1,h2,h3,h4,h5⟩:=h;obtain⟨k1,k2⟩:=fpB_ok h5;have hw:x.wr=[]:=List.isEmpty_iff.1 h2;refine⟨⟨⟨optB_ok h1,(by rw[hw];intro p hp;cases hp),λt ht=>any_beq.1 (h3 t ht),λt ht=>any_beq.1 (h4 t ht)⟩,k1⟩,λse hse=>?_⟩;rcases List.mem_cons.1 hse with rfl|hse;.exact hw
  .exact k2 se hse
 |[],_::_,h=>by cases h
 |_::_,[],h=>by cases h
theorem FpL.nowr:∀{x y:List SE},FpL x y->(∀se∈y,se.wr=[])->∀se∈x,se.wr=[]
 |[],[],_,_,se,h=>by cases h
 |x::xs,y::ys,h,k,se,hse=>by
  rcases List.mem_cons.1 hse with rfl|hse;.cases e:se.wr with|nil=>rfl|cons p l=>obtain⟨q,hq,-⟩:=h.1.2.1 p (by rw[e];simp);rw[k y (by simp)]at hq;cases hq
  .exact h.2.nowr (λse hs=>k se (by simp[hs])) se hse
 |[],_::_,h,_,_,_=>h.elim
 |_::_,[],h,_,_,_=>h.elim
theorem apsH_nowr[Adr]{η:Heap}:∀{l:List SE},(∀se∈l,se.wr=[])->apsH η l=η|[],_=>rfl|se::l,h=>by show apsH (apH η se) l=η;rw[show apH η se=η by unfold apH;rw[h se (by simp)];rfl];exact apsH_nowr λx hx=>h x (by simp[hx])
theorem confl_mono{x x' y y':SE}(hx:FpLe x x')(hy:FpLe y y')(h:confl x' y'=false):confl x y=false:=by
 cases hc:confl x y with
  |false=>rfl
  |true=>
   rw[<-h];unfold confl at hc⊢;simp only[Bool.or_eq_true,List.any_eq_true,List.contains_eq_mem,decide_eq_true_eq,beq_iff_eq]at hc⊢;symm;rw[<-Bool.coe_iff_coe];simp only[Bool.or_eq_true,List.any_eq_true,decide_eq_true_eq,iff_true];rcases hc with((hc|hc)|⟨p,hp,hc⟩)|⟨q,hq,hc⟩
   .left;left;left;rw[<-hx.1]
    cases e:x.d with
     |none=>rw[e]at hc;cases hc
     |some d=>
      rw[e]at hc;simp only[Bool.or_eq_true,decide_eq_true_eq,beq_iff_eq]at hc⊢;rcases hc with hc|hc;.exact .inl (hy.2.2.1 _ hc)
      .exact .inr (by rw[<-hy.1];exact hc)
   .left;left;right;rw[<-hy.1];cases e:y.d with|none=>rw[e]at hc;cases hc|some d=>rw[e]at hc;simp only[decide_eq_true_eq]at hc⊢;exact hx.2.2.1 _ hc
   .left;right;obtain⟨p',h1,h2⟩:=hx.2.1 p hp;refine⟨p',h1,?_⟩;rcases hc with hc|⟨q,hq,hc⟩;.exact .inl (by rw[h2];exact hy.2.2.2 _ hc)
    .obtain⟨q',h3,h4⟩:=hy.2.1 q hq;exact .inr ⟨q',h3,by rw[h2,h4];exact beq_iff_eq.1 (by simpa using hc)⟩
   .right;obtain⟨q',h3,h4⟩:=hy.2.1 q hq;exact⟨q',h3,by rw[h4];exact hx.2.2.2 _ hc⟩
end
end Go.AM
end
section
set_option linter.unusedSimpArgs false
set_option linter.unusedVariables false
namespace Go.AM
open Go Go.RowKit
section
variable{w:World}{F:Nat->Prop}
theorem les_crel[Adr]{φ:Emb}:∀{as bs:List AV},ALes as bs->∀(b o:Nat),CRel w F φ as b o->CRel w F φ bs b o|[],[],_,_,_,h=>h|a::as,b::bs,h,x,o,k=>⟨let⟨v,h1,h2,h3⟩:=k.1;⟨v,h1,h2,h.1 _ _ _ _ h3⟩,les_crel h.2 x (o+1) k.2⟩|[],_::_,h,_,_,_=>h.elim|_::_,[],h,_,_,_=>h.elim
theorem les_append[Adr]:∀{as bs cs ds:List AV},ALes as bs->ALes cs ds->ALes (as++cs) (bs++ds)|[],[],_,_,_,k=>k|_::_,_::_,_,_,h,k=>⟨h.1,les_append h.2 k⟩|[],_::_,_,_,h,_=>h.elim|_::_,[],_,_,h,_=>h.elim
theorem les_refl[Adr]:∀(as:List AV),ALes as as|[]=>trivial|a::as=>⟨AV.Le.refl a,les_refl as⟩
theorem Le.pp[Adr]{as bs:List AV}(h:ALes as bs):(AV.pp as).Le (.pp bs):=λw F φ v k=>by simp only[VRel]at k⊢;obtain⟨b,o,h1,h2,h3⟩:=k;exact⟨b,o,h1,h2,les_crel h b o h3⟩
end
theorem rels_les[Adr]{w:World}{F:Nat->Prop}{φ:Emb}:∀{as bs:List AV},ALes as bs->∀{vs:List Value},VRels w F φ as vs->VRels w F φ bs vs|[],[],_,_,h=>h|a::as,b::bs,h,vs,k=>by simp only[VRels]at k⊢;obtain⟨v,vs',e,h1,h2⟩:=k;exact⟨v,vs',e,h.1 _ _ _ _ h1,rels_les h.2 h2⟩|[],_::_,h,_,_=>h.elim|_::_,[],h,_,_=>h.elim
theorem Le.fn[Adr]{f:FuncId}{as bs cs ds:List AV}(h:ALes as bs)(k:ALes cs ds):(AV.fn f as cs).Le (.fn f bs ds):=λw F φ v q=>by simp only[VRel]at q⊢;obtain⟨fs,gs,e,h1,h2⟩:=q;exact⟨fs,gs,e,rels_les h h1,rels_les k h2⟩
theorem Le.iface[Adr]{t:TypeId}{a b:AV}(h:a.Le b):(AV.iface t a).Le (.iface t b):=λw F φ v q=>by simp only[VRel]at q⊢;obtain⟨y,e,h1⟩:=q;exact⟨y,e,h _ _ _ _ h1⟩
theorem PCall_args[Adr]{P:Program}{f:FuncId}{args args':List AV}{r:AV}{blks:List ABlk}(h:PCall P f args' r blks)(hl:ALes args args'):PCall P f args r blks:=⟨h.1,λw F vs hf hg hv=>h.2 w F vs hf hg (rels_les hl hv)⟩
section
variable{hp:Tr CB}
mutual
theorem purC_ok[Adr]:∀(d:Nat)(v:AV)(p:Pu AV),purC hp d v=some p->(∀q∈p.eq,q.1=q.2)->∃v',pur (vw hp) d v=some (v',p.rd)/\v'.Le p.v
 |0,v,p,h,_=>by simp[purC]at h
 |d+1,v,p,h,he=>by
  have plain:(match pur (vw hp) (d+1) v with|some (v',rd)=>some (Pu.mk v' [] rd)|none=>none)=some p->∃v',pur (vw hp) (d+1) v=some (v',p.rd)/\v'.Le p.v:=λh=>by
   split at h;.rename_i v' rd hv;cases h;exact⟨v',hv,AV.Le.refl _⟩
   .cases h
  cases v with
   |ref b g i j=>
    simp only[purC]at h;split at h;rotate_left;.cases h
    rename_i x hb;split at h;rotate_left;.cases h
    rename_i hg;have hg:=Nat.eq_of_beq_eq_true hg;split at h;rotate_left;.cases h
    rename_i e hi;split at h;rotate_left;.cases h
    rename_i hj;have hj:=Nat.le_of_ble_eq_true hj;have hv:vw hp b=some x:=vw_get hb;have e1:rdElem (vw hp) b g i=some e:=by unfold rdElem;rw[hv];simp only;rw[if_pos hg,hi]
    split at h;.rename_i hpu;cases h;refine⟨.pp (e.drop j),?_,AV.Le.refl _⟩;simp only[pur,e1,hv];rw[if_neg (by omega),if_pos hpu]
    .rename_i hpu;split at h;.rename_i q hq;cases h;obtain⟨cs,k1,k2⟩:=pursC_ok d _ _ hq he;refine⟨.pp cs,?_,Le.pp k2⟩;simp only[pur,e1,hv];rw[if_neg (by omega),if_neg (by simp[hpu]),k1]
     .cases h
   |sl b g z off len=>
    simp only[purC]at h;split at h;.rename_i x hb;exact plain h
    .rename_i g' own n xs hb;split at h;rotate_left;.cases h
     rename_i hc;cases h;simp only[Bool.and_eq_true]at hc;have hl:len=xs.length:=he (len,xs.length) (by simp);refine⟨.psl (szU n) (xs.map (encU n)),?_,λw F φ u k=>dl_psl.2 k⟩;have hv:vw hp b=some {g:=g',own:=own,pure:=true,sz:=szU n,es:=xs.map (encU n)}:=vw_get hb;simp only[pur,hv];rw[if_pos ⟨Nat.eq_of_beq_eq_true hc.2.1,Nat.eq_of_beq_eq_true hc.1,by rw[Nat.eq_of_beq_eq_true hc.2.2,hl];simp⟩,Nat.eq_of_beq_eq_true hc.2.2,hl];simp[List.take_of_length_le]
    .cases h
   |fn f a c=>
    simp only[purC]at h;split at h;.rename_i p1 p2 h1 h2;cases h;obtain⟨a',k1,k2⟩:=pursC_ok d a _ h1 (λq hq=>he q (by simp[hq]));obtain⟨c',k3,k4⟩:=pursC_ok d c _ h2 (λq hq=>he q (by simp[hq]));exact⟨.fn f a' c',by simp only[pur,k1,k3],Le.fn k2 k4⟩
    .cases h
   |iface t v=>
    simp only[purC]at h;split at h;.rename_i p1 h1;cases h;obtain⟨a',k1,k2⟩:=purC_ok d v _ h1 he;exact⟨.iface t a',by simp only[pur,k1],Le.iface k2⟩
    .cases h
   |agg cs=>
    simp only[purC]at h;split at h;.rename_i p1 h1;cases h;obtain⟨a',k1,k2⟩:=pursC_ok d cs _ h1 he;exact⟨.agg a',by simp only[pur,k1],AV.Le.agg k2⟩
    .cases h
   |tup cs=>
    simp only[purC]at h;split at h;.rename_i p1 h1;cases h;obtain⟨a',k1,k2⟩:=pursC_ok d cs _ h1 he;exact⟨.tup a',by simp only[pur,k1],AV.Le.tup k2⟩
    .cases h
   |_=>exact plain h
theorem pursC_ok[Adr]:∀(d:Nat)(vs:List AV)(p:Pu (List AV)),pursC hp d vs=some p->(∀q∈p.eq,q.1=q.2)->∃vs',pur.purs (vw hp) d vs=some (vs',p.rd)/\ALes vs' p.v
 |0,vs,p,h,_=>by simp[pursC]at h
 |d+1,[],p,h,_=>by simp only[pursC,Option.some.injEq]at h;subst h;exact⟨[],rfl,trivial⟩
 |d+1,v::vs,p,h,he=>by
  simp only[pursC]at h;split at h;.rename_i p1 p2 h1 h2;cases h;obtain⟨a',k1,k2⟩:=purC_ok d v _ h1 (λq hq=>he q (by simp[hq]));obtain⟨c',k3,k4⟩:=pursC_ok d vs _ h2 (λq hq=>he q (by simp[hq]));exact⟨a'::c',by simp only[pur.purs,k1,k3],k2,k4⟩
  .cases h
end
theorem vw_freeze:∀(l:List Nat)(η:Heap),apWr η ((freezeC hp l).map λp=>(p.1,p.2.a))=apWr η (freezeAll (vw hp) l)|[],η=>rfl|b::l,η=>by unfold freezeC freezeAll;cases hb:hp.get b with|none=>simp only[show vw hp b=none by unfold vw;rw[hb]];exact vw_freeze l η|some x=>simp only[vw_get hb,List.map_cons,apWr];rw[show x.frz.a={x.a with own:=false}by cases x<;>rfl];exact vw_freeze l _
end
end Go.AM
end
