/- Texts of the proof, joined by program. -/
import Derived.Test.YtaeifdlkolfdjaaGreatDoorKAmZq
section
set_option linter.unusedSimpArgs false
set_option linter.unusedVariables false
namespace Go.AM
open Go Go.RowKit
abbrev Os:=Out->Prop
def Ends[Adr](q:Os):Exit->St->Prop:=λe s=>∃cs:Cs,Sim s cs.st/\(q (.ex e cs)\/ ∃a v,q (.pan a cs)/\PanOf a v/\e=.panic (chainOf v))
def VEnds(q:Os):Fin'->St->Prop|.val r,s=>∃cs:Cs,Sim s cs.st/\q (.val r cs)|.pan a,s=>∃cs:Cs,Sim s cs.st/\q (.pan a cs)
def DEnds(q:Os):Bool->St->Prop:=λb s=>∃cs:Cs,Sim s cs.st/\q (.rec' b cs)
theorem Ends.mono[Adr]{a b:Os}(h:∀x,a x->b x){e:Exit}{s:St}(k:Ends a e s):Ends b e s:=by
 obtain⟨cs,h1,h2⟩:=k;refine⟨cs,h1,?_⟩;rcases h2 with h2|⟨x,v,h2,h3⟩;.exact .inl (h _ h2)
 .exact .inr ⟨x,v,h _ h2,h3⟩
theorem Ends.one[Adr]{q:Os}{e:Exit}{cs:Cs}{s:St}(h:Sim s cs.st)(hq:q (.ex e cs)):Ends q e s:=⟨cs,h,.inl hq⟩
theorem ends_pass[Adr]{q:Os}{f:Out->R Out}{e:Exit}{s:St}(he:∀cs,f (.ex e cs)=Go.AM.one (.ex e cs))(hp:∀a cs,f (.pan a cs)=Go.AM.one (.pan a cs))(h:Ends (λo=>holds (f o) q) e s):Ends q e s:=by
 obtain⟨cs,h1,hm⟩:=h;refine⟨cs,h1,?_⟩;rcases hm with hm|⟨x,v,hm,h3⟩;.rw[he]at hm;exact .inl hm
 .rw[hp]at hm;exact .inr ⟨x,v,hm,h3⟩
theorem ends_normal[Adr]{q:Os}{f:Out->R Out}{s:St}{K:Prop}(hk:∀cs,holds (f (.ex .normal cs)) q->Sim s cs.st->K)(h:Ends (λo=>holds (f o) q) .normal s):K:=by
 obtain⟨cs,h1,hm⟩:=h;rcases hm with hm|⟨x,v,hm,-,hc⟩;.exact hk cs hm h1
 .cases hc
def Good[Adr](P:Program):Job->Os->Prop|.code nt c s,q=>AWP P nt c (Ends q) s.st|.loop nt c s,q=>AWPL P nt c (Ends q) s.st|.inscope nt c r s,q=>AWPS P nt c r (Ends q) s.st|.ops nt ops l s,q=>AWPO P nt ops l (Ends q) s.st|.draw nt ops c l s,q=>P.follows .mixedOrders=true->backs 0 ops.toList=true->AWPG P nt ops c (Ends q) s.st|.every nt ops fuel listed s,q=>AWPAny P nt ops fuel listed (Ends q) s.st|.call f args s,q=>EWX P f args (VEnds q) s.st|.pcall _ f args,q=>∃r blks,q (.ans r blks)/\PCall P f args r blks|.fcode fn N c s,q=>FWX P fn N c (VEnds q) s.st|.fops fn N ops l y s,q=>FWO P fn N ops l y (VEnds q) s.st|.dcall f args md s,q=>DWX P f args md (DEnds q) s.st|.dcode nt c s,q=>AWPd P nt c (Ends q) s.st|.dops nt ops l s,q=>AWPOd P nt ops l (Ends q) s.st
def Sound[Adr](P:Program)(rec:Rc):Prop:=∀j q,holds (rec j) q->Good P j q
def POk(P:Program):Prop:=∀(f:FuncId)(fn:Func),P.funcs[f]?=some fn->fn.name≠ "runtime.NumGoroutine"
structure COk[Adr](P:Program)(con:Nat->FuncId->Option CK):Prop where
 pure:∀fu f g,con fu f=some (.pure g)->∀args r blks,g args=some (r,blks)->PCall P f args r blks
 inp:∀fu f g,con fu f=some (.inp g)->∀(args:List AV)(s s':Cs)(v:AV),g args s=some (v,s')->EWP P f args (λr s2=>r=v/\Sim s2 s'.st) s.st
 ext:∀fu f g,con fu f=some (.ext g)->∀(args:List AV)(r:AV),g args=some r->∀(w:World)(F:Nat->Prop)(φ:Emb)(vs:List Value),VRels w F φ args vs->∃v,(callFunc f ⟨vs⟩).run P w=.ok (.value v) w/\VRel w F φ r v
 opn:∀{A B:Type}(fu:Nat)(f:FuncId)(arg:List AV->Option A)(g:A->Option B)(res:B->AV),con fu f=some (.opn arg g res)->∀args x y,arg args=some x->g x=some y->PCall P f args (res y) []/\ ∀n,((res y).shift n).Le (res y)
 opi:∀{A B:Type}(fu:Nat)(f:FuncId)(arg:List AV->Cs->Option (A×List (Nat×Nat)))(g:A->Option B)(res:List AV->Cs->B->AV×Cs),con fu f=some (.opi arg g res)->∀args s x eq y,arg args s=some (x,eq)->(∀q∈eq,q.1=q.2)->g x=some y->EWP P f args (λr s2=>r=(res args s y).1/\Sim s2 (res args s y).2.st) s.st
 opw:∀{A:Type}(fu:Nat)(f:FuncId)(arg:List AV->Option A)(n:Nat)(g:A->Option (List (U n))),con fu f=some (.opw arg n g)->∀args x xs,arg args=some x->g x=some xs->PCall P f args (.sl 0 0 (szU n) 0 xs.length) [(CB.t 0 true n xs).a]
def Cn[Adr](n:Nat)(s t:St):Prop:=∀(cx:Cx)(w0 w:World)(F:Nat->Prop)(φ:Emb)(nt:Nat)(a:Act),Fits cx w0 w F φ nt a s->∃ψ:Emb,Fits cx w0 w F ψ nt a t/\(∀b g x,b<n->φ.blk b g=some x->ψ.blk b g=some x)/\(∀l k,l<n->φ.loop l=some k->ψ.loop l=some k)
theorem Cn.sim[Adr]{n:Nat}{s t:St}(h:Sim s t):Cn n s t:=λ_ _ _ _ φ _ _ hf=>⟨φ,h.fits hf,λ_ _ _ _ e=>e,λ_ _ _ e=>e⟩
theorem Cn.trans[Adr]{n:Nat}{s t u:St}(h:Cn n s t)(k:Cn n t u):Cn n s u:=λcx w0 w F φ nt a hf=>let⟨_,h1,h2,h3⟩:=h cx w0 w F φ nt a hf;let⟨_,k1,k2,k3⟩:=k cx w0 w F _ nt a h1;⟨_,k1,λb g x hb e=>k2 b g x hb (h2 b g x hb e),λl q hl e=>k3 l q hl (h3 l q hl e)⟩
theorem grow_pre[Adr]{cx:Cx}{w0 w w':World}{F F':Nat->Prop}{φ ψ φ':Emb}{nt:Nat}{a:Act}{s:St}(hf:Fits cx w0 w F φ nt a s)(h2:∀b g x,b<s.nx->φ.blk b g=some x->ψ.blk b g=some x)(h3:∀l k,l<s.nx->φ.loop l=some k->ψ.loop l=some k)(g:GrowW w0 w F ψ w' F' φ'):GrowW w0 w F φ w' F' φ':=⟨⟨λb g' x e=>g.le.1 _ _ _ (h2 _ _ _ (hf.mem.heap.used _ _ _ e) e),λl k e=>g.le.2 _ _ (h3 _ _ (hf.mem.lused _ _ e).1 e)⟩,g.sub,g.new,g.ext,g.opn,g.lps,g.mps⟩
theorem grow_post[Adr]{cx:Cx}{w0 w w':World}{F F':Nat->Prop}{φ ψ φ':Emb}{nt:Nat}{a:Act}{s:St}(hf:Fits cx w0 w F φ nt a s)(g:GrowW w0 w F φ w' F' φ')(h2:∀b g x,b<s.nx->φ'.blk b g=some x->ψ.blk b g=some x)(h3:∀l k,l<s.nx->φ'.loop l=some k->ψ.loop l=some k):GrowW w0 w F φ w' F' ψ:=⟨⟨λb g' x e=>h2 _ _ _ (hf.mem.heap.used _ _ _ e) (g.le.1 _ _ _ e),λl k e=>h3 _ _ (hf.mem.lused _ _ e).1 (g.le.2 _ _ e)⟩,g.sub,g.new,g.ext,g.opn,g.lps,g.mps⟩
section
variable{P:Program}{nt:Nat}{K K':Exit->St->Prop}{s t:St}
theorem cn_awpo[Adr]{ops:Array Oper}{l:List Nat}(h:Cn s.nx s t)(k:AWPO P nt ops l K t):AWPO P nt ops l K s:=λcx w0 w F φ a hf Q hQ=>let⟨_,h1,h2,h3⟩:=h cx w0 w F φ nt a hf;k cx w0 w F _ a h1 Q λe a' w' s' φ' F' q1 q2 q3=>hQ e a' w' s' φ' F' q1 (grow_pre hf h2 h3 q2) q3
theorem cn_post[Adr]{c:Code}(k:AWP P nt c K' s)(h:∀e s1,K' e s1->∃t,Cn s.nx s1 t/\K e t):AWP P nt c K s:=λcx w0 w F φ a hf=>wpIn_mono (k cx w0 w F φ a hf) λe a' w' ⟨s',φ',F',q1,q2,q3⟩=>let⟨t,h1,h2⟩:=h e s' q3;let⟨ψ,p1,p2,p3⟩:=h1 cx w0 w' F' φ' nt a' q1;⟨t,ψ,F',p1,grow_post hf q2 p2 p3,h2⟩
end
end Go.AM
end
section
set_option linter.unusedSimpArgs false
set_option linter.unusedVariables false
namespace Go.AM
open Go Go.RowKit
def ofAv(φ:Emb)(n:Nat):AV->Option (Option Nat×Nat)|.nils=>some (none,szU n)|.sl b g _ _ _=>φ.blk b g|_=>none
noncomputable def ofSl(s:Cs)(φ:Emb):Slot->Option (Option Nat×Nat)|.o p _ n=>ofAv φ n (getP s p)|_=>none
noncomputable def oaF(s:Cs)(φ:Emb):Nat->List Slot->Nat->Option (Option Nat×Nat)|_,[],_=>none|i,o::os,b=>if b=i then ofSl s φ o else oaF s φ (i+1) os b
theorem oaF_lt{s:Cs}{φ:Emb}:∀(sl:List Slot)(i b:Nat)(x:Option Nat×Nat),oaF s φ i sl b=some x->i<=b/\b<i+sl.length
 |[],_,_,_,h=>by cases h
 |o::os,i,b,x,h=>by
  simp only[oaF]at h;split at h;.rename_i e;subst e;exact⟨Nat.le_refl _,by simp⟩
  .have :=oaF_lt os (i+1) b x h;simp only[List.length_cons];omega
theorem ofSl_in{s:Cs}{φ:Emb}{o:Slot}{cb z:Nat}(h:ofSl s φ o=some (some cb,z)):∃b g,φ.blk b g=some (some cb,z):=by
 unfold ofSl at h;split at h
 .unfold ofAv at h;split at h;.cases h
  .exact⟨_,_,h⟩
  .cases h
 .cases h
theorem oaF_in{s:Cs}{φ:Emb}:∀(sl:List Slot)(i b cb z:Nat),oaF s φ i sl b=some (some cb,z)->∃b g,φ.blk b g=some (some cb,z)
 |[],_,_,_,_,h=>by cases h
 |o::os,i,b,cb,z,h=>by
  simp only[oaF]at h;split at h;.exact ofSl_in h
  .exact oaF_in os (i+1) b cb z h
def reN(φ:Emb)(n0:Nat)(oa:Nat->Option (Option Nat×Nat)):Emb:={blk:=λb g=>if b<n0 then φ.blk b g else if g=0 then oa b else none,loop:=λl=>if l<n0 then φ.loop l else none}
theorem cut_le(φ:Emb)(n0:Nat)(oa:Nat->Option (Option Nat×Nat)):(φ.cut n0).le (reN φ n0 oa):=by
 refine⟨λb g x h=>?_,λl x h=>h⟩;simp only[Emb.cut]at h;split at h;.rename_i hb;simp only[reN];rw[if_pos hb];exact h
 .cases h
section
variable{w0 w:World}{F:Nat->Prop}{φ ψ:Emb}{s:Cs}{n0:Nat}{ns:List Nat}
def Wv[Adr](w:World)(F:Nat->Prop)(φ ψ:Emb)(a a':AV):Prop:=∀u,VRel w F φ a u->VRel w F ψ a' u
theorem Wv.top[Adr]{a:AV}:Wv w F φ ψ a .top:=λ_ _=>by simp only[VRel]
theorem Wv.under[Adr]{a:AV}(hle:(φ.cut n0).le ψ)(h:a.under n0=true):Wv w F φ ψ a a:=λu hu=>VRel.mono (Ext0.refl F w) (λ_ h=>h) hle _ _ (below_rel _ _ h hu)
theorem Wv.dec[Adr]{a:AV}{c:CT}{x:c.T}(h:c.dec a=some x):Wv w F φ ψ a (c.av x):=λu hu=>isP_rel _ _ (CT.av_P c _) (dec_cell c x h hu)
theorem Wv.agg[Adr]{cs:List AV}{n:Nat}{x:U n}(h:decU n cs=some x):Wv w F φ ψ (.agg cs) (.agg (encU n x)):=λu hu=>by simp only[VRel]at hu⊢;obtain⟨vs,h1,h2,h3⟩:=hu;exact⟨vs,h1,isPs_rel _ _ (encU_P n x) (decU_ok h h2),h3⟩
theorem Wv.emb[Adr]{a a':AV}{y:ABlk}(h:Wv w F φ ψ a a'):Wv w F (y.emb φ) ψ a a':=λu hu=>h u (VRel.mono (Ext0.refl F w) (λ_ h=>h) (y.emb_le φ) _ _ hu)
theorem belows_all{n:Nat}:∀{cs:List AV},AV.under.belows n cs=true->∀a∈cs,a.under n=true
 |[],_,a,h=>by cases h
 |c::cs,h,a,ha=>by
  simp only[AV.under.belows,Bool.and_eq_true]at h;rcases List.mem_cons.1 ha with rfl|ha;.exact h.1
  .exact belows_all h.2 a ha
theorem Wv.cell[Adr]{a:AV}{y:ABlk}{cs:List AV}{j:Nat}(hle:(φ.cut n0).le ψ)(he:y.es=[cs])(h:y.pure=true\/y.es.all (AV.under.belows n0)=true)(ha:cs[j]?=some a):Wv w F (y.emb φ) ψ a a:=λu hu=>by
 rcases h with h|h;.unfold ABlk.emb at hu;rw[if_pos h]at hu;exact VRel.mono (Ext0.refl F w) (λ_ h=>h) (Emb.zero_le ψ) _ _ hu
 .rw[he]at h;simp only[List.all_cons,List.all_nil,Bool.and_true]at h;exact(Wv.under hle (belows_all h a (List.mem_of_getElem? ha))).emb u hu
def KeptU[Adr](w:World)(F:Nat->Prop)(φ ψ:Emb)(n0:Nat)(y y':ABlk):Prop:=y'.g=y.g/\y'.sz=y.sz/\y'.own=y.own/\y'.ty=y.ty/\((y'.es=y.es/\y'.pure=y.pure/\(y.pure=true\/y.es.all (AV.under.belows n0)=true))\/(y'.pure=false/\ ∃cs cs',y.es=[cs]/\y'.es=[cs']/\cs'.length=cs.length/\ ∀(j:Nat)(a a':AV),cs[j]?=some a->cs'[j]?=some a'->Wv w F (y.emb φ) ψ a a'))
def Kept[Adr](w:World)(F:Nat->Prop)(φ ψ:Emb)(n0:Nat):CB->CB->Prop|.u y,.u y'=>KeptU w F φ ψ n0 y y'|.t g own n xs,x'=>x'=.t g own n xs|_,_=>False
def WkO(n0:Nat)(o o':Ob):Prop:=(∃k v xs,o'=.md k v xs/\obM k v o=some xs)\/ ∃l0 k v xs cur,l0<n0/\o=.mit l0 (.d k v xs) cur/\o'=.mit l0 (.d k v xs) none
structure Inv[Adr](w0 w:World)(F:Nat->Prop)(φ ψ:Emb)(n0:Nat)(ns:List Nat)(s:Cs)(org:Nat->Option Nat)(m:Nat)(left:List Nat)(s':Cs):Prop where
 fr:∀t,Wv w F φ ψ (tau s.fr t) (tau s'.fr t)
 lp:∀l y',alg s'.lp l=some y'->(alg s.lp l=some y'/\recOk n0 (l,y')=true)\/ ∃o y o',alg s.lp l=some y/\y.mp=some o/\y'.mp=some o'/\l<n0/\WkO n0 o o'
 oinj:∀b b' c,org b=some c->org b'=some c->b=b'
 oom:∀b c,org b=some c->b<m
 ons:∀b c,org b=some c->c∉ns/\c∉left
 hp:∀b x',s'.hp.get b=some x'->(b<n0/\b∈ns/\ ∃x,s.hp.get b=some x/\Kept w F φ ψ n0 x x')\/(n0<=b/\b<m/\(∃n xs,x'=.t 0 true n xs)/\BRel w0 w F ψ b x'.a/\ ∀cb sz,ψ.blk b 0=some (some cb,sz)->∃c y,org b=some c/\s.hp.get c=some y/\φ.blk c y.a.g=some (some cb,sz))
theorem Inv.setP[Adr]{org:Nat->Option Nat}{m:Nat}{left:List Nat}{s':Cs}(h:Inv w0 w F φ ψ n0 ns s org m left s'){v:AV}{p:Place}(hle:(φ.cut n0).le ψ)(hv:Wv w F φ ψ (getP s p) v):Inv w0 w F φ ψ n0 ns s org m left (Go.AM.setP s' v p):=by
 cases p with
  |t t=>
   refine⟨λk=>?_,h.lp,h.oinj,h.oom,h.ons,h.hp⟩;show Wv w F φ ψ (tau s.fr k) (tau (s'.fr.put t v) k);rw[tau_put];unfold fupd;split;.rename_i e;subst e;exact hv
   .exact h.fr k
  |c b j=>
   unfold Go.AM.setP;simp only;split;rotate_left;.exact h
   rename_i x' hx';split;rotate_left;.exact h
   rename_i cs' hcs';refine⟨h.fr,h.lp,h.oinj,h.oom,h.ons,λc y hc=>?_⟩;rw[show(Cs.hp {s' with hp:=s'.hp.put b (.u {x' with es:=[cs'.set j v],pure:=false})})=s'.hp.put b (.u {x' with es:=[cs'.set j v],pure:=false})from rfl,Tr.get_put]at hc;split at hc;rotate_left;.exact h.hp c y hc
   rename_i e;subst e;cases hc;rcases h.hp c _ hx' with⟨h1,h2,x,h3,h4⟩|⟨_,_,⟨_,_,e⟩,_⟩;rotate_left;.cases e
   refine .inl ⟨h1,h2,x,h3,?_⟩
   cases x with
    |t g own n xs=>simp only[Kept]at h4;cases h4
    |u y=>
     simp only[Kept]at h4⊢;obtain⟨k1,k2,k3,k4,k5⟩:=h4;refine⟨k1,k2,k3,k4,.inr ⟨rfl,?_⟩⟩
     have key:∃cs,y.es=[cs]/\cs'.length=cs.length/\ ∀(i:Nat)(a a':AV),cs[i]?=some a->cs'[i]?=some a'->Wv w F (y.emb φ) ψ a a':=by
      rcases k5 with⟨q1,q2,q3⟩|⟨q1,cs,cs2,q2,q3,q4,q5⟩;.rw[hcs']at q1;refine⟨cs',q1.symm,rfl,λi a a' h1 h2=>?_⟩;rw[h1]at h2;cases h2;exact Wv.cell hle q1.symm q3 h1
      .rw[hcs']at q3;cases q3;exact⟨cs,q2,q4,q5⟩
     obtain⟨cs,e1,e2,e3⟩:=key;refine⟨cs,cs'.set j v,e1,rfl,by rw[List.length_set];exact e2,λi a a' h1 h2=>?_⟩;rw[List.getElem?_set]at h2;split at h2
     .rename_i e;subst e;split at h2
      .cases h2;refine Wv.emb ?_;have :getP s (.c c j)=a:=by simp only[getP,h3,e1,h1]
       rw[this]at hv;exact hv
      .cases h2
     .exact e3 i a a' h1 h2
theorem Inv.setPs[Adr]{org:Nat->Option Nat}{m:Nat}{left:List Nat}{v:AV}(hle:(φ.cut n0).le ψ):∀(ps:List Place){s':Cs},Inv w0 w F φ ψ n0 ns s org m left s'->(∀p∈ps,Wv w F φ ψ (getP s p) v)->Inv w0 w F φ ψ n0 ns s org m left (Go.AM.setPs s' v ps)|[],_,h,_=>h|p::ps,_,h,hv=>Inv.setPs hle ps (h.setP hle (hv p (by simp))) λq hq=>hv q (by simp[hq])
theorem decAll_len{n:Nat}:∀{es:List (List AV)}{xs:List (U n)},decAll n es=some xs->xs.length=es.length
 |[],xs,h=>by cases h;rfl
 |e::es,xs,h=>by
  simp only[decAll]at h;split at h;.rename_i x l h1 h2;cases h;simp[decAll_len h2]
  .cases h
theorem decAll_rel[Adr]{n b:Nat}{χ ω:Emb}:∀{es:List (List AV)}{xs:List (U n)}{o:Nat},decAll n es=some xs->(∀e∈es,e.length=szU n)->ERel w F χ es b o->ERel w F ω (xs.map (encU n)) b o
 |[],xs,o,h,_,_=>by cases h;simp[ERel]
 |e::es,xs,o,h,hl,hr=>by
  simp only[decAll]at h;split at h
  .rename_i x l h1 h2;cases h;simp only[ERel,List.map_cons]at hr⊢;refine⟨?_,?_⟩;.have :=hr.1;rw[CRel_iff]at this⊢;obtain⟨vs,k1,k2,k3⟩:=this;exact⟨vs,isPs_rel _ _ (encU_P n x) (decU_ok h1 k1),k2,k3⟩
   .rw[encU_len,<-hl e (by simp)];exact decAll_rel h2 (λe he=>hl e (by simp[he])) hr.2
  .cases h
theorem own_ok[Adr]{U:Nat->Prop}(hm:HRel w0 w F φ U (vw s.hp)){n m:Nat}{a:AV}{g:Got (List (Go.AM.U n))}(h:ownSl s n a=some g)(he:∀q∈g.eq,q.1=q.2)(hψ:ψ.blk m 0=ofAv φ n a):Wv w F φ ψ a (.sl m 0 (szU n) 0 g.x.length)/\BRel w0 w F ψ m (CB.t 0 true n g.x).a/\(∀cb sz,ψ.blk m 0=some (some cb,sz)->∃c y,g.bd=[c]/\s.hp.get c=some y/\φ.blk c y.a.g=some (some cb,sz))/\(a=.nils\/ ∃b g' z len,a=.sl b g' z 0 len):=by
 cases a with
  |nils=>simp only[ownSl]at h;cases h;simp only[ofAv]at hψ;refine⟨λu hu=>?_,⟨none,hψ,λe he=>by simp[CB.a]at he,rfl⟩,λcb sz e=>(by rw[hψ]at e;cases e),.inl rfl⟩;simp only[VRel]at hu⊢;exact .inl ⟨hψ,by trivial,by trivial,none,hu⟩
  |sl b g' z off len=>
   simp only[ownSl]at h;simp only[ofAv]at hψ;have slv:∀N,off=0->z=szU n->len=N->Wv w F φ ψ (.sl b g' z off len) (.sl m 0 (szU n) 0 N):=λN e1 e2 e3 u hu=>by subst e1 e2 e3;simp only[VRel]at hu⊢;rw[hψ];exact hu
   split at h
   .rename_i g2 own k xs hb;split at h;rotate_left;.cases h
    rename_i e;subst e;split at h;rotate_left;.cases h
    rename_i hc;cases h;simp only[Bool.and_eq_true]at hc;obtain⟨c1,c2,c3,c4⟩:=hc;have c1:=Nat.eq_of_beq_eq_true c1;have c3:=Nat.eq_of_beq_eq_true c3;have c4:=Nat.eq_of_beq_eq_true c4;have el:len=xs.length:=he (len,xs.length) (by simp);have hv:vw s.hp b=some (CB.t g2 own k xs).a:=by unfold vw;rw[hb]
    obtain⟨pl,p1,p2,p3⟩:=hm.blk b _ hv;have p1':φ.blk b g'=some (pl,szU k):=by rw[c1];exact p1
    refine⟨slv _ c4 c3 el,⟨pl,hψ.trans p1',p2,?_⟩,λcb sz e=>⟨b,_,rfl,hb,?_⟩,.inr ⟨b,g',z,len,by rw[c4]⟩⟩;.subst c2;cases pl with|none=>exact p3|some cb=>exact p3
    .rw[hψ,c1]at e;exact e
   .rename_i x hb;split at h;rotate_left;.cases h
    rename_i hc;split at h;rotate_left;.cases h
    rename_i xs hd;cases h;simp only[Bool.and_eq_true]at hc;obtain⟨c1,c2,c3,c5,c4⟩:=hc;have c1:=Nat.eq_of_beq_eq_true c1;have c3:=Nat.eq_of_beq_eq_true c3;have c4:=Nat.eq_of_beq_eq_true c4;have c5:=Nat.eq_of_beq_eq_true c5;have el:len=x.es.length:=he (len,x.es.length) (by simp);have hv:vw s.hp b=some x:=by unfold vw;rw[hb];rfl
    obtain⟨pl,p1,p2,p3⟩:=hm.blk b _ hv;have hz:x.sz=szU n:=c5.trans c3;have p1':φ.blk b g'=some (pl,szU n):=by rw[c1,<-hz];exact p1
    refine⟨slv _ c4 c3 (by rw[decAll_len hd];exact el),⟨pl,hψ.trans p1',λe he=>?_,?_⟩,λcb sz e=>⟨b,_,rfl,hb,?_⟩,.inr ⟨b,g',z,len,by rw[c4]⟩⟩;.simp only[CB.a,List.mem_map]at he;obtain⟨y,-,rfl⟩:=he;exact encU_len n y
    .cases pl with
      |none=>
       simp only[LRel]at p3⊢;have :xs.length=0:=by rw[decAll_len hd,p3];rfl
       simp only[CB.a,List.eq_nil_of_length_eq_zero this,List.map_nil]
      |some cb=>simp only[LRel]at p3⊢;obtain⟨f1,f2,⟨c,el2,fz,q1,q2,q3⟩,f4⟩:=p3;refine⟨f1,λ_=>f2 c2,⟨c,el2,fz,q1,⟨λ_=>q2.1 c2,λt ht=>by cases ht⟩,?_⟩,decAll_rel hd (λe he=>by rw[p2 e he,hz]) f4⟩;simp only[CB.a,List.length_map];rw[decAll_len hd,<-hz];exact q3
    .rw[hψ,c1]at e;exact e
   .cases h
  |_=>simp only[ownSl]at h;cases h
theorem same_ok[Adr]{v:AV}:∀(ps:List Place){l:List (Nat×Nat)},sameSl s v ps=some l->(∀q∈l,q.1=q.2)->(v=.nils\/ ∃b g' z len,v=.sl b g' z 0 len)->∀p∈ps,getP s p=v
 |[],_,_,_,_,p,hp=>by cases hp
 |p0::ps,l,h,he,hv,p,hp=>by
  simp only[sameSl]at h;split at h
  .rename_i h1 h2;cases h;rcases List.mem_cons.1 hp with rfl|hp;.exact h1
   .exact same_ok ps h2 he hv p hp
  .rename_i b g z off len b' g' z' off' len' l' h1 h2;split at h
   .rename_i hc;cases h;simp only[Bool.and_eq_true]at hc;obtain⟨c1,c2,c3,c4⟩:=hc;have e:=he (len',len) (by simp);simp only at e
    have ho:off=0:=by
     rcases hv with q|⟨b,g',z,len,q⟩;.cases q
     .cases q;rfl
    rcases List.mem_cons.1 hp with rfl|hp;.rw[h1,Nat.eq_of_beq_eq_true c1,Nat.eq_of_beq_eq_true c2,Nat.eq_of_beq_eq_true c3,Nat.eq_of_beq_eq_true c4,e,ho]
    .exact same_ok ps h2 (λq hq=>he q (by simp[hq])) hv p hp
   .cases h
  .cases h
theorem Inv.putSl[Adr]{U:Nat->Prop}(hm:HRel w0 w F φ U (vw s.hp))(hle:(φ.cut n0).le ψ){org:Nat->Option Nat}{m:Nat}{left:List Nat}{s':Cs}(hn:n0<=m)(o:Slot){g:Got o.T}(hg:getSl s o=some g)(he:∀q∈g.eq,q.1=q.2)(hnd:(g.bd++left).Nodup)(hdis:∀b∈g.bd,b∉ns)(hψ:ψ.blk m 0=ofSl s φ o)(hms:∀l∈slN [o],l<n0)(h:Inv w0 w F φ ψ n0 ns s org m (g.bd++left) s'):∃org',Inv w0 w F φ ψ n0 ns s org' (m+1) left (Go.AM.putSl s' m o g.x):=by
 have up:∀{s2:Cs},Inv w0 w F φ ψ n0 ns s org m (g.bd++left) s2->Inv w0 w F φ ψ n0 ns s org (m+1) left s2:=λk=>⟨k.fr,k.lp,k.oinj,λb c e=>Nat.lt_succ_of_lt (k.oom b c e),λb c e=>⟨(k.ons b c e).1,λhc=>(k.ons b c e).2 (by simp[hc])⟩,λb x' hb=>(k.hp b x' hb).imp id λ⟨q1,q2,q3⟩=>⟨q1,Nat.lt_succ_of_lt q2,q3⟩⟩
 cases o with
  |v p c=>
   simp only[getSl]at hg;split at hg;.rename_i x hx;cases hg;exact⟨org,up (h.setP hle (Wv.dec hx))⟩
   .cases hg
  |g t n=>
   simp only[getSl]at hg;split at hg
   .rename_i cs hcs;split at hg;.rename_i x hx;cases hg;refine⟨org,up (h.setP (p:=.t t) hle ?_)⟩;show Wv w F φ ψ (tau s.fr t) _;rw[hcs];exact Wv.agg hx
    .cases hg
   .cases hg
  |m l k v=>
   simp only[getSl]at hg;split at hg;rotate_left;.cases hg
   rename_i y hy;split at hg;rotate_left;.cases hg
   rename_i o ho;split at hg;rotate_left;.cases hg
   rename_i xs hx;cases hg;have h0:Inv w0 w F φ ψ n0 ns s org (m+1) left s':=up h;refine⟨org,h0.fr,λl' y' e=>?_,h0.oinj,h0.oom,h0.ons,h0.hp⟩;change alg ((l,mapRec (.md k v xs))::s'.lp) l'=some y' at e;simp only[alg]at e;split at e;.rename_i q;subst q;cases e;exact .inr ⟨o,y,_,hy,ho,rfl,hms _ (by simp[slN]),.inl ⟨k,v,xs,rfl,hx⟩⟩
   .exact h0.lp l' y' e
  |i l l0 k v=>
   simp only[getSl]at hg;split at hg;rotate_left;.cases hg
   rename_i y hy;split at hg;rotate_left;.cases hg
   rename_i l1 k' v' xs cur ho;split at hg;rotate_left;.cases hg
   rename_i hkv;split at hg;rotate_left;.cases hg
   rename_i hl1;cases hg;obtain⟨rfl,rfl⟩:=hkv;have hl1:=Nat.eq_of_beq_eq_true hl1;subst hl1;have h0:Inv w0 w F φ ψ n0 ns s org (m+1) left s':=up h;refine⟨org,h0.fr,λl' y' e=>?_,h0.oinj,h0.oom,h0.ons,h0.hp⟩;change alg ((l,mapRec (.mit l1 (.d k' v' xs) none))::s'.lp) l'=some y' at e;simp only[alg]at e;split at e;.rename_i q;subst q;cases e;exact .inr ⟨_,y,_,hy,ho,rfl,hms _ (by simp[slN]),.inr ⟨l1,k',v',xs,cur,hms _ (by simp[slN]),rfl,rfl⟩⟩
   .exact h0.lp l' y' e
  |o p ps n=>
   simp only[getSl]at hg;split at hg;rotate_left;.cases hg
   rename_i g0 l h1 h2;cases hg;simp only at he hnd hdis h;obtain⟨k1,k2,k3,k4⟩:=own_ok (m:=m) (ψ:=ψ) hm h1 (λq hq=>he q (by simp[hq])) hψ
   have hps:∀q∈p::ps,Wv w F φ ψ (getP s q) (.sl m 0 (szU n) 0 g0.x.length):=λq hq=>by
    rcases List.mem_cons.1 hq with rfl|hq;.exact k1
    .rw[same_ok ps h2 (λq hq=>he q (by simp[hq])) k4 q hq];exact k1
   refine⟨λb=>if b=m then g0.bd.head? else org b,?_⟩;show Inv w0 w F φ ψ n0 ns s _ (m+1) left (Go.AM.setPs {s' with hp:=s'.hp.put m (.t 0 true n g0.x)} (.sl m 0 (szU n) 0 g0.x.length) (p::ps));refine Inv.setPs hle _ ?_ hps;have hhd:∀c,g0.bd.head?=some c->c∈g0.bd:=λc e=>List.mem_of_mem_head? e;refine⟨h.fr,h.lp,λb b' c e1 e2=>?_,λb c e=>?_,λb c e=>?_,λb x' hb=>?_⟩
   .split at e1<;>split at e2;.rename_i q1 q2;rw[q1,q2]
    .exact absurd (List.mem_append_left _ (hhd c e1)) (h.ons b' c e2).2
    .exact absurd (List.mem_append_left _ (hhd c e2)) (h.ons b c e1).2
    .exact h.oinj b b' c e1 e2
   .split at e;.omega
    .have :=h.oom b c e;omega
   .split at e;.refine⟨hdis c (hhd c e),λhc=>?_⟩;rw[List.nodup_append]at hnd;exact hnd.2.2 c (hhd c e) c hc rfl
    .exact⟨(h.ons b c e).1,λhc=>(h.ons b c e).2 (List.mem_append_right _ hc)⟩
   .rw[show(Cs.hp {s' with hp:=s'.hp.put m (.t 0 true n g0.x)})=s'.hp.put m (.t 0 true n g0.x)from rfl,Tr.get_put]at hb;split at hb;.rename_i e;subst e;cases hb;refine .inr ⟨hn,Nat.lt_succ_self _,⟨n,_,rfl⟩,k2,λcb sz e=>?_⟩;obtain⟨c,y,q1,q2,q3⟩:=k3 cb sz e;exact⟨c,y,by simp only[if_true];rw[q1];rfl,q2,q3⟩
    .rename_i hbm;rcases h.hp b x' hb with q|⟨q1,q2,q3,q4,q5⟩;.exact .inl q
     .refine .inr ⟨q1,Nat.lt_succ_of_lt q2,q3,q4,λcb sz e=>?_⟩;obtain⟨c,y,p1,p2,p3⟩:=q5 cb sz e;exact⟨c,y,by simp only[if_neg hbm];exact p1,p2,p3⟩
theorem Inv.putSls[Adr]{U:Nat->Prop}(hm:HRel w0 w F φ U (vw s.hp))(hle:(φ.cut n0).le ψ):∀(sl:List Slot){org:Nat->Option Nat}{m:Nat}{s':Cs}{g:Got (SlT sl)},n0<=m->getSls s sl=some g->(∀q∈g.eq,q.1=q.2)->g.bd.Nodup->(∀b∈g.bd,b∉ns)->(∀b,m<=b->ψ.blk b 0=oaF s φ m sl b)->(∀l∈slN sl,l<n0)->Inv w0 w F φ ψ n0 ns s org m g.bd s'->∃org',Inv w0 w F φ ψ n0 ns s org' (m+sl.length) [] (Go.AM.putSls s' m sl g.x)
 |[],org,m,s',g,hn,hg,he,hnd,hdis,hψ,hms,h=>by cases hg;exact⟨org,h⟩
 |[o],org,m,s',g,hn,hg,he,hnd,hdis,hψ,hms,h=>by exact Inv.putSl hm hle hn o (g:=g) hg he (by simpa using hnd) hdis (by rw[hψ m (Nat.le_refl _)];simp[oaF]) hms (by simpa using h)
 |o::o'::os,org,m,s',g,hn,hg,he,hnd,hdis,hψ,hms,h=>by
  simp only[getSls]at hg;split at hg;rotate_left;.cases hg
  rename_i g1 g2 h1 h2;cases hg;simp only at he hnd hdis h;obtain⟨org1,k⟩:=Inv.putSl hm hle (left:=g2.bd) hn o h1 (λq hq=>he q (by simp[hq])) hnd (λb hb=>hdis b (by simp[hb])) (by rw[hψ m (Nat.le_refl _)];simp[oaF]) (λl hl=>hms l (by cases o<;>simp[slN]at hl⊢ <;>first|exact .inl hl|(rcases hl with hl|hl;exact .inl hl;exact .inr (.inl hl)))) h;have :=Inv.putSls hm hle (o'::os) (m:=m+1) (Nat.le_succ_of_le hn) h2 (λq hq=>he q (by simp[hq])) (List.nodup_append.1 hnd).2.1 (λb hb=>hdis b (by simp[hb])) (λb hb=>by rw[hψ b (by omega)];simp only[oaF];rw[if_neg (by omega)]) (λl hl=>hms l (by cases o<;>simp[slN,hl])) k;obtain⟨org2,k2⟩:=this;exact⟨org2,by rw[show m+(o::o'::os).length=m+1+(o'::os).length by simp only[List.length_cons];omega];exact k2⟩
theorem tau_putFr:∀(l:List (Nat×AV))(t:Nat),tau (putFr l) t=frGet l t
 |[],t=>rfl
 |(k,v)::l,t=>by
  simp only[putFr];rw[tau_put,frGet_cons];unfold fupd;split;.rfl
  .exact tau_putFr l t
theorem get_putHp:∀(l:List (Nat×Option CB))(b:Nat)(x:CB),(putHp l).get b=some x->(b,some x)∈l
 |[],b,x,h=>by cases h
 |(k,some y)::l,b,x,h=>by
  simp only[putHp]at h;rw[Tr.get_put]at h;split at h;.rename_i e;subst e;cases h;simp
  .exact List.mem_cons_of_mem _ (get_putHp l b x h)
 |(k,none)::l,b,x,h=>List.mem_cons_of_mem _ (get_putHp l b x h)
theorem frGet_mem{l:List (Nat×AV)}{t:Nat}:frGet l t=.top\/(t,frGet l t)∈l:=by
 induction l with
  |nil=>exact .inl rfl
  |cons p l ih=>
   obtain⟨k,v⟩:=p;rw[frGet_cons];split;.rename_i e;subst e;exact .inr (by simp)
   .rcases ih with h|h;.exact .inl h
    .exact .inr (by simp[h])
theorem stripC_len(sk:Nat->Bool):∀(l:List AV)(j:Nat),(stripC sk j l).length=l.length|[],_=>rfl|v::l,j=>by simp[stripC,stripC_len sk l (j+1)]
theorem stripC_get(sk:Nat->Bool):∀(l:List AV)(j i:Nat)(a a':AV),l[i]?=some a->(stripC sk j l)[i]?=some a'->a'=.top\/(a'=a/\a'∈stripC sk j l)
 |[],j,i,a,a',h,_=>by simp at h
 |v::l,j,0,a,a',h,h'=>by
  simp only[List.getElem?_cons_zero,Option.some.injEq,stripC]at h h';subst h;split at h';.exact .inl h'.symm
  .rename_i e;exact .inr ⟨h'.symm,by simp only[stripC,e];subst h';simp⟩
 |v::l,j,i+1,a,a',h,h'=>by
  simp only[List.getElem?_cons_succ,stripC]at h h';rcases stripC_get sk l (j+1) i a a' h h' with q|⟨q1,q2⟩;.exact .inl q
  .exact .inr ⟨q1,by simp only[stripC];exact List.mem_cons_of_mem _ q2⟩
theorem strip_kept[Adr](hle:(φ.cut n0).le ψ)(sk:Nat->Bool)(x:CB)(hok:cbOk n0 (stripB sk x)=true):Kept w F φ ψ n0 x (stripB sk x):=by
 cases x with
  |t g own n xs=>rfl
  |u y=>
   have same:stripB sk (.u y)=.u y->Kept w F φ ψ n0 (.u y) (stripB sk (.u y)):=λe=>by rw[e]at hok⊢;simp only[cbOk,Bool.or_eq_true]at hok;exact⟨rfl,rfl,rfl,rfl,.inl ⟨rfl,rfl,hok⟩⟩
   cases hes:y.es with
    |nil=>exact same (by simp only[stripB,hes])
    |cons cs l=>
     cases l with
      |cons c l=>exact same (by simp only[stripB,hes])
      |nil=>
       cases hs:(List.range cs.length).any sk with
        |false=>exact same (by simp only[stripB,hes,hs])
        |true=>
         have e:stripB sk (.u y)=.u {y with es:=[stripC sk 0 cs],pure:=false}:=by simp only[stripB,hes,hs]
         rw[e]at hok⊢;simp only[cbOk,Bool.false_or,List.all_cons,List.all_nil,Bool.and_true]at hok;refine⟨rfl,rfl,rfl,rfl,.inr ⟨rfl,cs,_,hes,rfl,stripC_len _ _ _,λj a a' h1 h2=>?_⟩⟩;rcases stripC_get sk cs 0 j a a' h1 h2 with q|⟨q1,q2⟩;.rw[q];exact Wv.top
         .rw[<-q1];exact(Wv.under hle (belows_all hok _ q2)).emb
theorem alg_in{α:Type}:∀{l:List (Nat×α)}{k:Nat}{x:α},alg l k=some x->(k,x)∈l
 |[],_,_,h=>by cases h
 |(j,y)::l,k,x,h=>by
  simp only[alg]at h;split at h;.rename_i e;subst e;cases h;simp
  .exact List.mem_cons_of_mem _ (alg_in h)
theorem alg_filter{α:Type}{q:Nat->Bool}:∀{l:List (Nat×α)}{k:Nat}{x:α},alg (l.filter λp=>q p.1) k=some x->alg l k=some x
 |[],_,_,h=>h
 |(j,y)::l,k,x,h=>by
  rw[List.filter_cons]at h;split at h
  .simp only[alg]at h⊢;split at h;.rename_i e;rw[if_pos e];exact h
   .rename_i e;rw[if_neg e];exact alg_filter h
  .rename_i hq;have :=alg_filter h;simp only[alg];split;.rename_i e;subst e;exfalso;have hk:(k,x)∈l.filter λp=>q p.1:=alg_in h;rw[List.mem_filter]at hk;exact hq hk.2
   .exact this
theorem Inv.base[Adr](hle:(φ.cut n0).le ψ){keep:List Nat}{skip:List Slot}{fu:Fu}{left:List Nat}(hok:restOk n0 (rest keep ns skip s)=true):Inv w0 w F φ ψ n0 ns s (λ_=>none) n0 left ⟨putFr (rest keep ns skip s).fr,putHp (rest keep ns skip s).hp,n0,(rest keep ns skip s).lp,fu⟩:=by
 unfold restOk at hok;simp only[Bool.and_eq_true,List.all_eq_true]at hok;obtain⟨o1,o2,o3,-⟩:=hok;refine⟨λt=>?_,λl y' e=>.inl ⟨?_,o3 _ (alg_in e)⟩,λ_ _ _ e=>(by cases e),λ_ _ e=>(by cases e),λ_ _ e=>(by cases e),λb x' hb=>.inl ?_⟩
 .show Wv w F φ ψ (tau s.fr t) (tau (putFr (rest keep ns skip s).fr) t);rw[tau_putFr];rcases frGet_mem (l:=(rest keep ns skip s).fr) (t:=t)with h|h;.rw[h];exact Wv.top
  .have hu:=o1 _ h;simp only[rest,List.mem_map,Prod.mk.injEq]at h;obtain⟨t',-,rfl,e⟩:=h;rw[show frGet (rest keep ns skip s).fr t'=tau s.fr t' from e.symm]at hu⊢;exact Wv.under hle hu
 .exact alg_filter (q:=λk=>!(slM skip).any (Nat.beq k)) e
 .have hm:=get_putHp _ _ _ hb;have h2:=o2 _ hm;simp only[rest,List.mem_map,Prod.mk.injEq]at hm;obtain⟨b',hb',rfl,e⟩:=hm;simp only[Bool.and_eq_true]at h2;split at e;.rename_i x hx;cases e;exact⟨Nat.le_of_ble_eq_true h2.1,hb',x,hx,strip_kept hle _ x h2.2⟩
  .cases e
theorem reN_lt{oa:Nat->Option (Option Nat×Nat)}{b g:Nat}(h:b<n0):(reN φ n0 oa).blk b g=φ.blk b g:=by simp only[reN];rw[if_pos h]
theorem reN_loop{oa:Nat->Option (Option Nat×Nat)}{l k:Nat}(h:(reN φ n0 oa).loop l=some k):l<n0/\φ.loop l=some k:=by
 simp only[reN]at h;split at h;.rename_i q;exact⟨q,h⟩
 .cases h
theorem kept_brel[Adr]{U:Nat->Prop}(hm:HRel w0 w F φ U (vw s.hp))(hle:(φ.cut n0).le ψ){b:Nat}{x x':CB}(hb:b<n0)(hψ:∀g,ψ.blk b g=φ.blk b g)(hx:s.hp.get b=some x)(hk:Kept w F φ ψ n0 x x'):x'.a.g=x.a.g/\BRel w0 w F ψ b x'.a:=by
 have hv:vw s.hp b=some x.a:=by unfold vw;rw[hx]
 obtain⟨pl,p1,p2,p3⟩:=hm.blk b _ hv
 cases x with
  |t g own n xs=>simp only[Kept]at hk;subst hk;refine⟨rfl,pl,(hψ _).trans p1,p2,?_⟩;cases pl with|none=>exact p3|some cb=>exact p3
  |u y=>
   cases x' with
    |t g own n xs=>simp only[Kept]at hk
    |u y'=>
     simp only[Kept]at hk;obtain⟨k1,k2,k3,k4,k5⟩:=hk;simp only[CB.a]at p1 p2 p3⊢;refine⟨k1,pl,by rw[k1,k2];exact(hψ _).trans p1,?_,?_⟩
     .rw[k2];rcases k5 with⟨q1,-,-⟩|⟨-,cs,cs',q1,q2,q3,-⟩;.rw[q1];exact p2
      .intro e he;rw[q2]at he;simp only[List.mem_singleton]at he;subst he;rw[q3];exact p2 cs (by rw[q1];simp)
     .cases pl with
       |none=>
        simp only[LRel]at p3⊢;rcases k5 with⟨q1,-,-⟩|⟨-,cs,cs',q1,q2,q3,-⟩;.rw[q1];exact p3
        .rw[p3]at q1;cases q1
       |some cb=>
        simp only[LRel]at p3⊢;obtain⟨f1,f2,⟨c,el,fz,r1,r2,r3⟩,f4⟩:=p3
        have hl:y'.es.length=y.es.length:=by
         rcases k5 with⟨q1,-,-⟩|⟨-,cs,cs',q1,q2,q3,-⟩;.rw[q1]
         .rw[q1,q2];rfl
        refine⟨f1,λho=>f2 (by rw[<-k3];exact ho),⟨c,el,fz,r1,⟨λho=>r2.1 (by rw[<-k3];exact ho),λt ht=>r2.2 t (by rw[<-k4];exact ht)⟩,by rw[hl,k2];exact r3⟩,?_⟩;rcases k5 with⟨q1,q2,q3⟩|⟨q0,cs,cs',q1,q2,q3,q4⟩
        .rw[q1];unfold ABlk.emb at f4⊢;rw[q2];by_cases hp:y.pure=true;.rw[if_pos hp]at f4⊢;exact f4
         .rw[if_neg hp]at f4⊢;rcases q3 with q3|q3;.exact absurd q3 hp
          .exact ERel.mono (Ext0.refl F w) (λ_ h=>h) hle _ _ _ rfl (belowE_rel q3 f4)
        .unfold ABlk.emb;rw[q0,if_neg (by simp),q2];rw[q1]at f4;simp only[ERel,and_true]at f4⊢;rw[CRel_iff]at f4⊢;obtain⟨vs,g1,g2,g3⟩:=f4;refine⟨vs,(VRels_iff _ _).2 ⟨by rw[q3];exact g1.length,λj a' v ha hv=>?_⟩,g2,g3⟩;obtain⟨a0,ha0,h0⟩:=g1.getv hv;exact q4 j a0 a' ha0 ha v h0
theorem mk_cn[Adr]{keep:List Nat}{skip sl:List Slot}{g:Got (SlT sl)}{fu:Fu}(hg:getSls s sl=some g)(he:∀q∈g.eq,q.1=q.2)(hnd:g.bd.Nodup)(hdis:∀b∈g.bd,b∉ns)(hok:restOk n0 (rest keep ns skip s)=true)(hsk:∀l∈slN sl,l∈slN skip):Cn n0 s.st (mkS (rest keep ns skip s) n0 fu sl g.x).st:=by
 intro cx w0 w F φ nt a hf;have hm:HRel w0 w F φ (λb=>b<s.nx) (vw s.hp):=by have :=hf.mem.heap;rwa[show alg s.st.hp=vw s.hp from alg_hpL _]at this
 obtain⟨ψ,hψ⟩:∃ψ,ψ=reN φ n0 (oaF s φ n0 sl):=⟨_,rfl⟩;have hle:(φ.cut n0).le ψ:=by rw[hψ];exact cut_le _ _ _
 have hms:∀l∈slN sl,l<n0:=λl hl=>by unfold restOk at hok;simp only[Bool.and_eq_true,List.all_eq_true]at hok;exact Nat.le_of_ble_eq_true (hok.2.2.2 l (hsk l hl))
 obtain⟨org,k⟩:=Inv.putSls hm hle sl (m:=n0) (Nat.le_refl _) hg he hnd hdis (λb hb=>by rw[hψ];simp only[reN];rw[if_neg (by omega)];rfl) hms (Inv.base (fu:=fu) hle hok);have hlt:∀b,b<n0->∀g,ψ.blk b g=φ.blk b g:=λb hb g=>by rw[hψ];exact reN_lt hb
 have hge:∀b g x,n0<=b->ψ.blk b g=some x->g=0/\oaF s φ n0 sl b=some x:=λb g x hb e=>by
  rw[hψ]at e;simp only[reN]at e;rw[if_neg (by omega)]at e;split at e;.rename_i q;exact⟨q,e⟩
  .cases e
 have hlo:∀l q,ψ.loop l=some q->l<n0/\φ.loop l=some q:=λl q e=>by rw[hψ]at e;exact reN_loop e
 have hlo':∀l q,l<n0->φ.loop l=some q->ψ.loop l=some q:=λl q hl e=>by rw[hψ];simp only[reN];rw[if_pos hl];exact e
 obtain⟨s',hs'⟩:∃s',s'=Go.AM.putSls ⟨putFr (rest keep ns skip s).fr,putHp (rest keep ns skip s).hp,n0,(rest keep ns skip s).lp,fu⟩ n0 sl g.x:=⟨_,rfl⟩;rw[<-hs']at k;have est:(mkS (rest keep ns skip s) n0 fu sl g.x).st=⟨s'.fr.toL,hpL s'.hp,n0+sl.length,lpL s'.lp⟩:=by rw[hs'];rfl
 rw[est]
 have hget:∀b x,vw s'.hp b=some x->∃c,s'.hp.get b=some c/\c.a=x:=λb x e=>by
  unfold vw at e;split at e;.rename_i c hc;cases e;exact⟨c,hc,rfl⟩
  .cases e
 have hblk:∀b x,vw s'.hp b=some x->BRel w0 w F ψ b x/\((b<n0/\b∈ns/\ ∃y,s.hp.get b=some y/\x.g=y.a.g)\/(n0<=b/\x.g=0/\ ∀cb sz,ψ.blk b 0=some (some cb,sz)->∃c y,org b=some c/\s.hp.get c=some y/\φ.blk c y.a.g=some (some cb,sz))):=λb x e=>by
  obtain⟨c,hc,rfl⟩:=hget b x e;rcases k.hp b c hc with⟨q1,q2,y,q3,q4⟩|⟨q1,q2,⟨n,xs,rfl⟩,q4,q5⟩;.obtain⟨r1,r2⟩:=kept_brel hm hle q1 (hlt b q1) q3 q4;exact⟨r2,.inl ⟨q1,q2,y,q3,r1⟩⟩
  .exact⟨q4,.inr ⟨q1,rfl,q5⟩⟩
 have horg:∀b x cb sz,vw s'.hp b=some x->ψ.blk b x.g=some (some cb,sz)->∃c y,s.hp.get c=some y/\φ.blk c y.a.g=some (some cb,sz)/\((b<n0/\c=b/\b∈ns)\/(n0<=b/\org b=some c)):=λb x cb sz e1 e2=>by
  rcases(hblk b x e1).2 with⟨q1,q2,y,q3,q4⟩|⟨q1,q2,q3⟩;.exact⟨b,y,q3,by rw[hlt b q1,q4]at e2;exact e2,.inl ⟨q1,rfl,q2⟩⟩
  .rw[q2]at e2;obtain⟨c,y,r1,r2,r3⟩:=q3 cb sz e2;exact⟨c,y,r2,r3,.inr ⟨q1,r1⟩⟩
 refine⟨ψ,⟨⟨⟨hm.below,hm.fb,λb g x e=>?_,λb g cb sz e=>?_,λb x e=>?_,λb x e g hgt=>?_,λb b' x y cb sz sz' e1 e2 f1 f2=>?_,hm.fwk⟩,λl x hx=>?_,λl q hq=>?_,λl l' q e1 e2=>?_⟩,⟨hf.tmps.size,λt=>?_,hf.tmps.glob⟩,hf.env⟩,λb g x hb e=>by rw[hlt b hb];exact e,hlo'⟩
 .by_cases hb:b<n0;.show b<n0+sl.length;omega
  .exact(oaF_lt sl n0 b x (hge b g x (by omega) e).2).2
 .by_cases hb:b<n0;.rw[hlt b hb]at e;exact hm.inb _ _ _ _ e
  .obtain⟨b',g',e'⟩:=oaF_in sl n0 b cb sz (hge b g _ (by omega) e).2;exact hm.inb _ _ _ _ e'
 .rw[show alg (St.hp ⟨s'.fr.toL,hpL s'.hp,n0+sl.length,lpL s'.lp⟩)=vw s'.hp from alg_hpL _]at e;exact(hblk b x e).1
 .rw[show alg (St.hp ⟨s'.fr.toL,hpL s'.hp,n0+sl.length,lpL s'.lp⟩)=vw s'.hp from alg_hpL _]at e;rcases(hblk b x e).2 with⟨q1,q2,y,q3,q4⟩|⟨q1,q2,-⟩;.rw[hlt b q1];exact hm.gen b y.a (by unfold vw;rw[q3]) g (by rw[<-q4];exact hgt)
  .cases hb:ψ.blk b g with|none=>rfl|some z=>have :=(hge b g z q1 hb).1;omega
 .rw[show alg (St.hp ⟨s'.fr.toL,hpL s'.hp,n0+sl.length,lpL s'.lp⟩)=vw s'.hp from alg_hpL _]at e1 e2;obtain⟨c,y1,r1,r2,r3⟩:=horg b x cb sz e1 f1;obtain⟨c',y2,t1,t2,t3⟩:=horg b' y cb sz' e2 f2;have hcc:c=c':=hm.inj c c' y1.a y2.a cb sz sz' (by unfold vw;rw[r1]) (by unfold vw;rw[t1]) r2 t2;subst hcc;rcases r3 with⟨u1,u2,u3⟩|⟨u1,u2⟩<;>rcases t3 with⟨v1,v2,v3⟩|⟨v1,v2⟩;.rw[<-u2,<-v2]
  .exact absurd (u2▸u3) (k.ons _ _ v2).1
  .exact absurd (v2▸v3) (k.ons _ _ u2).1
  .exact k.oinj _ _ _ u2 v2
 .rw[show(St.lp ⟨s'.fr.toL,hpL s'.hp,n0+sl.length,lpL s'.lp⟩)=lpL s'.lp from rfl,alg_lpL]at hx
  cases hy:alg s'.lp l with
   |none=>rw[hy]at hx;cases hx
   |some y=>
    rw[hy]at hx;cases hx;rcases k.lp l y hy with⟨hy0,h3⟩|⟨o,y0,o1,hy0,ho,hy1,hln,hox⟩;rotate_left
    .have hR:=hf.mem.lps l y0.l (by rw[show s.st.lp=lpL s.lp from rfl,alg_lpL,hy0];rfl);refine⟨λe=>?_,λm hm1=>?_⟩;.rw[show y.l.mp=y.mp from rfl,hy1]at e;cases e
     .rw[show y.l.mp=y.mp from rfl,hy1]at hm1;cases hm1;rcases hox with⟨kk,vv,xs,rfl,hox⟩|⟨l0,kk,vv,xs,cur,hl0,rfl,rfl⟩;.have hob:=obM_ok hox (hR.2 o ho);obtain⟨q,es,c,h1,h2,h3,h4⟩:=hob;exact⟨q,es,c,hlo' _ _ hln h1,h2,h3,h4⟩
      .have hob:=hR.2 _ ho;obtain⟨q,bm,es,c,si,se,la,h1,h2,h3,h4,h5,h6,h7,h8,h9,-⟩:=hob;exact⟨q,bm,es,c,si,se,la,hlo' _ _ hln h1,h2,h3,hlo' _ _ hl0 h4,h5,h6,h7,h8,h9,λkv e=>by cases e⟩
    unfold recOk at h3;simp only[Bool.and_eq_true,List.all_eq_true]at h3;obtain⟨hln,hfr,hmit⟩:=h3;have hln:=Nat.le_of_ble_eq_true hln;have hR:=hf.mem.lps l y.l (by rw[show s.st.lp=lpL s.lp from rfl,alg_lpL,hy0];rfl);refine⟨λhm0=>?_,λm hm1=>?_⟩
    .obtain⟨q,rec,h1,h2,h3,h4,h5,h6,h7,h8,h9,h10⟩:=hR.1 hm0;refine⟨q,rec,hlo' _ _ hln h1,h2,h3,h4,h5,h6,h7,h8,⟨h9.size,λt=>?_,h9.glob⟩,h10⟩;have :=h9.val t;rw[show frGet y.l.fr t=tau y.fr t by rw[show frGet y.l.fr=tau y.fr from frGet_toL _]]at this⊢;by_cases ht:t∈y.fr.keys;.exact VRel.mono (Ext0.refl F w) (λ_ h=>h) hle _ _ (below_rel _ _ (hfr t ht) this)
     .have :tau y.fr t=.top:=by unfold tau;cases hq:y.fr.get t with|none=>rfl|some v=>exact absurd ((Tr.mem_keys _ _).2 ⟨v,hq⟩) ht
      rw[this];simp only[VRel]
    .have hob:=hR.2 m hm1;cases m with|map m=>obtain⟨q,es,c,h1,h2,h3,h4⟩:=hob;exact⟨q,es,c,hlo' _ _ hln h1,h2,h3,h4⟩|md kk vv xs=>obtain⟨q,es,c,h1,h2,h3,h4⟩:=hob;exact⟨q,es,c,hlo' _ _ hln h1,h2,h3,h4⟩|sit u p=>obtain⟨q,h1,h2,h3⟩:=hob;exact⟨q,hlo' _ _ hln h1,h2,h3⟩|mit l0 left cur=>obtain⟨q,bm,es,c,si,se,la,h1,h2,h3,h4,h5⟩:=hob;rw[show y.mp=some (.mit l0 left cur)from hm1]at hmit;exact⟨q,bm,es,c,si,se,la,hlo' _ _ hln h1,h2,h3,hlo' _ _ (Nat.le_of_ble_eq_true hmit) h4,h5⟩
 .obtain⟨q1,q2⟩:=hlo l q hq;exact⟨by show l<n0+sl.length;omega,(hf.mem.lused l q q2).2⟩
 .exact hf.mem.linj l l' q (hlo _ _ e1).2 (hlo _ _ e2).2
 .have :=hf.tmps.val t;rw[show frGet s.st.fr=tau s.fr from frGet_toL _]at this;rw[show frGet (St.fr ⟨s'.fr.toL,hpL s'.hp,n0+sl.length,lpL s'.lp⟩)=tau s'.fr from frGet_toL _];exact k.fr t _ this
end
end Go.AM
end
