/- Texts of the proof, joined by program. -/
import Derived.Test.YtaeifdlkolfdjaaGreatDoorKBg
section
set_option linter.unusedSimpArgs false
set_option linter.unusedVariables false
namespace Go.AM
open Go Go.RowKit
theorem holds_eqns{L:Type}{x:R L}{Q:L->Prop}:∀{l:List (Nat×Nat)},holds (eqns l x) Q->(∀p∈l,p.1=p.2)/\holds x Q
 |[],h=>⟨λ_ hp=>(by cases hp),h⟩
 |(a,b)::l,h=>by
  obtain⟨h1,h2⟩:a=b/\holds (eqns l x) Q:=h;obtain⟨k1,k2⟩:=holds_eqns h2;refine⟨λp hp=>?_,k2⟩;rcases List.mem_cons.1 hp with rfl|hp;.exact h1
  .exact k1 p hp
theorem key_of{e:Exit}{k:Nat}(h:ekey e=some k):keyx k=e:=by cases e<;>simp only[ekey,Option.some.injEq,reduceCtorEq]at h<;>subst h<;>rfl
section
variable{P:Program}{rec:Rc}{nt:Nat}
theorem slM_app:∀(sl o:List Slot)(l:Nat),(l∈slN sl\/l∈slN o)->l∈slN (sl++o)|[],o,l,h=>h.elim (λh=>by cases h) id|s::sl,o,l,h=>by have ih:=slM_app sl o l;cases s<;>simp only[List.cons_append,slN,List.mem_cons]at h⊢ <;>first|exact ih h|(rcases h with(h|h)|h;exact .inl h;exact .inr (ih (.inl h));exact .inr (ih (.inr h)))|(rcases h with(h|h|h)|h;exact .inl h;exact .inr (.inl h);exact .inr (.inr (ih (.inl h)));exact .inr (.inr (ih (.inr h))))
theorem cn_drop[Adr](n m:Nat)(s:Cs):Cn n s.st (dropLp m s).st:=λcx w0 w F φ nt a hf=>by refine⟨φ,⟨⟨hf.mem.heap,λl x hx=>hf.mem.lps l x ?_,hf.mem.lused,hf.mem.linj⟩,hf.tmps,hf.env⟩,λ_ _ _ _ e=>e,λ_ _ _ e=>e⟩;rw[show(dropLp m s).st.lp=lpL (s.lp.filter λp=>Nat.blt p.1 m)from rfl,alg_lpL]at hx;rw[show s.st.lp=lpL s.lp from rfl,alg_lpL];cases hy:alg (s.lp.filter λp=>Nat.blt p.1 m) l with|none=>rw[hy]at hx;cases hx|some y=>rw[hy]at hx;rw[alg_filter (q:=λk=>Nat.blt k m) hy];exact hx
theorem noteI_ok[Adr]{T:Type}{s0 s:Cs}{keep ns:List Nat}{sl o:List Slot}{f:SlT o->T}{Q:T->Prop}(h:holds (noteI s0 keep ns sl o f s) Q):∃x,Q (f x)/\ ∀fu,Cn s0.nx s.st (mkS (rest keep ns (sl++o) s0) s0.nx fu o x).st:=by
 unfold noteI at h;split at h
 .rename_i g hg;split at h;.rename_i hc;simp only[Bool.and_eq_true,List.all_eq_true,Bool.not_eq_true',List.contains_eq_mem,decide_eq_false_iff_not]at hc;obtain⟨c1,c2,c3⟩:=hc;obtain⟨h1,h2,h3⟩:=holds_eqns h;refine⟨g.x,h3,λfu=>?_⟩;rw[<-h2];exact(cn_drop s0.nx s0.nx s).trans (mk_cn hg h1 (nodupB_ok c1) c2 c3 λl hl=>slM_app sl o l (.inr hl))
  .exact h.elim
 .exact h.elim
theorem outI_ok[Adr]{s0 s:Cs}{keep ns:List Nat}{sl:List Slot}{k:Nat}{q:Os}:∀(os:List (Nat×List Slot)),holds (outI s0 keep ns sl k s os) (λy=>holds (outE s0 keep ns sl os y) q)->∃cs,Cn s0.nx s.st cs.st/\q (.ex (keyx k) cs)
 |[],h=>h.elim
 |[o],h=>by
  unfold outI at h;split at h;.rename_i e;obtain⟨x,h1,h2⟩:=noteI_ok h;refine⟨_,h2 s0.fu,?_⟩;rw[Nat.eq_of_beq_eq_true e];exact h1
  .exact h.elim
 |o::o'::os,h=>by
  unfold outI at h;split at h;.rename_i e;obtain⟨x,h1,h2⟩:=noteI_ok h;refine⟨_,h2 s0.fu,?_⟩;rw[Nat.eq_of_beq_eq_true e];exact h1
  .have h:=holds_bnd.1 h;exact outI_ok (o'::os) h
def AWPLn[Adr](n0:Nat)(P:Program)(nt:Nat)(c:Code)(K:Exit->St->Prop)(s:St):Prop:=∀(x:Cx)(w0 w:World)(F:Nat->Prop)(φ:Emb)(a:Act),Fits x w0 w F φ nt a s->LoopIn (fen x.r) 0 P c (λe a' w'=>∃s' φ' F',Fits x w0 w' F' φ' nt a' s'/\GrowW w0 w F (φ.cut n0) w' F' φ'/\K e s') a w
theorem cut_mono{φ ψ:Emb}{n:Nat}(h2:∀b g x,b<n->φ.blk b g=some x->ψ.blk b g=some x)(h3:∀l k,l<n->φ.loop l=some k->ψ.loop l=some k):(φ.cut n).le ψ:=by
 refine⟨λb g x e=>?_,λl k e=>?_⟩
 .simp only[Emb.cut]at e;split at e;.rename_i hb;exact h2 b g x hb e
  .cases e
 .obtain⟨q1,q2⟩:=Emb.cut_loop e;exact h3 l k q1 q2
theorem cut_cut{φ ψ:Emb}{n:Nat}(h:(φ.cut n).le ψ):(φ.cut n).le (ψ.cut n):=by
 refine⟨λb g x e=>?_,λl k e=>?_⟩
 .have :=h.1 b g x e;simp only[Emb.cut]at e⊢;split at e;.rename_i hb;rw[if_pos hb];exact this
  .cases e
 .have :=h.2 l k e;simp only[Emb.cut];rw[if_pos (Emb.cut_loop e).1];exact this
theorem awpln_step[Adr]{n0:Nat}{c:Code}{K K1:Exit->St->Prop}{s:St}(h:AWP P nt c K1 s)(hk:∀e s1,K1 e s1->(e=.normal/\ ∃t,Cn n0 s1 t/\AWPLn n0 P nt c K t)\/(e≠.normal/\ ∃t,Cn n0 s1 t/\K e t)):AWPLn n0 P nt c K s:=by
 intro cx w0 w F φ a hf;refine loopIn_step (wpIn_mono (h cx w0 w F φ a hf) ?_);rintro e a1 w1 ⟨s1,φ1,F1,h1,h2,h3⟩;have hg:∀{ψ:Emb},(∀b g x,b<n0->φ1.blk b g=some x->ψ.blk b g=some x)->(∀l k,l<n0->φ1.loop l=some k->ψ.loop l=some k)->(φ.cut n0).le ψ:=λp2 p3=>cut_mono (λb g x hb e=>p2 b g x hb (h2.le.1 _ _ _ e)) λl k hl e=>p3 l k hl (h2.le.2 _ _ e);rcases hk e s1 h3 with⟨rfl,t,k1,k2⟩|⟨hne,t,k1,k2⟩;.obtain⟨ψ,p1,p2,p3⟩:=k1 cx w0 w1 F1 φ1 nt a1 h1;refine(k2 cx w0 w1 F1 ψ a1 p1).mono ?_;rintro e a2 w2 ⟨s2,φ2,F2,q1,q2,q3⟩;have g1:GrowW w0 w F (φ.cut n0) w1 F1 (ψ.cut n0):=⟨cut_cut (hg p2 p3),h2.sub,h2.new,h2.ext,h2.opn,h2.lps,h2.mps⟩;exact⟨s2,φ2,F2,q1,g1.trans q2,q3⟩
 .obtain⟨ψ,p1,p2,p3⟩:=k1 cx w0 w1 F1 φ1 nt a1 h1;have out:∃s' φ' F',Fits cx w0 w1 F' φ' nt a1 s'/\GrowW w0 w F (φ.cut n0) w1 F' φ'/\K e s':=⟨t,ψ,F1,p1,⟨hg p2 p3,h2.sub,h2.new,h2.ext,h2.opn,h2.lps,h2.mps⟩,k2⟩;cases e with|normal=>exact absurd rfl hne|_=>exact out
theorem awpl_of_n[Adr]{c:Code}{K:Exit->St->Prop}{s t:St}(h:Cn s.nx s t)(k:AWPLn s.nx P nt c K t):AWPL P nt c K s:=by
 intro cx w0 w F φ a hf;obtain⟨ψ,p1,p2,p3⟩:=h cx w0 w F φ nt a hf;refine(k cx w0 w F ψ a p1).mono ?_;rintro e a' w' ⟨s',φ',F',q1,q2,q3⟩;refine⟨s',φ',F',q1,⟨⟨λb g x e=>q2.le.1 _ _ _ ?_,λl q e=>q2.le.2 _ _ ?_⟩,q2.sub,q2.new,q2.ext,q2.opn,q2.lps,q2.mps⟩,q3⟩;.have hb:=hf.mem.heap.used _ _ _ e;simp only[Emb.cut];rw[if_pos hb];exact p2 _ _ _ hb e
 .have hb:=(hf.mem.lused _ _ e).1;simp only[Emb.cut];rw[if_pos hb];exact p3 _ _ hb e
theorem roundI_ok[Adr]{s0 cs:Cs}{ns:List Nat}{h:Hint}{e:Exit}{Z:Sum (SlT h.sl) (OutT h.outs)->Prop}{q:Os}(hh:holds (roundI s0 ns h (.ex e cs)) Z)(hr:∀y,Z (.inr y)->holds (outE s0 h.keep ns h.sl h.outs y) q):(e=.normal/\ ∃x,Z (.inl x)/\ ∀fu,Cn s0.nx cs.st (mkS (rest h.keep ns h.sl s0) s0.nx fu h.sl x).st)\/(e≠.normal/\ ∃cs',Cn s0.nx cs.st cs'.st/\q (.ex e cs')):=by
 unfold roundI at hh;simp only at hh;split at hh
 .rename_i k hk;split at hh;.rename_i h0;have h0:=Nat.eq_of_beq_eq_true h0;subst h0;obtain⟨x,h1,h2⟩:=noteI_ok hh;exact .inl ⟨(key_of hk).symm,x,h1,h2⟩
  .rename_i h0;have hh:=holds_bnd.1 hh;obtain⟨cs',h1,h2⟩:=outI_ok h.outs (holds_mono (λy hy=>hr y hy) hh);refine .inr ⟨λe0=>?_,cs',h1,by rw[key_of hk]at h2;exact h2⟩;subst e0;simp only[ekey,Option.some.injEq]at hk;subst hk;simp at h0
 .exact hh.elim
theorem loop_rounds[Adr](hs:Sound P rec){c:Code}{h:Hint}{s0:Cs}{ns:List Nat}{q:Os}:∀(n:Nat)(x:SlT h.sl),loopH (λn x=>holds (bnd (rec (.code nt c (mkS (rest h.keep ns h.sl s0) s0.nx ⟨n,[]⟩ h.sl x))) (roundI s0 ns h))) (n+1) x (λy=>holds (outE s0 h.keep ns h.sl h.outs y) q)->AWPLn s0.nx P nt c (Ends q) (mkS (rest h.keep ns h.sl s0) s0.nx ⟨n,[]⟩ h.sl x).st:=by
 intro n
 induction n with
  |zero=>
   intro x hx;refine awpln_step (hs _ _ (holds_bnd.1 hx)) (λe s1 he=>?_);obtain⟨cs,hsim,hm⟩:=he;rcases hm with hm|⟨a,v,hm,-,-⟩
   .rcases roundI_ok hm (λy hy=>hy)with⟨_,x',h1,-⟩|⟨h1,cs',h2,h3⟩;.exact h1.elim
    .exact .inr ⟨h1,cs'.st,(Cn.sim hsim).trans h2,Ends.one (Sim.refl _) h3⟩
   .exact hm.elim
  |succ n ih=>
   intro x hx;refine awpln_step (hs _ _ (holds_bnd.1 hx)) (λe s1 he=>?_);obtain⟨cs,hsim,hm⟩:=he;rcases hm with hm|⟨a,v,hm,-,-⟩
   .rcases roundI_ok hm (λy hy=>hy)with⟨h0,x',h1,h2⟩|⟨h1,cs',h2,h3⟩;.exact .inl ⟨h0,_,(Cn.sim hsim).trans (h2 ⟨n,[]⟩),ih x' h1⟩
    .exact .inr ⟨h1,cs'.st,(Cn.sim hsim).trans h2,Ends.one (Sim.refl _) h3⟩
   .exact hm.elim
theorem good_loopR[Adr](hs:Sound P rec){c:Code}{h:Hint}{s0:Cs}{q:Os}(hh:holds (loopR rec nt c h s0) q):AWPL P nt c (Ends q) s0.st:=by
 unfold loopR at hh;split at hh
 .rename_i g hg;split at hh
  .rename_i hc;simp only[Bool.and_eq_true]at hc;obtain⟨h1,h2⟩:=holds_eqns hh;have hdis:∀b∈g.bd,b∉names s0 g.bd:=λb hb hn=>by simp only[names,List.mem_filter,Bool.and_eq_true,Bool.not_eq_true',List.contains_eq_mem,decide_eq_false_iff_not]at hn;exact hn.2.2 hb
   have h2:loopH (λn x=>holds (bnd (rec (.code nt c (mkS (rest h.keep (names s0 g.bd) h.sl s0) s0.nx ⟨n,[]⟩ h.sl x))) (roundI s0 (names s0 g.bd) h))) s0.fu.n g.x (λy=>holds (outE s0 h.keep (names s0 g.bd) h.sl h.outs y) q):=by split at h2<;>exact h2
   cases hn:s0.fu.n with|zero=>rw[hn]at h2;exact h2.elim|succ n=>rw[hn]at h2;exact awpl_of_n (mk_cn hg h1 (nodupB_ok hc.1) hdis hc.2 λ_ h=>h) (loop_rounds hs n g.x h2)
  .exact hh.elim
 .exact hh.elim
theorem good_joinR[Adr](hs:Sound P rec){c:Code}{h:Hint}{s0:Cs}{q:Os}(hh:holds (joinR rec nt c h s0) q):AWP P nt c (Ends q) s0.st:=by
 unfold joinR at hh;have h1:holds (bnd (rec (.code nt c s0)) (joinI s0 (names s0 (h.outs.flatMap λo=>bdP s0 o.2)) h)) (λy=>holds (outE s0 h.keep (names s0 (h.outs.flatMap λo=>bdP s0 o.2)) [] h.outs y) q):=hh;refine cn_post (hs _ _ (holds_bnd.1 h1)) λe s1 he=>?_;obtain⟨cs,hsim,hm⟩:=he;rcases hm with hm|⟨a,v,hm,-,-⟩
 .unfold joinI at hm;simp only at hm;split at hm;.rename_i k hk;obtain⟨cs',k1,k2⟩:=outI_ok h.outs hm;exact⟨cs'.st,(Cn.sim hsim).trans k1,Ends.one (Sim.refl _) (by rw[key_of hk]at k2;exact k2)⟩
  .exact hm.elim
 .exact hm.elim
end
end Go.AM
end
section
set_option linter.unusedSimpArgs false
set_option linter.unusedVariables false
namespace Go.AM
open Go Go.RowKit
def BW[Adr](x x':ABlk):Prop:=x'.g=x.g/\x'.sz=x.sz/\(x'.own=true->x.own=true)/\(x'.ty.isSome=true->x.ty=x'.ty)/\x'.es.length=x.es.length/\((∀e∈x.es,e.length=x.sz)->∀e∈x'.es,e.length=x'.sz)/\((∀e∈x.es,e.length=x.sz)->∀(w:World)(F:Nat->Prop)(φ:Emb)(b o:Nat),ERel w F (x.emb φ) x.es b o->ERel w F (x'.emb φ) x'.es b o)
theorem BW.frz[Adr](x:CB):BW x.a x.frz.a:=by cases x<;>exact⟨rfl,rfl,λh=>(by cases h),λ_=>rfl,rfl,λh=>h,λ_ _ _ _ _ _ h=>h⟩
theorem hrel_bw[Adr]{w0 w:World}{F:Nat->Prop}{φ:Emb}{U U':Nat->Prop}{η η':Heap}(hm:HRel w0 w F φ U η)(hU:∀b,U b->U' b)(hhp:∀b x',η' b=some x'->∃x,η b=some x/\(x'=x\/BW x x')):HRel w0 w F φ U' η':=by
 refine⟨hm.below,hm.fb,λb g x e=>hU _ (hm.used _ _ _ e),hm.inb,λb x' e=>?_,λb x' e g hg=>?_,λb b' x y cb sz sz' e1 e2 f1 f2=>?_,hm.fwk⟩
 .obtain⟨x,h1,h2⟩:=hhp b x' e;rcases h2 with rfl|⟨k1,k2,k3,k4,k5,k6,k7⟩;.exact hm.blk b _ h1
  .obtain⟨pl,p1,p2,p3⟩:=hm.blk b x h1;refine⟨pl,by rw[k1,k2];exact p1,k6 p2,?_⟩;cases pl with|none=>simp only[LRel]at p3⊢;exact List.eq_nil_of_length_eq_zero (by rw[k5,p3];rfl)|some cb=>obtain⟨f1,f2,⟨c,el,fz,r1,r2,r3⟩,f4⟩:=p3;exact⟨f1,λho=>f2 (k3 ho),⟨c,el,fz,r1,⟨λho=>r2.1 (k3 ho),λt ht=>r2.2 t (by rw[k4 (by rw[ht];rfl)];exact ht)⟩,by rw[k5,k2];exact r3⟩,k7 p2 _ _ _ _ _ f4⟩
 .obtain⟨x,h1,h2⟩:=hhp b x' e;exact hm.gen b x h1 g (by rcases h2 with rfl|h2;exact hg;rw[<-h2.1];exact hg)
 .obtain⟨x1,h1,h2⟩:=hhp b x e1;obtain⟨y1,h3,h4⟩:=hhp b' y e2;exact hm.inj b b' x1 y1 cb sz sz' h1 h3 (by rcases h2 with rfl|h2;exact f1;rw[<-h2.1];exact f1) (by rcases h4 with rfl|h4;exact f2;rw[<-h4.1];exact f2)
theorem cn_wk[Adr]{n:Nat}{s t:St}(hfr:∀k,(frGet s.fr k).Le (frGet t.fr k))(hhp:∀b x',alg t.hp b=some x'->∃x,alg s.hp b=some x/\(x'=x\/BW x x'))(hnx:s.nx<=t.nx)(hlp:t.lp=s.lp):Cn n s t:=by intro cx w0 w F φ nt a hf;exact⟨φ,⟨⟨hrel_bw hf.mem.heap (λb h=>Nat.lt_of_lt_of_le h hnx) hhp,λl x hx=>hf.mem.lps l x (by rw[<-hlp];exact hx),λl k e=>⟨Nat.lt_of_lt_of_le (hf.mem.lused _ _ e).1 hnx,(hf.mem.lused _ _ e).2⟩,hf.mem.linj⟩,⟨hf.tmps.size,λk=>hfr k _ _ _ _ (hf.tmps.val k),hf.tmps.glob⟩,hf.env⟩,λ_ _ _ _ e=>e,λ_ _ _ e=>e⟩
def wkD:AV->AV|.dl n xs=>.psl (szU n) (xs.map (encU n))|v=>v
theorem le_wkD[Adr](v:AV):v.Le (wkD v):=λw F φ u h=>by cases v with|dl n xs=>exact dl_psl.1 h|_=>exact h
theorem wkD_le[Adr](v:AV):(wkD v).Le v:=λw F φ u h=>by cases v with|dl n xs=>exact dl_psl.2 h|_=>exact h
structure Sees[Adr](f:AV->AV):Prop where
 to:∀v:AV,v.Le (f v)
 back:∀v:AV,(f v).Le v
 top:f .top=.top
 bool:∀b,f (.bool b)=.bool b
 ref:∀b g i j,f (.ref b g i j)=.ref b g i j
 one:∀v,f v=v\/f v=wkD v
theorem sees_wk[Adr]:Sees wkD:=⟨le_wkD,wkD_le,rfl,λ_=>rfl,λ_ _ _ _=>rfl,λ_=>.inr rfl⟩
theorem sees_id[Adr]:Sees (λv=>v):=⟨AV.Le.refl,AV.Le.refl,rfl,λ_=>rfl,λ_ _ _ _=>rfl,λ_=>.inl rfl⟩
def wkFr(f:AV->AV)(l:List (Nat×AV)):List (Nat×AV):=l.map λp=>(p.1,f p.2)
theorem frGet_wk[Adr]{f:AV->AV}(hf:Sees f)(l:List (Nat×AV))(t:Nat):frGet (wkFr f l) t=f (frGet l t):=by
 unfold frGet wkFr;rw[alg_mapA f];cases alg l t;.exact hf.top.symm
 .rfl
def TOk[Adr](P:Program)(o:Op)(ρ:Operand->AV)(hp:Tr CB)(nm:Nat)(e:AV×List (Nat×CB)):Prop:=∃e0:Eff,opSem P o ρ (vw hp) nm=some e0/\e0.v.Le e.1/\ ∀b x',vw (putC hp e.2) b=some x'->∃x,apWr (vw hp) e0.wr b=some x/\(x'=x\/BW x x')
theorem avC_wk(v:Value):wkD (avC v)=avC v:=by
 unfold avC;split;.rfl
 .cases h:avZ v with|none=>rfl|some a=>unfold avZ at h;split at h<;>(try split at h)<;>cases h<;>rfl
section
variable{P:Program}{rec:Rc}{nt:Nat}{ops:Array Oper}
def RhoOk(ρ ρ':Operand->AV):Prop:=∀x,ρ x≠.top->ρ' x=wkD (ρ x)
def RhoE(ρ ρ':Operand->AV):Prop:=∀x,ρ x≠.top->ρ' x=ρ x
theorem cn_dl[Adr]{f:AV->AV}(hf:Sees f)(n:Nat)(s:Cs):Cn n s.st ⟨wkFr f s.st.fr,s.st.hp,s.st.nx,s.st.lp⟩:=cn_wk (λk=>by rw[frGet_wk hf];exact hf.to _) (λb x' h=>⟨x',h,.inl rfl⟩) (Nat.le_refl _) rfl
theorem gtOf_none{o:Oper}(h:o.guard=none):gtOf ops o=[]:=by unfold gtOf;rw[h]
theorem gtOf_some{o:Oper}{j d:Nat}{w:Bool}(h:o.guard=some (j,w))(hj:(ops[j]?).bind (·.dst)=some d):gtOf ops o=[d]:=by unfold gtOf;rw[h];simp only[hj]
theorem stepF_wants[Adr]{ε:Bool}{o:Oper}{an:Option (AV×List ABlk)}{nm:Nat}{τ:Nat->AV}{η:Heap}{v:AV}{wr:List (Nat×ABlk)}{rt rb:List Nat}{ob:Option Obl}(hd:dstOk nt o=true)(hw:wants nt ops o τ=true)(run:∀gt,runO ε P o an nm gt τ η=some ⟨o.dst,v,wr,gt++rt,rb,ob⟩):stepF ε P nt ops o an nm τ η=some ⟨o.dst,v,wr,gtOf ops o++rt,rb,ob⟩:=by
 unfold stepF;simp only[hd,if_true]
 cases hg:o.guard with
  |none=>simp only;rw[run,gtOf_none hg]
  |some p=>
   obtain⟨j,want⟩:=p;simp only;unfold wants at hw;rw[hg]at hw;simp only at hw
   cases hj:(ops[j]?).bind (·.dst)with
    |none=>rw[hj]at hw;cases hw
    |some d=>
     rw[hj]at hw;simp only at hw⊢;rw[gtOf_some hg hj];rw[Bool.and_eq_true,decide_eq_true_eq]at hw;obtain⟨hlt,hw⟩:=hw;rw[if_pos hlt];split at hw;.rename_i b hb;rw[hb];simp only;rw[if_pos (by simpa using hw),run]
     .cases hw
theorem wants_see[Adr]{f:AV->AV}(hf:Sees f){o:Oper}{τ:Nat->AV}(h:wants nt ops o τ=true):wants nt ops o (λt=>f (τ t))=true:=by
 unfold wants at h⊢;split at h;.rfl
 .split at h
  .rename_i d hd;rw[Bool.and_eq_true]at h⊢;refine⟨h.1,?_⟩;have h2:=h.2;split at h2;.rename_i b hb;simp only[hb,hf.bool];exact h2
   .cases h2
  .cases h
theorem good_tv[Adr]{f:AV->AV}(hf:Sees f){o:Oper}{i:Nat}{rest:List Nat}{s:Cs}{q:Os}(hi:ops[i]?=some o)(hw:wants nt ops o (tau s.fr)=true)(hd:dstOk nt o=true){e:AV×List (Nat×CB)}(hc:isCall o.op=none)(hv:∀τ,isInv P o.op τ=none)(ht:TOk P o.op (evalO (frGet (wkFr f s.st.fr))) s.hp s.nx e)(h:AWPO P nt ops rest (Ends q) (Cs.st ⟨putD s.fr o.dst e.1,putC s.hp e.2,s.nx+8,s.lp,s.fu⟩)):AWPO P nt ops (i::rest) (Ends q) s.st:=by
 obtain⟨e0,h1,h2,h3⟩:=ht;refine cn_awpo (cn_dl hf _ s) ?_;refine awpo_op (ε:=false) (ans:=none) (se:=⟨o.dst,e0.v,e0.wr,gtOf ops o++opTmps o.op.operands.toList,e0.rd,none⟩) hi ?_ (by exact⟨trivial,trivial⟩) ?_;.refine stepF_wants hd (by rw[show frGet (wkFr f s.st.fr)=λt=>f (tau s.fr t)from funext λt=>by rw[frGet_wk hf,show frGet s.st.fr=tau s.fr from frGet_toL _]];exact wants_see hf hw) λgt=>?_;unfold runO;rw[hc];simp only[hv,opSemE];rw[show alg s.st.hp=vw s.hp from alg_hpL _,show opSem P o.op (evalO (frGet (wkFr f s.st.fr))) (vw s.hp) s.st.nx=some e0 from h1]
 .refine cn_awpo (t:=Cs.st ⟨putD s.fr o.dst e.1,putC s.hp e.2,s.nx+8,s.lp,s.fu⟩) (cn_wk (λk=>?_) (λb x' hb=>?_) (Nat.le_refl _) rfl) h
  .rw[frGet_put,show frGet (Cs.st ⟨putD s.fr o.dst e.1,putC s.hp e.2,s.nx+8,s.lp,s.fu⟩).fr=tau (putD s.fr o.dst e.1)from frGet_toL _,tau_putD]
   cases hdst:o.dst with
    |none=>simp only[putT];rw[frGet_wk hf,show frGet s.st.fr=tau s.fr from frGet_toL _];exact hf.back _
    |some d=>
     simp only[putT,fupd];split;.exact h2
     .rw[frGet_wk hf,show frGet s.st.fr=tau s.fr from frGet_toL _];exact hf.back _
  .rw[show alg (Cs.st ⟨putD s.fr o.dst e.1,putC s.hp e.2,s.nx+8,s.lp,s.fu⟩).hp=vw (putC s.hp e.2)from alg_hpL _]at hb;obtain⟨x,k1,k2⟩:=h3 b x' hb;refine⟨x,?_,k2⟩;show alg (hsets s.st.hp e0.wr) b=some x;rw[alg_hsets,show alg s.st.hp=vw s.hp from alg_hpL _];exact k1
end
end Go.AM
end
section
set_option linter.unusedSimpArgs false
set_option linter.unusedVariables false
namespace Go.AM
open Go Go.RowKit
section
variable{P:Program}{ρ ρ':Operand->AV}{hp:Tr CB}{nm:Nat}{Q:AV×List (Nat×CB)->Prop}
theorem TOk.val[Adr]{o:Op}{v0 v:AV}{rd:List Nat}(h:opSem P o ρ' (vw hp) nm=some ⟨v0,[],rd⟩)(hv:v0.Le v):TOk P o ρ' hp nm (v,[]):=⟨_,h,hv,λb x' hb=>⟨x',hb,.inl rfl⟩⟩
theorem TOk.blk[Adr]{o:Op}{v0 v:AV}{rd:List Nat}{b:Nat}{x:ABlk}{c:CB}(h:opSem P o ρ' (vw hp) nm=some ⟨v0,[(b,x)],rd⟩)(hv:v0.Le v)(hx:c.a=x\/BW x c.a):TOk P o ρ' hp nm (v,[(b,c)]):=by
 refine⟨_,h,hv,λb' x' hb=>?_⟩;rw[show vw (putC hp [(b,c)])=fupd (vw hp) b (some c.a)from vw_put _ _ _]at hb;show∃y,fupd (vw hp) b (some x) b'=some y/\_;unfold fupd at hb⊢;split at hb;.rename_i e;subst e;rw[if_pos rfl];cases hb;exact⟨x,rfl,hx⟩
 .rename_i e;rw[if_neg e];exact⟨x',hb,.inl rfl⟩
theorem rho_of{a:AV}{x:Operand}(hρ:RhoOk ρ ρ')(h:ρ x=a)(ha:a≠.top):ρ' x=wkD a:=by rw[hρ x (by rw[h];exact ha),h]
theorem vw_get{b:Nat}{c:CB}(h:hp.get b=some c):vw hp b=some c.a:=by unfold vw;rw[h]
theorem tIndexAddr_ok[Adr](hρ:RhoOk ρ ρ'){t:TypeId}{x i:Operand}{r:TR}(h:tIndexAddr P t (ρ x) (ρ i) hp=some r)(hr:holds r Q):∃e,Q e/\TOk P (.indexAddr t x i) ρ' hp nm e:=by
 unfold tIndexAddr at h;split at h;rotate_left;.cases h
 rename_i e k' k ht hi;have hi':=rho_of hρ hi (by simp);split at h;rotate_left;.cases h
 rename_i z hz;split at h
 .rename_i n xs hx;have hx':=rho_of hρ hx (by simp);split at h;.rename_i hc;cases h;obtain⟨a,h1,h2⟩:=hr;have h2:=splU_iff.1 h2;obtain⟨k1,k2,k3⟩:=idxS h1;refine⟨_,h2,TOk.val (v0:=.pp (encU n a)) (rd:=[]) ?_ (AV.Le.refl _)⟩;simp only[opSem,hx',hi',wkD,aIndexAddr,ht,hz,Nat.eq_of_beq_eq_true hc,true_and,k1,if_true,List.getElem?_map,k3,Option.map_some]
  .cases h
 .rename_i b g z' off len hx;have hx':=rho_of hρ hx (by simp);split at h
  .rename_i g' own n xs hb;split at h
   .rename_i hc;cases h;simp only[Bool.and_eq_true]at hc;obtain⟨h1,a,h2,h3⟩:=hr;obtain⟨k1,k2,k3⟩:=idxS h2;refine⟨_,h3,TOk.val (v0:=.ref b g (off+k.toNat) 0) (rd:=[]) ?_ ?_⟩;.simp only[opSem,hx',hi',wkD,aIndexAddr,ht,hz,Nat.eq_of_beq_eq_true hc.2.1];rw[if_pos (by refine⟨?_,k1,by rw[h1];exact k2⟩;trivial)];rfl
    .rw[Nat.eq_of_beq_eq_true hc.2.2.2,Nat.zero_add];exact AV.Le.refl _
   .cases h
  .cases h
 .cases h
theorem tLoad_ok[Adr](hρ:RhoOk ρ ρ'){t:TypeId}{a:Operand}{r:TR}(h:tLoad P t (ρ a) hp=some r)(hr:holds r Q):∃e,Q e/\TOk P (.load t a) ρ' hp nm e:=by
 unfold tLoad at h;split at h;rotate_left;.cases h
 rename_i b g i j ha;have ha':=rho_of hρ ha (by simp);split at h;rotate_left;.cases h
 rename_i g' own n xs hb;split at h;rotate_left;.cases h
 rename_i ag z hag hz;split at h;rotate_left;.cases h
 rename_i hc;cases h;simp only[Bool.and_eq_true]at hc;obtain⟨x,h1,h2⟩:=holds_ask.1 hr;have h2:holds (match AV.ofCells ag (((encU n x).drop j).take z)with|some v=>tv v|none=>.bad) Q:=splU_iff.1 h2;split at h2;rotate_left;.exact h2.elim
 rename_i v hv;refine⟨_,h2,TOk.val (v0:=v) (rd:=[b]) ?_ (AV.Le.refl _)⟩;have hl:=Nat.le_of_ble_eq_true hc.2;have :rdElem (vw hp) b g i=some (encU n x):=by unfold rdElem;rw[vw_get hb];show(if(CB.t g' own n xs).a.g=g then(CB.t g' own n xs).a.es[i]? else none)=_;rw[if_pos (show(CB.t g' own n xs).a.g=g from Nat.eq_of_beq_eq_true hc.1)];show(xs.map (encU n))[i]?=_;rw[List.getElem?_map,h1];rfl
 simp only[opSem,ha',wkD,aLoad,hag,hz,this];rw[if_pos (by rw[encU_len];exact hl),hv];rfl
theorem encs_len{n:Nat}{xs:List (U n)}:∀e∈xs.map (encU n),e.length=szU n:=λe he=>by simp only[List.mem_map]at he;obtain⟨y,-,rfl⟩:=he;exact encU_len n y
theorem set_bw[Adr]{n g:Nat}{xs:List (U n)}{i:Nat}{cs:List AV}{e:U n}{p:Bool}{ty:Option TypeId}(hty:ty=none)(hl:cs.length=szU n)(hd:decU n cs=some e):BW {g:=g,own:=true,pure:=p,sz:=szU n,es:=(xs.map (encU n)).set i cs,ty:=ty} (CB.t g true n (xs.set i e)).a:=by
 refine⟨rfl,rfl,λh=>h,λh=>(by cases h),by simp[CB.a],λ_=>encs_len,λhs w F φ b o hr=>?_⟩
 have key:∀(xs:List (U n))(i o:Nat),ERel w F (ABlk.emb {g:=g,own:=true,pure:=p,sz:=szU n,es:=(xs.map (encU n)).set i cs,ty:=ty} φ) ((xs.map (encU n)).set i cs) b o->ERel w F Emb.zero ((xs.set i e).map (encU n)) b o:=by
  intro xs
  induction xs with
   |nil=>intro i o _;simp[ERel]
   |cons x xs ih=>
    intro i o hr
    cases i with
     |zero=>
      simp only[List.map_cons,List.set_cons_zero,ERel]at hr⊢;refine⟨?_,?_⟩;.have :=hr.1;rw[CRel_iff]at this⊢;obtain⟨vs,k1,k2,k3⟩:=this;exact⟨vs,isPs_rel _ _ (encU_P n e) (decU_ok hd k1),k2,k3⟩
      .rw[encU_len,<-hl,enc_e];exact enc_e xs _|>.1 hr.2
     |succ i=>simp only[List.map_cons,List.set_cons_succ,ERel]at hr⊢;refine⟨?_,ih i _ hr.2⟩;have :=hr.1;rw[CRel_iff]at this⊢;obtain⟨vs,k1,k2,k3⟩:=this;exact⟨vs,isPs_rel _ _ (encU_P n x) k1,k2,k3⟩
 exact key xs i o hr
theorem tStore_ok[Adr](hρ:RhoE ρ ρ'){t:TypeId}{a x:Operand}{r:TR}(h:tStore P t (ρ a) (ρ x) hp=some r)(hr:holds r Q):∃e,Q e/\TOk P (.store t a x) ρ' hp nm e:=by
 unfold tStore at h;split at h;rotate_left;.cases h
 rename_i b g i j ha;have ha':ρ' a=.ref b g i j:=by rw[hρ a (by rw[ha];simp),ha]
 split at h;rotate_left;.cases h
 rename_i g' n xs hb;split at h;rotate_left;.cases h
 rename_i z cs hz hcs;have hx:ρ' x=ρ x:=hρ x (λe=>by rw[e]at hcs;cases hcs);split at h;rotate_left;.cases h
 rename_i hc;simp only[Bool.and_eq_true]at hc;have hg:=Nat.eq_of_beq_eq_true hc.1;have hl:=Nat.eq_of_beq_eq_true hc.2.1;have hj:=Nat.le_of_ble_eq_true hc.2.2
 have key:∀e0,xs[i]?=some e0->opSem P (.store t a x) ρ' (vw hp) nm=some ⟨.tup [],[(b,{g:=g',own:=true,pure:=true&&AV.isP.isPs cs,sz:=szU n,es:=(xs.map (encU n)).set i ((encU n e0).take j++cs++(encU n e0).drop (j+z))})],[b]⟩:=λe0 h0=>by
  have he:(CB.t g' true n xs).a.es[i]?=some (encU n e0):=by simp only[CB.a,List.getElem?_map,h0];rfl
  simp only[opSem,aStore,hz,ha',hx,hcs,vw_get hb];rw[if_pos ⟨hg,rfl,hl⟩,he];simp only;rw[if_pos (by rw[encU_len];exact hj)];rfl
 split at h
 .rename_i hzs;split at h;rotate_left;.cases h
  rename_i e he;cases h;obtain⟨h1,h2⟩:=hr;have hzs:=Nat.eq_of_beq_eq_true hzs;have h0:xs[i]?=some xs[i]:=List.getElem?_eq_getElem h1;have hj0:j=0:=by omega
  subst hj0;have k:=key _ h0;rw[List.take_zero,List.nil_append,List.drop_eq_nil_of_le (by rw[encU_len];omega),List.append_nil]at k;exact⟨_,h2,TOk.blk k (AV.Le.refl _) (.inr (by rw[hg];exact set_bw rfl (by rw[hl,hzs]) he))⟩
 .cases h;obtain⟨e0,h0,h2⟩:=holds_ask.1 hr;split at h2;rotate_left;.exact h2.elim
  rename_i e he;have hlen:((encU n e0).take j++cs++(encU n e0).drop (j+z)).length=szU n:=by have :=encU_len n e0;simp only[List.length_append,List.length_take,List.length_drop];omega
  exact⟨_,h2,TOk.blk (key _ h0) (AV.Le.refl _) (.inr (by rw[hg];exact set_bw rfl hlen he))⟩
theorem intO_of(hρ:RhoOk ρ ρ'){lo:Option Operand}{l:Option Int}(h:intO (lo.map ρ)=some l):(l=none/\lo.map ρ'=none)\/ ∃k n,l=some n/\lo.map ρ'=some (.int k n):=by
 cases lo with
  |none=>simp only[Option.map_none,intO,Option.some.injEq]at h;exact .inl ⟨h.symm,rfl⟩
  |some x=>
   simp only[Option.map_some]at h;unfold intO at h;split at h;.rename_i e;cases e
   .rename_i k n e;simp only[Option.some.injEq]at e h;exact .inr ⟨k,n,h.symm,by simp only[Option.map_some];rw[rho_of hρ e (by simp)];rfl⟩
   .cases h
theorem cut_ok{α:Type}{xs:List α}{l h:Option Int}{lo hi:Option AV}{k:List α->TR}(hl:(l=none/\lo=none)\/ ∃k n,l=some n/\lo=some (.int k n))(hh:(h=none/\hi=none)\/ ∃k n,h=some n/\hi=some (.int k n))(hr:holds (cutL xs l h k) Q):∃a b,a<=b/\b<=xs.length/\sliceBd lo 0=some a/\sliceBd hi xs.length=some b/\holds (k ((xs.drop a).take (b-a))) Q:=by
 rcases hl with⟨rfl,rfl⟩|⟨k1,n1,rfl,rfl⟩<;>rcases hh with⟨rfl,rfl⟩|⟨k2,n2,rfl,rfl⟩;.exact⟨0,xs.length,Nat.zero_le _,Nat.le_refl _,rfl,rfl,by rw[show(xs.drop 0).take (xs.length-0)=xs by simp];exact hr⟩
 .obtain⟨⟨h1,h2⟩,h3⟩:=hr;refine⟨0,n2.toNat,Nat.zero_le _,by omega,rfl,by simp only[sliceBd];rw[if_pos h1],by rw[show(xs.drop 0).take (n2.toNat-0)=xs.take n2.toNat by simp];exact h3⟩
 .obtain⟨⟨h1,h2⟩,h3⟩:=hr;refine⟨n1.toNat,xs.length,by omega,Nat.le_refl _,by simp only[sliceBd];rw[if_pos h1],rfl,?_⟩;rw[List.take_of_length_le (by simp)];exact h3
 .obtain⟨⟨h1,h2,h3⟩,h4⟩:=hr;exact⟨n1.toNat,n2.toNat,by omega,by omega,by simp only[sliceBd];rw[if_pos h1],by simp only[sliceBd];rw[if_pos (by omega)],h4⟩
theorem tSliceOp_ok[Adr](hρ:RhoOk ρ ρ'){t:TypeId}{x:Operand}{lo hi mx:Option Operand}{r:TR}(h:tSliceOp P t (ρ x) (lo.map ρ) (hi.map ρ) (mx.map ρ)=some r)(hr:holds r Q):∃e,Q e/\TOk P (.slice t x lo hi mx) ρ' hp nm e:=by
 unfold tSliceOp at h;split at h
 .rename_i l hb hl hh hm;have hm':mx.map ρ'=none:=by cases mx with|none=>rfl|some y=>cases hm
  split at h;.rename_i s ht hx;cases h;have hx':=rho_of hρ hx (by simp);obtain⟨a,b,k1,k2,k3,k4,k5⟩:=cut_ok (intO_of hρ hl) (intO_of hρ hh) hr;refine⟨_,k5,TOk.val (v0:=.str ((s.drop a).take (b-a))) (rd:=[]) ?_ (AV.Le.refl _)⟩;simp only[opSem,hx',wkD,aSlice,ht,hm',k3,k4,Option.isSome_none,Bool.false_eq_true,if_false];rw[if_pos ⟨k1,k2⟩];rfl
  .rename_i e n xs ht hx;have hx':=rho_of hρ hx (by simp);split at h;rotate_left;.cases h
   rename_i z hz;split at h;rotate_left;.cases h
   rename_i hc;cases h;have hc:=Nat.eq_of_beq_eq_true hc;obtain⟨a,b,k1,k2,k3,k4,k5⟩:=cut_ok (intO_of hρ hl) (intO_of hρ hh) hr;refine⟨_,k5,TOk.val (v0:=.psl (szU n) (((xs.map (encU n)).drop a).take (b-a))) (rd:=[]) ?_ ?_⟩;.have k6:sliceBd (none:Option AV) xs.length=some xs.length:=rfl;simp only[opSem,hx',wkD,aSlice,ht,hm',hz,k3,List.length_map,k4,k6,Option.isSome_none,Bool.false_eq_true,false_and,if_false];rw[if_pos ⟨hc,λh=>(by cases h),k1,k2,Nat.le_refl _⟩];rfl
   .intro w F φ u hu;rw[dl_psl];rw[<-List.map_drop,<-List.map_take]at hu;exact hu
  .cases h
 .rename_i l b c hl hh hm;split at h;rotate_left;.cases h
  rename_i e n xs ht hx;have hx':=rho_of hρ hx (by simp);split at h;rotate_left;.cases h
  rename_i z hz;split at h;rotate_left;.cases h
  rename_i hc;cases h;have hc:=Nat.eq_of_beq_eq_true hc;obtain⟨⟨k1,k2,k3⟩,k4⟩:=hr;obtain⟨y,hmy⟩:∃y,mx=some y:=by cases mx with|none=>cases hm|some y=>exact⟨y,rfl⟩
  subst hmy;simp only[Option.map_some,Option.some.injEq]at hm;have hm':=rho_of hρ hm (by simp);rcases intO_of hρ hh with⟨q,-⟩|⟨k5,n5,q1,q2⟩;.cases q
  cases q1;subst k2 k3
  have hlo:sliceBd (lo.map ρ') 0=some 0:=by
   rcases intO_of hρ hl with⟨q,q'⟩|⟨k6,n6,q,q'⟩;.rw[q'];rfl
   .rw[q'];subst q;simp only[Option.getD_some]at k1;subst k1;rfl
  refine⟨_,k4,TOk.val (v0:=.emp) (rd:=[]) ?_ (AV.Le.refl _)⟩;have b1:∀(k:IntKind)(d:Nat),sliceBd (some (AV.int k 0)) d=some 0:=λ_ _=>rfl;simp only[opSem,hx',wkD,aSlice,ht,Option.map_some,hm',hz,hlo,q2,b1,if_true,Option.isSome_some,and_self]
 .cases h
theorem tLen_ok[Adr](hρ:RhoOk ρ ρ'){t:TypeId}{x:Operand}{r:TR}{c:Call}(hc:c.callee=.builtin .len)(ht:c.argTypes.toList=[t])(hx:c.args.toList=[x])(h:tLen P t (ρ x)=some r)(hr:holds r Q):∃e,Q e/\TOk P (.call c) ρ' hp nm e:=by
 unfold tLen at h;split at h;.rename_i e n xs h1 h2;cases h;refine⟨_,hr,TOk.val (v0:=.int .i64 ((xs.map (encU n)).length)) (rd:=[]) ?_ (by rw[List.length_map];exact AV.Le.refl _)⟩;simp only[opSem,hc,ht,hx,List.map_cons,List.map_nil,rho_of hρ h2 (by simp),wkD,semBuiltin,aLen];rw[tSlice_un h1];rfl
 .cases h
theorem tIndex_ok[Adr](hρ:RhoOk ρ ρ'){t:TypeId}{x i:Operand}{r:TR}(h:tIndex P t (ρ x) (ρ i)=some r)(hr:holds r Q):∃e,Q e/\TOk P (.index t x i) ρ' hp nm e:=by
 unfold tIndex at h;split at h;.rename_i s k0 k h1 h2 h3;cases h;obtain⟨c,k1,k2⟩:=hr;obtain⟨q1,q2,q3⟩:=idxS k1;refine⟨_,k2,TOk.val (v0:=.int .u8 c.toNat) (rd:=[]) ?_ (AV.Le.refl _)⟩;simp only[opSem,h1,rho_of hρ h2 (by simp),rho_of hρ h3 (by simp),wkD,q1,if_true,q3,Option.map_some]
 .cases h
theorem tNil_ok[Adr]{op:BinOp}{t yt:TypeId}{x y:Operand}{r:TR}{b:Bool}{v v0:AV}(h:tNil P t b v=some r)(hr:holds r Q)(h1:∀e,tSlice P t=some e->opSem P (.binOp op t x y yt) ρ' (vw hp) nm=some ⟨if b then .anyb else v,[],[]⟩):∃e,Q e/\TOk P (.binOp op t x y yt) ρ' hp nm e:=by
 unfold tNil at h;split at h
 .rename_i e he;cases h;have :=h1 e he;cases b;.exact⟨_,hr,TOk.val this (AV.Le.refl _)⟩
  .exact⟨_,hr,TOk.val this (AV.Le.refl _)⟩
 .cases h
theorem tSlice_und{t e:TypeId}(h:tSlice P t=some e):P.underlying t=some (.slice e):=by
 unfold tSlice at h;split at h;.rename_i e' he;cases h;exact he
 .cases h
theorem tBin_ok[Adr](hρ:RhoOk ρ ρ'){op:BinOp}{t yt:TypeId}{x y:Operand}{r:TR}(h:tBin P op t (ρ x) (ρ y)=some r)(hr:holds r Q):∃e,Q e/\TOk P (.binOp op t x y yt) ρ' hp nm e:=by
 unfold tBin at h;split at h
 .rename_i k a k' b hx hy;split at h;.rename_i e;subst e;cases h;refine⟨_,hr.2,TOk.val (v0:=.int k (k.wrap (a.tdiv b))) (rd:=[]) ?_ (AV.Le.refl _)⟩;simp only[opSem,rho_of hρ hx (by simp),rho_of hρ hy (by simp),wkD,aBin,if_true];rw[if_neg hr.1];rfl
  .cases h
 .rename_i k a k' b hx hy;split at h;.rename_i e;subst e;cases h;refine⟨_,hr.2,TOk.val (v0:=.int k (a.tmod b)) (rd:=[]) ?_ (AV.Le.refl _)⟩;simp only[opSem,rho_of hρ hx (by simp),rho_of hρ hy (by simp),wkD,aBin,if_true];rw[if_neg hr.1];rfl
  .cases h
 .rename_i k a k' b hx hy;split at h;.rename_i e;subst e;cases h;refine⟨_,hr.2,TOk.val (v0:=.int k (k.wrap (a*2^(min b.toNat k.bits)))) (rd:=[]) ?_ (AV.Le.refl _)⟩;simp only[opSem,rho_of hρ hx (by simp),rho_of hρ hy (by simp),wkD,aBin,if_true];have h0:0<=b:=hr.1;rw[if_neg (by omega)];rfl
  .cases h
 .rename_i n xs hx hy;refine tNil_ok (v0:=.top) h hr λe he=>?_;simp only[opSem,rho_of hρ hx (by simp),rho_of hρ hy (by simp),wkD,aBin,aNilCmp,tSlice_und he];cases xs<;>rfl
 .rename_i n xs hx hy;refine tNil_ok (v0:=.top) h hr λe he=>?_;simp only[opSem,rho_of hρ hx (by simp),rho_of hρ hy (by simp),wkD,aBin,aNilCmp,tSlice_und he];cases xs<;>rfl
 .rename_i b g z o len hx hy;refine tNil_ok (v0:=.top) h hr λe he=>?_;simp only[opSem,rho_of hρ hx (by simp),rho_of hρ hy (by simp),wkD,aBin,aNilCmp,tSlice_und he];cases len<;>rfl
 .rename_i b g z o len hx hy;refine tNil_ok (v0:=.top) h hr λe he=>?_;simp only[opSem,rho_of hρ hx (by simp),rho_of hρ hy (by simp),wkD,aBin,aNilCmp,tSlice_und he];cases len<;>rfl
 .rename_i a b hx hy;cases h;refine⟨_,hr.2,TOk.val (v0:=.str (a++b)) (rd:=[]) ?_ (AV.Le.refl _)⟩;simp only[opSem,rho_of hρ hx (by simp),rho_of hρ hy (by simp),wkD,aBin];rw[if_pos (by rw[i64max];exact hr.1)];rfl
 .cases h
theorem tPick_ok[Adr](hρ:RhoOk ρ ρ'){c x y:Operand}{r:TR}(h:tPick (ρ c) (ρ x) (ρ y)=some r)(hr:holds r Q):∃e,Q e/\TOk P (.pick c x y) ρ' hp nm e:=by
 unfold tPick at h;split at h;.rename_i t a b hc hx hy;cases h;refine⟨_,hr,TOk.val (v0:=.bool (if t=true then a else b)) (rd:=[]) ?_ (AV.Le.refl _)⟩;simp only[opSem,rho_of hρ hc (by simp),rho_of hρ hx (by simp),rho_of hρ hy (by simp),wkD];cases t<;>rfl
 .rename_i t k a k' b hc hx hy;split at h;.rename_i e;subst e;cases h;refine⟨_,hr,TOk.val (v0:=.int k (if t=true then a else b)) (rd:=[]) ?_ (AV.Le.refl _)⟩;simp only[opSem,rho_of hρ hc (by simp),rho_of hρ hx (by simp),rho_of hρ hy (by simp),wkD];cases t<;>rfl
  .cases h
 .rename_i t a b hc hx hy;cases h;refine⟨_,hr,TOk.val (v0:=.str (if t=true then a else b)) (rd:=[]) ?_ (AV.Le.refl _)⟩;simp only[opSem,rho_of hρ hc (by simp),rho_of hρ hx (by simp),rho_of hρ hy (by simp),wkD];cases t<;>rfl
 .cases h
def DE[Adr](n:Nat)(es:List (List AV))(xs:List (U n)):Prop:=xs.length=es.length/\((∀e∈es,e.length=szU n)->∀(w:World)(F:Nat->Prop)(χ ω:Emb)(b o:Nat),ERel w F χ es b o->ERel w F ω (xs.map (encU n)) b o)
theorem DE.enc[Adr]{n:Nat}(xs:List (U n)):DE n (xs.map (encU n)) xs:=⟨by simp,λ_ _ _ _ _ _ _ h=>(enc_e xs _).2 ((enc_e xs _).1 h)⟩
theorem DE.dec[Adr]{n:Nat}{es:List (List AV)}{xs:List (U n)}(h:decAll n es=some xs):DE n es xs:=⟨decAll_len h,λhl _ _ _ _ _ _ hr=>decAll_rel h hl hr⟩
theorem DE.bw[Adr]{n g:Nat}{x:ABlk}{xs:List (U n)}(h:DE n x.es xs)(hg:x.g=g)(hs:x.sz=szU n)(ho:x.own=true):BW x (CB.t g true n xs).a:=⟨hg.symm,hs.symm,λ_=>ho,λe=>(by cases e),by simp only[CB.a,List.length_map];exact h.1,λ_=>encs_len,λhl w F φ b o hr=>h.2 (λe he=>by rw[hl e he,hs]) w F _ _ b o hr⟩
theorem elemsT_ok[Adr]{n:Nat}{a:AV}{p:Pu (List (U n))}(h:elemsT hp n a=some p)(he:∀q∈p.eq,q.1=q.2):∃es rd,aElems (vw hp) (szU n) (wkD a)=some (es,rd)/\DE n es p.v:=by
 cases a with
  |nils=>simp only[elemsT]at h;cases h;exact⟨[],[],rfl,DE.enc []⟩
  |emp=>simp only[elemsT]at h;cases h;exact⟨[],[],rfl,DE.enc []⟩
  |dl m ys=>
   simp only[elemsT]at h;split at h;.rename_i e;subst e;cases h;exact⟨ys.map (encU m),[],by simp[wkD,aElems],DE.enc ys⟩
   .cases h
  |sl b g z off len=>
   simp only[elemsT]at h;split at h
   .rename_i g' own m xs hb;split at h;rotate_left;.cases h
    rename_i e;subst e;split at h;rotate_left;.cases h
    rename_i hc;cases h;simp only[Bool.and_eq_true]at hc;have e1:len=xs.length:=he (len,xs.length) (by simp);refine⟨xs.map (encU m),[b],?_,DE.enc xs⟩;simp only[wkD,aElems,vw_get hb];rw[if_pos (by refine⟨Nat.eq_of_beq_eq_true hc.2.1,Nat.eq_of_beq_eq_true hc.1,rfl,?_⟩;rw[Nat.eq_of_beq_eq_true hc.2.2,e1];simp[CB.a])];rw[Nat.eq_of_beq_eq_true hc.2.2,e1];simp[CB.a,List.take_of_length_le]
   .rename_i x hb;split at h;rotate_left;.cases h
    rename_i hc;split at h;rotate_left;.cases h
    rename_i xs hd;cases h;simp only[Bool.and_eq_true]at hc;have e1:len=x.es.length:=he (len,x.es.length) (by simp);refine⟨x.es,[b],?_,DE.dec hd⟩;simp only[wkD,aElems,vw_get hb];have hz:x.sz=szU n:=(Nat.eq_of_beq_eq_true hc.2.2.1).trans (Nat.eq_of_beq_eq_true hc.2.1);rw[if_pos (by refine⟨Nat.eq_of_beq_eq_true hc.2.1,Nat.eq_of_beq_eq_true hc.1,hz,?_⟩;rw[Nat.eq_of_beq_eq_true hc.2.2.2,e1];simp[CB.a])];rw[Nat.eq_of_beq_eq_true hc.2.2.2,e1];simp[CB.a,List.take_of_length_le]
   .cases h
  |_=>simp only[elemsT]at h;cases h
theorem tyN_ok{ev:Ev}{e:TypeId}{n:Nat}(h:tyN ev P e=some n):tSize P e=some (szU n)/\0<szU n:=by
 unfold tyN at h;split at h
 .rename_i k z h1 h2;split at h;.rename_i hc;cases h;simp only[Bool.and_eq_true]at hc;have hz:=Nat.eq_of_beq_eq_true hc.1;exact⟨by rw[h2,hz],by rw[<-hz];exact Nat.le_of_ble_eq_true hc.2⟩
  .cases h
 .cases h
theorem ERel_app[Adr]{w:World}{F:Nat->Prop}{φ:Emb}{b sz:Nat}{as bs:List (List AV)}{o:Nat}(hl:∀e∈as,e.length=sz):ERel w F φ (as++bs) b o↔ERel w F φ as b o/\ERel w F φ bs b (o+as.length*sz):=by simp only[ERel_flat,List.flatten_append,CRel_append,flatten_len sz as hl]
theorem aAppend_new[Adr]{P:Program}{t t':TypeId}{e e':TypeId}{sz bs nm:Nat}{zs:List AV}{v:AV}{η:Heap}{s:AV}{es:List (List AV)}{rd:List Nat}(hs:s=.nils\/s=.emp)(ht:tSlice P t=some e)(ht':tSlice P t'=some e')(hsz:tSize P e=some sz)(hbs:tBytes P e=some bs)(hsz':tSize P e'=some sz)(hz:tZero P e=some zs)(h1:0<sz)(h2:0<bs)(h3:zs.length=sz)(he:aElems η sz v=some (es,rd))(hb:2*(es.length*bs)<=2^48):aAppend P t t' s v η nm=some (.sl nm 0 sz 0 es.length,(nm,{g:=0,own:=true,pure:=es.all AV.isP.isPs,sz:=sz,es:=es}),rd):=by rcases hs with rfl|rfl;all_goals simp only[aAppend,ht,ht',hsz,hbs,hsz',hz];rw[if_pos ⟨trivial,h1,h2,h3⟩,he];simp only;rw[if_pos hb]
theorem aAppend_own[Adr]{P:Program}{t t':TypeId}{e e':TypeId}{sz bs nm:Nat}{zs:List AV}{v:AV}{η:Heap}{b g len:Nat}{blk:ABlk}{es:List (List AV)}{rd:List Nat}(ht:tSlice P t=some e)(ht':tSlice P t'=some e')(hsz:tSize P e=some sz)(hbs:tBytes P e=some bs)(hsz':tSize P e'=some sz)(hz:tZero P e=some zs)(h1:0<sz)(h2:0<bs)(h3:zs.length=sz)(he:aElems η sz v=some (es,rd))(hb:η b=some blk)(hc:blk.g=g/\blk.sz=sz/\len=blk.es.length/\blk.own=true/\2*((len+es.length)*bs)<=2^48):aAppend P t t' (.sl b g sz 0 len) v η nm=some (.sl b (g+1) sz 0 (len+es.length),(b,{blk with g:=g+1,es:=blk.es++es,pure:=blk.pure&&es.all AV.isP.isPs,ty:=none}),b::rd):=by simp only[aAppend,ht,ht',hsz,hbs,hsz',hz];rw[if_pos ⟨trivial,h1,h2,h3⟩,he];simp only[hb];rw[if_pos ⟨trivial,hc.1,hc.2.1,trivial,hc.2.2.1,hc.2.2.2.1,hc.2.2.2.2⟩]
theorem tAppend_ok[Adr]{ev:Ev}(hρ:RhoOk ρ ρ'){t t':TypeId}{x y:Operand}{r:TR}{c:Call}(hc:c.callee=.builtin .append)(hts:c.argTypes.toList=[t,t'])(hxs:c.args.toList=[x,y])(h:tAppend ev P t t' (ρ x) (ρ y) hp nm=some r)(hr:holds r Q):∃e,Q e/\TOk P (.call c) ρ' hp nm e:=by
 unfold tAppend at h;split at h;rotate_left;.cases h
 rename_i e e' ht ht';split at h;rotate_left;.cases h
 rename_i n bs z' zs hn hbs hz' hzs;obtain⟨hsz,hpos⟩:=tyN_ok hn;split at h;rotate_left;.cases h
 rename_i hcc;simp only[Bool.and_eq_true]at hcc;have c1:=Nat.eq_of_beq_eq_true hcc.1;have c2:0<bs:=Nat.le_of_ble_eq_true hcc.2.1;have c3:=Nat.eq_of_beq_eq_true hcc.2.2;split at h;rotate_left;.cases h
 rename_i p hp0;have hy:ρ' y=wkD (ρ y):=hρ y (λe=>by rw[e]at hp0;simp[elemsT]at hp0);have fresh:∀{r:TR},r=eqns p.eq (.gd (2*(p.v.length*bs)<=281474976710656) inferInstance (.lf (.sl nm 0 (szU n) 0 p.v.length,[(nm,.t 0 true n p.v)])))->holds r Q->(∀es rd,aElems (vw hp) (szU n) (wkD (ρ y))=some (es,rd)->2*(es.length*bs)<=2^48->∃pu,aAppend P t t' (ρ' x) (wkD (ρ y)) (vw hp) nm=some (.sl nm 0 (szU n) 0 es.length,(nm,{g:=0,own:=true,pure:=pu,sz:=szU n,es:=es}),rd))->∃e,Q e/\TOk P (.call c) ρ' hp nm e:=by intro r er hr hA;subst er;obtain⟨k1,k2,k3⟩:=holds_eqns hr;obtain⟨es,rd,q1,q2⟩:=elemsT_ok hp0 k1;obtain⟨pu,q3⟩:=hA es rd q1 (by rw[<-q2.1];exact k2);refine⟨_,k3,TOk.blk (v0:=.sl nm 0 (szU n) 0 es.length) (x:={g:=0,own:=true,pure:=pu,sz:=szU n,es:=es}) (rd:=rd) ?_ (by rw[q2.1];exact AV.Le.refl _) (.inr (DE.bw q2 rfl rfl rfl))⟩;simp only[opSem,hc,hts,hxs,List.map_cons,List.map_nil,hy,semBuiltin,q3];rfl
 split at h;.rename_i hx;cases h;refine fresh rfl hr λes rd q1 q2=>?_;rw[rho_of hρ hx (by simp)];exact⟨es.all AV.isP.isPs,aAppend_new (.inl rfl) ht ht' hsz hbs (by rw[hz',c1]) hzs hpos c2 c3 q1 q2⟩
 .rename_i hx;cases h;refine fresh rfl hr λes rd q1 q2=>?_;rw[rho_of hρ hx (by simp)];exact⟨es.all AV.isP.isPs,aAppend_new (.inr rfl) ht ht' hsz hbs (by rw[hz',c1]) hzs hpos c2 c3 q1 q2⟩
 .rename_i b g z off len hx;split at h;rotate_left;.cases h
  rename_i g' m xs hb;split at h;rotate_left;.cases h
  rename_i em;subst em;split at h;rotate_left;.cases h
  rename_i hc2;cases h;simp only[Bool.and_eq_true]at hc2;have d1:=Nat.eq_of_beq_eq_true hc2.1;have d2:=Nat.eq_of_beq_eq_true hc2.2.1;have d3:=Nat.eq_of_beq_eq_true hc2.2.2;obtain⟨k1,k2,k3⟩:=holds_eqns hr;have k0:len=xs.length:=k1 (len,xs.length) (by simp);obtain⟨es,rd,q1,q2⟩:=elemsT_ok hp0 (λq hq=>k1 q (by simp[hq]));have hlen:(xs.map (encU m)).length=len:=by rw[List.length_map,k0]
  have q3:∃pu,aAppend P t t' (ρ' x) (wkD (ρ y)) (vw hp) nm=some (.sl b (g+1) (szU m) 0 (len+es.length),(b,{g:=g+1,own:=true,pure:=pu,sz:=szU m,es:=xs.map (encU m)++es}),b::rd):=by rw[rho_of hρ hx (by simp),show wkD (.sl b g z off len)=.sl b g (szU m) 0 len by rw[d2,d3];rfl];exact⟨true&&es.all AV.isP.isPs,aAppend_own ht ht' hsz hbs (by rw[hz',c1]) hzs hpos c2 c3 q1 (vw_get hb) ⟨d1,rfl,hlen.symm,rfl,by rw[<-q2.1,k0];exact k2⟩⟩
  obtain⟨pu,q3⟩:=q3;have hde:DE m (xs.map (encU m)++es) (xs++p.v):=by refine⟨by simp[q2.1],λhl w F χ ω b o hr=>?_⟩;rw[ERel_app (sz:=szU m) encs_len]at hr;rw[List.map_append,ERel_app (sz:=szU m) encs_len];exact⟨(enc_e xs _).2 ((enc_e xs _).1 hr.1),q2.2 (λe he=>hl e (by simp[he])) w F χ ω b _ hr.2⟩
  refine⟨_,k3,TOk.blk (v0:=.sl b (g+1) (szU m) 0 (len+es.length)) (x:={g:=g+1,own:=true,pure:=pu,sz:=szU m,es:=xs.map (encU m)++es}) (rd:=b::rd) ?_ ?_ (.inr (DE.bw hde rfl rfl rfl))⟩;.simp only[opSem,hc,hts,hxs,List.map_cons,List.map_nil,hy,semBuiltin,q3];rfl
  .rw[show len+es.length=(xs++p.v).length by rw[List.length_append,q2.1,k0]];exact AV.Le.refl _
 .cases h
theorem tupO_len:∀{cs:List CT}{as:List AV}{t:Tup cs},tupO cs as=some t->as.length=cs.length
 |[],[],_,_=>rfl
 |c::cs,a::as,t,h=>by
  simp only[tupO]at h;split at h;.rename_i h1 h2;simp[tupO_len h2]
  .cases h
 |[],_::_,_,h=>by cases h
 |_::_,[],_,h=>by cases h
theorem decU_len{n:Nat}{as:List AV}{x:U n}(h:decU n as=some x):as.length=szU n:=by unfold decU at h;cases e:tupO (lay n) as with|none=>rw[e]at h;cases h|some t=>exact tupO_len e
theorem decAll_repl{n:Nat}{as:List AV}{x:U n}(h:decU n as=some x):∀k:Nat,decAll n (List.replicate k as)=some (List.replicate k x)|0=>rfl|k+1=>by simp only[List.replicate_succ,decAll,h,decAll_repl h k]
theorem tMake_ok[Adr]{ev:Ev}(hρ:RhoOk ρ ρ'){t:TypeId}{l c:Operand}{r:TR}(h:tMake ev P t (ρ l) (ρ c) nm=some r)(hr:holds r Q):∃e,Q e/\TOk P (.makeSlice t l c) ρ' hp nm e:=by
 unfold tMake at h;split at h;rotate_left;.cases h
 rename_i e k1 n1 k2 n2 ht hl hc;split at h;rotate_left;.cases h
 rename_i n bs zs hn hbs hzs;obtain⟨hsz,hpos⟩:=tyN_ok hn;split at h;rotate_left;.cases h
 rename_i z hz;cases h;obtain⟨⟨g1,g2,g3,g4⟩,g5⟩:=hr;refine⟨_,g5,TOk.blk (v0:=.sl nm 0 (szU n) 0 n1.toNat) (x:={g:=0,own:=true,pure:=true,sz:=szU n,es:=List.replicate n1.toNat zs}) (rd:=[]) ?_ (by rw[List.length_replicate];exact AV.Le.refl _) (.inr (DE.bw (DE.dec (decAll_repl hz _)) rfl rfl rfl))⟩;simp only[opSem,rho_of hρ hl (by simp),rho_of hρ hc (by simp),wkD,aMakeSlice,ht,hsz,hbs,hzs];rw[if_pos ⟨g1,g2,by rw[i64max];exact g3,g4,decU_len hz,hpos⟩];rfl
theorem setAll_top{n:Nat}:∀{parts:List (Nat×AV)}{es es':List (List AV)},setAll es parts n=some es'->∀p∈parts,p.2≠.top
 |[],_,_,_,p,hp=>by cases hp
 |(i,v)::rest,es,es',h,p,hp=>by
  simp only[setAll]at h;split at h
  .rename_i cs hcs;split at h
   .rcases List.mem_cons.1 hp with rfl|hp;.intro e;simp only at e;rw[e]at hcs;cases hcs
    .exact setAll_top h p hp
   .cases h
  .cases h
theorem tBuildSlice_ok[Adr]{ev:Ev}(hρ:RhoE ρ ρ'){t:TypeId}{len:Nat}{parts:Array (Nat×Operand)}{r:TR}(h:tBuildSlice ev P t len (parts.toList.map λp=>(p.1,ρ p.2)) nm=some r)(hr:holds r Q):∃e,Q e/\TOk P (.buildSlice t len parts) ρ' hp nm e:=by
 unfold tBuildSlice at h;split at h;rotate_left;.cases h
 rename_i v nm' blk e hb ht;split at h;rotate_left;.cases h
 rename_i n hn;split at h;rotate_left;.cases h
 rename_i hc;split at h;rotate_left;.cases h
 rename_i xs hd;cases h;have hb0:=hb;unfold aBuildSlice at hb;rw[ht]at hb;simp only at hb;split at hb;rotate_left;.cases hb
 rename_i sz z hs hz;split at hb;rotate_left;.cases hb
 cases hsa:setAll (List.replicate len z) (parts.toList.map λp=>(p.1,ρ p.2)) sz with
  |none=>rw[hsa]at hb;cases hb
  |some es=>
   rw[hsa]at hb;simp only[Option.map_some,Option.some.injEq,Prod.mk.injEq]at hb;obtain⟨rfl,rfl,rfl⟩:=hb;have hparts:(parts.toList.map λp=>(p.1,ρ' p.2))=parts.toList.map λp=>(p.1,ρ p.2):=by refine List.map_congr_left λp hp=>?_;rw[hρ p.2 (setAll_top hsa (p.1,ρ p.2) (List.mem_map.2 ⟨p,hp,rfl⟩))]
   refine⟨_,hr,TOk.blk (x:=_) (rd:=[]) (by simp only[opSem];rw[hparts,hb0];rfl) (AV.Le.refl _) (.inr (DE.bw (DE.dec hd) rfl (Nat.eq_of_beq_eq_true hc) rfl))⟩
end
end Go.AM
end
