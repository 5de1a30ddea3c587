/- Texts of the proof, joined by program. -/
import Derived.Test.YtaeifdlkolfdjaaGreatDoorKAmZ
import Derived.RecoverIn
section
set_option linter.unusedSimpArgs false
set_option linter.unusedVariables false
namespace Go
variable{P:Program}{F:Fence}{n:Nat}
def LeavesC(P:Program)(fn:Func)(tmps:Array Value)(R:Ending->World->Prop):List Deferred->World->Prop|[],w=>∃v,(results fn tmps).run P w=.ok v w/\R (.returned v) w|d::ds,w=>(∃r w',d.target=.collected r/\(Instr.takeDeferred r).run P w=.ok [] w'/\LeavesC P fn tmps R ds w')\/(∃b ts t ks v w',d.target=.builtin b ts t ks/\(invoke d.target d.args).run P w=.ok (.value v) w'/\LeavesC P fn tmps R ds w')
theorem LeavesC.mono{fn:Func}{tmps:Array Value}{R R':Ending->World->Prop}(hR:∀e w,R e w->R' e w):∀(ds:List Deferred)(w:World),LeavesC P fn tmps R ds w->LeavesC P fn tmps R' ds w|[],w,⟨v,h1,h2⟩=>⟨v,h1,hR _ _ h2⟩|d::ds,w,.inl ⟨r,w',h1,h2,h3⟩=>.inl ⟨r,w',h1,h2,LeavesC.mono hR ds w' h3⟩|d::ds,w,.inr ⟨b,ts,t,ks,v,w',h1,h2,h3⟩=>.inr ⟨b,ts,t,ks,v,w',h1,h2,LeavesC.mono hR ds w' h3⟩
end Go
namespace Go.AM
open Go Go.RowKit
section
variable{P:Program}{w0 wE w:World}{FE F:Nat->Prop}{φE φ:Emb}{s:St}{fn:Func}{nt:Nat}{tmps:Array Value}
end
section
variable{P:Program}{fn:Func}{K:AV->St->Prop}{s:St}
end
end Go.AM
end
section
set_option linter.unusedSimpArgs false
set_option linter.unusedVariables false
namespace Go.AM
open Go Go.RowKit
mutual
def conc:AV->Option Value
 |.bool b=>some (.bool b)
 |.int k n=>some (.int k n)
 |.str s=>some (.string ⟨s.toArray⟩)
 |.nili=>some .nilIface
 |.iface t x=>match conc x with|some v=>some (.iface t v)|none=>none
 |.agg cs=>match concs cs with|some vs=>some (.agg ⟨vs⟩)|none=>none
 |_=>none
def concs:List AV->Option (List Value)|[]=>some []|x::xs=>match conc x,concs xs with|some v,some vs=>some (v::vs)|_,_=>none
end
mutual
theorem conc_eq[Adr]{w:World}{F:Nat->Prop}{φ:Emb}:∀(a:AV)(u v:Value),conc a=some u->VRel w F φ a v->v=u/\ ∀(w':World)(F':Nat->Prop)(φ':Emb),VRel w' F' φ' a v
 |a,u,v=>by
  cases a with
   |bool b=>intro h hr;simp only[conc,Option.some.injEq]at h;simp only[VRel]at hr;subst h;subst hr;exact⟨rfl,λ_ _ _=>by simp only[VRel]⟩
   |int k n=>intro h hr;simp only[conc,Option.some.injEq]at h;simp only[VRel]at hr;subst h;subst hr;exact⟨rfl,λ_ _ _=>by simp only[VRel]⟩
   |str s=>intro h hr;simp only[conc,Option.some.injEq]at h;simp only[VRel]at hr;subst h;subst hr;exact⟨rfl,λ_ _ _=>by simp only[VRel]⟩
   |nili=>intro h hr;simp only[conc,Option.some.injEq]at h;simp only[VRel]at hr;subst h;subst hr;exact⟨rfl,λ_ _ _=>by simp only[VRel]⟩
   |iface t x=>
    intro h hr;simp only[conc]at h;split at h;.rename_i y hy;cases h;simp only[VRel]at hr;obtain⟨z,rfl,hz⟩:=hr;obtain⟨rfl,h2⟩:=conc_eq x y z hy hz;exact⟨rfl,λw' F' φ'=>by simp only[VRel];exact⟨_,rfl,h2 w' F' φ'⟩⟩
    .cases h
   |agg cs=>
    intro h hr;simp only[conc]at h;split at h;.rename_i ys hy;cases h;simp only[VRel]at hr;obtain⟨zs,rfl,hz,h3⟩:=hr;obtain⟨rfl,h2⟩:=concs_eq cs ys zs hy hz;exact⟨rfl,λw' F' φ'=>by simp only[VRel];exact⟨_,rfl,h2 w' F' φ',h3⟩⟩
    .cases h
   |top=>intro h;simp[conc]at h
   |anyb=>intro h;simp[conc]at h
   |nilp=>intro h;simp[conc]at h
   |ref b g i j=>intro h;simp[conc]at h
   |pp cs=>intro h;simp[conc]at h
   |sl b g z o l=>intro h;simp[conc]at h
   |psl z es=>intro h;simp[conc]at h
   |psx z es=>intro h;simp[conc]at h
   |nils=>intro h;simp[conc]at h
   |nilf=>intro h;simp[conc]at h
   |emp=>intro h;simp[conc]at h
   |nilm=>intro h;simp[conc]at h
   |strb n s=>intro h;simp[conc]at h
   |inty k=>intro h;simp[conc]at h
   |dl n xs=>intro h;simp[conc]at h
   |fn f x c=>intro h;simp[conc]at h
   |tup cs=>intro h;simp[conc]at h
   |yld l=>intro h;simp[conc]at h
   |mp l=>intro h;simp[conc]at h
   |itr l=>intro h;simp[conc]at h
   |gp k o cs=>intro h;simp[conc]at h
   |slk b g z o l c e=>intro h;simp[conc]at h
theorem concs_eq[Adr]{w:World}{F:Nat->Prop}{φ:Emb}:∀(as:List AV)(us vs:List Value),concs as=some us->VRels w F φ as vs->vs=us/\ ∀(w':World)(F':Nat->Prop)(φ':Emb),VRels w' F' φ' as vs
 |[],us,vs=>by intro h hr;simp only[concs,Option.some.injEq]at h;simp only[VRels]at hr;subst h;subst hr;exact⟨rfl,λ_ _ _=>by simp only[VRels]⟩
 |a::as,us,vs=>by
  intro h hr;simp only[concs]at h;split at h;.rename_i y ys hy hys;cases h;simp only[VRels]at hr;obtain⟨v,vs',rfl,h1,h2⟩:=hr;obtain⟨rfl,k1⟩:=conc_eq a y v hy h1;obtain⟨rfl,k2⟩:=concs_eq as ys vs' hys h2;exact⟨rfl,λw' F' φ'=>by simp only[VRels];exact⟨_,_,rfl,k1 w' F' φ',k2 w' F' φ'⟩⟩
  .cases h
end
def PanOf[Adr](a:AV)(v:Value):Prop:=conc a=some v/\ ∀(w:World)(F:Nat->Prop)(φ:Emb),VRel w F φ a v
theorem PanOf.of[Adr]{w:World}{F:Nat->Prop}{φ:Emb}{a:AV}{u v:Value}(h:conc a=some u)(hr:VRel w F φ a v):PanOf a v:=by obtain⟨rfl,h2⟩:=conc_eq a u v h hr;exact⟨h,h2⟩
def chainOf(v:Value):List PanicEntry:=[{v,recovered:=false}]
inductive Fin' where|val(r:AV)|pan(a:AV)
def FinPost[Adr](w0 wE:World)(FE:Nat->Prop)(φE:Emb)(K:Fin'->St->Prop):Ending->World->Prop:=λe w2=>∃s' φ' F',Mem w0 w2 F' φ' s'/\GrowW w0 wE FE φE w2 F' φ'/\((∃v r,e=.returned v/\VRel w2 F' φ' r v/\K (.val r) s')\/ ∃v a,e=.panicked (chainOf v)/\PanOf a v/\K (.pan a) s')
def EWX[Adr](P:Program)(f:FuncId)(args:List AV)(K:Fin'->St->Prop)(s:St):Prop:=Ent P f/\ ∀(w0 w:World)(F:Nat->Prop)(φ:Emb)(vs:List Value),Mem w0 w F φ s->GOk w F->VRels w F φ args vs->Calls P f ⟨vs⟩ w (FinPost w0 w F φ K)
section
variable{P:Program}{f:FuncId}{args:List AV}{s:St}
theorem ewx_of_ewp[Adr]{K:Fin'->St->Prop}(h:EWP P f args (λr s=>K (.val r) s) s):EWX P f args K s:=⟨h.1,λw0 w F φ vs hm hg hv=>(h.2 w0 w F φ vs hm hg hv).mono λ_ _ ⟨v,r,s',φ',F',h1,h2,h3,h4,h5⟩=>⟨s',φ',F',h2,h3,.inl ⟨v,r,h1,h4,h5⟩⟩⟩
theorem ewp_of_ewx[Adr]{K:Fin'->St->Prop}{K':AV->St->Prop}(h:EWX P f args K s)(hk:∀r s,K (.val r) s->K' r s)(hp:∀a s,¬K (.pan a) s):EWP P f args K' s:=⟨h.1,λw0 w F φ vs hm hg hv=>(h.2 w0 w F φ vs hm hg hv).mono λ_ _ ⟨s',φ',F',h2,h3,h4⟩=>by
 rcases h4 with⟨v,r,h1,h4,h5⟩|⟨v,a,-,-,h5⟩;.exact⟨v,r,s',φ',F',h1,h2,h3,h4,hk _ _ h5⟩
 .exact absurd h5 (hp _ _)⟩
theorem ewx_mono[Adr]{K K':Fin'->St->Prop}(h:EWX P f args K s)(hk:∀r s,K r s->K' r s):EWX P f args K' s:=⟨h.1,λw0 w F φ vs hm hg hv=>(h.2 w0 w F φ vs hm hg hv).mono λ_ _ ⟨s',φ',F',h2,h3,h4⟩=>⟨s',φ',F',h2,h3,h4.imp (λ⟨v,r,h1,h4,h5⟩=>⟨v,r,h1,h4,hk _ _ h5⟩) λ⟨v,a,h1,h4,h5⟩=>⟨v,a,h1,h4,hk _ _ h5⟩⟩⟩
end
section
variable{P:Program}{nt:Nat}{K:Exit->St->Prop}{s:St}{ops:Array Oper}
def afterX[Adr](P:Program)(nt:Nat)(ops:Array Oper)(rest:List Nat)(d:Option Nat)(K:Exit->St->Prop)(s:St):Fin'->St->Prop|.val r,s'=>AWPO P nt ops rest K ⟨frPut s.fr d r,s'.hp,s'.nx,s'.lp⟩|.pan a,s'=>∀v,PanOf a v->K (.panic (chainOf v)) ⟨s.fr,s'.hp,s'.nx,s'.lp⟩
theorem awpo_enter[Adr]{i:Nat}{o:Oper}{rest:List Nat}{fid:FuncId}{avs:List AV}(hi:ops[i]?=some o)(hw:wants nt ops o (frGet s.fr)=true)(hd:dstOk nt o=true)(hnd:∀c,o.op≠.defer c)(hrun:∀(w:World)(F:Nat->Prop)(φ:Emb)(a:Act),(∀x,VRel w F φ (evalO (frGet s.fr) x) (a.eval x))->∃vs,(execOp a.eval o).run P w=.ok (.enter fid ⟨vs⟩) w/\VRels w F φ avs vs)(h:EWX P fid avs (afterX P nt ops rest o.dst K s) s):AWPO P nt ops (i::rest) K s:=by
 intro x w0 w F φ a hf Q hQ;rw[wpOpsIn_cons];unfold wpOpIn;simp only[hi];rw[if_pos (wanted_of hf hw)];refine⟨λ_ _=>trivial,?_⟩;obtain⟨hent,hcalls⟩:=h;obtain⟨vs,r1,r2⟩:=hrun w F φ a (eval_rel hf.tmps);rw[show(fen x.r).round=x.r from rfl,Oper.semAt_eq x.r _ _ hnd,r1,Oper.uponIn_enter];refine⟨λh=>by simp[fen,Fence.wide]at h,(calls_fen (hcalls w0 w F φ _ hf.mem hf.tmps.glob r2) x.r _).mono ?_⟩;rintro en w' ⟨s',φ',F',k1,k2,⟨v,r,rfl,k3,k4⟩|⟨v,a',rfl,k3,k4⟩⟩;.refine k4 x w0 w' F' φ' _ ⟨⟨k1.heap,k1.lps,k1.lused,k1.linj⟩,?_,hf.env.mono k2 (put_defers _ _ _)⟩ Q λe a2 w2 s2 φ2 F2 g1 g2 g3=>hQ e a2 w2 s2 φ2 F2 g1 (k2.trans g2) g3;rw[frGet_put];exact(hf.tmps.monoW k2).put (ds_lt hd) k3
 .exact hQ _ _ _ ⟨s.fr,s'.hp,s'.nx,s'.lp⟩ φ' F' ⟨⟨k1.heap,k1.lps,k1.lused,k1.linj⟩,hf.tmps.monoW k2,hf.env.mono k2 rfl⟩ k2 (k4 v k3)
theorem awpo_callX[Adr]{i:Nat}{o:Oper}{rest:List Nat}{f:Operand}{args:List Operand}{fid:FuncId}{first cap:List AV}(hi:ops[i]?=some o)(hc:isCall o.op=some (f,args))(hw:wants nt ops o (frGet s.fr)=true)(hd:dstOk nt o=true)(hfv:evalO (frGet s.fr) f=.fn fid first cap)(h:EWX P fid (first++args.map (evalO (frGet s.fr))++cap) (afterX P nt ops rest o.dst K s) s):AWPO P nt ops (i::rest) K s:=by
 have hent:=h.1;unfold isCall at hc;split at hc;rotate_left;.cases hc
 rename_i c hop;split at hc;rotate_left;.cases hc
 rename_i f' hcal;simp only[Option.some.injEq,Prod.mk.injEq]at hc;obtain⟨rfl,rfl⟩:=hc;refine awpo_enter hi hw hd (by rw[hop];intro c;simp) (λw F φ a he=>?_) h;have hargs:=rels_map he c.args.toList;have hv:=he f';rw[hfv]at hv;simp only[VRel]at hv;obtain⟨fs,cs,hvf,h1,h2⟩:=hv;refine⟨fs++c.args.toList.map a.eval++cs,?_,(h1.append hargs).append h2⟩;unfold execOp;simp only[hop,Sem.run_bind,resolve,hcal,hvf,Deferred.ofValue,Sem.run_pure,Result.andThen_ok,invoke];rw[hent];congr 2;apply Array.ext';simp
theorem awpo_panic[Adr]{i:Nat}{o:Oper}{rest:List Nat}{x:Operand}{t:TypeId}{a:AV}{u:Value}(hi:ops[i]?=some o)(hop:o.op=.panic x)(hw:wants nt ops o (frGet s.fr)=true)(hx:evalO (frGet s.fr) x=.iface t a)(hc:conc (.iface t a)=some u)(h:∀v,PanOf (.iface t a) v->K (.panic (chainOf v)) s):AWPO P nt ops (i::rest) K s:=by
 intro cx w0 w F φ act hf Q hQ;rw[wpOpsIn_cons];unfold wpOpIn;simp only[hi];rw[if_pos (wanted_of hf hw)];refine⟨λ_ _=>trivial,?_⟩;have hv:=eval_rel hf.tmps x;rw[hx]at hv;have hp:=PanOf.of hc hv;simp only[VRel]at hv;obtain⟨y,hy,-⟩:=hv;rw[show(fen cx.r).round=cx.r from rfl,Oper.semAt_eq cx.r _ _ (by rw[hop];intro c;simp)];have hrun:(execOp act.eval o).run P w=.halt (.panic (act.eval x)) w:=by unfold execOp;simp only[hop,Instr.panic,hy];rfl
 rw[hrun,Oper.uponIn_panic];exact hQ _ _ _ s φ F hf (GrowW.refl _ _ _ _) (h _ hp)
end
end Go.AM
end
section
set_option linter.unusedSimpArgs false
set_option linter.unusedVariables false
namespace Go
variable{P:Program}{F:Fence}{n:Nat}
theorem step_deferX{fr:Frame}{cs:List Frame}{w w':World}{d:Deferred}{ds:List Deferred}{b:Builtin}{ts:Array TypeId}{t:TypeId}{ks:Array Bool}{v:Value}(hm:fr.mode≠.run)(hd:fr.defers=d::ds)(ht:d.target=.builtin b ts t ks)(hi:(invoke d.target d.args).run P w=.ok (.value v) w'):step P (lone fr cs w)=.next (lone {fr with defers:=ds} cs w'):=by obtain⟨tg,a⟩:=d;simp only at ht hi;subst ht;refine step_lone_go ?_;cases hmode:fr.mode with|run=>exact absurd hmode hm|returning=>simp[stepG,unwind,callDeferred,hmode,hd,hi,Sem.runT_eq,GStep.bare_after]|panicking ch=>simp[stepG,unwind,callDeferred,hmode,hd,hi,Sem.runT_eq,GStep.bare_after]
def LeavesX(F:Fence)(n:Nat)(P:Program)(fn:Func)(tmps:Array Value)(R:Ending->World->Prop):List Deferred->FrameMode->World->Prop|[],u,w=>LeavesIn F n P fn tmps R [] u w|d::ds,u,w=>u≠.run/\((∃r w',d.target=.collected r/\(Instr.takeDeferred r).run P w=.ok [] w'/\LeavesX F n P fn tmps R ds u w')\/((F.depth.isSome=true->1<=n)/\ ∃fv cap f args,d.target=.fn fv cap/\(invoke d.target d.args).run P w=.ok (.enter f args) w/\(∀g,d.target.leads P w d.args=some g->F.fn g)/\CallsDIn F (n-1) P f args u w λ |.returned _,u',w'=>LeavesX F n P fn tmps R ds (settle u') w'|.panicked chain,u',w'=>LeavesX F n P fn tmps R ds (raised u' chain) w'|.outgrown,_,w'=>R .outgrown w')\/(∃b ts t ks v w',d.target=.builtin b ts t ks/\(invoke d.target d.args).run P w=.ok (.value v) w'/\LeavesX F n P fn tmps R ds u w'))
theorem leaves_stepsX{fn:Func}{tmps:Array Value}{R:Ending->World->Prop}:∀(ds:List Deferred)(u:FrameMode)(w:World)(fr:Frame)(cs:List Frame),fr.mode=u->fr.defers=ds->fr.tmps=tmps->P.funcs[fr.fn]?=some fn->fr.kind=.normal->F.fn fr.fn->F.room (cs.length+1+n)->LeavesX F n P fn tmps R ds u w->∃e w' fr',R e w'/\ComesIn (Machine.fenced P F) P (lone fr cs w) (lone fr' cs w') e/\fr'.fn=fr.fn/\fr'.leaving P w' e:=by
 intro ds
 induction ds with
  |nil=>exact λu w fr cs hu hd ht hf hk hb hroom h=>leaves_stepsIn [] u w fr cs hu hd ht hf hk hb hroom h
  |cons d ds ih=>
   intro u w fr cs hu hd ht hf hk hb hroom h;obtain⟨hrun,h⟩:=h;rcases h with⟨r,w',htar,htake,hrest⟩|⟨hn,fv,cap,f,args,htar,hinv,hlead,hFf,hcall⟩|⟨b,ts,t,ks,v,w',htar,hinv,hrest⟩;.have h1:=step_collected (cs:=cs) (hu▸hrun) hd htar htake;have i1:(lone fr cs w).fenced P F:=fenced_out hb hroom (hu▸hrun) hd (λg hg=>by rw[htar]at hg;simp[Target.leads]at hg);obtain⟨e',w'',fr',hR',hs',hfn',hl'⟩:=ih u w' {fr with defers:=[]++ds} cs hu rfl ht hf hk hb hroom hrest;exact⟨e',w'',fr',hR',ComesIn.of_steps (.one i1 h1) hs',hfn',hl'⟩
   .have h1:=step_defer (cs:=cs) (hu▸hrun) hd htar hinv;have i1:(lone fr cs w).fenced P F:=fenced_out hb hroom (hu▸hrun) hd hlead;have hroom':F.room (({fr with defers:=ds}::cs).length+1+(n-1)):=Fence.room_enter hroom hn;obtain⟨e,u',w',frX,hR,hsteps,hkX,hfX,hgo⟩:=hcall {fr with defers:=ds} cs hu hroom';cases e with|outgrown=>exact⟨.outgrown,w',fr,hR,Outgrown.of_steps (.one h1) hsteps,rfl,trivial⟩|returned v=>have i2:(lone frX ({{fr with defers:=ds}with mode:=u'}::cs) w').fenced P F:=fenced_going (n:=n-1) (hfX▸hFf) hroom' hgo;have h2:=step_going_returned (c:={{fr with defers:=ds}with mode:=u'}) (cs:=cs) hkX hgo;obtain⟨e',w'',fr',hR',hs',hfn',hl'⟩:=ih (settle u') w' {{{fr with defers:=ds}with mode:=u'}with mode:=settle u'} cs rfl rfl ht hf hk hb hroom hR;exact⟨e',w'',fr',hR',ComesIn.of_steps (.head i1 h1 (StepsIn.trans hsteps (.one i2 h2))) hs',hfn',hl'⟩|panicked chain=>have i2:(lone frX ({{fr with defers:=ds}with mode:=u'}::cs) w').fenced P F:=fenced_going (n:=n-1) (hfX▸hFf) hroom' hgo;have h2:=step_going_panicked (c:={{fr with defers:=ds}with mode:=u'}) (cs:=cs) hgo;obtain⟨e',w'',fr',hR',hs',hfn',hl'⟩:=ih (raised u' chain) w' {{{fr with defers:=ds}with mode:=u'}with mode:=raised u' chain} cs rfl rfl ht hf hk hb hroom hR;exact⟨e',w'',fr',hR',ComesIn.of_steps (.head i1 h1 (StepsIn.trans hsteps (.one i2 h2))) hs',hfn',hl'⟩
   .have h1:=step_deferX (cs:=cs) (hu▸hrun) hd htar hinv;have i1:(lone fr cs w).fenced P F:=fenced_out hb hroom (hu▸hrun) hd (λg hg=>by rw[htar]at hg;simp[Target.leads]at hg);obtain⟨e',w'',fr',hR',hs',hfn',hl'⟩:=ih u w' {fr with defers:=ds} cs hu rfl ht hf hk hb hroom hrest;exact⟨e',w'',fr',hR',ComesIn.of_steps (.one i1 h1) hs',hfn',hl'⟩
def bodyPostX(F:Fence)(n:Nat)(P:Program)(fn:Func)(R:Ending->World->Prop):Exit->Act->World->Prop|.normal,a,w|.ret,a,w=>LeavesX F n P fn a.tmps R a.defers .returning w|.panic chain,a,w=>LeavesX F n P fn a.tmps R a.defers (.panicking chain) w|.outgrown,_,w=>R .outgrown w|_,_,_=>False
theorem callsIn_of_wp_X{f:FuncId}{fn:Func}{c:Code}{args:Array Value}{w:World}{R:Ending->World->Prop}(hf:P.funcs[f]?=some fn)(hb:fn.body=some c)(hF:F.fn f)(h:c.wpIn F n P (bodyPostX F n P fn R) {tmps:=args++Array.replicate (fn.ntmps-args.size) undef,defers:=[]} w)(hro:F.round=none:=by rfl):CallsIn F n P f args w R:=by
 refine⟨hF,λcs hr=>?_⟩;let b:Frame:={(default:Frame)with fn:=f,kind:=.normal,roundOf:=none};have henter:Frame.enter P f args .normal=b.atR {tmps:=args++Array.replicate (fn.ntmps-args.size) undef,defers:=[]} [.code c]:=by simp[Frame.enter,Frame.atR,hf,hb,b]
 obtain⟨e,a',w',hq,harr⟩:=h b [] cs hro.symm hF hr;rw[<-henter]at harr;cases e with|normal=>obtain⟨e',w'',fr',hR,hs,hfn,hl⟩:=leaves_stepsX a'.defers .returning w' {b.atR a' []with mode:=.returning} cs rfl rfl rfl hf rfl hF hr hq;exact⟨e',w'',fr',hR,ComesIn.of_steps (StepsIn.trans harr (.one (fenced_calm (fr:=b.atR a' []) hF hr rfl) (stepR_end rfl))) hs,hfn,hl⟩|ret=>obtain⟨todo,hs₀⟩:=harr.1 rfl;obtain⟨e',w'',fr',hR,hs,hfn,hl⟩:=leaves_stepsX a'.defers .returning w' {b.atR a' todo with mode:=.returning} cs rfl rfl rfl hf rfl hF hr hq;exact⟨e',w'',fr',hR,ComesIn.of_steps hs₀ hs,hfn,hl⟩|panic chain=>obtain⟨todo,hs₀⟩:=harr;obtain⟨e',w'',fr',hR,hs,hfn,hl⟩:=leaves_stepsX a'.defers (.panicking chain) w' {b.atR a' todo with mode:=.panicking chain} cs rfl rfl rfl hf rfl hF hr hq;exact⟨e',w'',fr',hR,ComesIn.of_steps hs₀ hs,hfn,hl⟩|exit id=>exact hq.elim|goto l=>exact hq.elim|outgrown=>exact⟨.outgrown,w',b,hq,harr.resolve_left (by simp[b]),rfl,trivial⟩
end Go
namespace Go.AM
open Go Go.RowKit
def OldL(w:World)(φ:Emb)(N:List Nat):Prop:=∀l,l∈N->∃k:Nat,φ.loop l=some k/\((∃rec:Loop,w.heap[k]?=some (.loop rec)/\Opened w rec.defers)\/ ∃o,w.heap[k]?=some o/\isMp o=true)
theorem Mem.old[Adr]{w0 w:World}{F:Nat->Prop}{φ:Emb}{s:St}(hm:Mem w0 w F φ s):OldL w φ (s.lp.map (·.1)):=by intro l hl;obtain⟨x0,hx0⟩:=alg_mem l _ hl;cases hm0:x0.mp with|none=>obtain⟨k,rec,q1,-,q3,-,-,-,-,-,-,q4⟩:=(hm.lps l x0 hx0).1 hm0;exact⟨k,q1,.inl ⟨rec,q3,q4⟩⟩|some m=>obtain⟨k,o,q1,-,q3,q4⟩:=((hm.lps l x0 hx0).2 m hm0).at;exact⟨k,q1,.inr ⟨o,q3,q4⟩⟩
theorem OldL.grow{w0 w w':World}{F F':Nat->Prop}{φ φ':Emb}{N:List Nat}(h:OldL w φ N)(g:GrowW w0 w F φ w' F' φ'):OldL w' φ' N:=by
 intro l hl;obtain⟨k,h1,h2⟩:=h l hl;refine⟨k,g.le.2 _ _ h1,?_⟩;rcases h2 with⟨rec,h2,h3⟩|⟨o,h2,h3⟩;.obtain⟨rec',k1,k2⟩:=g.lps k rec h2;exact .inl ⟨rec',k1,by rw[k2];exact g.opn _ h3⟩
 .exact .inr (g.mps k o h2 h3)
theorem Mem.keep[Adr]{w0 w:World}{F:Nat->Prop}{φ:Emb}{s:St}(h:Mem w0 w F φ s)(N:List Nat)(fr:List (Nat×AV)):Mem w0 w F φ ⟨fr,s.hp,s.nx,keepHp N s.lp⟩:=⟨h.heap,λl x hx=>h.lps l x (alg_keepHp _ _ _ _ hx),h.lused,h.linj⟩
section
variable{P:Program}{w0 wE w:World}{FE F:Nat->Prop}{φE φ:Emb}{s:St}{fn:Func}{nt:Nat}{tmps:Array Value}{N:List Nat}{u:FrameMode}
theorem leavesM_marks[Adr]{R:Ending->World->Prop}{tl:List Deferred}(hu:u≠.run)(hB:w0.heap.size<=wE.heap.size)(ho:OldL wE φE N)(hlp:∀l x,alg s.lp l=some x->l∈N\/ ∃m,x.mp=some m):∀(Ds:List Nat)(w:World),Mem w0 w F φ s->TRel w F φ (frGet s.fr) nt tmps->GrowW w0 wE FE φE w F φ->Ds.Nodup->(∀D,D∈Ds->wE.heap.size<=D/\Opened w D)->(∀w2,(∀b,b∉Ds->w2.heap[b]?=w.heap[b]?)->Mem w0 w2 F φ s->TRel w2 F φ (frGet s.fr) nt tmps->GrowW w0 wE FE φE w2 F φ->LeavesX (fen none) 0 P fn tmps R tl u w2)->LeavesX (fen none) 0 P fn tmps R (Ds.map markOf++tl) u w
 |[],w,hm,ht,hg,_,_,hk=>hk w (λ_ _=>rfl) hm ht hg
 |D::Ds,w,hm,ht,hg,hn,hD,hk=>by
  obtain⟨d1,d2⟩:=hD D (by simp);have hx:=Ext0.put (o':=.deferred none) hm.heap.fwk d2 rfl;have hn':=List.nodup_cons.1 hn;have hlt:∀k(o:Obj),wE.heap[k]?=some o->k≠D:=λk o hk e=>by have :k<wE.heap.size:=(Array.getElem?_eq_some_iff.1 hk).1;omega
  refine⟨hu,.inl ⟨D,w.putObj D (.deferred none),rfl,run_takeDeferred d2,?_⟩⟩;refine leavesM_marks hu hB ho hlp Ds _ (hm.put d2 (by omega) λl x k' rec hl hk' hr=>?_) ⟨ht.size,λt=>VRel.mono hx (λ_ h=>h) (Emb.le_refl _) _ _ (ht.val t),ht.glob.mono hx λ_ h=>h⟩ ?_ hn'.2 (λD' hD'=>?_) λw2 hw2 m2 t2 g2=>hk w2 (λb hb=>?_) m2 t2 g2
  .rcases hlp l x hl with hin|⟨m0,hm0⟩;rotate_left;.obtain⟨k,o,q1,-,q3,q4⟩:=((hm.lps l x hl).2 m0 hm0).at;rw[hk']at q1;cases q1;rw[hr]at q3;cases q3;cases q4
   obtain⟨k,q1,q23⟩:=ho l hin;have e:=hg.le.2 _ _ q1;rw[hk']at e;cases e;rcases q23 with⟨rec0,q2,q3⟩|⟨o2,q2,qm⟩;rotate_left;.obtain⟨o3,p1,pm⟩:=hg.mps k' o2 q2 qm;rw[hr]at p1;cases p1;cases pm
   obtain⟨rec',p1,p2⟩:=hg.lps k' rec0 q2;rw[hr]at p1;cases p1;have :rec0.defers<wE.heap.size:=(Array.getElem?_eq_some_iff.1 q3).1;omega
  .refine⟨hg.le,hg.sub,hg.new,hg.ext.trans hx hg.sub,λk hk=>?_,λk rec hk=>?_,λk o hk ho=>?_⟩;.unfold Opened;rw[World.putObj_heap_other (hlt k _ hk)];exact hg.opn k hk
   .rw[World.putObj_heap_other (hlt k _ hk)];exact hg.lps k rec hk
   .rw[World.putObj_heap_other (hlt k _ hk)];exact hg.mps k o hk ho
  .obtain⟨q1,q2⟩:=hD D' (by simp[hD']);refine⟨q1,?_⟩;unfold Opened;rw[World.putObj_heap_other (λe=>by subst e;exact hn'.1 hD')];exact q2
  .rw[hw2 b λh=>hb (by simp[h]),World.putObj_heap_other λe=>hb (by simp[e])]
end
def ModeOf[Adr]:Option AV->FrameMode->Prop|none,u=>u=.returning|some a,u=>∃v,PanOf a v/\u=.panicking (chainOf v)
def DWX[Adr](P:Program)(f:FuncId)(args:List AV)(md:Option AV)(K:Bool->St->Prop)(s:St):Prop:=Ent P f/\ ∀(w0 w:World)(F:Nat->Prop)(φ:Emb)(vs:List Value)(u:FrameMode),Mem w0 w F φ s->GOk w F->VRels w F φ args vs->ModeOf md u->CallsDIn (fen none) 0 P f ⟨vs⟩ u w λe u' w'=>∃v s' φ' F',e=.returned v/\Mem w0 w' F' φ' s'/\GrowW w0 w F φ w' F' φ'/\((u'=u/\K false s')\/((∃x,u'=.panicking [{v:=x,recovered:=true}])/\K true s'))
def AWPd[Adr](P:Program)(nt:Nat)(c:Code)(K:Exit->St->Prop)(s:St):Prop:=∀(B:Nat)(w0 w:World)(F:Nat->Prop)(φ:Emb)(a:Act),Fits ⟨none,B,[]⟩ w0 w F φ nt a s->a.defers=[]->c.wpIn (fen none) 0 P (λe a' w'=>∃s' φ' F',Fits ⟨none,B,[]⟩ w0 w' F' φ' nt a' s'/\a'.defers=[]/\GrowW w0 w F φ w' F' φ'/\K e s') a w
def AWPOd[Adr](P:Program)(nt:Nat)(ops:Array Oper)(l:List Nat)(K:Exit->St->Prop)(s:St):Prop:=∀(B:Nat)(w0 w:World)(F:Nat->Prop)(φ:Emb)(a:Act),Fits ⟨none,B,[]⟩ w0 w F φ nt a s->a.defers=[]->∀(Q:Exit->Act->World->Prop),(∀e a' w' s' φ' F',Fits ⟨none,B,[]⟩ w0 w' F' φ' nt a' s'->a'.defers=[]->GrowW w0 w F φ w' F' φ'->K e s'->Q e a' w')->wpOpsIn (fen none) 0 P ops Q l a w
section
variable{P:Program}{nt:Nat}{K:Exit->St->Prop}{s:St}{ops:Array Oper}
theorem awpd_mono[Adr]{c:Code}{K':Exit->St->Prop}(h:AWPd P nt c K s)(hk:∀e s,K e s->K' e s):AWPd P nt c K' s:=λB w0 w F φ a hf hd=>wpIn_mono (h B w0 w F φ a hf hd) λ_ _ _ ⟨s',φ',F',h1,h2,h3,h4⟩=>⟨s',φ',F',h1,h2,h3,hk _ _ h4⟩
theorem awpd_skip[Adr](h:K .normal s):AWPd P nt .skip K s:=λ_ _ _ F φ _ hf hd=>wpIn_skip ⟨s,φ,F,hf,hd,GrowW.refl _ _ _ _,h⟩
theorem awpd_exit[Adr]{id:Nat}(h:K (.exit id) s):AWPd P nt (.exit id) K s:=λ_ _ _ F φ _ hf hd=>wpIn_exit ⟨s,φ,F,hf,hd,GrowW.refl _ _ _ _,h⟩
theorem awpd_ret[Adr](h:K .ret s):AWPd P nt .ret K s:=λ_ _ _ F φ _ hf hd=>wpIn_ret ⟨s,φ,F,hf,hd,GrowW.refl _ _ _ _,h⟩
theorem awpd_seq[Adr]{x y:Code}(h:AWPd P nt x (thenK (AWPd P nt y K) K) s):AWPd P nt (.seq x y) K s:=by intro B w0 w F φ a hf hd;refine wpIn_seq (wpIn_mono (h B w0 w F φ a hf hd) ?_);rintro e a1 w1 ⟨s1,φ1,F1,h1,h2,h3,h4⟩;cases e with|normal=>refine wpIn_mono (h4 B w0 w1 F1 φ1 a1 h1 h2) ?_;rintro e a2 w2 ⟨s2,φ2,F2,k1,k2,k3,k4⟩;exact⟨s2,φ2,F2,k1,k2,h3.trans k3,k4⟩|exit id=>exact⟨s1,φ1,F1,h1,h2,h3,h4⟩|goto l=>exact⟨s1,φ1,F1,h1,h2,h3,h4⟩|ret=>exact⟨s1,φ1,F1,h1,h2,h3,h4⟩|panic c=>exact⟨s1,φ1,F1,h1,h2,h3,h4⟩|outgrown=>exact⟨s1,φ1,F1,h1,h2,h3,h4⟩
theorem awpd_block[Adr]{id:Nat}{c:Code}(h:AWPd P nt c (blockK id K) s):AWPd P nt (.block id c) K s:=by
 intro B w0 w F φ a hf hd;refine wpIn_block (wpIn_mono (h B w0 w F φ a hf hd) ?_);rintro e a1 w1 ⟨s1,φ1,F1,h1,h2,h3,h4⟩
 cases e with
  |exit i=>
   simp only[Exit.inBlock,blockK]at h4⊢;split;.rename_i e;rw[if_pos e]at h4;exact⟨s1,φ1,F1,h1,h2,h3,h4⟩
   .rename_i e;rw[if_neg e]at h4;exact⟨s1,φ1,F1,h1,h2,h3,h4⟩
  |normal=>exact⟨s1,φ1,F1,h1,h2,h3,h4⟩
  |goto l=>exact⟨s1,φ1,F1,h1,h2,h3,h4⟩
  |ret=>exact⟨s1,φ1,F1,h1,h2,h3,h4⟩
  |panic c=>exact⟨s1,φ1,F1,h1,h2,h3,h4⟩
  |outgrown=>exact⟨s1,φ1,F1,h1,h2,h3,h4⟩
theorem awpd_cond[Adr]{c:Operand}{x y:Code}{b:Bool}(hc:evalO (frGet s.fr) c=.bool b)(h:AWPd P nt (if b then x else y) K s):AWPd P nt (.cond c x y) K s:=by intro B w0 w F φ a hf hd;have hv:=eval_rel hf.tmps c;rw[hc]at hv;simp only[VRel]at hv;exact wpIn_cond hv (h B w0 w F φ a hf hd)
theorem awpd_ops[Adr]{id:Nat}(h:AWPOd P nt ops (List.range ops.size) K s):AWPd P nt (.region id ops false) K s:=by intro B w0 w F φ a hf hd;exact wpIn_region (h B w0 w F φ a hf hd _ λe a' w' s' φ' F' h1 h2 h3 h4=>⟨s',φ',F',h1,h2,h3,h4⟩)
theorem awpod_nil[Adr](h:K .normal s):AWPOd P nt ops [] K s:=λ_ _ _ F φ _ hf hd _ hQ=>hQ _ _ _ s φ F hf hd (GrowW.refl _ _ _ _) h
theorem awpod_op[Adr]{ε:Bool}{i:Nat}{o:Oper}{rest:List Nat}{ans:Option (AV×List ABlk)}{se:SE}(hi:ops[i]?=some o)(hs:stepF ε P nt ops o ans s.nx (frGet s.fr) (alg s.hp)=some se)(hob:oblsHold P [se])(h:AWPOd P nt ops rest K ⟨frPut s.fr se.d se.v,hsets s.hp se.wr,s.nx+8,s.lp⟩):AWPOd P nt ops (i::rest) K s:=by intro B w0 w F φ a hf hd Q hQ;rw[wpOpsIn_cons];refine stepF_ok (U':=λb=>b<s.nx+8) hf.mem.heap hf.tmps rfl hi hs (λob e=>hob.get se (by simp) ob e) (λm hm=>by omega) (λb hb=>by omega) (λm hm=>by omega) none 0 ?_;intro a' w' φ' F' h1 h2 h3 g;refine h B w0 w' F' φ' a' ⟨hf.mem.step g (by rw[alg_hsets];exact h1) rfl (by simp),by rw[frGet_put];exact h2,hf.env.mono g.weak h3⟩ (h3.trans hd) Q λe a2 w2 s2 φ2 F2 k1 k2 k3 k4=>hQ e a2 w2 s2 φ2 F2 k1 k2 (g.weak.trans k3) k4
theorem awpod_call[Adr]{i:Nat}{o:Oper}{rest:List Nat}{f:Operand}{args:List Operand}{fid:FuncId}{first cap:List AV}(hi:ops[i]?=some o)(hc:isCall o.op=some (f,args))(hw:wants nt ops o (frGet s.fr)=true)(hd:dstOk nt o=true)(hfv:evalO (frGet s.fr) f=.fn fid first cap)(h:EWP P fid (first++args.map (evalO (frGet s.fr))++cap) (λr s'=>AWPOd P nt ops rest K ⟨frPut s.fr o.dst r,s'.hp,s'.nx,s'.lp⟩) s):AWPOd P nt ops (i::rest) K s:=by
 intro B w0 w F φ a hf hdf Q hQ;rw[wpOpsIn_cons];unfold wpOpIn;simp only[hi];rw[if_pos (wanted_of hf hw)];refine⟨λ_ _=>trivial,?_⟩;unfold isCall at hc;split at hc
 .rename_i c hop;split at hc
  .rename_i f' hcal;simp only[Option.some.injEq,Prod.mk.injEq]at hc;obtain⟨rfl,rfl⟩:=hc;have hargs:=rels_map (eval_rel hf.tmps) c.args.toList;have hv:=eval_rel hf.tmps f';rw[hfv]at hv;simp only[VRel]at hv;obtain⟨fs,cs,hvf,h1,h2⟩:=hv;obtain⟨hent,hcalls⟩:=h;rw[show(fen none).round=none from rfl,Oper.semAt_eq none _ _ (by rw[hop];intro c;simp)];have hrun:(execOp a.eval o).run P w=.ok (.enter fid ⟨fs++c.args.toList.map a.eval++cs⟩) w:=by unfold execOp;simp only[hop,Sem.run_bind,resolve,hcal,hvf,Deferred.ofValue,Sem.run_pure,Result.andThen_ok,invoke];rw[hent];congr 2;apply Array.ext';simp
   rw[hrun,Oper.uponIn_enter];refine⟨λh=>by simp[fen,Fence.wide]at h,(calls_fen (hcalls w0 w F φ _ hf.mem hf.tmps.glob ((h1.append hargs).append h2)) none _).mono ?_⟩;rintro en w' ⟨v,r,s',φ',F',rfl,k1,k2,k3,k4⟩;refine k4 B w0 w' F' φ' _ ⟨⟨k1.heap,k1.lps,k1.lused,k1.linj⟩,?_,hf.env.mono k2 (put_defers _ _ _)⟩ ((put_defers _ _ _).trans hdf) Q λe a2 w2 s2 φ2 F2 g1 g2 g3 g4=>hQ e a2 w2 s2 φ2 F2 g1 g2 (k2.trans g3) g4;rw[frGet_put];exact(hf.tmps.monoW k2).put (ds_lt hd) k3
  .cases hc
 .cases hc
end
section
variable{P:Program}{f:FuncId}{fn:Func}{args:List AV}{s:St}{K:Bool->St->Prop}
theorem fits_enter[Adr]{w0 w:World}{F:Nat->Prop}{φ:Emb}{vs:List Value}(hm:Mem w0 w F φ s)(hg:GOk w F)(hv:VRels w F φ args vs)(hl:args.length<=fn.ntmps):Fits ⟨none,w.heap.size,[]⟩ w0 w F φ fn.ntmps {tmps:=⟨vs⟩++Array.replicate (fn.ntmps-(⟨vs⟩:Array Value).size) undef,defers:=[]} ⟨enumFr 0 args,s.hp,s.nx,s.lp⟩:=⟨⟨hm.heap,hm.lps,hm.lused,hm.linj⟩,enum_rel hg hv hl,⟨⟨[],rfl,List.nodup_nil,λD hD=>by simp at hD⟩,λl0 hl0=>by simp at hl0,hm.heap.below.size,Nat.le_refl _⟩⟩
def endK(P:Program)(rs:List ResultVar)(K:St->Prop):Exit->St->Prop|.normal,s=>(∃vs,resS P s rs=some vs)/\K s|.ret,s=>(∃vs,resS P s rs=some vs)/\K s|_,_=>False
theorem dwx_of[Adr]{c:Code}{md:Option AV}(hf:P.funcs[f]?=some fn)(hb:fn.body=some c)(hn:fn.name≠ "runtime.NumGoroutine")(hl:args.length<=fn.ntmps)(h:AWPd P fn.ntmps c (endK P fn.results.toList (K false)) ⟨enumFr 0 args,s.hp,s.nx,s.lp⟩):DWX P f args md K s:=by
 refine⟨λas w=>by simp[callFunc,hf,hn,hb],λw0 w F φ vs u hm hg hv hu=>?_⟩;refine callsDIn_of_wpSIn hf hb trivial λc₀ cs hc=>wpSIn_of_wpIn rfl (wpIn_mono (h _ w0 w F φ _ (fits_enter hm hg hv hl) rfl) ?_);rintro e a' w' ⟨s',φ',F',k1,k2,k3,k4⟩;have fin:(∃vs,resS P s' fn.results.toList=some vs)/\K false s'->a'.defers=[]/\ ∃u',c₀::cs={c₀ with mode:=u'}::cs/\ ∃v,(results fn a'.tmps).run P w'=.ok v w'/\ ∃v' s'' φ'' F'',Ending.returned v=.returned v'/\Mem w0 w' F'' φ'' s''/\GrowW w0 w F φ w' F'' φ''/\((u'=u/\K false s'')\/((∃x,u'=.panicking [{v:=x,recovered:=true}])/\K true s'')):=by rintro⟨⟨vs',g1⟩,g2⟩;obtain⟨x,h1,h2⟩:=results_ok (P:=P) k1.mem k1.tmps g1;exact⟨k2,c₀.mode,rfl,x,h1,x,s',φ',F',rfl,k1.mem,k3,.inl ⟨hc,g2⟩⟩
 cases e with|normal=>exact fin k4|ret=>exact fin k4|exit id=>exact k4.elim|goto l=>exact k4.elim|panic ch=>exact k4.elim|outgrown=>exact k4.elim
theorem dwx_rec[Adr]{id d:Nat}{ty ty2:TypeId}{ops:Array Oper}{o:Oper}{y:Code}{md:Option AV}{ats:Array TypeId}(hf:P.funcs[f]?=some fn)(hb:fn.body=some (.seq (.region id ops false) y))(hn:fn.name≠ "runtime.NumGoroutine")(hl:args.length<=fn.ntmps)(hs:ops.size=1)(h0:ops[0]?=some o)(hop:o.op=.call {callee:=.builtin .recover,args:=#[],argTypes:=ats})(hg0:o.guard=none)(hd:o.dst=some d)(hdn:d<fn.ntmps)(h:AWPd P fn.ntmps y (endK P fn.results.toList (K md.isSome)) ⟨(d,md.getD .nili)::enumFr 0 args,s.hp,s.nx,s.lp⟩):DWX P f args md K s:=by
 refine⟨λas w=>by simp[callFunc,hf,hn,hb],λw0 w F φ vs u hm hg hv hu=>?_⟩;refine callsDIn_of_wpSIn hf hb trivial λc₀ cs hc=>wpSIn_seq (wpSIn_region ?_);have hfit:=fits_enter (fn:=fn) hm hg hv hl;obtain⟨a,ha⟩:∃a:Act,a={tmps:=⟨vs⟩++Array.replicate (fn.ntmps-(⟨vs⟩:Array Value).size) undef,defers:=[]}:=⟨_,rfl⟩;rw[<-ha]at hfit⊢;have hrun:(execOp a.eval o).run P w=.ok .recover w:=by unfold execOp;simp only[hop,resolve,Sem.run_bind,Sem.run_pure,Result.andThen_ok,invoke];rfl
 rw[hs,show List.range 1=[0]from rfl];simp only[wpOpsSIn,h0];refine⟨λ_ _=>trivial,?_⟩;rw[if_pos (by simp[Region.wanted,hg0]),hrun];simp only
 have fin:∀(v:Value)(u2:FrameMode),VRel w F φ (md.getD .nili) v->((u2=u/\md.isSome=false)\/((∃x,u2=.panicking [{v:=x,recovered:=true}])/\md.isSome=true))->y.wpSIn (fen none) 0 P (bodyPostS P fn c₀ cs λe u' w'=>∃v s' φ' F',e=.returned v/\Mem w0 w' F' φ' s'/\GrowW w0 w F φ w' F' φ'/\((u'=u/\K false s')\/((∃x,u'=.panicking [{v:=x,recovered:=true}])/\K true s'))) (a.put o.dst v) ({c₀ with mode:=u2}::cs) w:=by
  intro v u2 hvv hu2;refine wpSIn_of_wpIn rfl (wpIn_mono (h w.heap.size w0 w F φ _ ⟨⟨hm.heap,hm.lps,hm.lused,hm.linj⟩,?_,hfit.env.mono (GrowW.refl w0 w F φ) (put_defers _ _ _)⟩ ((put_defers _ _ _).trans (by rw[ha]))) ?_);.have :=hfit.tmps.put (d:=some d) (a:=a) (λt e=>by cases e;exact hdn) hvv;rw[<-frGet_put]at this;rw[hd];exact this
  .rintro e a' w' ⟨s',φ',F',k1,k2,k3,k4⟩
   have fin:(∃vs,resS P s' fn.results.toList=some vs)/\K md.isSome s'->a'.defers=[]/\ ∃u',{c₀ with mode:=u2}::cs={c₀ with mode:=u'}::cs/\ ∃v,(results fn a'.tmps).run P w'=.ok v w'/\ ∃v' s'' φ'' F'',Ending.returned v=.returned v'/\Mem w0 w' F'' φ'' s''/\GrowW w0 w F φ w' F'' φ''/\((u'=u/\K false s'')\/((∃x,u'=.panicking [{v:=x,recovered:=true}])/\K true s'')):=by
    rintro⟨⟨vs',g1⟩,g2⟩;obtain⟨x,h1,h2⟩:=results_ok (P:=P) k1.mem k1.tmps g1;refine⟨k2,u2,rfl,x,h1,x,s',φ',F',rfl,k1.mem,k3,?_⟩;rcases hu2 with⟨e1,e2⟩|⟨e1,e2⟩;.rw[e2]at g2;exact .inl ⟨e1,g2⟩
    .rw[e2]at g2;exact .inr ⟨e1,g2⟩
   cases e with|normal=>exact fin k4|ret=>exact fin k4|exit id=>exact k4.elim|goto l=>exact k4.elim|panic ch=>exact k4.elim|outgrown=>exact k4.elim
 cases md with
  |none=>
   simp only[ModeOf]at hu;have hr:recoverD (c₀::cs)=none:=by simp[recoverD,hc,hu]
   rw[hr];simp only;have :=fin .nilIface u (by simp only[Option.getD_none,VRel]) (.inl ⟨rfl,rfl⟩);rw[show({c₀ with mode:=u}:Frame)=c₀ by rw[<-hc]]at this;exact this
  |some b=>
   obtain⟨v,hp,hu⟩:=hu;have hr:recoverD (c₀::cs)=some (v,{c₀ with mode:=.panicking [{v,recovered:=true}]}::cs):=by simp[recoverD,hc,hu,chainOf]
   rw[hr];exact fin v _ (by simpa using hp.2 w F φ) (.inr ⟨⟨v,rfl⟩,rfl⟩)
end
end Go.AM
end
