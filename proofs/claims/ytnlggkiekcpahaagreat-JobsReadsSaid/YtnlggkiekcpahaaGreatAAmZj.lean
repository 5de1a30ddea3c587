/- A text of the proof. -/
import Derived.Test.YtnlggkiekcpahaaGreatAAmZi
set_option linter.unusedSimpArgs false
set_option linter.unusedVariables false
namespace Go
variable {P : Program} {F : Fence} {n : Nat}
theorem zh6 {fr : Frame} {cs : List Frame} {w w' : World} {d : Deferred} {ds : List Deferred} {b : Builtin} {ts : Array TypeId} {t : TypeId} {ks : Array Bool} {v : Value}
    (hm : fr.mode = .returning) (hd : fr.defers = d::ds) (ht : d.target = .builtin b ts t ks) (hi : (invoke d.target d.args).run P w = .ok (.value v) w') :
    step P (lone fr cs w) = .next (lone { fr with defers:=ds } cs w'):=by
  obtain ⟨tg,a⟩:=d
  simp only at ht hi
  subst ht
  refine step_lone_go ?_
  simp [stepG,unwind,callDeferred,hm,hd,hi,Sem.runT_eq,GStep.bare_after]
def iJ (P : Program) (fn : Func) (tmps : Array Value) (R : Ending → World → Prop) : List Deferred → World → Prop
  | [],w=>∃ v,(results fn tmps).run P w = .ok v w ∧ R (.returned v) w
  | d :: ds, w => (∃ r w', d.target = .collected r ∧ (Instr.takeDeferred r).run P w = .ok [] w' ∧ iJ P fn tmps R ds w') ∨
      (∃ b ts t ks v w',d.target = .builtin b ts t ks ∧ (invoke d.target d.args).run P w = .ok (.value v) w' ∧ iJ P fn tmps R ds w')
theorem zdm {fn : Func} {tmps : Array Value} {R : Ending → World → Prop} : ∀ (ds : List Deferred) (w : World) (fr : Frame)
    (cs : List Frame),fr.mode = .returning → fr.defers = ds → fr.tmps = tmps → P.funcs[fr.fn]? = some fn → fr.kind = .normal → F.fn fr.fn → F.room (cs.length + 1 + n) → iJ P fn tmps R ds w →
    ∃ e w' fr',R e w' ∧ ComesIn (Machine.fenced P F) P (lone fr cs w) (lone fr' cs w') e ∧ fr'.fn = fr.fn ∧ fr'.leaving P w' e:=by
  intro ds
  induction ds with
  | nil =>
    intro w fr cs hu hd ht hf hk _ _ h
    obtain ⟨v,hr,hR⟩:=h
    exact ⟨.returned v,w,fr,hR,StepsIn.refl _,rfl,hu,hd,hk,fn,hf,ht ▸ hr⟩
  | cons d ds ih =>
    intro w fr cs hu hd ht hf hk hb hroom h
    rcases h with ⟨r,w',htar,htake,hrest⟩ | ⟨b,ts,t,ks,v,w',htar,hinv,hrest⟩
    · have h1:=step_collected (cs:=cs) (by rw [hu]; simp) hd htar htake
      have i1 : (lone fr cs w).fenced P F:=fenced_out hb hroom (by rw [hu]; simp) hd (fun g hg=>by rw [htar] at hg; simp [Target.leads] at hg)
      obtain ⟨e',w'',fr',hR',hs',hfn',hl'⟩:=ih w' { fr with defers:=[]++ds } cs hu rfl ht hf hk hb hroom hrest
      exact ⟨e',w'',fr',hR',ComesIn.of_steps (.one i1 h1) hs',hfn',hl'⟩
    · have h1:=zh6 (cs:=cs) hu hd htar hinv
      have i1 : (lone fr cs w).fenced P F:=fenced_out hb hroom (by rw [hu]; simp) hd (fun g hg=>by rw [htar] at hg; simp [Target.leads] at hg)
      obtain ⟨e',w'',fr',hR',hs',hfn',hl'⟩:=ih w' { fr with defers:=ds } cs hu rfl ht hf hk hb hroom hrest
      exact ⟨e',w'',fr',hR',ComesIn.of_steps (.one i1 h1) hs',hfn',hl'⟩
theorem iJ.mono {fn : Func} {tmps : Array Value} {R R' : Ending → World → Prop} (hR : ∀ e w,R e w → R' e w) : ∀ (ds : List Deferred) (w : World),iJ P fn tmps R ds w → iJ P fn tmps R' ds w
  | [],w,⟨v,h1,h2⟩=>⟨v,h1,hR _ _ h2⟩
  | d::ds,w,.inl ⟨r,w',h1,h2,h3⟩=>.inl ⟨r,w',h1,h2,iJ.mono hR ds w' h3⟩
  | d::ds,w,.inr ⟨b,ts,t,ks,v,w',h1,h2,h3⟩=>.inr ⟨b,ts,t,ks,v,w',h1,h2,iJ.mono hR ds w' h3⟩
def zdz (P : Program) (fn : Func) (R : Ending → World → Prop) : Exit → Act → World → Prop:=fun e a w=>(e = .normal ∨ e = .ret) ∧ iJ P fn a.tmps R a.defers w
theorem zjZ {f : FuncId} {fn : Func} {c : Code} {args : Array Value} {w : World} {R : Ending → World → Prop}
    (hf : P.funcs[f]? = some fn) (hb : fn.body = some c) (hF : F.fn f)
    (h : c.wpIn F n P (zdz P fn R) { tmps:=args++Array.replicate (fn.ntmps - args.size) undef,defers:=[] } w) (hro : F.round = none:=by rfl) : CallsIn F n P f args w R:=by
  refine ⟨hF,fun cs hr=>?_⟩
  let b : Frame:={ (default : Frame) with fn:=f,kind:=.normal,roundOf:=none }
  have henter : Frame.enter P f args .normal =
      b.atR { tmps:=args++Array.replicate (fn.ntmps - args.size) undef,defers:=[] } [.code c]:=by
    simp [Frame.enter,Frame.atR,hf,hb,b]
  obtain ⟨e,a',w',hq,harr⟩:=h b [] cs hro.symm hF hr
  rw [← henter] at harr
  obtain ⟨he,hq⟩:=hq
  rcases he with rfl | rfl
  · obtain ⟨e',w'',fr',hR,hs,hfn,hl⟩:=zdm a'.defers w' { b.atR a' [] with mode:=.returning } cs rfl rfl rfl hf rfl hF hr hq
    exact ⟨e',w'',fr',hR,ComesIn.of_steps (StepsIn.trans harr (.one (fenced_calm (fr:=b.atR a' []) hF hr rfl) (stepR_end rfl))) hs,hfn,hl⟩
  · obtain ⟨todo,hs₀⟩:=harr.1 rfl
    obtain ⟨e',w'',fr',hR,hs,hfn,hl⟩:=zdm a'.defers w' { b.atR a' todo with mode:=.returning } cs rfl rfl rfl hf rfl hF hr hq
    exact ⟨e',w'',fr',hR,ComesIn.of_steps hs₀ hs,hfn,hl⟩
end Go
namespace Go.AM
open Go Go.RowKit
section
variable {P : Program} {w0 wE w : World} {FE F : Nat → Prop} {φE φ : kA} {s : St} {fn : Func} {nt : Nat} {tmps : Array Value}
theorem wZ {R : Ending → World → Prop} {tl : List Deferred} (hB : w0.heap.size ≤ wE.heap.size) (hlp : ∀ l x, wA s.lp l = some x → x.mp ≠ none) : ∀ (Ds : List Nat) (w : World), qD w0 w F φ s → nE w F φ (qB s.fr) nt tmps → fD w0 wE FE φE w F φ → Ds.Nodup → (∀ D, D ∈ Ds → wE.heap.size ≤ D ∧ zE w D) →
      (∀ w2,(∀ b,b ∉ Ds → w2.heap[b]? = w.heap[b]?) → qD w0 w2 F φ s → nE w2 F φ (qB s.fr) nt tmps → fD w0 wE FE φE w2 F φ → iJ P fn tmps R tl w2) → iJ P fn tmps R (Ds.map jT++tl) w
  | [],w,hm,ht,hg,_,_,hk=>hk w (fun _ _=>rfl) hm ht hg
  | D::Ds,w,hm,ht,hg,hn,hD,hk=>by
    obtain ⟨d1,d2⟩:=hD D (by simp)
    have hx:=Ext0.put (o':=.deferred none) hm.heap.fwk d2 rfl
    have hn':=List.nodup_cons.1 hn
    have hlt : ∀ k (o : Obj),wE.heap[k]? = some o → k ≠ D:=fun k o hk e=>by
      have : k < wE.heap.size:=(Array.getElem?_eq_some_iff.1 hk).1
      omega
    refine .inl ⟨D,w.putObj D (.deferred none),rfl,run_takeDeferred d2,?_⟩
    refine wZ hB hlp Ds _ (hm.put d2 (by omega) fun l x k' rec hl hk' hr=>?_) ⟨ht.size,fun t=>fA.mono hx (fun _ h=>h) (kA.le_refl _) _ _ (ht.val t)⟩ ?_ hn'.2 (fun D' hD'=>?_) fun w2 hw2 m2 t2 g2=>hk w2 (fun b hb=>?_) m2 t2 g2
    · exfalso
      cases hmp : x.mp with
      | none=>exact hlp l x hl hmp
      | some m =>
        obtain ⟨k0,es,c,q1,-,q3,-⟩:=(hm.lps l x hl).2 m hmp
        rw [hk'] at q1; cases q1
        rw [hr] at q3; cases q3
    · refine ⟨hg.le,hg.sub,hg.new,hg.ext.trans hx hg.sub,fun k hk=>?_,fun k rec hk=>?_,fun k es c hk=>?_⟩
      · unfold zE
        rw [World.putObj_heap_other (hlt k _ hk)]; exact hg.opn k hk
      · rw [World.putObj_heap_other (hlt k _ hk)]; exact hg.lps k rec hk
      · rw [World.putObj_heap_other (hlt k _ hk)]; exact hg.mps k es c hk
    · obtain ⟨q1,q2⟩:=hD D' (by simp [hD'])
      refine ⟨q1,?_⟩
      unfold zE
      rw [World.putObj_heap_other (fun e=>by subst e; exact hn'.1 hD')]; exact q2
    · rw [hw2 b fun h=>hb (by simp [h]),World.putObj_heap_other fun e=>hb (by simp [e])]
end
def fQ (P : Program) (fn : Func) (c : Code) (K : AV → St → Prop) (s : St) : Prop :=
  ∀ (w0 wE w : World) (FE F : Nat → Prop) (φE φ : kA) (a : Act),fD w0 wE FE φE w F φ → tE ⟨none,wE.heap.size,[]⟩ w0 w F φ fn.ntmps a s →
    c.wpIn (aE none) 0 P (zdz P fn fun en w2=>∃ v r s' φ' F',en = .returned v ∧ qD w0 w2 F' φ' s' ∧ fD w0 wE FE φE w2 F' φ' ∧ fA w2 F' φ' r v ∧ K r s') a w
section
variable {P : Program} {fn : Func} {K : AV → St → Prop} {s : St}
theorem zdK {α : Type} (l : List (Nat × α)) : fE [] l = []:=by
  unfold fE
  exact List.filter_eq_nil_iff.2 fun p _=>by simp
theorem zpj {w0 wE w : World} {FE F : Nat → Prop} {φE φ : kA} {a : Act} {s : St} (hg : fD w0 wE FE φE w F φ) (hf : tE ⟨none, wE.heap.size, []⟩ w0 w F φ fn.ntmps a s) (h : ∃ vs, jE P s fn.results.toList = some vs ∧ K (qH vs) { s with lp := fE [] s.lp }) :
    iJ P fn a.tmps (fun en w2=>∃ v r s' φ' F',en = .returned v ∧ qD w0 w2 F' φ' s' ∧ fD w0 wE FE φE w2 F' φ' ∧ fA w2 F' φ' r v ∧ K r s') a.defers w:=by
  obtain ⟨vs,g1,g2⟩:=h
  rw [zdK] at g2
  obtain ⟨Ds,d1,d2,d3⟩:=hf.env.dfr
  rw [d1]
  refine wZ (s:={ s with lp:=[] }) (Nat.le_trans hf.env.lo.1 (Nat.le_refl _)) (fun l x hx=>by simp [wA] at hx) Ds w ⟨hf.mem.heap,fun l x hx=>by simp [wA] at hx,hf.mem.lused,hf.mem.linj⟩ hf.tmps hg d2 d3 fun w2 _ m2 t2 g3=>?_
  obtain ⟨x,h1,h2⟩:=zbj (P:=P) m2 t2 (show jE P { s with lp:=[] } fn.results.toList = some vs by rw [eW]; exact g1)
  exact ⟨x,h1,x,qH vs,_,φ,F,rfl,m2,g3,h2,g2⟩
theorem zaD {x y : Code} (h : wB P fn.ntmps x (tN (fQ P fn y K) (bP P fn.results.toList [] K)) s) : fQ P fn (.seq x y) K s:=by
  intro w0 wE w FE F φE φ a hg hf
  refine wpIn_seq (wpIn_mono (h _ w0 w F φ a hf) ?_)
  rintro e a' w' ⟨s',φ',F',k1,k2,k3⟩
  cases e with
  | normal=>exact k3 w0 wE w' FE F' φE φ' a' (hg.trans k2) k1
  | ret=>exact ⟨.inr rfl,zpj (hg.trans k2) k1 k3⟩
  | exit id=>exact k3.elim
  | goto l=>exact k3.elim
  | panic ch=>exact k3.elim
  | outgrown=>exact k3.elim
theorem zna {c : Code} (h : fQ P fn c K s) : fQ P fn (.scope c) K s:=by
  intro w0 wE w FE F φE φ a hg hf
  refine zeF (wpIn_mono (h w0 wE w FE F φE φ a hg hf) ?_)
  rintro e a' w' ⟨he,h2⟩
  rcases he with rfl | rfl
  · exact ⟨.inl rfl,h2⟩
  · exact ⟨.inr rfl,h2⟩
theorem fwp_re {c : Code} {s2 : St} (N : vD) (hn : s.nx ≤ s2.nx) (hl : LeN N s s2) (h : fQ P fn c K s2) : fQ P fn c K s:=by
  intro w0 wE w FE F φE φ a hg hf
  have hsle:=(hl.mem hf.mem).2.1
  refine h w0 wE w FE F φE _ a ⟨⟨fun b g y hy=>?_,fun l k hk=>?_⟩,hg.sub,hg.new,hg.ext,hg.opn,hg.lps,hg.mps⟩ (hl.fits hf)
  · have hy':=hg.le.1 _ _ _ hy
    have hb:=hf.mem.heap.used _ _ _ hy'
    have:=hsle.1 _ _ _ hy'
    simp only [kA.cut]; rw [if_pos (by omega)]; exact this
  · have hk':=hg.le.2 _ _ hk
    have:=(hf.mem.lused _ _ hk').1
    simp only [kA.cut]; rw [if_pos (by omega)]; exact hk'
def clrK (l : Nat) (K : Exit → St → Prop) : Exit → St → Prop:=fun e s=>(∃ x m,wA s.lp l = some x ∧ x.mp = some m) ∧ K e s
theorem za9 {l : Nat} {K : Exit → St → Prop} {e : Exit} {x : yD} {m : List (AV × AV)} (h1 : wA s.lp l = some x) (h2 : x.mp = some m) (h : K e s) : clrK l K e s:=⟨⟨x,m,h1,h2⟩,h⟩
theorem zng {id : Nat} {ops : Array Oper} {y : Code} {o0 o1 : Oper} {x0 : Operand} {d0 l : Nat} {c : Call} {t kt et : TypeId} (hs : ops.size = 2) (h0 : ops[0]? = some o0) (h1 : ops[1]? = some o1) (p0 : o0.op = .move x0) (p1 : o1.op = .defer c) (w0' : kN fn.ntmps ops o0 (qB s.fr) = true) (w1' : o1.guard = none) (e0 : o0.dst = some d0) (e0' : d0 < fn.ntmps) (e1 : o1.dst = none)
    (hx : yB (qB s.fr) x0 = .mp l) (hc : c.callee = .builtin .clear) (ha : c.args = #[.tmp d0]) (ht : c.argTypes[0]? = some t) (hu : P.underlying t = some (.map kt et))
    (h : wB P fn.ntmps y (clrK l (bP P fn.results.toList [] K)) ⟨(d0,.mp l)::s.fr,s.hp,s.nx,s.lp⟩) : fQ P fn (.seq (.region id ops false) y) K s:=by
  intro w0 wE w FE F φE φ a hg hf
  refine wpIn_seq (wpIn_region ?_)
  rw [hs,show List.range 2 = [0,1] from rfl,wpOpsIn_cons]
  unfold wpOpIn
  simp only [h0]
  rw [if_pos (oU hf w0')]
  refine ⟨fun _ _=>trivial,?_⟩
  rw [show (aE none).round = none from rfl,Oper.semAt_eq none _ _ (by rw [p0]; intro c; simp)]
  have hrun0 : (execOp a.eval o0).run P w = .ok (.value (a.eval x0)) w:=by
    unfold execOp; simp only [p0]; rfl
  rw [hrun0,Oper.uponIn_value,wpOpsIn_cons]
  have ev:=vG hf.tmps x0
  rw [hx] at ev
  have htr : nE w F φ (qB ((d0,.mp l)::s.fr)) fn.ntmps (a.put o0.dst (a.eval x0)).tmps:=by
    have:=hf.tmps.put (d:=some d0) (a:=a) (fun t e=>by cases e; exact e0') ev
    rw [← lP] at this
    rw [e0]; exact this
  obtain ⟨a1,ha1⟩ : ∃ a1,a1 = a.put o0.dst (a.eval x0):=⟨_,rfl⟩
  rw [← ha1] at htr ⊢
  have had : a1.defers = a.defers:=by rw [ha1,oV]
  simp only [fA] at ev
  obtain ⟨k,hk,ev⟩:=ev
  have hd0 : a1.eval (.tmp d0) = .map (some k):=by
    have:=htr.val d0
    rw [cR,if_pos rfl] at this
    simp only [fA] at this
    obtain ⟨k',hk',e⟩:=this
    rw [hk] at hk'; cases hk'
    exact e
  unfold wpOpIn
  simp only [h1]
  rw [if_pos (by simp [Region.wanted,w1'])]
  refine ⟨fun _ _=>trivial,?_⟩
  rw [show (aE none).round = none from rfl]
  have hrun1 : (Oper.semAt none a1.eval o1).run P w = .ok (.defer { target:=.builtin .clear c.argTypes o1.type (c.args.map fun | .const _=>true | _=>false),args:=#[.map (some k)] }) w:=by
    have : Oper.semAt none a1.eval o1 = execOp a1.eval o1:=rfl
    rw [this]
    unfold execOp
    simp only [p1,resolve,hc,Sem.run_bind,Sem.run_pure,Result.andThen_ok]
    rw [ha]
    simp [hd0]
  rw [hrun1,Oper.uponIn_defer]
  obtain ⟨d,hd⟩ : ∃ d : Deferred,d = { target:=.builtin .clear c.argTypes o1.type (c.args.map fun | .const _=>true | _=>false),args:=#[.map (some k)] }:=⟨_,rfl⟩
  rw [← hd,e1]
  show Code.wpIn _ _ _ _ _ _ w
  have hfits : tE ⟨none,w.heap.size,d::a1.defers⟩ w0 w F φ fn.ntmps { a1 with defers:=d::a1.defers } ⟨(d0,.mp l)::s.fr,s.hp,s.nx,s.lp⟩ :=
    ⟨⟨hf.mem.heap,hf.mem.lps,hf.mem.lused,hf.mem.linj⟩,⟨htr.size,htr.val⟩,⟨⟨[],rfl,List.nodup_nil,fun D hD=>by simp at hD⟩,fun l0 hl0=>by simp at hl0,hf.mem.heap.below.size,Nat.le_refl _⟩⟩
  refine wpIn_mono (h _ w0 w F φ _ hfits) ?_
  rintro e a2 w2 ⟨s2,φ2,F2,k1,k2,⟨xm,m,km1,km2⟩,k3⟩
  have fin : (∃ vs,jE P s2 fn.results.toList = some vs ∧ K (qH vs) { s2 with lp:=fE [] s2.lp }) → iJ P fn a2.tmps (fun en w2=>∃ v r s' φ' F',en = .returned v ∧ qD w0 w2 F' φ' s' ∧ fD w0 wE FE φE w2 F' φ' ∧ fA w2 F' φ' r v ∧ K r s') a2.defers w2:=by
    rintro ⟨vs,g1,g2⟩
    rw [zdK] at g2
    obtain ⟨Ds2,d1,d2,d3⟩:=k1.env.dfr
    obtain ⟨Ds,f1,f2,f3⟩:=hf.env.dfr
    simp only [List.append_nil] at f1
    obtain ⟨k',es,cl,q1,q2,q3,q4⟩:=(k1.mem.lps l xm km1).2 m km2
    have hk2:=k2.le.2 _ _ hk
    rw [hk2] at q1; cases q1
    have hlo : w0.heap.size ≤ wE.heap.size:=hf.env.lo.1
    have hwE:=hg.ext.size
    have hm1 : qD w0 w2 F2 φ2 ⟨s2.fr,s2.hp,s2.nx,[(l,xm)]⟩:=by
      refine ⟨k1.mem.heap,fun l' x hq=>?_,k1.mem.lused,k1.mem.linj⟩
      change wA [(l,xm)] l' = some x at hq
      simp only [wA] at hq
      split at hq
      · rename_i e; cases hq; rw [e]; exact k1.mem.lps _ _ km1
      · cases hq
    have hlp : ∀ l' x,wA (⟨s2.fr,s2.hp,s2.nx,[(l,xm)]⟩ : St).lp l' = some x → x.mp ≠ none:=fun l' x hx=>by
      change wA [(l,xm)] l' = some x at hx
      simp only [wA] at hx
      split at hx
      · cases hx; rw [km2]; simp
      · cases hx
    rw [d1]
    show iJ P fn a2.tmps _ (Ds2.map jT++(d::a1.defers)) w2
    refine wZ (s:=⟨s2.fr,s2.hp,s2.nx,[(l,xm)]⟩) hlo hlp Ds2 w2 hm1 k1.tmps (hg.trans k2) d2 (fun D hD=>⟨Nat.le_trans hwE (d3 D hD).1,(d3 D hD).2⟩) fun w3 hw3 m3 t3 g3=>?_
    have hkD : ∀ D,zE w2 D → D ≠ k:=fun D ho e=>by subst e; unfold zE at ho; rw [q3] at ho; cases ho
    have hk3 : w3.heap[k]? = some (.map es cl):=by
      rw [hw3 k fun hD=>hkD k (d3 k hD).2 rfl]; exact q3
    refine .inr ⟨.clear,c.argTypes,o1.type,_,.tuple #[],w3.putObj k (.map #[] cl),by rw [hd],?_,?_⟩
    · rw [hd]
      simp only [invoke,builtin,Builtin.clear_,ht]
      simp [run_underlying hu,hX hk3,zbo _ hk3]
    · obtain ⟨m4,m5⟩:=m3.putMap (l:=l) (x:=xm) (m:=m) (m':=[]) (es':=#[]) (c':=cl) (by simp [wA]) hk2 hk3 q2 rfl
      rw [had,f1,← List.append_nil (Ds.map jT)]
      refine wZ (s:=⟨s2.fr,s2.hp,s2.nx,[]⟩) hlo (fun l x hx=>by simp [wA] at hx) Ds _ ⟨m4.heap,fun l x hx=>by simp [wA] at hx,m4.lused,m4.linj⟩ (t3.monoW m5) (g3.trans m5) f2 (fun D hD=>⟨(f3 D hD).1,?_⟩) fun w5 _ m6 t6 g6=>?_
      · have o2:=k2.opn D (f3 D hD).2
        have hDlt : D < w.heap.size:=(Array.getElem?_eq_some_iff.1 (f3 D hD).2).1
        unfold zE
        rw [World.putObj_heap_other (hkD D o2),hw3 D fun h2=>by have h3 : w.heap.size ≤ D:=(d3 D h2).1; omega]
        exact o2
      · obtain ⟨x,h1,h2⟩:=zbj (P:=P) m6 t6 (show jE P { s2 with lp:=[] } fn.results.toList = some vs by rw [eW]; exact g1)
        exact ⟨x,h1,x,qH vs,_,φ2,F2,rfl,m6,g6,h2,g2⟩
  cases e with
  | normal=>exact ⟨.inl rfl,fin k3⟩
  | ret=>exact ⟨.inr rfl,fin k3⟩
  | exit id=>exact k3.elim
  | goto l=>exact k3.elim
  | panic ch=>exact k3.elim
  | outgrown=>exact k3.elim
theorem znp {f : FuncId} {c : Code} {args : List AV} {r : AV} {blks : List pA} (hf : P.funcs[f]? = some fn) (hb : fn.body = some c) (hn : fn.name ≠ "runtime.NumGoroutine") (hl : args.length ≤ fn.ntmps)
    (h : fQ P fn c (fun v s=>∃ ns,fS ns r blks v s) ⟨gK 0 args,[],0,[]⟩) : yA P f args r blks:=by
  refine zcC ⟨fun as w=>by simp [callFunc,hf,hn,hb],fun w0 w F φ vs hm hvs=>?_⟩
  refine (callsIn_wide (n:=0)).1 (zjZ hf hb trivial ?_)
  have hfits : tE ⟨none,w.heap.size,[]⟩ w0 w F φ fn.ntmps { tmps:=⟨vs⟩++Array.replicate (fn.ntmps - (⟨vs⟩ : Array Value).size) undef,defers:=[] } ⟨gK 0 args,[],0,[]⟩ :=
    ⟨⟨hm.heap,hm.lps,hm.lused,hm.linj⟩,zfs hvs hl,⟨⟨[],rfl,List.nodup_nil,fun D hD=>by simp at hD⟩,fun l0 hl0=>by simp at hl0,hm.heap.below.size,Nat.le_refl _⟩⟩
  exact h w0 w w F F φ φ _ (fD.refl _ _ _ _) hfits
end
end Go.AM
