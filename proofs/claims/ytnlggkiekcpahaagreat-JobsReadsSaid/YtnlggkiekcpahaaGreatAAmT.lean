/- A text of the proof. -/
import Derived.Test.YtnlggkiekcpahaaGreatAAmS
import Derived.RangeFuncLeaves
import Derived.RangeFuncNested
set_option linter.unusedSimpArgs false
set_option linter.unusedVariables false
namespace Go.AM
open Go Go.RowKit
def vP : List Nat → Nat → Option Nat
  | [],_=>none
  | k::l,b=>if b = k then some 0 else (vP l b).map (· + 1)
theorem wY : ∀ (l : List Nat) (b m : Nat),vP l b = some m → l[m]? = some b
  | [],b,m,h=>by simp [vP] at h
  | k::l,b,m,h=>by
    simp only [vP] at h
    split at h
    · rename_i e; cases h; simp [e]
    · simp only [Option.map_eq_some_iff] at h
      obtain ⟨m',h1,rfl⟩:=h
      simpa using wY l b m' h1
def nC (ns : List Nat) (η : kB) : Nat → AV → Option (AV × List Nat)
  | 0,_=>none
  | d + 1,v =>
    match v with
    | .ref b g i j=>match vP ns b with | some m=>some (.ref m g i j,[]) | none=>aC η (d + 1) (.ref b g i j)
    | .sl b g z off len=>match vP ns b with | some m=>some (.sl m g z off len,[]) | none=>aC η (d + 1) (.sl b g z off len)
    | .fn f a c=>match exps ns η d a,exps ns η d c with
      | some (a',r),some (c',r')=>some (.fn f a' c',r++r')
      | _,_=>none
    | .iface t v=>match nC ns η d v with | some (v',r)=>some (.iface t v',r) | none=>none
    | .agg cs=>match exps ns η d cs with | some (cs',r)=>some (.agg cs',r) | none=>none
    | .tup cs=>match exps ns η d cs with | some (cs',r)=>some (.tup cs',r) | none=>none
    | .yld _=>none
    | .mp _=>none
    | v=>some (v,[])
where exps (ns : List Nat) (η : kB) : Nat → List AV → Option (List AV × List Nat)
  | 0,_=>none
  | _ + 1,[]=>some ([],[])
  | d + 1,v::vs =>
    match nC ns η d v,exps ns η d vs with
    | some (v',r),some (vs',r')=>some (v'::vs',r++r')
    | _,_=>none
def rI (ns : List Nat) (η : kB) : List (List AV) → Option (List (List AV) × List Nat)
  | []=>some ([],[])
  | e::es=>match nC.exps ns η 60 e,rI ns η es with
    | some (e',r),some (es',r')=>some (e'::es',r++r')
    | _,_=>none
def qL (ns : List Nat) (η : kB) : List Nat → Option (List pA × List Nat)
  | []=>some ([],[])
  | b::bs=>match η b,qL ns η bs with
    | some x,some (xs,rd)=>if x.pure then some (x::xs,rd) else
      match rI ns η x.es with
      | some (es,rd')=>some ({ x with es:=es }::xs,rd'++rd)
      | none=>none
    | _,_=>none
def kA.pick (φ : kA) (ns : List Nat) : kA:={ blk:=fun m g=>match ns[m]? with | some b=>φ.blk b g | none=>none,loop:=fun _=>none }
section
variable {w0 w : World} {F : Nat → Prop} {φ : kA} {U : Nat → Prop} {η : kB}
mutual
theorem zaS (h : xB w0 w F φ U η) (ns : List Nat) : ∀ (d : Nat) (v v' : AV) (rd : List Nat) (x : Value),nC ns η d v = some (v',rd) → fA w F φ v x → fA w (aD F φ η rd) (φ.pick ns) v' x
  | 0,v,v',rd,x=>by intro hp; simp [nC] at hp
  | d + 1,v,v',rd,x=>by
    intro hp hx
    have hz : ∀ ψ : kA,kA.zero.le ψ:=kA.zero_le
    have hF : ∀ rd' b,F b → aD F φ η rd' b:=fun _ b hb=>.inl hb
    have same : ∀ (u : AV),u.isP = true → fA w F φ u x → fA w (aD F φ η []) (φ.pick ns) u x:=fun u hu hr=>fA.mono (Ext0.refl F w) (hF []) (kA.le_refl _) _ _ (uQ u x hu hr)
    cases v with
    | ref b g i j =>
      simp only [nC] at hp
      split at hp
      · rename_i m hm
        cases hp
        simp only [fA] at hx ⊢
        obtain ⟨cb,sz,h1,h2⟩:=hx
        exact ⟨cb,sz,by simp only [kA.pick,wY _ _ _ hm]; exact h1,h2⟩
      · exact fA.mono (Ext0.refl _ w) (fun _ h=>h) (hz _) _ _ (bW h _ _ _ _ _ hp hx)
    | sl b g z off len =>
      simp only [nC] at hp
      split at hp
      · rename_i m hm
        cases hp
        simp only [fA] at hx ⊢
        rcases hx with ⟨h1,h2⟩ | ⟨cb,cap,h1,h2⟩
        · exact .inl ⟨by simp only [kA.pick,wY _ _ _ hm]; exact h1,h2⟩
        · exact .inr ⟨cb,cap,by simp only [kA.pick,wY _ _ _ hm]; exact h1,h2⟩
      · exact fA.mono (Ext0.refl _ w) (fun _ h=>h) (hz _) _ _ (bW h _ _ _ _ _ hp hx)
    | fn f a c =>
      simp only [nC] at hp
      split at hp
      · rename_i a' r c' r' h1 h2
        cases hp
        simp only [fA] at hx ⊢
        obtain ⟨fs,cs,rfl,k1,k2⟩:=hx
        exact ⟨fs,cs,rfl,uA.mono (Ext0.refl _ w) (aD.mono (fun _ hm=>List.mem_append_left _ hm)) (kA.le_refl _) _ _ (sV h ns d _ _ _ _ h1 k1),uA.mono (Ext0.refl _ w) (aD.mono (fun _ hm=>List.mem_append_right _ hm)) (kA.le_refl _) _ _ (sV h ns d _ _ _ _ h2 k2)⟩
      · cases hp
    | iface t u =>
      simp only [nC] at hp
      split at hp
      · rename_i u' r h1
        cases hp
        simp only [fA] at hx ⊢
        obtain ⟨y,rfl,k1⟩:=hx
        exact ⟨y,rfl,zaS h ns d _ _ _ _ h1 k1⟩
      · cases hp
    | agg cs =>
      simp only [nC] at hp
      split at hp
      · rename_i u' r h1
        cases hp
        simp only [fA] at hx ⊢
        obtain ⟨y,rfl,k1,k2⟩:=hx
        exact ⟨y,rfl,sV h ns d _ _ _ _ h1 k1,k2⟩
      · cases hp
    | tup cs =>
      simp only [nC] at hp
      split at hp
      · rename_i u' r h1
        cases hp
        simp only [fA] at hx ⊢
        obtain ⟨y,rfl,k1⟩:=hx
        exact ⟨y,rfl,sV h ns d _ _ _ _ h1 k1⟩
      · cases hp
    | yld l=>simp only [nC] at hp; cases hp
    | mp l=>simp only [nC] at hp; cases hp
    | top=>simp only [nC,Option.some.injEq,Prod.mk.injEq] at hp; obtain ⟨rfl,rfl⟩:=hp; exact same _ rfl hx
    | anyb=>simp only [nC,Option.some.injEq,Prod.mk.injEq] at hp; obtain ⟨rfl,rfl⟩:=hp; exact same _ rfl hx
    | bool b=>simp only [nC,Option.some.injEq,Prod.mk.injEq] at hp; obtain ⟨rfl,rfl⟩:=hp; exact same _ rfl hx
    | int k n=>simp only [nC,Option.some.injEq,Prod.mk.injEq] at hp; obtain ⟨rfl,rfl⟩:=hp; exact same _ rfl hx
    | str s=>simp only [nC,Option.some.injEq,Prod.mk.injEq] at hp; obtain ⟨rfl,rfl⟩:=hp; exact same _ rfl hx
    | nilp=>simp only [nC,Option.some.injEq,Prod.mk.injEq] at hp; obtain ⟨rfl,rfl⟩:=hp; exact same _ rfl hx
    | pp cs=>simp only [nC,Option.some.injEq,Prod.mk.injEq] at hp; obtain ⟨rfl,rfl⟩:=hp; exact same _ rfl hx
    | nils=>simp only [nC,Option.some.injEq,Prod.mk.injEq] at hp; obtain ⟨rfl,rfl⟩:=hp; exact same _ rfl hx
    | psl sz es=>simp only [nC,Option.some.injEq,Prod.mk.injEq] at hp; obtain ⟨rfl,rfl⟩:=hp; exact same _ rfl hx
    | nilf=>simp only [nC,Option.some.injEq,Prod.mk.injEq] at hp; obtain ⟨rfl,rfl⟩:=hp; exact same _ rfl hx
    | nili=>simp only [nC,Option.some.injEq,Prod.mk.injEq] at hp; obtain ⟨rfl,rfl⟩:=hp; exact same _ rfl hx
    | emp=>simp only [nC,Option.some.injEq,Prod.mk.injEq] at hp; obtain ⟨rfl,rfl⟩:=hp; exact same _ rfl hx
theorem sV (h : xB w0 w F φ U η) (ns : List Nat) : ∀ (d : Nat) (vs vs' : List AV) (rd : List Nat) (xs : List Value),nC.exps ns η d vs = some (vs',rd) → uA w F φ vs xs → uA w (aD F φ η rd) (φ.pick ns) vs' xs
  | 0,vs,vs',rd,xs=>by intro hp; simp [nC.exps] at hp
  | d + 1,[],vs',rd,xs=>by intro hp hx; simp [nC.exps] at hp; obtain ⟨rfl,rfl⟩:=hp; simpa [uA] using hx
  | d + 1,v::vs,vs',rd,xs=>by
    intro hp hx
    simp only [nC.exps] at hp
    split at hp
    · rename_i v' r vs'' r' h1 h2
      cases hp
      simp only [uA] at hx ⊢
      obtain ⟨y,ys,rfl,k1,k2⟩:=hx
      exact ⟨y,ys,rfl,fA.mono (Ext0.refl _ w) (aD.mono (fun _ hm=>List.mem_append_left _ hm)) (kA.le_refl _) _ _ (zaS h ns d _ _ _ _ h1 k1),uA.mono (Ext0.refl _ w) (aD.mono (fun _ hm=>List.mem_append_right _ hm)) (kA.le_refl _) _ _ (sV h ns d _ _ _ _ h2 k2)⟩
    · cases hp
end
theorem zft (ns : List Nat) : ∀ (d : Nat) (vs vs' : List AV) (rd : List Nat),nC.exps ns η d vs = some (vs',rd) → vs'.length = vs.length
  | 0,vs,vs',rd,h=>by simp [nC.exps] at h
  | d + 1,[],vs',rd,h=>by simp [nC.exps] at h; rw [h.1]
  | d + 1,v::vs,vs',rd,h=>by
    simp only [nC.exps] at h
    split at h
    · rename_i v' r vs'' r' h1 h2
      cases h
      simp [zft ns d _ _ _ h2]
    · cases h
theorem zdP (h : xB w0 w F φ U η) (ns : List Nat) {b sz : Nat} : ∀ (es es' : List (List AV)) (rd : List Nat) (o : Nat), rI ns η es = some (es', rd) → (∀ e ∈ es, e.length = sz) → fC w F φ es b o →
    fC w (aD F φ η rd) (φ.pick ns) es' b o ∧ (∀ e ∈ es',e.length = sz) ∧ es'.length = es.length
  | [],es',rd,o,hp,_,_=>by simp [rI] at hp; obtain ⟨rfl,rfl⟩:=hp; simp [fC]
  | e::es,es',rd,o,hp,hl,hr=>by
    simp only [rI] at hp
    split at hp
    · rename_i e' r es'' r' h1 h2
      cases hp
      simp only [fC] at hr ⊢
      have hlen:=zft ns 60 _ _ _ h1
      obtain ⟨i1,i2,i3⟩:=zdP h ns es es'' r' (o + e.length) h2 (fun x hx=>hl x (by simp [hx])) hr.2
      refine ⟨⟨?_,?_⟩,?_,by simp [i3]⟩
      · have:=hr.1
        rw [vF] at this ⊢
        obtain ⟨vs,c1,c2,c3⟩:=this
        exact ⟨vs,uA.mono (Ext0.refl _ w) (aD.mono (fun _ hm=>List.mem_append_left _ hm)) (kA.le_refl _) _ _ (sV h ns 60 _ _ _ _ h1 c1),c2,c3⟩
      · rw [hlen]
        exact fC.mono (Ext0.refl _ w) (aD.mono (fun _ hm=>List.mem_append_right _ hm)) (kA.le_refl _) _ _ _ rfl i1
      · intro x hx
        rcases List.mem_cons.1 hx with q | q
        · rw [q,hlen]; exact hl e (by simp)
        · exact i2 x q
    · cases hp
theorem zeN (ns : List Nat) : ∀ (bs : List Nat) (xs : List pA) (rd : List Nat), qL ns η bs = some (xs, rd) → xs.length = bs.length ∧ ∀ (m b : Nat), bs[m]? = some b → ∃ x y, η b = some x ∧ xs[m]? = some y ∧ y.g = x.g ∧ y.sz = x.sz ∧ y.own = x.own ∧ y.pure = x.pure ∧
      ((x.pure = true ∧ y.es = x.es) ∨ (x.pure = false ∧ ∃ rd',rI ns η x.es = some (y.es,rd') ∧ ∀ c,c ∈ rd' → c ∈ rd))
  | [],xs,rd,h=>by simp [qL] at h; obtain ⟨rfl,rfl⟩:=h; simp
  | b::bs,xs,rd,h=>by
    simp only [qL] at h
    split at h
    · rename_i x xs' rd' hx hr
      obtain ⟨i1,i2⟩:=zeN ns bs xs' rd' hr
      split at h
      · rename_i hp
        cases h
        refine ⟨by simp [i1],fun m c hm=>?_⟩
        cases m with
        | zero=>simp at hm; subst hm; exact ⟨x,x,hx,rfl,rfl,rfl,rfl,rfl,.inl ⟨hp,rfl⟩⟩
        | succ m=>exact i2 m c (by simpa using hm)
      · rename_i hp
        split at h
        · rename_i es rd2 he
          cases h
          refine ⟨by simp [i1],fun m c hm=>?_⟩
          cases m with
          | zero=>simp at hm; subst hm; exact ⟨x,{ x with es:=es },hx,rfl,rfl,rfl,rfl,rfl,.inr ⟨by simpa using hp,rd2,he,fun c hc=>List.mem_append_left _ hc⟩⟩
          | succ m =>
            obtain ⟨y,z,g1,g2,g3,g4,g5,g6,g7⟩:=i2 m c (by simpa using hm)
            refine ⟨y,z,g1,by simpa using g2,g3,g4,g5,g6,?_⟩
            rcases g7 with q | ⟨q1,q2,q3,q4⟩
            · exact .inl q
            · exact .inr ⟨q1,q2,q3,fun c hc=>List.mem_append_right _ (q4 c hc)⟩
        · cases h
    · cases h
theorem xB.pick (h : xB w0 w F φ U η) {ns : List Nat} {blks : List pA} {rd0 rd : List Nat} (hb : qL ns η ns = some (blks, rd0)) (hsub : ∀ c, c ∈ rd0 → c ∈ rd) (hn : ns.Nodup) (hdis : ∀ b, b ∈ ns → b ∉ rd) :
    xB w0 w (aD F φ η rd) (φ.pick ns) (fun m=>m < blks.length) (fun m=>blks[m]?):=by
  obtain ⟨hl,hget⟩:=zeN ns ns blks rd0 hb
  have get : ∀ (m : Nat) (y : pA), blks[m]? = some y → ∃ b x, ns[m]? = some b ∧ η b = some x ∧ y.g = x.g ∧ y.sz = x.sz ∧ y.own = x.own ∧ y.pure = x.pure ∧
      ((x.pure = true ∧ y.es = x.es) ∨ (x.pure = false ∧ ∃ rd',rI ns η x.es = some (y.es,rd') ∧ ∀ c,c ∈ rd' → c ∈ rd0)):=by
    intro m y hy
    have hm : m < ns.length:=by rw [← hl]; exact (List.getElem?_eq_some_iff.1 hy).1
    obtain ⟨x,y',g1,g2,g3,g4,g5,g6,g7⟩:=hget m ns[m] (List.getElem?_eq_getElem hm)
    rw [hy] at g2; cases g2
    exact ⟨ns[m],x,List.getElem?_eq_getElem hm,g1,g3,g4,g5,g6,g7⟩
  have pk : ∀ (m b g : Nat),ns[m]? = some b → (φ.pick ns).blk m g = φ.blk b g:=fun m b g hm=>by simp only [kA.pick,hm]
  refine ⟨h.below,(h.freeze rd).fb,fun m g x hx=>?_,fun m g cb sz hx=>?_,fun m y hy=>?_,fun m y hy g hg=>?_,fun m m' y y' cb sz sz' hy hy' e1 e2=>?_,(h.freeze rd).fwk⟩
  · simp only [kA.pick] at hx
    split at hx
    · rename_i b hm; rw [hl]; exact (List.getElem?_eq_some_iff.1 hm).1
    · cases hx
  · simp only [kA.pick] at hx
    split at hx
    · exact h.inb _ _ _ _ hx
    · cases hx
  · obtain ⟨b,x,g1,g2,g3,g4,g5,g6,g7⟩:=get m y hy
    obtain ⟨pl,p1,p2,p3⟩:=h.blk b x g2
    have hes : (∀ cb,pl = some cb → fC w (aD F φ η rd) (y.emb (φ.pick ns)) y.es cb 0) ∧ (∀ e ∈ y.es,e.length = y.sz) ∧ y.es.length = x.es.length:=by
      rcases g7 with ⟨q1,q2⟩ | ⟨q1,rd',q2,q3⟩
      · refine ⟨fun cb hcb=>?_,by rw [q2,g4]; exact p2,by rw [q2]⟩
        subst hcb
        have:=p3.2.2.2
        rw [pA.emb,if_pos q1] at this
        rw [pA.emb,if_pos (by rw [g6]; exact q1),q2]
        exact fC.mono (Ext0.refl _ w) (fun _ hb=>.inl hb) (kA.le_refl _) _ _ _ rfl this
      · cases pl with
        | none =>
          simp only [kJ] at p3
          rw [p3] at q2
          simp only [rI,Option.some.injEq,Prod.mk.injEq] at q2
          exact ⟨fun cb hcb=>(by cases hcb),fun e he=>(by rw [← q2.1] at he; cases he),(by rw [← q2.1,p3])⟩
        | some cb =>
          have:=p3.2.2.2
          rw [pA.emb,if_neg (by simp [q1])] at this
          obtain ⟨i1,i2,i3⟩:=zdP h ns x.es y.es rd' 0 q2 p2 this
          refine ⟨fun cb' hcb=>?_,by rw [g4]; exact i2,i3⟩
          cases hcb
          rw [pA.emb,if_neg (by rw [g6]; simp [q1])]
          exact fC.mono (Ext0.refl _ w) (aD.mono (fun c hc=>hsub c (q3 c hc))) (kA.le_refl _) _ _ _ rfl i1
    refine ⟨pl,by rw [pk m b _ g1,g3,g4]; exact p1,hes.2.1,?_⟩
    cases pl with
    | none=>simp only [kJ] at p3 ⊢; exact List.eq_nil_of_length_eq_zero (by rw [hes.2.2,p3]; rfl)
    | some cb =>
      obtain ⟨f1,f2,f3,f4⟩:=p3
      refine ⟨f1,fun ho hL=>?_,by rw [hes.2.2,g4]; exact f3,hes.1 cb rfl⟩
      rcases hL with q | ⟨n,hn',z,hz,sz,e⟩
      · exact f2 (by rw [← g5]; exact ho) q
      · have:=h.inj n b z x cb _ _ hz g2 e p1
        exact hdis b (List.mem_of_getElem? g1) (this ▸ hn')
  · obtain ⟨b,x,g1,g2,g3,-⟩:=get m y hy
    rw [pk m b _ g1]
    exact h.gen b x g2 g (by rw [← g3]; exact hg)
  · obtain ⟨b,x,g1,g2,g3,-⟩:=get m y hy
    obtain ⟨b',x',g1',g2',g3',-⟩:=get m' y' hy'
    rw [pk m b _ g1,g3] at e1
    rw [pk m' b' _ g1',g3'] at e2
    have:=h.inj b b' x x' cb sz sz' g2 g2' e1 e2
    subst this
    have hm:=(List.getElem?_eq_some_iff.1 g1).1
    have hm':=(List.getElem?_eq_some_iff.1 g1').1
    have e3:=(List.getElem?_eq_some_iff.1 g1).2
    have e4:=(List.getElem?_eq_some_iff.1 g1').2
    exact (List.getElem_inj hn).1 (e3.trans e4.symm)
end
def jE (P : Program) (s : St) : List ResultVar → Option (List AV)
  | []=>some []
  | .tmp t::rs=>match jE P s rs with | some vs=>some (qB s.fr t::vs) | none=>none
  | .cell a t::rs=>match kO P t (qB s.fr a) (wA s.hp),jE P s rs with
    | some (v,_),some vs=>some (v::vs)
    | _,_=>none
def qH : List AV → AV
  | [v]=>v
  | vs=>.tup vs
def oY (tmps : Array Value) : ResultVar → Sem Value
  | .tmp t=>pure (tmps.getD t undef)
  | .cell c t=>do loadVar t (← asAddr (tmps.getD c undef))
theorem zlm (fn : Func) (tmps : Array Value) : results fn tmps = (do let vs ← fn.results.mapM (oY tmps); pure (if h : vs.size = 1 then vs[0] else .tuple vs)):=by
  unfold results
  congr 1
theorem zbd {P : Program} {w0 w : World} {F : Nat → Prop} {φ : kA} {nt : Nat} {tmps : Array Value} {s : St} (hm : qD w0 w F φ s) (ht : nE w F φ (qB s.fr) nt tmps) : ∀ (rs : List ResultVar) (vs : List AV), jE P s rs = some vs →
    ∃ xs,(rs.mapM (oY tmps)).run P w = .ok xs w ∧ uA w F φ vs xs
  | [],vs,h=>by simp [jE] at h; subst h; exact ⟨[],by simp,by simp [uA]⟩
  | .tmp t::rs,vs,h=>by
    simp only [jE] at h
    split at h
    · rename_i vs' hr; cases h
      obtain ⟨xs,h1,h2⟩:=zbd hm ht rs vs' hr
      exact ⟨tmps.getD t undef::xs,by simp only [List.mapM_cons,Sem.run_bind,Sem.run_pure,Result.andThen_ok,oY,h1],by simp only [uA]; exact ⟨_,_,rfl,ht.val t,h2⟩⟩
    · cases h
  | .cell c t::rs,vs,h=>by
    simp only [jE] at h
    split at h
    · rename_i v _ vs' hl hr; cases h
      obtain ⟨xs,h1,h2⟩:=zbd hm ht rs vs' hr
      obtain ⟨y,k1,k2⟩:=zez (P:=P) hm.heap hl (ht.val c)
      refine ⟨y::xs,?_,by simp only [uA]; exact ⟨_,_,rfl,k2,h2⟩⟩
      have hp : ∃ ad,tmps.getD c undef = .pointer (some ad):=by
        have hv:=ht.val c
        unfold kO at hl
        split at hl
        · split at hl
          · rename_i b g i j he; rw [he] at hv; simp only [fA] at hv; obtain ⟨cb,sz,-,e⟩:=hv; exact ⟨_,e⟩
          · rename_i cs he; rw [he] at hv; simp only [fA] at hv; obtain ⟨b,o,e,-⟩:=hv; exact ⟨_,e⟩
          · cases hl
        · cases hl
      obtain ⟨ad,hp⟩:=hp
      rw [hp] at k1
      simp only [Instr.loadAt,Instr.sureAddr,Sem.run_bind,Sem.run_pure,Result.andThen_ok] at k1
      simp only [List.mapM_cons,Sem.run_bind,Sem.run_pure,Result.andThen_ok,oY,hp,show asAddr (.pointer (some ad)) = pure ad from rfl,k1,h1]
    · cases h
theorem zbj {P : Program} {w0 w : World} {F : Nat → Prop} {φ : kA} {nt : Nat} {tmps : Array Value} {s : St} (hm : qD w0 w F φ s) (ht : nE w F φ (qB s.fr) nt tmps) {fn : Func} {vs : List AV} (h : jE P s fn.results.toList = some vs) :
    ∃ x,(results fn tmps).run P w = .ok x w ∧ fA w F φ (qH vs) x:=by
  obtain ⟨xs,h1,h2⟩:=zbd (P:=P) hm ht _ _ h
  rw [zlm,Array.mapM_eq_mapM_toList]
  simp only [Sem.run_bind,Sem.run_map,h1,Result.andThen_ok,Sem.run_pure]
  refine ⟨_,rfl,?_⟩
  have hl:=h2.length
  unfold qH
  split
  · rename_i v
    simp only [List.length_cons,List.length_nil] at hl
    simp only [uA] at h2
    obtain ⟨y,_,rfl,hy,rfl⟩:=h2
    simpa using hy
  · rename_i vs hne
    have : ¬ xs.length = 1:=by
      intro e
      rw [← hl] at e
      obtain ⟨v,rfl⟩:=List.length_eq_one_iff.1 e
      exact hne v rfl
    simp only [List.size_toArray,this,dite_false]
    simp only [fA]
    exact ⟨xs,rfl,h2⟩
def gK : Nat → List AV → List (Nat × AV)
  | _,[]=>[]
  | i,v::vs=>(i,v)::gK (i + 1) vs
theorem zmB (vs : List AV) : ∀ (i t : Nat),qB (gK i vs) t = if i ≤ t then (match vs[t - i]? with | some v=>v | none=>.top) else .top:=by
  induction vs with
  | nil=>intro i t; simp [gK,xV]
  | cons v vs ih =>
    intro i t
    simp only [gK,cR,ih]
    by_cases e : t = i
    · subst e; simp
    · rw [if_neg e]
      by_cases h : i ≤ t
      · rw [if_pos (show i + 1 ≤ t by omega),if_pos h,show t - i = (t - (i + 1)) + 1 by omega]; simp
      · rw [if_neg (by omega),if_neg h]
section
variable {w0 w : World} {F : Nat → Prop} {φ : kA} {U : Nat → Prop} {η : kB}
theorem Ext0.put {k : Nat} {o o' : Obj} (hF : ∀ b o,F b → w.heap[b]? = some o → xQ o = false) (ho : w.heap[k]? = some o) (hr : xQ o = true) : Ext0 F w (w.putObj k o'):=by
  refine ⟨by simp,fun b hb=>World.putObj_heap_other fun e=>?_,fun b x hx=>?_⟩
  · subst e; have:=hF b o hb ho; rw [this] at hr; cases hr
  · by_cases e : b = k
    · subst e
      simp only [World.shape?,ho] at hx
      cases o <;> simp_all [xQ]
    · rw [zX (World.putObj_heap_other e)]; exact hx
theorem xB.put {k : Nat} {o o' : Obj} (h : xB w0 w F φ U η) (ho : w.heap[k]? = some o) (hr : xQ o = true) (h0 : w0.heap.size ≤ k) : xB w0 (w.putObj k o') F φ U η:=by
  have hx:=Ext0.put (o':=o') h.fwk ho hr
  refine ⟨⟨h.below.os,h.below.tape,h.below.output,by simp [h.below.size],fun b hb=>(World.putObj_heap_other (by omega)).trans (h.below.block b hb)⟩,fun b hb=>by rw [World.putObj_size]; exact h.fb b hb,h.used,fun b g cb sz e=>by rw [World.putObj_size]; exact h.inb b g cb sz e,fun b x hx'=>?_,h.gen,h.inj,fun b o2 hb ho2=>h.fwk b o2 hb (by rw [← hx.same b hb]; exact ho2)⟩
  obtain ⟨pl,p1,p2,p3⟩:=h.blk b x hx'
  refine ⟨pl,p1,p2,p3.mono hx (kA.le_refl _) fun cb e=>World.putObj_heap_other fun e2=>?_⟩
  subst e; subst e2
  obtain ⟨-,-,⟨c,el,q,-⟩,-⟩:=p3
  rw [q] at ho; cases ho; cases hr
theorem qD.put {k : Nat} {s : St} (h : qD w0 w F φ s) (ho : zE w k) (h0 : w0.heap.size ≤ k) (hd : ∀ l x k' rec,wA s.lp l = some x → φ.loop l = some k' → w.heap[k']? = some (.loop rec) → rec.defers ≠ k) : qD w0 (w.putObj k (.deferred none)) F φ s:=by
  have hx:=Ext0.put (o':=.deferred none) h.heap.fwk ho rfl
  refine ⟨h.heap.put ho rfl h0,fun l x hl=>?_,fun l k' hk=>?_,h.linj⟩
  · refine ⟨fun hm0=>?_,fun m hm1=>?_⟩
    · obtain ⟨k',rec,h1,h2,h3,h4,h5,h6,h7,h8,h9,h10⟩:=(h.lps l x hl).1 hm0
      refine ⟨k',rec,h1,h2,?_,h4,h5,h6,h7,h8,⟨h9.size,fun t=>fA.mono hx (fun _ h=>h) (kA.le_refl _) _ _ (h9.val t)⟩,?_⟩
      · rw [World.putObj_heap_other fun e=>?_]; exact h3
        subst e; rw [ho] at h3; cases h3
      · unfold zE
        rw [World.putObj_heap_other (hd l x k' rec hl h1 h3)]; exact h10
    · obtain ⟨k',es,c,h1,h2,h3,h4⟩:=(h.lps l x hl).2 m hm1
      refine ⟨k',es,c,h1,h2,?_,h4.mono hx (fun _ h=>h)⟩
      rw [World.putObj_heap_other fun e=>?_]; exact h3
      subst e; rw [ho] at h3; cases h3
  · rw [World.putObj_size]; exact h.lused l k' hk
end
def EWP (P : Program) (f : FuncId) (args : List AV) (K : AV → St → Prop) (s : St) : Prop :=
  Ent P f ∧ ∀ (w0 w : World) (F : Nat → Prop) (φ : kA) (vs : List Value),qD w0 w F φ s → uA w F φ args vs →
    Calls P f ⟨vs⟩ w fun e w'=>∃ v r s' φ' F',e = .returned v ∧ qD w0 w' F' φ' s' ∧ fD w0 w F φ w' F' φ' ∧ fA w' F' φ' r v ∧ K r s'
theorem eW (P : Program) (s : St) (lp : List (Nat × yD)) : ∀ rs : List ResultVar,jE P { s with lp:=lp } rs = jE P s rs
  | []=>rfl
  | .tmp t::rs=>by simp only [jE,eW P s lp rs]
  | .cell a t::rs=>by simp only [jE,eW P s lp rs]
def bP (P : Program) (rs : List ResultVar) (N : List Nat) (K : AV → St → Prop) : Exit → St → Prop
  | .normal,s=>∃ vs,jE P s rs = some vs ∧ K (qH vs) { s with lp:=fE N s.lp }
  | .ret,s=>∃ vs,jE P s rs = some vs ∧ K (qH vs) { s with lp:=fE N s.lp }
  | _,_=>False
theorem zfh {P : Program} {w0 w : World} {F : Nat → Prop} {φ : kA} {fn : Func} {nt : Nat} {tmps : Array Value} {K : AV → St → Prop} {s : St} {F' : Nat → Prop} {φ' : kA} (hF : ∀ b o, F b → w.heap[b]? = some o → xQ o = false) (h0 : w0.heap.size ≤ w.heap.size)
    (hlp : ∀ l x,wA s.lp l = some x → ∃ k : Nat,φ.loop l = some k ∧ ((∃ rec : Loop,w.heap[k]? = some (.loop rec) ∧ zE w rec.defers) ∨ ∃ es c,w.heap[k]? = some (.map es c))) {vs : List AV} (hres : jE P s fn.results.toList = some vs) (hK : K (qH vs) s) : ∀ (Ds : List Nat) (w1 : World),qD w0 w1 F' φ' s → nE w1 F' φ' (qB s.fr) nt tmps → fD w0 w F φ w1 F' φ' → Ds.Nodup → (∀ D,D ∈ Ds → w.heap.size ≤ D ∧ zE w1 D) →
      LeavesInM Fence.wide 0 P fn tmps (fun e w'=>∃ v r s' φ' F',e = .returned v ∧ qD w0 w' F' φ' s' ∧ fD w0 w F φ w' F' φ' ∧ fA w' F' φ' r v ∧ K r s') (Ds.map jT) .returning w1
  | [],w1,hm,ht,hg,_,_=>by
    obtain ⟨x,h1,h2⟩:=zbj hm ht hres
    exact ⟨x,h1,x,qH vs,s,φ',F',rfl,hm,hg,h2,hK⟩
  | D::Ds,w1,hm,ht,hg,hn,hD=>by
    obtain ⟨d1,d2⟩:=hD D (by simp)
    have hx:=Ext0.put (o':=.deferred none) hm.heap.fwk d2 rfl
    refine ⟨by simp,.inl ⟨D,w1.putObj D (.deferred none),rfl,run_takeDeferred d2,?_⟩⟩
    have hn':=List.nodup_cons.1 hn
    refine zfh hF h0 hlp hres hK Ds _ (hm.put d2 (by omega) fun l x k' rec hl hk' hr=>?_) ⟨ht.size,fun t=>fA.mono hx (fun _ h=>h) (kA.le_refl _) _ _ (ht.val t)⟩ ?_ hn'.2 fun D' hD'=>?_
    · obtain ⟨k,q1,q23⟩:=hlp l x hl
      have e:=hg.le.2 _ _ q1
      rw [hk'] at e; cases e
      rcases q23 with ⟨rec0,q2,q3⟩ | ⟨es,c,q2⟩
      rotate_left
      · obtain ⟨es',c',p1⟩:=hg.mps k' es c q2
        rw [hr] at p1; cases p1
      obtain ⟨rec',p1,p2⟩:=hg.lps k' rec0 q2
      rw [hr] at p1; cases p1
      have : rec0.defers < w.heap.size:=(Array.getElem?_eq_some_iff.1 q3).1
      omega
    · refine ⟨hg.le,hg.sub,hg.new,hg.ext.trans hx hg.sub,fun k hk=>?_,fun k rec hk=>?_,fun k es c hk=>?_⟩
      · have : k < w.heap.size:=(Array.getElem?_eq_some_iff.1 hk).1
        unfold zE
        rw [World.putObj_heap_other (by omega)]; exact hg.opn k hk
      · have : k < w.heap.size:=(Array.getElem?_eq_some_iff.1 hk).1
        rw [World.putObj_heap_other (by omega)]; exact hg.lps k rec hk
      · have : k < w.heap.size:=(Array.getElem?_eq_some_iff.1 hk).1
        rw [World.putObj_heap_other (by omega)]; exact hg.mps k es c hk
    · obtain ⟨q1,q2⟩:=hD D' (by simp [hD'])
      refine ⟨q1,?_⟩
      unfold zE
      rw [World.putObj_heap_other (fun e=>by subst e; exact hn'.1 hD')]; exact q2
theorem zfs {w : World} {F : Nat → Prop} {φ : kA} {args : List AV} {vs : List Value} (hvs : uA w F φ args vs) {nt : Nat} (hl : args.length ≤ nt) : nE w F φ (qB (gK 0 args)) nt (⟨vs⟩++Array.replicate (nt - (⟨vs⟩ : Array Value).size) undef):=by
  have hlen:=hvs.length
  refine ⟨by simp; omega,fun t=>?_⟩
  rw [zmB]
  simp only [Nat.zero_le,if_true,Nat.sub_zero]
  cases ha : args[t]? with
  | none=>simp [fA]
  | some v =>
    obtain ⟨x,hx,hr⟩:=hvs.get ha
    have hlt:=(List.getElem?_eq_some_iff.1 hx).1
    have : ((⟨vs⟩ : Array Value)++Array.replicate (nt - (⟨vs⟩ : Array Value).size) undef).getD t undef = x:=by
      rw [Array.getD_eq_getD_getElem?,Array.getElem?_append_left (by simpa using hlt)]
      simp [hx]
    simp only [this]; exact hr
theorem zbK {P : Program} {f : FuncId} {fn : Func} {c : Code} {args : List AV} {K : AV → St → Prop} {s : St} (hf : P.funcs[f]? = some fn) (hb : fn.body = some c) (hn : fn.name ≠ "runtime.NumGoroutine") (hl : args.length ≤ fn.ntmps)
    (h : wB P fn.ntmps c (bP P fn.results.toList (s.lp.map (·.1)) K) ⟨gK 0 args,s.hp,s.nx,s.lp⟩) : EWP P f args K s:=by
  refine ⟨fun as w=>by simp [callFunc,hf,hn,hb],fun w0 w F φ vs hm hvs=>?_⟩
  refine (callsIn_wide (n:=0)).1 (callsIn_of_wp_marks hf hb trivial ?_)
  have hfits : tE ⟨none,w.heap.size,[]⟩ w0 w F φ fn.ntmps { tmps:=⟨vs⟩++Array.replicate (fn.ntmps - (⟨vs⟩ : Array Value).size) undef,defers:=[] } ⟨gK 0 args,s.hp,s.nx,s.lp⟩ :=
    ⟨⟨hm.heap,hm.lps,hm.lused,hm.linj⟩,zfs hvs hl,⟨⟨[],rfl,List.nodup_nil,fun D hD=>by simp at hD⟩,fun l0 hl0=>by simp at hl0,hm.heap.below.size,Nat.le_refl _⟩⟩
  refine wpIn_mono (h _ w0 w F φ _ hfits) ?_
  rintro e a' w' ⟨s',φ',F',k1,k2,k3⟩
  obtain ⟨Ds,d1,d2,d3⟩:=k1.env.dfr
  simp only [List.append_nil] at d1
  have fin : (∃ vs,jE P s' fn.results.toList = some vs ∧ K (qH vs) { s' with lp:=fE (s.lp.map (·.1)) s'.lp }) → LeavesInM Fence.wide 0 P fn a'.tmps (fun e w'=>∃ v r s' φ' F',e = .returned v ∧ qD w0 w' F' φ' s' ∧ fD w0 w F φ w' F' φ' ∧ fA w' F' φ' r v ∧ K r s') a'.defers .returning w':=by
    rintro ⟨vs',g1,g2⟩
    rw [d1]
    refine zfh (s:={ s' with lp:=fE (s.lp.map (·.1)) s'.lp }) hm.heap.fwk hm.heap.below.size (fun l x hx=>?_) (by rw [eW]; exact g1) g2 Ds w' ⟨k1.mem.heap,fun l x hx=>k1.mem.lps l x (iV _ _ _ _ hx),k1.mem.lused,k1.mem.linj⟩ k1.tmps k2 d2 d3
    obtain ⟨x0,hx0⟩:=zbZ l _ (zai _ _ _ _ hx)
    cases hm0 : x0.mp with
    | none =>
      obtain ⟨k,rec,q1,-,q3,-,-,-,-,-,-,q4⟩:=(hm.lps l x0 hx0).1 hm0
      exact ⟨k,q1,.inl ⟨rec,q3,q4⟩⟩
    | some m =>
      obtain ⟨k,es,c,q1,-,q3,-⟩:=(hm.lps l x0 hx0).2 m hm0
      exact ⟨k,q1,.inr ⟨es,c,q3⟩⟩
  cases e with
  | normal=>exact fin k3
  | ret=>exact fin k3
  | exit id=>exact k3.elim
  | goto l=>exact k3.elim
  | panic ch=>exact k3.elim
  | outgrown=>exact k3.elim
end Go.AM
