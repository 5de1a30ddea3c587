/- A text of the proof. -/
import Derived.Test.YtnlggkiekcpahaaGreatAAmZ
set_option linter.unusedSimpArgs false
set_option linter.unusedVariables false
namespace Go.AM
open Go Go.RowKit
def AV.regen (gs : List Nat) : AV → AV
  | .ref b g i j=>if gs[b]? = some g then .ref b 0 i j else .top
  | .sl b g z o l=>if gs[b]? = some g then .sl b 0 z o l else .top
  | .fn f a c=>.fn f (regens gs a) (regens gs c)
  | .iface t v=>.iface t (v.regen gs)
  | .agg cs=>.agg (regens gs cs)
  | .tup cs=>.tup (regens gs cs)
  | .yld _=>.top
  | .mp _=>.top
  | v=>v
where regens (gs : List Nat) : List AV → List AV
  | []=>[]
  | v::vs=>v.regen gs::regens gs vs
def pA.regen (gs : List Nat) (b : pA) : pA:={ b with g:=0,es:=if b.pure then b.es else b.es.map (AV.regen.regens gs) }
def kA.regen (φ : kA) (gs : List Nat) : kA:={ blk:=fun m g=>if g = 0 then (match gs[m]? with | some g'=>φ.blk m g' | none=>none) else none,loop:=fun _=>none }
mutual
theorem tY {w : World} {F : Nat → Prop} {φ : kA} {gs : List Nat} : ∀ (a : AV) (v : Value),fA w F φ a v → fA w F (φ.regen gs) (a.regen gs) v
  | a,v=>by
    cases a with
    | yld l=>intro _; simp [AV.regen,fA]
    | mp l=>intro _; simp [AV.regen,fA]
    | fn f x c =>
      intro hr; simp only [AV.regen,fA] at hr ⊢
      obtain ⟨fs,cs,h1,h2,h3⟩:=hr
      exact ⟨fs,cs,h1,jU x fs h2,jU c cs h3⟩
    | iface t x=>intro hr; simp only [AV.regen,fA] at hr ⊢; obtain ⟨y,h1,h2⟩:=hr; exact ⟨y,h1,tY x y h2⟩
    | agg cs=>intro hr; simp only [AV.regen,fA] at hr ⊢; obtain ⟨y,h1,h2,h3⟩:=hr; exact ⟨y,h1,jU cs y h2,h3⟩
    | tup cs=>intro hr; simp only [AV.regen,fA] at hr ⊢; obtain ⟨y,h1,h2⟩:=hr; exact ⟨y,h1,jU cs y h2⟩
    | ref b g i j =>
      intro hr; simp only [AV.regen]
      split
      · rename_i e
        simp only [fA] at hr ⊢; obtain ⟨cb,sz,h1,h2⟩:=hr
        exact ⟨cb,sz,by simp only [kA.regen,if_true,e]; exact h1,h2⟩
      · simp [fA]
    | sl b g z o l =>
      intro hr; simp only [AV.regen]
      split
      · rename_i e
        simp only [fA] at hr ⊢
        rcases hr with ⟨h1,h2⟩ | ⟨cb,cap,h1,h2⟩
        · exact .inl ⟨by simp only [kA.regen,if_true,e]; exact h1,h2⟩
        · exact .inr ⟨cb,cap,by simp only [kA.regen,if_true,e]; exact h1,h2⟩
      · simp [fA]
    | top=>intro _; simp [AV.regen,fA]
    | anyb=>intro hr; simpa [AV.regen,fA] using hr
    | bool b=>intro hr; simpa [AV.regen,fA] using hr
    | int k n=>intro hr; simpa [AV.regen,fA] using hr
    | str s=>intro hr; simpa [AV.regen,fA] using hr
    | nilp=>intro hr; simpa [AV.regen,fA] using hr
    | pp cs=>intro hr; simpa [AV.regen,fA] using hr
    | psl sz es=>intro hr; simpa [AV.regen,fA] using hr
    | nils=>intro hr; simpa [AV.regen,fA] using hr
    | nilf=>intro hr; simpa [AV.regen,fA] using hr
    | nili=>intro hr; simpa [AV.regen,fA] using hr
    | emp=>intro hr; simpa [AV.regen,fA] using hr
theorem jU {w : World} {F : Nat → Prop} {φ : kA} {gs : List Nat} : ∀ (as : List AV) (vs : List Value),uA w F φ as vs → uA w F (φ.regen gs) (AV.regen.regens gs as) vs
  | [],vs=>by intro h; simpa [AV.regen.regens,uA] using h
  | a::as,vs=>by
    intro hr; simp only [AV.regen.regens,uA] at hr ⊢
    obtain ⟨v,vs',h1,h2,h3⟩:=hr
    exact ⟨v,vs',h1,tY a v h2,jU as vs' h3⟩
end
theorem zaA (gs : List Nat) : ∀ (as : List AV),(AV.regen.regens gs as).length = as.length
  | []=>rfl
  | a::as=>by simp [AV.regen.regens,zaA gs as]
theorem zen {w : World} {F : Nat → Prop} {φ : kA} {gs : List Nat} {b : Nat} : ∀ (es : List (List AV)) (o : Nat),fC w F φ es b o → fC w F (φ.regen gs) (es.map (AV.regen.regens gs)) b o
  | [],o,_=>by simp [fC]
  | e::es,o,h=>by
    simp only [List.map_cons,fC,zaA] at h ⊢
    refine ⟨?_,zen es _ h.2⟩
    have:=h.1
    rw [vF] at this ⊢
    obtain ⟨vs,h1,h2,h3⟩:=this
    exact ⟨vs,jU e vs h1,h2,h3⟩
theorem xB.regen {w0 w : World} {F : Nat → Prop} {φ : kA} {blks : List pA} (h : xB w0 w F φ (fun m => m < blks.length) (fun m => blks[m]?)) :
    xB w0 w F (φ.regen (blks.map (·.g))) (fun m=>m < (blks.map (pA.regen (blks.map (·.g)))).length) (fun m=>(blks.map (pA.regen (blks.map (·.g))))[m]?):=by
  have old : ∀ b g x,(φ.regen (blks.map (·.g))).blk b g = some x → g = 0 ∧ ∃ y,blks[b]? = some y ∧ φ.blk b y.g = some x:=fun b g x hx=>by
    simp only [kA.regen] at hx
    split at hx
    · rename_i e
      split at hx
      · rename_i g' e'
        simp only [List.getElem?_map,Option.map_eq_some_iff] at e'
        obtain ⟨y,hy,rfl⟩:=e'
        exact ⟨e,y,hy,hx⟩
      · cases hx
    · cases hx
  have new : ∀ b y,blks[b]? = some y → (φ.regen (blks.map (·.g))).blk b 0 = φ.blk b y.g:=fun b y hy=>by
    simp only [kA.regen,if_true,List.getElem?_map,hy,Option.map_some]
  have get : ∀ (b : Nat) (x : pA),(blks.map (pA.regen (blks.map (·.g))))[b]? = some x → ∃ y : pA,blks[b]? = some y ∧ x = y.regen (blks.map (·.g)):=fun b x hx=>by
    simp only [List.getElem?_map,Option.map_eq_some_iff] at hx
    obtain ⟨y,hy,rfl⟩:=hx
    exact ⟨y,hy,rfl⟩
  refine ⟨h.below,h.fb,fun b g x hx=>?_,fun b g cb sz hx=>?_,fun b x hx=>?_,fun b x hx g hg=>?_,fun b b' x y cb sz sz' hx hy e1 e2=>?_,h.fwk⟩
  · obtain ⟨-,y,hy,-⟩:=old b g x hx
    simpa using (List.getElem?_eq_some_iff.1 hy).1
  · obtain ⟨-,y,hy,e⟩:=old _ _ _ hx
    exact h.inb _ _ _ _ e
  · obtain ⟨y,hy,rfl⟩:=get b x hx
    obtain ⟨pl,p1,p2,p3⟩:=h.blk b y hy
    refine ⟨pl,(new b y hy).trans p1,?_,?_⟩
    · intro e he
      simp only [pA.regen] at he
      split at he
      · exact p2 e he
      · obtain ⟨e',he',rfl⟩:=List.mem_map.1 he
        rw [zaA]; exact p2 e' he'
    · cases pl with
      | none=>simp only [kJ] at p3 ⊢; simp only [pA.regen]; split <;> simp [p3]
      | some cb =>
        obtain ⟨f1,f2,f3,f4⟩:=p3
        refine ⟨f1,f2,?_,?_⟩
        · obtain ⟨c,el,q1,q2⟩:=f3
          refine ⟨c,el,q1,?_⟩
          simp only [pA.regen]; split
          · exact q2
          · simpa using q2
        · unfold pA.emb at f4 ⊢
          simp only [pA.regen]
          by_cases hp : y.pure = true
          · simp only [hp,if_true] at f4 ⊢; exact f4
          · simp only [hp] at f4 ⊢; exact zen _ _ f4
  · simp only [kA.regen]
    split
    · rename_i e; subst e; omega
    · rfl
  · obtain ⟨x',hx',rfl⟩:=get b x hx
    obtain ⟨y',hy',rfl⟩:=get b' y hy
    have q1:=(new b x' hx').symm.trans e1
    have q2:=(new b' y' hy').symm.trans e2
    exact h.inj b b' x' y' cb sz sz' hx' hy' q1 q2
theorem yA.regen {P : Program} {f : FuncId} {args : List AV} {r : AV} {blks : List pA} (h : yA P f args r blks) : yA P f args (r.regen (blks.map (·.g))) (blks.map (pA.regen (blks.map (·.g)))):=by
  refine ⟨h.1,fun w F vs hF hvs=>(h.2 w F vs hF hvs).mono ?_⟩
  rintro e w' ⟨v,φ',F',rfl,k1,k2,k3,k4⟩
  exact ⟨v,_,F',rfl,k1,k2,k3.regen,tY _ _ k4⟩
theorem yA.le {P : Program} {f : FuncId} {args : List AV} {r r' : AV} {blks : List pA} (h : yA P f args r blks) (hl : r.Le r') : yA P f args r' blks:=by
  refine ⟨h.1,fun w F vs hF hvs=>(h.2 w F vs hF hvs).mono ?_⟩
  rintro e w' ⟨v,φ',F',rfl,k1,k2,k3,k4⟩
  exact ⟨v,φ',F',rfl,k1,k2,k3,hl _ _ _ _ k4⟩
def fS (ns : List Nat) (r : AV) (blks : List pA) (v : AV) (s : St) : Prop :=
  bC (nC ns (wA s.hp) 60 v) fun p=>bC (qL ns (wA s.hp) ns) fun q=>ns.Nodup ∧ (∀ b,b ∈ ns → b ∉ p.2++q.2) ∧ (p.1.regen (q.1.map (·.g))).Le r ∧ q.1.map (pA.regen (q.1.map (·.g))) = blks
theorem zcC {P : Program} {f : FuncId} {args : List AV} {r : AV} {blks : List pA} (h : EWP P f args (fun v s=>∃ ns,fS ns r blks v s) ⟨[],[],0,[]⟩) : yA P f args r blks:=by
  refine ⟨h.1,fun w F vs hF hvs=>?_⟩
  have hm : qD w w F kA.zero ⟨[],[],0,[]⟩:=by
    refine ⟨⟨Below.refl _ _,fun b hb=>(hF b hb).1,fun b g x hx=>by simp [kA.zero] at hx,fun b g cb sz hx=>by simp [kA.zero] at hx,fun b x hx=>by simp [wA] at hx,fun b x hx=>by simp [wA] at hx,fun b b' x y cb sz sz' hx=>by simp [wA] at hx,fun b o hb ho=>(hF b hb).2 o ho⟩,fun l x hx=>by simp [wA] at hx,fun l k hx=>by simp [kA.zero] at hx,fun l l' k hx=>by simp [kA.zero] at hx⟩
  refine (h.2 w w F kA.zero vs hm hvs).mono ?_
  rintro e w' ⟨v,r0,s',φ',F',rfl,k1,k2,k3,ns,hg⟩
  obtain ⟨⟨r',rd⟩,g2,hg⟩:=hg.get
  obtain ⟨⟨bl,rd'⟩,g3,g4,g5,g6,g7⟩:=hg.get
  have hr:=zaS k1.heap ns 60 _ _ _ _ g2 k3
  have hh:=k1.heap.pick (rd:=rd++rd') g3 (fun c hc=>List.mem_append_right _ hc) g4 g5
  refine ⟨v,(φ'.pick ns).regen (bl.map (·.g)),aD F' φ' (wA s'.hp) (rd++rd'),rfl,fun b hb=>.inl (k2.sub b hb),fun b hb=>?_,?_,?_⟩
  · rcases hb with hb | ⟨n,-,blk,hb,sz,e⟩
    · exact k2.new b hb
    · obtain ⟨pl,p1,-,p3⟩:=k1.heap.blk n blk hb
      rw [e] at p1; cases p1
      exact .inr p3.1
  · subst g7; exact hh.regen
  · exact g6 _ _ _ _ (tY _ _ (fA.mono (Ext0.refl _ w') (aD.mono (fun _ hm=>List.mem_append_left _ hm)) (kA.le_refl _) _ _ hr))
theorem dB {P : Program} {f : FuncId} {fn : Func} {c : Code} {args : List AV} {r : AV} {blks : List pA} (hf : P.funcs[f]? = some fn) (hb : fn.body = some c) (hn : fn.name ≠ "runtime.NumGoroutine") (hl : args.length ≤ fn.ntmps)
    (h : wB P fn.ntmps c (bP P fn.results.toList [] (fun v s=>∃ ns,fS ns r blks v s)) ⟨gK 0 args,[],0,[]⟩) : yA P f args r blks :=
  zcC (zbK hf hb hn hl h)
theorem zhe (φ : kA) : φ.addN [] = φ:=by
  cases φ; simp only [kA.addN,wA]
theorem lC {P : Program} {nt : Nat} {K : Exit → St → Prop} {s : St} {ι : Type} {c : Code} (I : ι → St) (μ : ι → Nat) (i0 : ι) (h0 : LeN [] s (I i0)) (hn : ∀ i, s.nx ≤ (I i).nx)
    (hround : ∀ i,wB P nt c (tN (fun s'=>∃ j,LeN [] s' (I j) ∧ μ j < μ i) K) (I i)) : wB P nt (.loop c) K s:=by
  intro cx w0 w F φ a hf
  have hfit : ∀ {s' s : St} {F : Nat → Prop} {φ : kA} {w : World} {a : Act},LeN [] s' s → tE cx w0 w F φ nt a s' → tE cx w0 w F (φ.cut s.nx) nt a s:=fun hl hf=>by have:=hl.fits hf; rwa [zhe] at this
  have hsmall : ∀ i b g x,φ.blk b g = some x → b < (I i).nx:=fun i b g x hx=>by have:=hf.mem.heap.used _ _ _ hx; have:=hn i; omega
  have hsl : ∀ i l k,φ.loop l = some k → l < (I i).nx:=fun i l k hk=>by have:=(hf.mem.lused _ _ hk).1; have:=hn i; omega
  refine zm3 (fun i a' w'=>∃ φ' F',tE cx w0 w' F' φ' nt a' (I i) ∧ fD w0 w F φ w' F' φ') μ ?_ i0 a w ⟨φ.cut (I i0).nx,F,hfit h0 hf,(fD.refl _ _ _ _).cut (hsmall i0) (hsl i0)⟩
  rintro i a1 w1 ⟨φ1,F1,h1,h2⟩
  refine wpIn_mono (hround i cx w0 w1 F1 φ1 a1 h1) ?_
  rintro e a2 w2 ⟨s2,φ2,F2,k1,k2,k3⟩
  cases e with
  | normal =>
    obtain ⟨j,hj,hlt⟩:=k3
    exact ⟨j,⟨φ2.cut (I j).nx,F2,hfit hj k1,(h2.trans k2).cut (hsmall j) (hsl j)⟩,hlt⟩
  | exit id=>exact ⟨s2,φ2,F2,k1,h2.trans k2,k3⟩
  | goto l=>exact ⟨s2,φ2,F2,k1,h2.trans k2,k3⟩
  | ret=>exact ⟨s2,φ2,F2,k1,h2.trans k2,k3⟩
  | panic c=>exact ⟨s2,φ2,F2,k1,h2.trans k2,k3⟩
  | outgrown=>exact ⟨s2,φ2,F2,k1,h2.trans k2,k3⟩
def AV.frz (η : kB) (rd : List Nat) : AV → AV
  | .sl c g z off len=>if c ∈ rd then (match aC η 1 (.sl c g z off len) with | some (v,_)=>v | none=>.sl c g z off len) else .sl c g z off len
  | .fn f a c=>.fn f (frzs η rd a) (frzs η rd c)
  | .iface t v=>.iface t (v.frz η rd)
  | .agg cs=>.agg (frzs η rd cs)
  | .tup cs=>.tup (frzs η rd cs)
  | v=>v
where frzs (η : kB) (rd : List Nat) : List AV → List AV
  | []=>[]
  | v::vs=>v.frz η rd::frzs η rd vs
def pA.frz (η : kB) (rd : List Nat) (b : Nat) (x : pA) : pA :=
  if x.pure then { x with own:=x.own && !(rd.contains b) } else
  { x with own:=x.own && !(rd.contains b),es:=x.es.map (AV.frz.frzs η rd),pure:=(x.es.map (AV.frz.frzs η rd)).all AV.isP.isPs }
def vT (η : kB) (rd : List Nat) : List (Nat × AV) → List (Nat × AV)
  | []=>[]
  | (t,v)::l=>(t,v.frz η rd)::vT η rd l
def sP (η : kB) (rd : List Nat) : List (Nat × pA) → List (Nat × pA)
  | []=>[]
  | (b,x)::l=>(b,x.frz η rd b)::sP η rd l
def St.frz (s : St) (rd : List Nat) : St:=⟨vT (wA s.hp) rd s.fr,sP (wA s.hp) rd s.hp,s.nx,s.lp⟩
section
variable {w0 w : World} {F : Nat → Prop} {φ : kA} {U : Nat → Prop} {η : kB} {rd : List Nat}
theorem zjO {η : kB} : ∀ (es es' : List (List AV)) (rd : List Nat),aI (aC.purs η 0) es = some (es',rd) → rd = []
  | [],es',rd,h=>by simp only [aI,Option.some.injEq,Prod.mk.injEq] at h; exact h.2.symm
  | e::es,es',rd,h=>by
    simp only [aI] at h
    split at h
    · rename_i h1 h2; cases h1
    · cases h
mutual
theorem zbt (h : xB w0 w F φ U η) : ∀ (a : AV) (v : Value),fA w F φ a v → fA w (aD F φ η rd) φ (a.frz η rd) v
  | a,v=>by
    have mono : ∀ (u : AV),fA w F φ u v → fA w (aD F φ η rd) φ u v:=fun u hu=>fA.mono (Ext0.refl F w) (fun b hb=>.inl hb) (kA.le_refl _) _ _ hu
    cases a with
    | sl c g z off len =>
      intro hr
      simp only [AV.frz]
      split
      · rename_i hc
        split
        · rename_i v' r' hp
          have hsub : ∀ b,aD F φ η r' b → aD F φ η rd b:=by
            refine aD.mono fun x hx=>?_
            simp only [aC] at hp
            split at hp
            · split at hp
              · split at hp
                · cases hp; simp at hx; subst hx; exact hc
                · split at hp
                  · rename_i hm
                    cases hp
                    rw [zjO _ _ _ hm] at hx
                    simp at hx; subst hx; exact hc
                  · cases hp
              · cases hp
            · cases hp
          exact fA.mono (Ext0.refl _ w) hsub (kA.zero_le _) _ _ (bW h _ _ _ _ _ hp hr)
        · exact mono _ hr
      · exact mono _ hr
    | fn f x c =>
      intro hr; simp only [AV.frz,fA] at hr ⊢
      obtain ⟨fs,cs,h1,h2,h3⟩:=hr
      exact ⟨fs,cs,h1,wU h x fs h2,wU h c cs h3⟩
    | iface t x=>intro hr; simp only [AV.frz,fA] at hr ⊢; obtain ⟨y,h1,h2⟩:=hr; exact ⟨y,h1,zbt h x y h2⟩
    | agg cs=>intro hr; simp only [AV.frz,fA] at hr ⊢; obtain ⟨y,h1,h2,h3⟩:=hr; exact ⟨y,h1,wU h cs y h2,h3⟩
    | tup cs=>intro hr; simp only [AV.frz,fA] at hr ⊢; obtain ⟨y,h1,h2⟩:=hr; exact ⟨y,h1,wU h cs y h2⟩
    | yld l=>intro hr; exact mono _ hr
    | mp l=>intro hr; exact mono _ hr
    | ref b g i j=>intro hr; exact mono _ hr
    | top=>intro hr; exact mono _ hr
    | anyb=>intro hr; exact mono _ hr
    | bool b=>intro hr; exact mono _ hr
    | int k n=>intro hr; exact mono _ hr
    | str s=>intro hr; exact mono _ hr
    | nilp=>intro hr; exact mono _ hr
    | pp cs=>intro hr; exact mono _ hr
    | psl sz es=>intro hr; exact mono _ hr
    | nils=>intro hr; exact mono _ hr
    | nilf=>intro hr; exact mono _ hr
    | nili=>intro hr; exact mono _ hr
    | emp=>intro hr; exact mono _ hr
theorem wU (h : xB w0 w F φ U η) : ∀ (as : List AV) (vs : List Value),uA w F φ as vs → uA w (aD F φ η rd) φ (AV.frz.frzs η rd as) vs
  | [],vs=>by intro h; simpa [AV.frz.frzs,uA] using h
  | a::as,vs=>by
    intro hr; simp only [AV.frz.frzs,uA] at hr ⊢
    obtain ⟨v,vs',h1,h2,h3⟩:=hr
    exact ⟨v,vs',h1,zbt h a v h2,wU h as vs' h3⟩
end
theorem zaX : ∀ (as : List AV),(AV.frz.frzs η rd as).length = as.length
  | []=>rfl
  | a::as=>by simp [AV.frz.frzs,zaX as]
theorem zfe (h : xB w0 w F φ U η) {b : Nat} : ∀ (es : List (List AV)) (o : Nat),fC w F φ es b o → fC w (aD F φ η rd) φ (es.map (AV.frz.frzs η rd)) b o
  | [],o,_=>by simp [fC]
  | e::es,o,hr=>by
    simp only [List.map_cons,fC,zaX] at hr ⊢
    refine ⟨?_,zfe h es _ hr.2⟩
    have:=hr.1
    rw [vF] at this ⊢
    obtain ⟨vs,h1,h2,h3⟩:=this
    exact ⟨vs,wU h e vs h1,h2,h3⟩
theorem zcM {b : Nat} : ∀ (es : List (List AV)) (o : Nat),es.all AV.isP.isPs = true → fC w F φ es b o → fC w F kA.zero es b o
  | [],o,_,_=>by simp [fC]
  | e::es,o,hp,hr=>by
    simp only [List.all_cons,Bool.and_eq_true] at hp
    simp only [fC] at hr ⊢
    refine ⟨?_,zcM es _ hp.2 hr.2⟩
    have:=hr.1
    rw [vF] at this ⊢
    obtain ⟨vs,h1,h2,h3⟩:=this
    exact ⟨vs,cQ e vs hp.1 h1,h2,h3⟩
theorem pZ (b : Nat) : ∀ hp : List (Nat × pA),wA (sP η rd hp) b = (wA hp b).map (fun x=>x.frz η rd b)
  | []=>rfl
  | (k,y)::hp=>by
    simp only [sP,wA]
    split
    · rename_i e; subst e; rfl
    · exact pZ b hp
theorem zcx (t : Nat) : ∀ fr : List (Nat × AV),qB (vT η rd fr) t = (qB fr t).frz η rd
  | []=>rfl
  | (k,y)::fr=>by
    simp only [vT,cR]
    split
    · rfl
    · exact zcx t fr
theorem ziR {P : Program} {nt : Nat} {K : Exit → St → Prop} {c : Code} {s : St} (rd : List Nat) (h : wB P nt c K (s.frz rd)) : wB P nt c K s:=by
  intro cx w0 w F φ a hf
  have hh:=hf.mem.heap
  have hfz:=hh.freeze rd
  have hF : ∀ b,F b → aD F φ (wA s.hp) rd b:=fun b hb=>.inl hb
  have hg : fD w0 w F φ w (aD F φ (wA s.hp) rd) φ:=⟨kA.le_refl φ,hF,fun b hb=>by
    rcases hb with hb | ⟨n,-,blk,hb,sz,e⟩
    · exact .inl hb
    · obtain ⟨pl,p1,-,p3⟩:=hh.blk n blk hb
      rw [e] at p1; cases p1
      exact .inr p3.1,Ext0.refl F w,fun _ h=>h,fun _ rec h=>⟨rec,h,rfl⟩,fun _ es c h=>⟨es,c,h⟩⟩
  have hmem : qD w0 w (aD F φ (wA s.hp) rd) φ (s.frz rd):=by
    refine ⟨⟨hh.below,hfz.fb,hh.used,hh.inb,fun b x hx=>?_,fun b x hx g hg=>?_,fun b b' x y cb sz sz' hx hy e1 e2=>?_,hfz.fwk⟩,fun l x hx=>(hf.mem.lps l x hx).mono hg fun _ _ _ _ h=>h,hf.mem.lused,hf.mem.linj⟩
    · change wA (sP (wA s.hp) rd s.hp) b = some x at hx
      rw [pZ] at hx
      obtain ⟨y,hy,rfl⟩:=Option.map_eq_some_iff.1 hx
      obtain ⟨pl,p1,p2,p3⟩:=hh.blk b y hy
      have hgs : (y.frz (wA s.hp) rd b).g = y.g ∧ (y.frz (wA s.hp) rd b).sz = y.sz:=by unfold pA.frz; split <;> exact ⟨rfl,rfl⟩
      refine ⟨pl,by rw [hgs.1,hgs.2]; exact p1,?_,?_⟩
      · rw [hgs.2]
        unfold pA.frz
        split
        · exact p2
        · intro e he
          obtain ⟨e',he',rfl⟩:=List.mem_map.1 he
          rw [zaX]; exact p2 e' he'
      · cases pl with
        | none =>
          simp only [kJ] at p3 ⊢
          unfold pA.frz; split
          · exact p3
          · simp [p3]
        | some cb =>
          obtain ⟨f1,f2,⟨c,el,q1,q2⟩,f4⟩:=p3
          refine ⟨f1,fun ho hL=>?_,⟨c,el,q1,?_⟩,?_⟩
          · have ho' : (y.own && !(rd.contains b)) = true:=by unfold pA.frz at ho; split at ho <;> exact ho
            simp only [Bool.and_eq_true,Bool.not_eq_true'] at ho'
            rcases hL with q | ⟨n,hn,blk,hb,sz,e⟩
            · exact f2 ho'.1 q
            · have:=hh.inj n b blk y cb _ _ hb hy e p1
              subst this
              rw [List.contains_iff_mem.2 hn] at ho'; simp at ho'
          · rw [hgs.2]; unfold pA.frz; split
            · exact q2
            · simpa using q2
          · by_cases hp : y.pure = true
            · unfold pA.emb at f4 ⊢
              unfold pA.frz
              rw [if_pos hp] at f4
              rw [if_pos hp]
              simp only [hp,if_true]
              exact fC.mono (Ext0.refl _ w) hF (kA.le_refl _) _ _ _ rfl f4
            · unfold pA.emb at f4 ⊢
              unfold pA.frz
              rw [if_neg hp] at f4
              rw [if_neg hp]
              have:=zfe (rd:=rd) hh y.es 0 f4
              simp only
              split
              · rename_i hq; exact zcM _ _ hq this
              · exact this
    · change wA (sP (wA s.hp) rd s.hp) b = some x at hx
      rw [pZ] at hx
      obtain ⟨y,hy,rfl⟩:=Option.map_eq_some_iff.1 hx
      refine hh.gen b y hy g ?_
      have : (y.frz (wA s.hp) rd b).g = y.g:=by unfold pA.frz; split <;> rfl
      rw [← this]; exact hg
    · change wA (sP (wA s.hp) rd s.hp) b = some x at hx
      change wA (sP (wA s.hp) rd s.hp) b' = some y at hy
      rw [pZ] at hx hy
      obtain ⟨x',hx',rfl⟩:=Option.map_eq_some_iff.1 hx
      obtain ⟨y',hy',rfl⟩:=Option.map_eq_some_iff.1 hy
      have g1 : (x'.frz (wA s.hp) rd b).g = x'.g:=by unfold pA.frz; split <;> rfl
      have g2 : (y'.frz (wA s.hp) rd b').g = y'.g:=by unfold pA.frz; split <;> rfl
      rw [g1] at e1; rw [g2] at e2
      exact hh.inj b b' x' y' cb sz sz' hx' hy' e1 e2
  have hfits : tE cx w0 w (aD F φ (wA s.hp) rd) φ nt a (s.frz rd) :=
    ⟨hmem,⟨hf.tmps.size,fun t=>by
      change fA _ _ _ (qB (vT (wA s.hp) rd s.fr) t) _
      rw [zcx]; exact zbt hh _ _ (hf.tmps.val t)⟩,hf.env.mono hg rfl⟩
  refine wpIn_mono (h cx w0 w _ φ a hfits) ?_
  rintro e a' w' ⟨s',φ',F',h1,h2,h3⟩
  exact ⟨s',φ',F',h1,hg.trans h2,h3⟩
end
end Go.AM
