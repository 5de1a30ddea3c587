/- A text of the proof. -/
import Derived.Test.YtnlggkiekcpahaaGreatAAmQ
set_option linter.unusedSimpArgs false
set_option linter.unusedVariables false
namespace Go.AM
open Go Go.RowKit
def wA {α : Type} : List (Nat × α) → Nat → Option α
  | [],_=>none
  | (k,v)::l,n=>if n = k then some v else wA l n
def qB (fr : List (Nat × AV)) (t : Nat) : AV:=match wA fr t with | some v=>v | none=>.top
def bG {α : Type} : List (Nat × α) → Nat → α → List (Nat × α)
  | [],b,x=>[(b,x)]
  | (k,y)::l,b,x=>if b = k then (k,x)::l else (k,y)::bG l b x
def vR : List (Nat × pA) → List (Nat × pA) → List (Nat × pA)
  | hp,[]=>hp
  | hp,(b,x)::l=>vR (bG hp b x) l
theorem eX {α : Type} (b : Nat) (x : α) : ∀ (hp : List (Nat × α)),wA (bG hp b x) = rD (wA hp) b (some x)
  | []=>by funext c; simp [bG,wA,rD]
  | (k,y)::l=>by
    funext c
    simp only [bG]
    split
    · rename_i e; subst e
      simp only [wA,rD]
      split <;> simp_all
    · rename_i e
      simp only [wA,eX b x l,rD]
      split
      · rename_i h; subst h
        rw [if_neg (fun h=>e h.symm)]
      · rfl
theorem zax : ∀ (l hp : List (Nat × pA)),wA (vR hp l) = iE (wA hp) l
  | [],hp=>rfl
  | (b,x)::l,hp=>by simp only [vR,iE,zax l,eX]
theorem cR (k : Nat) (v : AV) (l : List (Nat × AV)) (t : Nat) : qB ((k,v)::l) t = if t = k then v else qB l t:=by
  simp only [qB,wA]
  by_cases h : t = k
  · rw [if_pos h,if_pos h]
  · rw [if_neg h,if_neg h]
theorem xV (t : Nat) : qB [] t = .top:=rfl
def jH (fr : List (Nat × AV)) (d : Option Nat) (v : AV) : List (Nat × AV):=match d with | some d=>(d,v)::fr | none=>fr
theorem lP (fr : List (Nat × AV)) (d : Option Nat) (v : AV) : qB (jH fr d v) = yR (qB fr) d v:=by
  cases d with
  | none=>rfl
  | some d=>funext t; simp only [jH,cR,yR,rD]
structure yD where
  fr : List (Nat × AV)
  nt : Nat
  ps : List Nat
  assign : Code
  body : Code
  st : LoopState
  pend : Option Code
  mp : Option (List (AV × AV))
structure St where
  fr : List (Nat × AV)
  hp : List (Nat × pA)
  nx : Nat
  lp : List (Nat × yD)
def lJ (P : Program) (nt : Nat) (ops : Array Oper) (ans : Nat → Option (AV × List pA)) (nx : Nat) : List (Nat × Oper) → List (Nat × AV) → List (Nat × pA) → Option (List (Nat × AV) × List (Nat × pA) × List SE)
  | [],fr,hp=>some (fr,hp,[])
  | (i,o)::jB,fr,hp=>match yK P nt ops o (ans i) (nx + 8 * i) (qB fr) (wA hp) with
    | some se=>match lJ P nt ops ans nx jB (jH fr se.d se.v) (vR hp se.wr) with
      | some (fr',hp',ses)=>some (fr',hp',se::ses)
      | none=>none
    | none=>none
theorem cY {P : Program} {nt : Nat} {ops : Array Oper} {ans : Nat → Option (AV × List pA)} {nx : Nat} : ∀ (l : List (Nat × Oper)) (fr fr' : List (Nat × AV)) (hp hp' : List (Nat × pA)) (ses : List SE),
    lJ P nt ops ans nx l fr hp = some (fr',hp',ses) → mQ P nt ops ans nx l (qB fr) (wA hp) = some ses ∧ qB fr' = kF (qB fr) ses ∧ wA hp' = mF (wA hp) ses
  | [],fr,fr',hp,hp',ses,h=>by simp only [lJ,Option.some.injEq,Prod.mk.injEq] at h; obtain ⟨rfl,rfl,rfl⟩:=h; exact ⟨rfl,rfl,rfl⟩
  | (i,o)::jB,fr,fr',hp,hp',ses,h=>by
    simp only [lJ] at h
    split at h
    · rename_i se hse
      split at h
      · rename_i a b c hr
        simp only [Option.some.injEq,Prod.mk.injEq] at h
        obtain ⟨rfl,rfl,rfl⟩:=h
        obtain ⟨h1,h2,h3⟩:=cY jB _ _ _ _ _ hr
        rw [lP] at h1 h2
        rw [zax] at h1 h3
        refine ⟨?_,h2,h3⟩
        simp only [mQ,hse]
        rw [show yL (qB fr) se = yR (qB fr) se.d se.v from rfl,show yO (wA hp) se = iE (wA hp) se.wr from rfl,h1]
      · cases h
    · cases h
def zE (w : World) (k : Nat) : Prop:=w.heap[k]? = some (.deferred (some []))
def nG (w : World) (F : Nat → Prop) : List (AV × AV) → List MapEntry → Prop
  | [],es=>es = []
  | (k,v)::m,es=>∃ e es',es = e::es' ∧ fA w F kA.zero k e.key ∧ fA w F kA.zero v e.val ∧ nG w F m es'
theorem nG.mono {w w' : World} {F F' : Nat → Prop} (hx : Ext0 F w w') (hF : ∀ b,F b → F' b) : ∀ {m : List (AV × AV)} {es : List MapEntry},nG w F m es → nG w' F' m es
  | [],_,h=>h
  | (k,v)::m,_,⟨e,es',h1,h2,h3,h4⟩=>⟨e,es',h1,fA.mono hx hF (kA.le_refl _) _ _ h2,fA.mono hx hF (kA.le_refl _) _ _ h3,nG.mono hx hF h4⟩
def kW (w0 w : World) (F : Nat → Prop) (φ : kA) (l : Nat) (m : List (AV × AV)) : Prop :=
  ∃ (k : Nat) (es : Array MapEntry) (c : Nat),φ.loop l = some k ∧ w0.heap.size ≤ k ∧ w.heap[k]? = some (.map es c) ∧ nG w F m es.toList
def bV (w0 w : World) (F : Nat → Prop) (φ : kA) (l : Nat) (x : yD) : Prop :=
  ∃ (k : Nat) (rec : Loop),φ.loop l = some k ∧ w0.heap.size ≤ k ∧ w.heap[k]? = some (.loop rec) ∧ rec.state = x.st ∧ rec.pending = x.pend ∧ rec.params.toList = x.ps ∧ rec.assign = x.assign ∧ rec.body = x.body ∧ nE w F φ (qB x.fr) x.nt rec.tmps ∧ zE w rec.defers
def jL (w0 w : World) (F : Nat → Prop) (φ : kA) (l : Nat) (x : yD) : Prop:=(x.mp = none → bV w0 w F φ l x) ∧ (∀ m,x.mp = some m → kW w0 w F φ l m)
theorem jL.loop {w0 w : World} {F : Nat → Prop} {φ : kA} {l : Nat} {x : yD} (h : jL w0 w F φ l x) (hm : x.mp = none) : bV w0 w F φ l x:=h.1 hm
theorem jL.at {w0 w : World} {F : Nat → Prop} {φ : kA} {l : Nat} {x : yD} (h : jL w0 w F φ l x) : ∃ k,φ.loop l = some k ∧ w0.heap.size ≤ k:=by
  cases hm : x.mp with
  | none=>obtain ⟨k,rec,h1,h2,-⟩:=h.1 hm; exact ⟨k,h1,h2⟩
  | some m=>obtain ⟨k,es,c,h1,h2,-⟩:=h.2 m hm; exact ⟨k,h1,h2⟩
theorem jL.isLoop {w0 w : World} {F : Nat → Prop} {φ : kA} {l k : Nat} {x : yD} {rec : Loop} (h : jL w0 w F φ l x) (hk : φ.loop l = some k) (hr : w.heap[k]? = some (.loop rec)) : x.mp = none:=by
  cases hm : x.mp with
  | none=>rfl
  | some m =>
    obtain ⟨k',es,c,h1,-,h3,-⟩:=h.2 m hm
    rw [hk] at h1; cases h1
    rw [hr] at h3; cases h3
theorem bV.recd {w0 w : World} {F : Nat → Prop} {φ : kA} {l : Nat} {x : yD} (h : bV w0 w F φ l x) (hm : x.mp = none) : jL w0 w F φ l x:=⟨fun _=>h,fun m e=>by rw [hm] at e; cases e⟩
theorem kW.recd {w0 w : World} {F : Nat → Prop} {φ : kA} {l : Nat} {x : yD} {m : List (AV × AV)} (h : kW w0 w F φ l m) (hm : x.mp = some m) : jL w0 w F φ l x:=⟨fun e=>(by rw [hm] at e; cases e),fun m' e=>by rw [hm] at e; cases e; exact h⟩
def jT (D : Nat) : Deferred:={ target:=.collected D,args:=#[] }
structure qD (w0 w : World) (F : Nat → Prop) (φ : kA) (s : St) : Prop where
  heap : xB w0 w F φ (fun b=>b < s.nx) (wA s.hp)
  lps : ∀ l x,wA s.lp l = some x → jL w0 w F φ l x
  lused : ∀ l k,φ.loop l = some k → l < s.nx ∧ k < w.heap.size
  linj : ∀ l l' k,φ.loop l = some k → φ.loop l' = some k → l = l'
structure Cx where
  r : Option Nat
  B : Nat
  ds : List Deferred
structure Env (x : Cx) (w0 w : World) (a : Act) : Prop where
  dfr : ∃ Ds : List Nat,a.defers = Ds.map jT++x.ds ∧ Ds.Nodup ∧ ∀ D,D ∈ Ds → x.B ≤ D ∧ zE w D
  rnd : ∀ l0,x.r = some l0 → ∃ rec : Loop,w.heap[l0]? = some (.loop rec) ∧ zE w rec.defers
  lo : w0.heap.size ≤ x.B ∧ x.B ≤ w.heap.size
structure tE (x : Cx) (w0 w : World) (F : Nat → Prop) (φ : kA) (nt : Nat) (a : Act) (s : St) : Prop where
  mem : qD w0 w F φ s
  tmps : nE w F φ (qB s.fr) nt a.tmps
  env : Env x w0 w a
structure fD (w0 w : World) (F : Nat → Prop) (φ : kA) (w' : World) (F' : Nat → Prop) (φ' : kA) : Prop where
  le : φ.le φ'
  sub : ∀ b,F b → F' b
  new : ∀ b,F' b → F b ∨ w0.heap.size ≤ b
  ext : Ext0 F w w'
  opn : ∀ k,zE w k → zE w' k
  lps : ∀ (k : Nat) (rec : Loop),w.heap[k]? = some (.loop rec) → ∃ rec' : Loop,w'.heap[k]? = some (.loop rec') ∧ rec'.defers = rec.defers
  mps : ∀ (k : Nat) (es : Array MapEntry) (c : Nat),w.heap[k]? = some (.map es c) → ∃ es' c',w'.heap[k]? = some (.map es' c')
section
variable {w0 w w' w'' : World} {F F' F'' : Nat → Prop} {φ φ' φ'' : kA}
theorem fD.refl (w0 w : World) (F : Nat → Prop) (φ : kA) : fD w0 w F φ w F φ:=⟨kA.le_refl φ,fun _ h=>h,fun _ h=>.inl h,Ext0.refl F w,fun _ h=>h,fun _ rec h=>⟨rec,h,rfl⟩,fun _ es c h=>⟨es,c,h⟩⟩
theorem fD.trans (h : fD w0 w F φ w' F' φ') (k : fD w0 w' F' φ' w'' F'' φ'') : fD w0 w F φ w'' F'' φ'' :=
  ⟨kA.le_trans h.le k.le,fun b hb=>k.sub b (h.sub b hb),fun b hb=>by
    rcases k.new b hb with q | q
    · exact h.new b q
    · exact .inr q,h.ext.trans k.ext h.sub,fun x hx=>k.opn x (h.opn x hx),fun x rec hx=>by
      obtain ⟨r1,h1,e1⟩:=h.lps x rec hx
      obtain ⟨r2,h2,e2⟩:=k.lps x r1 h1
      exact ⟨r2,h2,e2.trans e1⟩,fun x es c hx=>by
      obtain ⟨es',c',h1⟩:=h.mps x es c hx
      exact k.mps x es' c' h1⟩
theorem fG.weak (h : fG w0 w F φ w' F' φ') : fD w0 w F φ w' F' φ' :=
  ⟨h.le,h.sub,h.new,h.ext.toExt0,fun k hk=>h.ext.objs k _ hk (by intros; simp),fun k rec hk=>⟨rec,h.ext.objs k _ hk (by intros; simp),rfl⟩,fun k es c hk=>⟨es,c,h.ext.objs k _ hk (by intros; simp)⟩⟩
theorem nE.monoW {τ : Nat → AV} {nt : Nat} {tmps : Array Value} (h : nE w F φ τ nt tmps) (g : fD w0 w F φ w' F' φ') : nE w' F' φ' τ nt tmps :=
  ⟨h.size,fun t=>fA.mono g.ext g.sub g.le _ _ (h.val t)⟩
theorem jL.mono {l : Nat} {x : yD} (h : jL w0 w F φ l x) (g : fD w0 w F φ w' F' φ') (hk : ∀ (k : Nat) (o : Obj),φ.loop l = some k → (∀ c el fz,o ≠ .cells c el fz) → w.heap[k]? = some o → w'.heap[k]? = some o) : jL w0 w' F' φ' l x:=by
  refine ⟨fun hm=>?_,fun m hm=>?_⟩
  · obtain ⟨k,rec,h1,h2,h3,h4,h5,h6,h7,h8,h9,h10⟩:=h.1 hm
    exact ⟨k,rec,g.le.2 _ _ h1,h2,hk k _ h1 (by intros; simp) h3,h4,h5,h6,h7,h8,h9.monoW g,g.opn _ h10⟩
  · obtain ⟨k,es,c,h1,h2,h3,h4⟩:=h.2 m hm
    exact ⟨k,es,c,g.le.2 _ _ h1,h2,hk k _ h1 (by intros; simp) h3,h4.mono g.ext g.sub⟩
theorem Env.mono {x : Cx} {a a' : Act} (h : Env x w0 w a) (g : fD w0 w F φ w' F' φ') (ha : a'.defers = a.defers) : Env x w0 w' a':=by
  refine ⟨?_,fun l0 hl=>?_,h.lo.1,Nat.le_trans h.lo.2 g.ext.size⟩
  · obtain ⟨Ds,h1,h2,h3⟩:=h.dfr
    exact ⟨Ds,ha.trans h1,h2,fun D hD=>⟨(h3 D hD).1,g.opn D (h3 D hD).2⟩⟩
  · obtain ⟨rec,h1,h2⟩:=h.rnd l0 hl
    obtain ⟨rec',k1,k2⟩:=g.lps l0 rec h1
    exact ⟨rec',k1,by rw [k2]; exact g.opn _ h2⟩
theorem qD.step {s s' : St} (h : qD w0 w F φ s) (g : fG w0 w F φ w' F' φ') (hh : xB w0 w' F' φ' (fun b=>b < s'.nx) (wA s'.hp)) (hl : s'.lp = s.lp) (hn : s.nx ≤ s'.nx) : qD w0 w' F' φ' s':=by
  refine ⟨hh,fun l x hx=>?_,fun l k hk=>?_,fun l l' k h1 h2=>?_⟩
  · rw [hl] at hx
    exact (h.lps l x hx).mono g.weak fun k o _ ho hk=>g.ext.objs k _ hk ho
  · rw [g.sle.lp] at hk
    have:=h.lused l k hk
    exact ⟨by omega,Nat.lt_of_lt_of_le this.2 g.ext.toExt0.size⟩
  · rw [g.sle.lp] at h1 h2; exact h.linj l l' k h1 h2
end
def wB (P : Program) (nt : Nat) (c : Code) (K : Exit → St → Prop) (s : St) : Prop :=
  ∀ (x : Cx) (w0 w : World) (F : Nat → Prop) (φ : kA) (a : Act),tE x w0 w F φ nt a s →
    c.wpIn (aE x.r) 0 P (fun e a' w'=>∃ s' φ' F',tE x w0 w' F' φ' nt a' s' ∧ fD w0 w F φ w' F' φ' ∧ K e s') a w
section
variable {P : Program} {nt : Nat} {K : Exit → St → Prop} {s : St}
theorem zeM {c : Code} {K' : Exit → St → Prop} (h : wB P nt c K s) (hk : ∀ e s,K e s → K' e s) : wB P nt c K' s :=
  fun x w0 w F φ a hf=>wpIn_mono (h x w0 w F φ a hf) fun _ _ _ ⟨s',φ',F',h1,h2,h3⟩=>⟨s',φ',F',h1,h2,hk _ _ h3⟩
theorem oA (h : K .normal s) : wB P nt .skip K s:=fun _ _ _ F φ _ hf=>wpIn_skip ⟨s,φ,F,hf,fD.refl _ _ _ _,h⟩
theorem zcR {l : Nat} (h : K .normal s) : wB P nt (.label l) K s:=fun _ _ _ F φ _ hf=>wpIn_label ⟨s,φ,F,hf,fD.refl _ _ _ _,h⟩
theorem dC {id : Nat} (h : K (.exit id) s) : wB P nt (.exit id) K s:=fun _ _ _ F φ _ hf=>wpIn_exit ⟨s,φ,F,hf,fD.refl _ _ _ _,h⟩
theorem jA (h : K .ret s) : wB P nt .ret K s:=fun _ _ _ F φ _ hf=>wpIn_ret ⟨s,φ,F,hf,fD.refl _ _ _ _,h⟩
def tN (next : St → Prop) (K : Exit → St → Prop) : Exit → St → Prop
  | .normal,s=>next s
  | e,s=>K e s
def pM (id : Nat) (K : Exit → St → Prop) : Exit → St → Prop
  | .exit id',s=>if id' = id then K .normal s else K (.exit id') s
  | e,s=>K e s
theorem iA {x y : Code} (h : wB P nt x (tN (wB P nt y K) K) s) : wB P nt (.seq x y) K s:=by
  intro cx w0 w F φ a hf
  refine wpIn_seq (wpIn_mono (h cx w0 w F φ a hf) ?_)
  rintro e a1 w1 ⟨s1,φ1,F1,h1,h2,h3⟩
  cases e with
  | normal =>
    refine wpIn_mono (h3 cx w0 w1 F1 φ1 a1 h1) ?_
    rintro e a2 w2 ⟨s2,φ2,F2,k1,k2,k3⟩
    exact ⟨s2,φ2,F2,k1,h2.trans k2,k3⟩
  | exit id=>exact ⟨s1,φ1,F1,h1,h2,h3⟩
  | goto l=>exact ⟨s1,φ1,F1,h1,h2,h3⟩
  | ret=>exact ⟨s1,φ1,F1,h1,h2,h3⟩
  | panic c=>exact ⟨s1,φ1,F1,h1,h2,h3⟩
  | outgrown=>exact ⟨s1,φ1,F1,h1,h2,h3⟩
theorem vB {id : Nat} {c : Code} (h : wB P nt c (pM id K) s) : wB P nt (.block id c) K s:=by
  intro cx w0 w F φ a hf
  refine wpIn_block (wpIn_mono (h cx w0 w F φ a hf) ?_)
  rintro e a1 w1 ⟨s1,φ1,F1,h1,h2,h3⟩
  cases e with
  | exit id' =>
    simp only [Exit.inBlock,pM] at h3 ⊢
    split
    · rename_i e; rw [if_pos e] at h3; exact ⟨s1,φ1,F1,h1,h2,h3⟩
    · rename_i e; rw [if_neg e] at h3; exact ⟨s1,φ1,F1,h1,h2,h3⟩
  | normal=>exact ⟨s1,φ1,F1,h1,h2,h3⟩
  | goto l=>exact ⟨s1,φ1,F1,h1,h2,h3⟩
  | ret=>exact ⟨s1,φ1,F1,h1,h2,h3⟩
  | panic c=>exact ⟨s1,φ1,F1,h1,h2,h3⟩
  | outgrown=>exact ⟨s1,φ1,F1,h1,h2,h3⟩
theorem zbO {c : Operand} {x y : Code} {b : Bool} (hc : yB (qB s.fr) c = .bool b) (h : wB P nt (if b then x else y) K s) : wB P nt (.cond c x y) K s:=by
  intro cx w0 w F φ a hf
  have:=vG hf.tmps c
  rw [hc] at this
  simp only [fA] at this
  exact wpIn_cond this (h cx w0 w F φ a hf)
theorem mX {c : Operand} {x y : Code} (hc : yB (qB s.fr) c = .anyb) (h1 : wB P nt x K s) (h2 : wB P nt y K s) : wB P nt (.cond c x y) K s:=by
  intro cx w0 w F φ a hf
  have:=vG hf.tmps c
  rw [hc] at this
  simp only [fA] at this
  obtain ⟨b,hb⟩:=this
  refine wpIn_cond hb ?_
  cases b
  · exact h2 cx w0 w F φ a hf
  · exact h1 cx w0 w F φ a hf
def AV.Le (a b : AV) : Prop:=∀ (w : World) (F : Nat → Prop) (φ : kA) (v : Value),fA w F φ a v → fA w F φ b v
theorem AV.Le.refl (a : AV) : a.Le a:=fun _ _ _ _ h=>h
theorem AV.Le.top (a : AV) : a.Le .top:=fun _ _ _ _ _=>by simp [fA]
theorem AV.Le.nils (sz : Nat) : AV.nils.Le (.psl sz []):=fun w F φ v h=>by
  simp only [fA] at h ⊢; subst h; exact ⟨none,0,by simp,by simp,by simp,by simp⟩
theorem AV.Le.bool (b : Bool) : (AV.bool b).Le .anyb:=fun w F φ v h=>by simp only [fA] at h ⊢; exact ⟨b,h⟩
def dY : List AV → List AV → Prop
  | [],[]=>True
  | a::as,b::bs=>a.Le b ∧ dY as bs
  | _,_=>False
theorem dY.rel {w : World} {F : Nat → Prop} {φ : kA} : ∀ {as bs : List AV} {vs : List Value},dY as bs → uA w F φ as vs → uA w F φ bs vs
  | [],[],_,_,h=>h
  | a::as,b::bs,vs,hl,h=>by
    simp only [uA] at h ⊢
    obtain ⟨v,vs',h1,h2,h3⟩:=h
    exact ⟨v,vs',h1,hl.1 _ _ _ _ h2,hl.2.rel h3⟩
  | [],_::_,_,hl,_=>hl.elim
  | _::_,[],_,hl,_=>hl.elim
theorem AV.Le.agg {as bs : List AV} (h : dY as bs) : (AV.agg as).Le (.agg bs):=fun w F φ v hv=>by
  simp only [fA] at hv ⊢; obtain ⟨cs,h1,h2,h3⟩:=hv; exact ⟨cs,h1,h.rel h2,h3⟩
theorem AV.Le.tup {as bs : List AV} (h : dY as bs) : (AV.tup as).Le (.tup bs):=fun w F φ v hv=>by
  simp only [fA] at hv ⊢; obtain ⟨cs,h1,h2⟩:=hv; exact ⟨cs,h1,h.rel h2⟩
def lS (fr : List (Nat × AV)) : List (Nat × AV) → Prop
  | []=>True
  | (t,v)::l=>(qB fr t).Le v ∧ lS fr l
theorem lS.get {fr : List (Nat × AV)} : ∀ {l : List (Nat × AV)},lS fr l → ∀ t,(qB fr t).Le (qB l t)
  | [],_,t=>by rw [xV]; exact AV.Le.top _
  | (k,v)::l,h,t=>by
    rw [cR]
    split
    · rename_i q; subst q; exact h.1
    · exact h.2.get t
def sE (L : List Nat) (fr : List (Nat × AV)) : List (Nat × AV):=L.map fun t=>(t,qB fr t)
theorem zcN (fr : List (Nat × AV)) (t : Nat) : ∀ L : List Nat,wA (sE L fr) t = if t ∈ L then some (qB fr t) else none
  | []=>by simp [sE,wA]
  | k::L=>by
    have ih:=zcN fr t L
    simp only [sE,List.map_cons,wA] at ih ⊢
    by_cases e : t = k
    · subst e; simp
    · rw [if_neg e,ih]; simp [e]
theorem iZ (L : List Nat) (fr : List (Nat × AV)) (t : Nat) : (qB fr t).Le (qB (sE L fr) t):=by
  have h:=zcN fr t L
  have e : qB (sE L fr) t = if t ∈ L then qB fr t else .top:=by
    show (match wA (sE L fr) t with | some v=>v | none=>AV.top) = _
    rw [h]
    by_cases hm : t ∈ L
    · rw [if_pos hm,if_pos hm]
    · rw [if_neg hm,if_neg hm]
  rw [e]
  split
  · exact AV.Le.refl _
  · exact AV.Le.top _
def fE {α : Type} (N : List Nat) (hp : List (Nat × α)) : List (Nat × α):=hp.filter fun p=>N.contains p.1
theorem iV {α : Type} (N : List Nat) (b : Nat) (x : α) : ∀ hp : List (Nat × α),wA (fE N hp) b = some x → wA hp b = some x
  | [],h=>by simp [fE,wA] at h
  | (k,y)::hp,h=>by
    simp only [fE,List.filter_cons] at h
    simp only [wA]
    split at h
    · simp only [wA] at h
      split at h
      · rename_i e; rw [if_pos e]; exact h
      · rename_i e; rw [if_neg e]; exact iV N b x hp h
    · rename_i hk
      by_cases e : b = k
      · subst e
        have : ∀ hp : List (Nat × α),wA (fE N hp) b = none:=by
          intro hp
          induction hp with
          | nil=>rfl
          | cons q hp ih =>
            obtain ⟨k,y⟩:=q
            simp only [fE,List.filter_cons]
            split
            · rename_i hk2
              simp only [wA]
              rw [if_neg (by intro e; subst e; exact hk hk2)]
              exact ih
            · exact ih
        have:=this hp
        simp only [fE] at this
        rw [this] at h; cases h
      · rw [if_neg e]; exact iV N b x hp h
theorem zai {α : Type} (N : List Nat) (b : Nat) (x : α) : ∀ hp : List (Nat × α),wA (fE N hp) b = some x → b ∈ N
  | [],h=>by simp [fE,wA] at h
  | (k,y)::hp,h=>by
    simp only [fE,List.filter_cons] at h
    split at h
    · rename_i hk
      simp only [wA] at h
      split at h
      · rename_i e; subst e; simpa using hk
      · exact zai N b x hp h
    · exact zai N b x hp h
theorem zbZ {α : Type} (b : Nat) : ∀ l : List (Nat × α),b ∈ l.map (·.1) → ∃ x,wA l b = some x
  | [],h=>by simp at h
  | (k,y)::l,h=>by
    simp only [wA]
    by_cases e : b = k
    · exact ⟨y,by rw [if_pos e]⟩
    · rw [if_neg e]; exact zbZ b l (by simpa [e] using h)
def fM (P : Program) : List SE → Prop
  | []=>True
  | se::l=>(match se.ob with | some ob=>ob.holds P | none=>True) ∧ fM P l
theorem fM.get : ∀ {l : List SE},fM P l → ∀ se,se ∈ l → ∀ ob,se.ob = some ob → ob.holds P
  | [],_,se,hm=>by simp at hm
  | x::l,h,se,hm=>by
    intro ob e
    rcases List.mem_cons.1 hm with q | q
    · subst q; have:=h.1; rw [e] at this; exact this
    · exact h.2.get se q ob e
theorem zoN {id : Nat} {ops : Array Oper} {ans : Nat → Option (AV × List pA)} {fr : List (Nat × AV)} {hp : List (Nat × pA)} {ses : List SE} (L N : List Nat) (hr : lJ P nt ops ans s.nx (pE 0 ops.toList) s.fr s.hp = some (fr, hp, ses)) (hob : fM P ses)
    (h : K .normal ⟨sE L fr,fE N hp,s.nx + 8 * ops.size,s.lp⟩) : wB P nt (.region id ops false) K s:=by
  intro cx w0 w F φ a hf
  obtain ⟨h1,h2,h3⟩:=cY _ _ _ _ _ _ hr
  refine ze8 hf.mem.heap hf.tmps rfl h1 hob.get cx.r 0 id fun a' w' φ' F' k1 k2 k3 k4=>⟨⟨sE L fr,fE N hp,s.nx + 8 * ops.size,s.lp⟩,φ',F',⟨hf.mem.step k4 ?_ rfl (by simp),?_,hf.env.mono k4.weak k3⟩,k4.weak,h⟩
  · rw [← h3] at k1; exact k1.drop fun b x hx=>iV N b x hp hx
  · rw [← h2] at k2; exact ⟨k2.size,fun t=>iZ L fr t _ _ _ _ (k2.val t)⟩
theorem zmH {id : Nat} {ops : Array Oper} {ans : Nat → Option (AV × List pA)} {fr : List (Nat × AV)} {hp : List (Nat × pA)} {ses : List SE} (L N : List Nat) (hr : lJ P nt ops ans s.nx (pE 0 ops.toList) s.fr s.hp = some (fr, hp, ses)) (hob : fM P ses)
    (hmix : P.follows .mixedOrders = true) (hback : vK 0 ops.toList = true) (hpairs : mH (gH ops.toList []) ses ops.size = true)
    (h : K .normal ⟨sE L fr,fE N hp,s.nx + 8 * ops.size,s.lp⟩) : wB P nt (.region id ops true) K s:=by
  intro cx w0 w F φ a hf
  obtain ⟨h1,h2,h3⟩:=cY _ _ _ _ _ _ hr
  refine zdA hf.mem.heap hf.tmps rfl h1 hob.get cx.r 0 id hmix hback hpairs fun a' w' φ' F' k1 k2 k3 k4=>⟨⟨sE L fr,fE N hp,s.nx + 8 * ops.size,s.lp⟩,φ',F',⟨hf.mem.step k4 ?_ rfl (by simp),?_,hf.env.mono k4.weak k3⟩,k4.weak,h⟩
  · rw [← h3] at k1; exact k1.drop fun b x hx=>iV N b x hp hx
  · rw [← h2] at k2; exact ⟨k2.size,fun t=>iZ L fr t _ _ _ _ (k2.val t)⟩
theorem zoi {id : Nat} {ops : Array Oper} {ans : Nat → Option (AV × List pA)} {fr : List (Nat × AV)} {hp : List (Nat × pA)} {ses : List SE} (L : List Nat) (hr : lJ P nt ops ans s.nx (pE 0 ops.toList) s.fr s.hp = some (fr, hp, ses)) (hob : fM P ses)
    (h : K .normal ⟨sE L fr,hp,s.nx + 8 * ops.size,s.lp⟩) : wB P nt (.region id ops false) K s:=by
  intro cx w0 w F φ a hf
  obtain ⟨h1,h2,h3⟩:=cY _ _ _ _ _ _ hr
  refine ze8 hf.mem.heap hf.tmps rfl h1 hob.get cx.r 0 id fun a' w' φ' F' k1 k2 k3 k4=>⟨⟨sE L fr,hp,s.nx + 8 * ops.size,s.lp⟩,φ',F',⟨hf.mem.step k4 ?_ rfl (by simp),?_,hf.env.mono k4.weak k3⟩,k4.weak,h⟩
  · rw [← h3] at k1; exact k1
  · rw [← h2] at k2; exact ⟨k2.size,fun t=>iZ L fr t _ _ _ _ (k2.val t)⟩
theorem zmM {id : Nat} {ops : Array Oper} {ans : Nat → Option (AV × List pA)} {fr : List (Nat × AV)} {hp : List (Nat × pA)} {ses : List SE} (L : List Nat) (hr : lJ P nt ops ans s.nx (pE 0 ops.toList) s.fr s.hp = some (fr, hp, ses)) (hob : fM P ses)
    (hmix : P.follows .mixedOrders = true) (hback : vK 0 ops.toList = true) (hpairs : mH (gH ops.toList []) ses ops.size = true)
    (h : K .normal ⟨sE L fr,hp,s.nx + 8 * ops.size,s.lp⟩) : wB P nt (.region id ops true) K s:=by
  intro cx w0 w F φ a hf
  obtain ⟨h1,h2,h3⟩:=cY _ _ _ _ _ _ hr
  refine zdA hf.mem.heap hf.tmps rfl h1 hob.get cx.r 0 id hmix hback hpairs fun a' w' φ' F' k1 k2 k3 k4=>⟨⟨sE L fr,hp,s.nx + 8 * ops.size,s.lp⟩,φ',F',⟨hf.mem.step k4 ?_ rfl (by simp),?_,hf.env.mono k4.weak k3⟩,k4.weak,h⟩
  · rw [← h3] at k1; exact k1
  · rw [← h2] at k2; exact ⟨k2.size,fun t=>iZ L fr t _ _ _ _ (k2.val t)⟩
end
end Go.AM
