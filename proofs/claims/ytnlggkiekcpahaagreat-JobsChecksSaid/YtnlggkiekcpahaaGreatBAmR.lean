/- A text of the proof. -/
import Derived.Test.YtnlggkiekcpahaaGreatBAmQ
set_option linter.unusedSimpArgs false
set_option linter.unusedVariables false
namespace Go.AM
open Go Go.RowKit
def vA {α : Type} : List (Nat × α) → Nat → Option α
  | [], _ => none
  | (k, v) :: l, n => if n = k then some v else vA l n
def pB (fr : List (Nat × AV)) (t : Nat) : AV := match vA fr t with | some v => v | none => .top
def eG {α : Type} : List (Nat × α) → Nat → α → List (Nat × α)
  | [], b, x => [(b, x)]
  | (k, y) :: l, b, x => if b = k then (k, x) :: l else (k, y) :: eG l b x
def pQ : List (Nat × pA) → List (Nat × pA) → List (Nat × pA)
  | hp, [] => hp
  | hp, (b, x) :: l => pQ (eG hp b x) l
theorem xW {α : Type} (b : Nat) (x : α) : ∀ (hp : List (Nat × α)), vA (eG hp b x) = oD (vA hp) b (some x)
  | [] => by funext c; simp [eG, vA, oD]
  | (k, y) :: l => by
    funext c
    simp only [eG]
    split
    · rename_i e; subst e
      simp only [vA, oD]
      split <;> simp_all
    · rename_i e
      simp only [vA, xW b x l, oD]
      split
      · rename_i h; subst h
        rw [if_neg (fun h => e h.symm)]
      · rfl
theorem zbh : ∀ (l hp : List (Nat × pA)), vA (pQ hp l) = jE (vA hp) l
  | [], hp => rfl
  | (b, x) :: l, hp => by simp only [pQ, jE, zbh l, xW]
theorem dQ (k : Nat) (v : AV) (l : List (Nat × AV)) (t : Nat) : pB ((k, v) :: l) t = if t = k then v else pB l t := by
  simp only [pB, vA]
  by_cases h : t = k
  · rw [if_pos h, if_pos h]
  · rw [if_neg h, if_neg h]
theorem eW (t : Nat) : pB [] t = .top := rfl
def fH (fr : List (Nat × AV)) (d : Option Nat) (v : AV) : List (Nat × AV) := match d with | some d => (d, v) :: fr | none => fr
theorem cP (fr : List (Nat × AV)) (d : Option Nat) (v : AV) : pB (fH fr d v) = xQ (pB fr) d v := by
  cases d with
  | none => rfl
  | some d => funext t; simp only [fH, dQ, xQ, oD]
structure vD where
  fr : List (Nat × AV)
  nt : Nat
  ps : List Nat
  assign : Code
  body : Code
  st : LoopState
  pend : Option Code
  mp : Option (List (AV × AV))
structure St where
  fr : List (Nat × AV)
  hp : List (Nat × pA)
  nx : Nat
  lp : List (Nat × vD)
def dJ (P : Program) (nt : Nat) (ops : Array Oper) (ans : Nat → Option (AV × List pA)) (nx : Nat) : List (Nat × Oper) → List (Nat × AV) → List (Nat × pA) → Option (List (Nat × AV) × List (Nat × pA) × List SE)
  | [], fr, hp => some (fr, hp, [])
  | (i, o) :: eB, fr, hp => match aL P nt ops o (ans i) (nx + 8 * i) (pB fr) (vA hp) with
    | some se => match dJ P nt ops ans nx eB (fH fr se.d se.v) (pQ hp se.wr) with
      | some (fr', hp', ses) => some (fr', hp', se :: ses)
      | none => none
    | none => none
theorem wV {P : Program} {nt : Nat} {ops : Array Oper} {ans : Nat → Option (AV × List pA)} {nx : Nat} : ∀ (l : List (Nat × Oper)) (fr fr' : List (Nat × AV)) (hp hp' : List (Nat × pA)) (ses : List SE),
    dJ P nt ops ans nx l fr hp = some (fr', hp', ses) → dR P nt ops ans nx l (pB fr) (vA hp) = some ses ∧ pB fr' = kF (pB fr) ses ∧ vA hp' = gF (vA hp) ses
  | [], fr, fr', hp, hp', ses, h => by simp only [dJ, Option.some.injEq, Prod.mk.injEq] at h; obtain ⟨rfl, rfl, rfl⟩ := h; exact ⟨rfl, rfl, rfl⟩
  | (i, o) :: eB, fr, fr', hp, hp', ses, h => by
    simp only [dJ] at h
    split at h
    · rename_i se hse
      split at h
      · rename_i a b c hr
        simp only [Option.some.injEq, Prod.mk.injEq] at h
        obtain ⟨rfl, rfl, rfl⟩ := h
        obtain ⟨h1, h2, h3⟩ := wV eB _ _ _ _ _ hr
        rw [cP] at h1 h2
        rw [zbh] at h1 h3
        refine ⟨?_, h2, h3⟩
        simp only [dR, hse]
        rw [show kL (pB fr) se = xQ (pB fr) se.d se.v from rfl, show xO (vA hp) se = jE (vA hp) se.wr from rfl, h1]
      · cases h
    · cases h
def yE (w : World) (k : Nat) : Prop := w.heap[k]? = some (.deferred (some []))
def mG (w : World) (F : Nat → Prop) : List (AV × AV) → List MapEntry → Prop
  | [], es => es = []
  | (k, v) :: m, es => ∃ e es', es = e :: es' ∧ gA w F jA.zero k e.key ∧ gA w F jA.zero v e.val ∧ mG w F m es'
theorem mG.mono {w w' : World} {F F' : Nat → Prop} (hx : Ext0 F w w') (hF : ∀ b, F b → F' b) : ∀ {m : List (AV × AV)} {es : List MapEntry}, mG w F m es → mG w' F' m es
  | [], _, h => h
  | (k, v) :: m, _, ⟨e, es', h1, h2, h3, h4⟩ => ⟨e, es', h1, gA.mono hx hF (jA.le_refl _) _ _ h2, gA.mono hx hF (jA.le_refl _) _ _ h3, mG.mono hx hF h4⟩
def wW (w0 w : World) (F : Nat → Prop) (φ : jA) (l : Nat) (m : List (AV × AV)) : Prop :=
  ∃ (k : Nat) (es : Array MapEntry) (c : Nat), φ.loop l = some k ∧ w0.heap.size ≤ k ∧ w.heap[k]? = some (.map es c) ∧ mG w F m es.toList
def wU (w0 w : World) (F : Nat → Prop) (φ : jA) (l : Nat) (x : vD) : Prop :=
  ∃ (k : Nat) (rec : Loop), φ.loop l = some k ∧ w0.heap.size ≤ k ∧ w.heap[k]? = some (.loop rec) ∧ rec.state = x.st ∧ rec.pending = x.pend ∧ rec.params.toList = x.ps ∧ rec.assign = x.assign ∧ rec.body = x.body ∧ nE w F φ (pB x.fr) x.nt rec.tmps ∧ yE w rec.defers
def wK (w0 w : World) (F : Nat → Prop) (φ : jA) (l : Nat) (x : vD) : Prop := (x.mp = none → wU w0 w F φ l x) ∧ (∀ m, x.mp = some m → wW w0 w F φ l m)
theorem wK.loop {w0 w : World} {F : Nat → Prop} {φ : jA} {l : Nat} {x : vD} (h : wK w0 w F φ l x) (hm : x.mp = none) : wU w0 w F φ l x := h.1 hm
theorem wK.at {w0 w : World} {F : Nat → Prop} {φ : jA} {l : Nat} {x : vD} (h : wK w0 w F φ l x) : ∃ k, φ.loop l = some k ∧ w0.heap.size ≤ k := by
  cases hm : x.mp with
  | none => obtain ⟨k, rec, h1, h2, -⟩ := h.1 hm; exact ⟨k, h1, h2⟩
  | some m => obtain ⟨k, es, c, h1, h2, -⟩ := h.2 m hm; exact ⟨k, h1, h2⟩
theorem wK.isLoop {w0 w : World} {F : Nat → Prop} {φ : jA} {l k : Nat} {x : vD} {rec : Loop} (h : wK w0 w F φ l x) (hk : φ.loop l = some k) (hr : w.heap[k]? = some (.loop rec)) : x.mp = none := by
  cases hm : x.mp with
  | none => rfl
  | some m =>
    obtain ⟨k', es, c, h1, -, h3, -⟩ := h.2 m hm
    rw [hk] at h1; cases h1
    rw [hr] at h3; cases h3
theorem wU.recd {w0 w : World} {F : Nat → Prop} {φ : jA} {l : Nat} {x : vD} (h : wU w0 w F φ l x) (hm : x.mp = none) : wK w0 w F φ l x := ⟨fun _ => h, fun m e => by rw [hm] at e; cases e⟩
theorem wW.recd {w0 w : World} {F : Nat → Prop} {φ : jA} {l : Nat} {x : vD} {m : List (AV × AV)} (h : wW w0 w F φ l m) (hm : x.mp = some m) : wK w0 w F φ l x := ⟨fun e => (by rw [hm] at e; cases e), fun m' e => by rw [hm] at e; cases e; exact h⟩
def jT (D : Nat) : Deferred := { target := .collected D, args := #[] }
structure qD (w0 w : World) (F : Nat → Prop) (φ : jA) (s : St) : Prop where
  heap : wB w0 w F φ (fun b => b < s.nx) (vA s.hp)
  lps : ∀ l x, vA s.lp l = some x → wK w0 w F φ l x
  lused : ∀ l k, φ.loop l = some k → l < s.nx ∧ k < w.heap.size
  linj : ∀ l l' k, φ.loop l = some k → φ.loop l' = some k → l = l'
structure Cx where
  r : Option Nat
  B : Nat
  ds : List Deferred
structure Env (x : Cx) (w0 w : World) (a : Act) : Prop where
  dfr : ∃ Ds : List Nat, a.defers = Ds.map jT ++ x.ds ∧ Ds.Nodup ∧ ∀ D, D ∈ Ds → x.B ≤ D ∧ yE w D
  rnd : ∀ l0, x.r = some l0 → ∃ rec : Loop, w.heap[l0]? = some (.loop rec) ∧ yE w rec.defers
  lo : w0.heap.size ≤ x.B ∧ x.B ≤ w.heap.size
structure sE (x : Cx) (w0 w : World) (F : Nat → Prop) (φ : jA) (nt : Nat) (a : Act) (s : St) : Prop where
  mem : qD w0 w F φ s
  tmps : nE w F φ (pB s.fr) nt a.tmps
  env : Env x w0 w a
structure dD (w0 w : World) (F : Nat → Prop) (φ : jA) (w' : World) (F' : Nat → Prop) (φ' : jA) : Prop where
  le : φ.le φ'
  sub : ∀ b, F b → F' b
  new : ∀ b, F' b → F b ∨ w0.heap.size ≤ b
  ext : Ext0 F w w'
  opn : ∀ k, yE w k → yE w' k
  lps : ∀ (k : Nat) (rec : Loop), w.heap[k]? = some (.loop rec) → ∃ rec' : Loop, w'.heap[k]? = some (.loop rec') ∧ rec'.defers = rec.defers
  mps : ∀ (k : Nat) (es : Array MapEntry) (c : Nat), w.heap[k]? = some (.map es c) → ∃ es' c', w'.heap[k]? = some (.map es' c')
section
variable {w0 w w' w'' : World} {F F' F'' : Nat → Prop} {φ φ' φ'' : jA}
theorem dD.refl (w0 w : World) (F : Nat → Prop) (φ : jA) : dD w0 w F φ w F φ := ⟨jA.le_refl φ, fun _ h => h, fun _ h => .inl h, Ext0.refl F w, fun _ h => h, fun _ rec h => ⟨rec, h, rfl⟩, fun _ es c h => ⟨es, c, h⟩⟩
theorem dD.trans (h : dD w0 w F φ w' F' φ') (k : dD w0 w' F' φ' w'' F'' φ'') : dD w0 w F φ w'' F'' φ'' :=
  ⟨jA.le_trans h.le k.le, fun b hb => k.sub b (h.sub b hb), fun b hb => by
    rcases k.new b hb with q | q
    · exact h.new b q
    · exact .inr q, h.ext.trans k.ext h.sub, fun x hx => k.opn x (h.opn x hx), fun x rec hx => by
      obtain ⟨r1, h1, e1⟩ := h.lps x rec hx
      obtain ⟨r2, h2, e2⟩ := k.lps x r1 h1
      exact ⟨r2, h2, e2.trans e1⟩, fun x es c hx => by
      obtain ⟨es', c', h1⟩ := h.mps x es c hx
      exact k.mps x es' c' h1⟩
theorem gG.weak (h : gG w0 w F φ w' F' φ') : dD w0 w F φ w' F' φ' :=
  ⟨h.le, h.sub, h.new, h.ext.toExt0, fun k hk => h.ext.objs k _ hk (by intros; simp), fun k rec hk => ⟨rec, h.ext.objs k _ hk (by intros; simp), rfl⟩, fun k es c hk => ⟨es, c, h.ext.objs k _ hk (by intros; simp)⟩⟩
theorem nE.monoW {τ : Nat → AV} {nt : Nat} {tmps : Array Value} (h : nE w F φ τ nt tmps) (g : dD w0 w F φ w' F' φ') : nE w' F' φ' τ nt tmps :=
  ⟨h.size, fun t => gA.mono g.ext g.sub g.le _ _ (h.val t)⟩
theorem wK.mono {l : Nat} {x : vD} (h : wK w0 w F φ l x) (g : dD w0 w F φ w' F' φ') (hk : ∀ (k : Nat) (o : Obj), φ.loop l = some k → (∀ c el fz, o ≠ .cells c el fz) → w.heap[k]? = some o → w'.heap[k]? = some o) : wK w0 w' F' φ' l x := by
  refine ⟨fun hm => ?_, fun m hm => ?_⟩
  · obtain ⟨k, rec, h1, h2, h3, h4, h5, h6, h7, h8, h9, h10⟩ := h.1 hm
    exact ⟨k, rec, g.le.2 _ _ h1, h2, hk k _ h1 (by intros; simp) h3, h4, h5, h6, h7, h8, h9.monoW g, g.opn _ h10⟩
  · obtain ⟨k, es, c, h1, h2, h3, h4⟩ := h.2 m hm
    exact ⟨k, es, c, g.le.2 _ _ h1, h2, hk k _ h1 (by intros; simp) h3, h4.mono g.ext g.sub⟩
theorem Env.mono {x : Cx} {a a' : Act} (h : Env x w0 w a) (g : dD w0 w F φ w' F' φ') (ha : a'.defers = a.defers) : Env x w0 w' a' := by
  refine ⟨?_, fun l0 hl => ?_, h.lo.1, Nat.le_trans h.lo.2 g.ext.size⟩
  · obtain ⟨Ds, h1, h2, h3⟩ := h.dfr
    exact ⟨Ds, ha.trans h1, h2, fun D hD => ⟨(h3 D hD).1, g.opn D (h3 D hD).2⟩⟩
  · obtain ⟨rec, h1, h2⟩ := h.rnd l0 hl
    obtain ⟨rec', k1, k2⟩ := g.lps l0 rec h1
    exact ⟨rec', k1, by rw [k2]; exact g.opn _ h2⟩
theorem qD.step {s s' : St} (h : qD w0 w F φ s) (g : gG w0 w F φ w' F' φ') (hh : wB w0 w' F' φ' (fun b => b < s'.nx) (vA s'.hp)) (hl : s'.lp = s.lp) (hn : s.nx ≤ s'.nx) : qD w0 w' F' φ' s' := by
  refine ⟨hh, fun l x hx => ?_, fun l k hk => ?_, fun l l' k h1 h2 => ?_⟩
  · rw [hl] at hx
    exact (h.lps l x hx).mono g.weak fun k o _ ho hk => g.ext.objs k _ hk ho
  · rw [g.sle.lp] at hk
    have := h.lused l k hk
    exact ⟨by omega, Nat.lt_of_lt_of_le this.2 g.ext.toExt0.size⟩
  · rw [g.sle.lp] at h1 h2; exact h.linj l l' k h1 h2
end
def vB (P : Program) (nt : Nat) (c : Code) (K : Exit → St → Prop) (s : St) : Prop :=
  ∀ (x : Cx) (w0 w : World) (F : Nat → Prop) (φ : jA) (a : Act), sE x w0 w F φ nt a s →
    c.wpIn (xD x.r) 0 P (fun e a' w' => ∃ s' φ' F', sE x w0 w' F' φ' nt a' s' ∧ dD w0 w F φ w' F' φ' ∧ K e s') a w
section
variable {P : Program} {nt : Nat} {K : Exit → St → Prop} {s : St}
theorem zev {c : Code} {K' : Exit → St → Prop} (h : vB P nt c K s) (hk : ∀ e s, K e s → K' e s) : vB P nt c K' s :=
  fun x w0 w F φ a hf => wpIn_mono (h x w0 w F φ a hf) fun _ _ _ ⟨s', φ', F', h1, h2, h3⟩ => ⟨s', φ', F', h1, h2, hk _ _ h3⟩
theorem oA (h : K .normal s) : vB P nt .skip K s := fun _ _ _ F φ _ hf => wpIn_skip ⟨s, φ, F, hf, dD.refl _ _ _ _, h⟩
theorem zd4 {l : Nat} (h : K .normal s) : vB P nt (.label l) K s := fun _ _ _ F φ _ hf => wpIn_label ⟨s, φ, F, hf, dD.refl _ _ _ _, h⟩
theorem fC {id : Nat} (h : K (.exit id) s) : vB P nt (.exit id) K s := fun _ _ _ F φ _ hf => wpIn_exit ⟨s, φ, F, hf, dD.refl _ _ _ _, h⟩
theorem kA (h : K .ret s) : vB P nt .ret K s := fun _ _ _ F φ _ hf => wpIn_ret ⟨s, φ, F, hf, dD.refl _ _ _ _, h⟩
def qN (next : St → Prop) (K : Exit → St → Prop) : Exit → St → Prop
  | .normal, s => next s
  | e, s => K e s
def jM (id : Nat) (K : Exit → St → Prop) : Exit → St → Prop
  | .exit id', s => if id' = id then K .normal s else K (.exit id') s
  | e, s => K e s
theorem iA {x y : Code} (h : vB P nt x (qN (vB P nt y K) K) s) : vB P nt (.seq x y) K s := by
  intro cx w0 w F φ a hf
  refine wpIn_seq (wpIn_mono (h cx w0 w F φ a hf) ?_)
  rintro e a1 w1 ⟨s1, φ1, F1, h1, h2, h3⟩
  cases e with
  | normal =>
    refine wpIn_mono (h3 cx w0 w1 F1 φ1 a1 h1) ?_
    rintro e a2 w2 ⟨s2, φ2, F2, k1, k2, k3⟩
    exact ⟨s2, φ2, F2, k1, h2.trans k2, k3⟩
  | exit id => exact ⟨s1, φ1, F1, h1, h2, h3⟩
  | goto l => exact ⟨s1, φ1, F1, h1, h2, h3⟩
  | ret => exact ⟨s1, φ1, F1, h1, h2, h3⟩
  | panic c => exact ⟨s1, φ1, F1, h1, h2, h3⟩
  | outgrown => exact ⟨s1, φ1, F1, h1, h2, h3⟩
theorem xB {id : Nat} {c : Code} (h : vB P nt c (jM id K) s) : vB P nt (.block id c) K s := by
  intro cx w0 w F φ a hf
  refine wpIn_block (wpIn_mono (h cx w0 w F φ a hf) ?_)
  rintro e a1 w1 ⟨s1, φ1, F1, h1, h2, h3⟩
  cases e with
  | exit id' =>
    simp only [Exit.inBlock, jM] at h3 ⊢
    split
    · rename_i e; rw [if_pos e] at h3; exact ⟨s1, φ1, F1, h1, h2, h3⟩
    · rename_i e; rw [if_neg e] at h3; exact ⟨s1, φ1, F1, h1, h2, h3⟩
  | normal => exact ⟨s1, φ1, F1, h1, h2, h3⟩
  | goto l => exact ⟨s1, φ1, F1, h1, h2, h3⟩
  | ret => exact ⟨s1, φ1, F1, h1, h2, h3⟩
  | panic c => exact ⟨s1, φ1, F1, h1, h2, h3⟩
  | outgrown => exact ⟨s1, φ1, F1, h1, h2, h3⟩
theorem zbN {c : Operand} {x y : Code} {b : Bool} (hc : yB (pB s.fr) c = .bool b) (h : vB P nt (if b then x else y) K s) : vB P nt (.cond c x y) K s := by
  intro cx w0 w F φ a hf
  have := zG hf.tmps c
  rw [hc] at this
  simp only [gA] at this
  exact wpIn_cond this (h cx w0 w F φ a hf)
theorem sW {c : Operand} {x y : Code} (hc : yB (pB s.fr) c = .anyb) (h1 : vB P nt x K s) (h2 : vB P nt y K s) : vB P nt (.cond c x y) K s := by
  intro cx w0 w F φ a hf
  have := zG hf.tmps c
  rw [hc] at this
  simp only [gA] at this
  obtain ⟨b, hb⟩ := this
  refine wpIn_cond hb ?_
  cases b
  · exact h2 cx w0 w F φ a hf
  · exact h1 cx w0 w F φ a hf
def AV.Le (a b : AV) : Prop := ∀ (w : World) (F : Nat → Prop) (φ : jA) (v : Value), gA w F φ a v → gA w F φ b v
theorem AV.Le.refl (a : AV) : a.Le a := fun _ _ _ _ h => h
theorem AV.Le.top (a : AV) : a.Le .top := fun _ _ _ _ _ => by simp [gA]
theorem AV.Le.nils (sz : Nat) : AV.nils.Le (.psl sz []) := fun w F φ v h => by
  simp only [gA] at h ⊢; subst h; exact ⟨none, 0, by simp, by simp, by simp, by simp⟩
theorem AV.Le.bool (b : Bool) : (AV.bool b).Le .anyb := fun w F φ v h => by simp only [gA] at h ⊢; exact ⟨b, h⟩
def cX : List AV → List AV → Prop
  | [], [] => True
  | a :: as, b :: bs => a.Le b ∧ cX as bs
  | _, _ => False
theorem cX.rel {w : World} {F : Nat → Prop} {φ : jA} : ∀ {as bs : List AV} {vs : List Value}, cX as bs → uA w F φ as vs → uA w F φ bs vs
  | [], [], _, _, h => h
  | a :: as, b :: bs, vs, hl, h => by
    simp only [uA] at h ⊢
    obtain ⟨v, vs', h1, h2, h3⟩ := h
    exact ⟨v, vs', h1, hl.1 _ _ _ _ h2, hl.2.rel h3⟩
  | [], _ :: _, _, hl, _ => hl.elim
  | _ :: _, [], _, hl, _ => hl.elim
theorem AV.Le.agg {as bs : List AV} (h : cX as bs) : (AV.agg as).Le (.agg bs) := fun w F φ v hv => by
  simp only [gA] at hv ⊢; obtain ⟨cs, h1, h2, h3⟩ := hv; exact ⟨cs, h1, h.rel h2, h3⟩
theorem AV.Le.tup {as bs : List AV} (h : cX as bs) : (AV.tup as).Le (.tup bs) := fun w F φ v hv => by
  simp only [gA] at hv ⊢; obtain ⟨cs, h1, h2⟩ := hv; exact ⟨cs, h1, h.rel h2⟩
def wS (fr : List (Nat × AV)) : List (Nat × AV) → Prop
  | [] => True
  | (t, v) :: l => (pB fr t).Le v ∧ wS fr l
theorem wS.get {fr : List (Nat × AV)} : ∀ {l : List (Nat × AV)}, wS fr l → ∀ t, (pB fr t).Le (pB l t)
  | [], _, t => by rw [eW]; exact AV.Le.top _
  | (k, v) :: l, h, t => by
    rw [dQ]
    split
    · rename_i q; subst q; exact h.1
    · exact h.2.get t
def tE (L : List Nat) (fr : List (Nat × AV)) : List (Nat × AV) := L.map fun t => (t, pB fr t)
theorem zdD (fr : List (Nat × AV)) (t : Nat) : ∀ L : List Nat, vA (tE L fr) t = if t ∈ L then some (pB fr t) else none
  | [] => by simp [tE, vA]
  | k :: L => by
    have ih := zdD fr t L
    simp only [tE, List.map_cons, vA] at ih ⊢
    by_cases e : t = k
    · subst e; simp
    · rw [if_neg e, ih]; simp [e]
theorem gZ (L : List Nat) (fr : List (Nat × AV)) (t : Nat) : (pB fr t).Le (pB (tE L fr) t) := by
  have h := zdD fr t L
  have e : pB (tE L fr) t = if t ∈ L then pB fr t else .top := by
    show (match vA (tE L fr) t with | some v => v | none => AV.top) = _
    rw [h]
    by_cases hm : t ∈ L
    · rw [if_pos hm, if_pos hm]
    · rw [if_neg hm, if_neg hm]
  rw [e]
  split
  · exact AV.Le.refl _
  · exact AV.Le.top _
def gE {α : Type} (N : List Nat) (hp : List (Nat × α)) : List (Nat × α) := hp.filter fun p => N.contains p.1
theorem dV {α : Type} (N : List Nat) (b : Nat) (x : α) : ∀ hp : List (Nat × α), vA (gE N hp) b = some x → vA hp b = some x
  | [], h => by simp [gE, vA] at h
  | (k, y) :: hp, h => by
    simp only [gE, List.filter_cons] at h
    simp only [vA]
    split at h
    · simp only [vA] at h
      split at h
      · rename_i e; rw [if_pos e]; exact h
      · rename_i e; rw [if_neg e]; exact dV N b x hp h
    · rename_i hk
      by_cases e : b = k
      · subst e
        have : ∀ hp : List (Nat × α), vA (gE N hp) b = none := by
          intro hp
          induction hp with
          | nil => rfl
          | cons q hp ih =>
            obtain ⟨k, y⟩ := q
            simp only [gE, List.filter_cons]
            split
            · rename_i hk2
              simp only [vA]
              rw [if_neg (by intro e; subst e; exact hk hk2)]
              exact ih
            · exact ih
        have := this hp
        simp only [gE] at this
        rw [this] at h; cases h
      · rw [if_neg e]; exact dV N b x hp h
theorem bZ {α : Type} (N : List Nat) (b : Nat) (x : α) : ∀ hp : List (Nat × α), vA (gE N hp) b = some x → b ∈ N
  | [], h => by simp [gE, vA] at h
  | (k, y) :: hp, h => by
    simp only [gE, List.filter_cons] at h
    split at h
    · rename_i hk
      simp only [vA] at h
      split at h
      · rename_i e; subst e; simpa using hk
      · exact bZ N b x hp h
    · exact bZ N b x hp h
theorem zbA {α : Type} (b : Nat) : ∀ l : List (Nat × α), b ∈ l.map (·.1) → ∃ x, vA l b = some x
  | [], h => by simp at h
  | (k, y) :: l, h => by
    simp only [vA]
    by_cases e : b = k
    · exact ⟨y, by rw [if_pos e]⟩
    · rw [if_neg e]; exact zbA b l (by simpa [e] using h)
def iM (P : Program) : List SE → Prop
  | [] => True
  | se :: l => (match se.ob with | some ob => ob.holds P | none => True) ∧ iM P l
theorem iM.get : ∀ {l : List SE}, iM P l → ∀ se, se ∈ l → ∀ ob, se.ob = some ob → ob.holds P
  | [], _, se, hm => by simp at hm
  | x :: l, h, se, hm => by
    intro ob e
    rcases List.mem_cons.1 hm with q | q
    · subst q; have := h.1; rw [e] at this; exact this
    · exact h.2.get se q ob e
theorem zji {id : Nat} {ops : Array Oper} {ans : Nat → Option (AV × List pA)} {fr : List (Nat × AV)} {hp : List (Nat × pA)} {ses : List SE} (L N : List Nat) (hr : dJ P nt ops ans s.nx (pE 0 ops.toList) s.fr s.hp = some (fr, hp, ses)) (hob : iM P ses)
    (h : K .normal ⟨tE L fr, gE N hp, s.nx + 8 * ops.size, s.lp⟩) : vB P nt (.region id ops false) K s := by
  intro cx w0 w F φ a hf
  obtain ⟨h1, h2, h3⟩ := wV _ _ _ _ _ _ hr
  refine zdi hf.mem.heap hf.tmps rfl h1 hob.get cx.r 0 id fun a' w' φ' F' k1 k2 k3 k4 => ⟨⟨tE L fr, gE N hp, s.nx + 8 * ops.size, s.lp⟩, φ', F', ⟨hf.mem.step k4 ?_ rfl (by simp), ?_, hf.env.mono k4.weak k3⟩, k4.weak, h⟩
  · rw [← h3] at k1; exact k1.drop fun b x hx => dV N b x hp hx
  · rw [← h2] at k2; exact ⟨k2.size, fun t => gZ L fr t _ _ _ _ (k2.val t)⟩
theorem zlD {id : Nat} {ops : Array Oper} {ans : Nat → Option (AV × List pA)} {fr : List (Nat × AV)} {hp : List (Nat × pA)} {ses : List SE} (L N : List Nat) (hr : dJ P nt ops ans s.nx (pE 0 ops.toList) s.fr s.hp = some (fr, hp, ses)) (hob : iM P ses)
    (hmix : P.follows .mixedOrders = true) (hback : gL 0 ops.toList = true) (hpairs : aH (eH ops.toList []) ses ops.size = true)
    (h : K .normal ⟨tE L fr, gE N hp, s.nx + 8 * ops.size, s.lp⟩) : vB P nt (.region id ops true) K s := by
  intro cx w0 w F φ a hf
  obtain ⟨h1, h2, h3⟩ := wV _ _ _ _ _ _ hr
  refine ze3 hf.mem.heap hf.tmps rfl h1 hob.get cx.r 0 id hmix hback hpairs fun a' w' φ' F' k1 k2 k3 k4 => ⟨⟨tE L fr, gE N hp, s.nx + 8 * ops.size, s.lp⟩, φ', F', ⟨hf.mem.step k4 ?_ rfl (by simp), ?_, hf.env.mono k4.weak k3⟩, k4.weak, h⟩
  · rw [← h3] at k1; exact k1.drop fun b x hx => dV N b x hp hx
  · rw [← h2] at k2; exact ⟨k2.size, fun t => gZ L fr t _ _ _ _ (k2.val t)⟩
theorem zl7 {id : Nat} {ops : Array Oper} {ans : Nat → Option (AV × List pA)} {fr : List (Nat × AV)} {hp : List (Nat × pA)} {ses : List SE} (L : List Nat) (hr : dJ P nt ops ans s.nx (pE 0 ops.toList) s.fr s.hp = some (fr, hp, ses)) (hob : iM P ses)
    (h : K .normal ⟨tE L fr, hp, s.nx + 8 * ops.size, s.lp⟩) : vB P nt (.region id ops false) K s := by
  intro cx w0 w F φ a hf
  obtain ⟨h1, h2, h3⟩ := wV _ _ _ _ _ _ hr
  refine zdi hf.mem.heap hf.tmps rfl h1 hob.get cx.r 0 id fun a' w' φ' F' k1 k2 k3 k4 => ⟨⟨tE L fr, hp, s.nx + 8 * ops.size, s.lp⟩, φ', F', ⟨hf.mem.step k4 ?_ rfl (by simp), ?_, hf.env.mono k4.weak k3⟩, k4.weak, h⟩
  · rw [← h3] at k1; exact k1
  · rw [← h2] at k2; exact ⟨k2.size, fun t => gZ L fr t _ _ _ _ (k2.val t)⟩
theorem zkC {id : Nat} {ops : Array Oper} {ans : Nat → Option (AV × List pA)} {fr : List (Nat × AV)} {hp : List (Nat × pA)} {ses : List SE} (L : List Nat) (hr : dJ P nt ops ans s.nx (pE 0 ops.toList) s.fr s.hp = some (fr, hp, ses)) (hob : iM P ses)
    (hmix : P.follows .mixedOrders = true) (hback : gL 0 ops.toList = true) (hpairs : aH (eH ops.toList []) ses ops.size = true)
    (h : K .normal ⟨tE L fr, hp, s.nx + 8 * ops.size, s.lp⟩) : vB P nt (.region id ops true) K s := by
  intro cx w0 w F φ a hf
  obtain ⟨h1, h2, h3⟩ := wV _ _ _ _ _ _ hr
  refine ze3 hf.mem.heap hf.tmps rfl h1 hob.get cx.r 0 id hmix hback hpairs fun a' w' φ' F' k1 k2 k3 k4 => ⟨⟨tE L fr, hp, s.nx + 8 * ops.size, s.lp⟩, φ', F', ⟨hf.mem.step k4 ?_ rfl (by simp), ?_, hf.env.mono k4.weak k3⟩, k4.weak, h⟩
  · rw [← h3] at k1; exact k1
  · rw [← h2] at k2; exact ⟨k2.size, fun t => gZ L fr t _ _ _ _ (k2.val t)⟩
end
end Go.AM
