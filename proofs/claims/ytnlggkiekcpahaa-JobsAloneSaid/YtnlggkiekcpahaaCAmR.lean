/- A text of the proof. -/
import Derived.Test.YtnlggkiekcpahaaCAmQ
set_option linter.unusedSimpArgs false
set_option linter.unusedVariables false
namespace Go.AM
open Go Go.RowKit
def uA {α : Type} : List (Nat × α) → Nat → Option α
  | [], _ => none
  | (k, v) :: l, n => if n = k then some v else uA l n
def nB (fr : List (Nat × AV)) (t : Nat) : AV := match uA fr t with | some v => v | none => .top
def zF {α : Type} : List (Nat × α) → Nat → α → List (Nat × α)
  | [], b, x => [(b, x)]
  | (k, y) :: l, b, x => if b = k then (k, x) :: l else (k, y) :: zF l b x
def fQ : List (Nat × lA) → List (Nat × lA) → List (Nat × lA)
  | hp, [] => hp
  | hp, (b, x) :: l => fQ (zF hp b x) l
theorem dV {α : Type} (b : Nat) (x : α) : ∀ (hp : List (Nat × α)), uA (zF hp b x) = rD (uA hp) b (some x)
  | [] => by funext c; simp [zF, uA, rD]
  | (k, y) :: l => by
    funext c
    simp only [zF]
    split
    · rename_i e; subst e
      simp only [uA, rD]
      split <;> simp_all
    · rename_i e
      simp only [uA, dV b x l, rD]
      split
      · rename_i h; subst h
        rw [if_neg (fun h => e h.symm)]
      · rfl
theorem za0 : ∀ (l hp : List (Nat × lA)), uA (fQ hp l) = iE (uA hp) l
  | [], hp => rfl
  | (b, x) :: l, hp => by simp only [fQ, iE, za0 l, dV]
theorem sP (k : Nat) (v : AV) (l : List (Nat × AV)) (t : Nat) : nB ((k, v) :: l) t = if t = k then v else nB l t := by
  simp only [nB, uA]
  by_cases h : t = k
  · rw [if_pos h, if_pos h]
  · rw [if_neg h, if_neg h]
theorem aW (t : Nat) : nB [] t = .top := rfl
def gH (fr : List (Nat × AV)) (d : Option Nat) (v : AV) : List (Nat × AV) := match d with | some d => (d, v) :: fr | none => fr
theorem gO (fr : List (Nat × AV)) (d : Option Nat) (v : AV) : nB (gH fr d v) = cP (nB fr) d v := by
  cases d with
  | none => rfl
  | some d => funext t; simp only [gH, sP, cP, rD]
structure xD where
  fr : List (Nat × AV)
  nt : Nat
  ps : List Nat
  assign : Code
  body : Code
  st : LoopState
  pend : Option Code
  mp : Option (List (AV × AV))
structure St where
  fr : List (Nat × AV)
  hp : List (Nat × lA)
  nx : Nat
  lp : List (Nat × xD)
def vI (P : Program) (nt : Nat) (ops : Array Oper) (ans : Nat → Option (AV × List lA)) (nx : Nat) : List (Nat × Oper) → List (Nat × AV) → List (Nat × lA) → Option (List (Nat × AV) × List (Nat × lA) × List SE)
  | [], fr, hp => some (fr, hp, [])
  | (i, o) :: aB, fr, hp => match lK P nt ops o (ans i) (nx + 8 * i) (nB fr) (uA hp) with
    | some se => match vI P nt ops ans nx aB (gH fr se.d se.v) (fQ hp se.wr) with
      | some (fr', hp', ses) => some (fr', hp', se :: ses)
      | none => none
    | none => none
theorem jV {P : Program} {nt : Nat} {ops : Array Oper} {ans : Nat → Option (AV × List lA)} {nx : Nat} : ∀ (l : List (Nat × Oper)) (fr fr' : List (Nat × AV)) (hp hp' : List (Nat × lA)) (ses : List SE),
    vI P nt ops ans nx l fr hp = some (fr', hp', ses) → lQ P nt ops ans nx l (nB fr) (uA hp) = some ses ∧ nB fr' = lF (nB fr) ses ∧ uA hp' = iF (uA hp) ses
  | [], fr, fr', hp, hp', ses, h => by simp only [vI, Option.some.injEq, Prod.mk.injEq] at h; obtain ⟨rfl, rfl, rfl⟩ := h; exact ⟨rfl, rfl, rfl⟩
  | (i, o) :: aB, fr, fr', hp, hp', ses, h => by
    simp only [vI] at h
    split at h
    · rename_i se hse
      split at h
      · rename_i a b c hr
        simp only [Option.some.injEq, Prod.mk.injEq] at h
        obtain ⟨rfl, rfl, rfl⟩ := h
        obtain ⟨h1, h2, h3⟩ := jV aB _ _ _ _ _ hr
        rw [gO] at h1 h2
        rw [za0] at h1 h3
        refine ⟨?_, h2, h3⟩
        simp only [lQ, hse]
        rw [show tK (nB fr) se = cP (nB fr) se.d se.v from rfl, show tO (uA hp) se = iE (uA hp) se.wr from rfl, h1]
      · cases h
    · cases h
def zE (w : World) (k : Nat) : Prop := w.heap[k]? = some (.deferred (some []))
def gG (w : World) (F : Nat → Prop) : List (AV × AV) → List MapEntry → Prop
  | [], es => es = []
  | (k, v) :: m, es => ∃ e es', es = e :: es' ∧ dA w F fA.zero k e.key ∧ dA w F fA.zero v e.val ∧ gG w F m es'
theorem gG.mono {w w' : World} {F F' : Nat → Prop} (hx : Ext0 F w w') (hF : ∀ b, F b → F' b) : ∀ {m : List (AV × AV)} {es : List MapEntry}, gG w F m es → gG w' F' m es
  | [], _, h => h
  | (k, v) :: m, _, ⟨e, es', h1, h2, h3, h4⟩ => ⟨e, es', h1, dA.mono hx hF (fA.le_refl _) _ _ h2, dA.mono hx hF (fA.le_refl _) _ _ h3, gG.mono hx hF h4⟩
def gV (w0 w : World) (F : Nat → Prop) (φ : fA) (l : Nat) (m : List (AV × AV)) : Prop :=
  ∃ (k : Nat) (es : Array MapEntry) (c : Nat), φ.loop l = some k ∧ w0.heap.size ≤ k ∧ w.heap[k]? = some (.map es c) ∧ gG w F m es.toList
def uS (w0 w : World) (F : Nat → Prop) (φ : fA) (l : Nat) (x : xD) : Prop :=
  ∃ (k : Nat) (rec : Loop), φ.loop l = some k ∧ w0.heap.size ≤ k ∧ w.heap[k]? = some (.loop rec) ∧ rec.state = x.st ∧ rec.pending = x.pend ∧ rec.params.toList = x.ps ∧ rec.assign = x.assign ∧ rec.body = x.body ∧ mE w F φ (nB x.fr) x.nt rec.tmps ∧ zE w rec.defers
def cK (w0 w : World) (F : Nat → Prop) (φ : fA) (l : Nat) (x : xD) : Prop := (x.mp = none → uS w0 w F φ l x) ∧ (∀ m, x.mp = some m → gV w0 w F φ l m)
theorem cK.loop {w0 w : World} {F : Nat → Prop} {φ : fA} {l : Nat} {x : xD} (h : cK w0 w F φ l x) (hm : x.mp = none) : uS w0 w F φ l x := h.1 hm
theorem cK.at {w0 w : World} {F : Nat → Prop} {φ : fA} {l : Nat} {x : xD} (h : cK w0 w F φ l x) : ∃ k, φ.loop l = some k ∧ w0.heap.size ≤ k := by
  cases hm : x.mp with
  | none => obtain ⟨k, rec, h1, h2, -⟩ := h.1 hm; exact ⟨k, h1, h2⟩
  | some m => obtain ⟨k, es, c, h1, h2, -⟩ := h.2 m hm; exact ⟨k, h1, h2⟩
theorem cK.isLoop {w0 w : World} {F : Nat → Prop} {φ : fA} {l k : Nat} {x : xD} {rec : Loop} (h : cK w0 w F φ l x) (hk : φ.loop l = some k) (hr : w.heap[k]? = some (.loop rec)) : x.mp = none := by
  cases hm : x.mp with
  | none => rfl
  | some m =>
    obtain ⟨k', es, c, h1, -, h3, -⟩ := h.2 m hm
    rw [hk] at h1; cases h1
    rw [hr] at h3; cases h3
theorem uS.recd {w0 w : World} {F : Nat → Prop} {φ : fA} {l : Nat} {x : xD} (h : uS w0 w F φ l x) (hm : x.mp = none) : cK w0 w F φ l x := ⟨fun _ => h, fun m e => by rw [hm] at e; cases e⟩
theorem gV.recd {w0 w : World} {F : Nat → Prop} {φ : fA} {l : Nat} {x : xD} {m : List (AV × AV)} (h : gV w0 w F φ l m) (hm : x.mp = some m) : cK w0 w F φ l x := ⟨fun e => (by rw [hm] at e; cases e), fun m' e => by rw [hm] at e; cases e; exact h⟩
def zR (D : Nat) : Deferred := { target := .collected D, args := #[] }
structure sD (w0 w : World) (F : Nat → Prop) (φ : fA) (s : St) : Prop where
  heap : uB w0 w F φ (fun b => b < s.nx) (uA s.hp)
  lps : ∀ l x, uA s.lp l = some x → cK w0 w F φ l x
  lused : ∀ l k, φ.loop l = some k → l < s.nx ∧ k < w.heap.size
  linj : ∀ l l' k, φ.loop l = some k → φ.loop l' = some k → l = l'
structure Cx where
  r : Option Nat
  B : Nat
  ds : List Deferred
structure Env (x : Cx) (w0 w : World) (a : Act) : Prop where
  dfr : ∃ Ds : List Nat, a.defers = Ds.map zR ++ x.ds ∧ Ds.Nodup ∧ ∀ D, D ∈ Ds → x.B ≤ D ∧ zE w D
  rnd : ∀ l0, x.r = some l0 → ∃ rec : Loop, w.heap[l0]? = some (.loop rec) ∧ zE w rec.defers
  lo : w0.heap.size ≤ x.B ∧ x.B ≤ w.heap.size
structure tE (x : Cx) (w0 w : World) (F : Nat → Prop) (φ : fA) (nt : Nat) (a : Act) (s : St) : Prop where
  mem : sD w0 w F φ s
  tmps : mE w F φ (nB s.fr) nt a.tmps
  env : Env x w0 w a
structure cD (w0 w : World) (F : Nat → Prop) (φ : fA) (w' : World) (F' : Nat → Prop) (φ' : fA) : Prop where
  le : φ.le φ'
  sub : ∀ b, F b → F' b
  new : ∀ b, F' b → F b ∨ w0.heap.size ≤ b
  ext : Ext0 F w w'
  opn : ∀ k, zE w k → zE w' k
  lps : ∀ (k : Nat) (rec : Loop), w.heap[k]? = some (.loop rec) → ∃ rec' : Loop, w'.heap[k]? = some (.loop rec') ∧ rec'.defers = rec.defers
  mps : ∀ (k : Nat) (es : Array MapEntry) (c : Nat), w.heap[k]? = some (.map es c) → ∃ es' c', w'.heap[k]? = some (.map es' c')
section
variable {w0 w w' w'' : World} {F F' F'' : Nat → Prop} {φ φ' φ'' : fA}
theorem cD.refl (w0 w : World) (F : Nat → Prop) (φ : fA) : cD w0 w F φ w F φ := ⟨fA.le_refl φ, fun _ h => h, fun _ h => .inl h, Ext0.refl F w, fun _ h => h, fun _ rec h => ⟨rec, h, rfl⟩, fun _ es c h => ⟨es, c, h⟩⟩
theorem cD.trans (h : cD w0 w F φ w' F' φ') (k : cD w0 w' F' φ' w'' F'' φ'') : cD w0 w F φ w'' F'' φ'' :=
  ⟨fA.le_trans h.le k.le, fun b hb => k.sub b (h.sub b hb), fun b hb => by
    rcases k.new b hb with q | q
    · exact h.new b q
    · exact .inr q, h.ext.trans k.ext h.sub, fun x hx => k.opn x (h.opn x hx), fun x rec hx => by
      obtain ⟨r1, h1, e1⟩ := h.lps x rec hx
      obtain ⟨r2, h2, e2⟩ := k.lps x r1 h1
      exact ⟨r2, h2, e2.trans e1⟩, fun x es c hx => by
      obtain ⟨es', c', h1⟩ := h.mps x es c hx
      exact k.mps x es' c' h1⟩
theorem cG.weak (h : cG w0 w F φ w' F' φ') : cD w0 w F φ w' F' φ' :=
  ⟨h.le, h.sub, h.new, h.ext.toExt0, fun k hk => h.ext.objs k _ hk (by intros; simp), fun k rec hk => ⟨rec, h.ext.objs k _ hk (by intros; simp), rfl⟩, fun k es c hk => ⟨es, c, h.ext.objs k _ hk (by intros; simp)⟩⟩
theorem mE.monoW {τ : Nat → AV} {nt : Nat} {tmps : Array Value} (h : mE w F φ τ nt tmps) (g : cD w0 w F φ w' F' φ') : mE w' F' φ' τ nt tmps :=
  ⟨h.size, fun t => dA.mono g.ext g.sub g.le _ _ (h.val t)⟩
theorem cK.mono {l : Nat} {x : xD} (h : cK w0 w F φ l x) (g : cD w0 w F φ w' F' φ') (hk : ∀ (k : Nat) (o : Obj), φ.loop l = some k → (∀ c el fz, o ≠ .cells c el fz) → w.heap[k]? = some o → w'.heap[k]? = some o) : cK w0 w' F' φ' l x := by
  refine ⟨fun hm => ?_, fun m hm => ?_⟩
  · obtain ⟨k, rec, h1, h2, h3, h4, h5, h6, h7, h8, h9, h10⟩ := h.1 hm
    exact ⟨k, rec, g.le.2 _ _ h1, h2, hk k _ h1 (by intros; simp) h3, h4, h5, h6, h7, h8, h9.monoW g, g.opn _ h10⟩
  · obtain ⟨k, es, c, h1, h2, h3, h4⟩ := h.2 m hm
    exact ⟨k, es, c, g.le.2 _ _ h1, h2, hk k _ h1 (by intros; simp) h3, h4.mono g.ext g.sub⟩
theorem Env.mono {x : Cx} {a a' : Act} (h : Env x w0 w a) (g : cD w0 w F φ w' F' φ') (ha : a'.defers = a.defers) : Env x w0 w' a' := by
  refine ⟨?_, fun l0 hl => ?_, h.lo.1, Nat.le_trans h.lo.2 g.ext.size⟩
  · obtain ⟨Ds, h1, h2, h3⟩ := h.dfr
    exact ⟨Ds, ha.trans h1, h2, fun D hD => ⟨(h3 D hD).1, g.opn D (h3 D hD).2⟩⟩
  · obtain ⟨rec, h1, h2⟩ := h.rnd l0 hl
    obtain ⟨rec', k1, k2⟩ := g.lps l0 rec h1
    exact ⟨rec', k1, by rw [k2]; exact g.opn _ h2⟩
theorem sD.step {s s' : St} (h : sD w0 w F φ s) (g : cG w0 w F φ w' F' φ') (hh : uB w0 w' F' φ' (fun b => b < s'.nx) (uA s'.hp)) (hl : s'.lp = s.lp) (hn : s.nx ≤ s'.nx) : sD w0 w' F' φ' s' := by
  refine ⟨hh, fun l x hx => ?_, fun l k hk => ?_, fun l l' k h1 h2 => ?_⟩
  · rw [hl] at hx
    exact (h.lps l x hx).mono g.weak fun k o _ ho hk => g.ext.objs k _ hk ho
  · rw [g.sle.lp] at hk
    have := h.lused l k hk
    exact ⟨by omega, Nat.lt_of_lt_of_le this.2 g.ext.toExt0.size⟩
  · rw [g.sle.lp] at h1 h2; exact h.linj l l' k h1 h2
end
def pA (P : Program) (nt : Nat) (c : Code) (K : Exit → St → Prop) (s : St) : Prop :=
  ∀ (x : Cx) (w0 w : World) (F : Nat → Prop) (φ : fA) (a : Act), tE x w0 w F φ nt a s →
    c.wpIn (zD x.r) 0 P (fun e a' w' => ∃ s' φ' F', tE x w0 w' F' φ' nt a' s' ∧ cD w0 w F φ w' F' φ' ∧ K e s') a w
section
variable {P : Program} {nt : Nat} {K : Exit → St → Prop} {s : St}
theorem zen {c : Code} {K' : Exit → St → Prop} (h : pA P nt c K s) (hk : ∀ e s, K e s → K' e s) : pA P nt c K' s :=
  fun x w0 w F φ a hf => wpIn_mono (h x w0 w F φ a hf) fun _ _ _ ⟨s', φ', F', h1, h2, h3⟩ => ⟨s', φ', F', h1, h2, hk _ _ h3⟩
theorem qA (h : K .normal s) : pA P nt .skip K s := fun _ _ _ F φ _ hf => wpIn_skip ⟨s, φ, F, hf, cD.refl _ _ _ _, h⟩
theorem zc7 {l : Nat} (h : K .normal s) : pA P nt (.label l) K s := fun _ _ _ F φ _ hf => wpIn_label ⟨s, φ, F, hf, cD.refl _ _ _ _, h⟩
theorem vC {id : Nat} (h : K (.exit id) s) : pA P nt (.exit id) K s := fun _ _ _ F φ _ hf => wpIn_exit ⟨s, φ, F, hf, cD.refl _ _ _ _, h⟩
theorem jA (h : K .ret s) : pA P nt .ret K s := fun _ _ _ F φ _ hf => wpIn_ret ⟨s, φ, F, hf, cD.refl _ _ _ _, h⟩
def gN (next : St → Prop) (K : Exit → St → Prop) : Exit → St → Prop
  | .normal, s => next s
  | e, s => K e s
def xK (id : Nat) (K : Exit → St → Prop) : Exit → St → Prop
  | .exit id', s => if id' = id then K .normal s else K (.exit id') s
  | e, s => K e s
theorem kA {x y : Code} (h : pA P nt x (gN (pA P nt y K) K) s) : pA P nt (.seq x y) K s := by
  intro cx w0 w F φ a hf
  refine wpIn_seq (wpIn_mono (h cx w0 w F φ a hf) ?_)
  rintro e a1 w1 ⟨s1, φ1, F1, h1, h2, h3⟩
  cases e with
  | normal =>
    refine wpIn_mono (h3 cx w0 w1 F1 φ1 a1 h1) ?_
    rintro e a2 w2 ⟨s2, φ2, F2, k1, k2, k3⟩
    exact ⟨s2, φ2, F2, k1, h2.trans k2, k3⟩
  | exit id => exact ⟨s1, φ1, F1, h1, h2, h3⟩
  | goto l => exact ⟨s1, φ1, F1, h1, h2, h3⟩
  | ret => exact ⟨s1, φ1, F1, h1, h2, h3⟩
  | panic c => exact ⟨s1, φ1, F1, h1, h2, h3⟩
  | outgrown => exact ⟨s1, φ1, F1, h1, h2, h3⟩
theorem jC {id : Nat} {c : Code} (h : pA P nt c (xK id K) s) : pA P nt (.block id c) K s := by
  intro cx w0 w F φ a hf
  refine wpIn_block (wpIn_mono (h cx w0 w F φ a hf) ?_)
  rintro e a1 w1 ⟨s1, φ1, F1, h1, h2, h3⟩
  cases e with
  | exit id' =>
    simp only [Exit.inBlock, xK] at h3 ⊢
    split
    · rename_i e; rw [if_pos e] at h3; exact ⟨s1, φ1, F1, h1, h2, h3⟩
    · rename_i e; rw [if_neg e] at h3; exact ⟨s1, φ1, F1, h1, h2, h3⟩
  | normal => exact ⟨s1, φ1, F1, h1, h2, h3⟩
  | goto l => exact ⟨s1, φ1, F1, h1, h2, h3⟩
  | ret => exact ⟨s1, φ1, F1, h1, h2, h3⟩
  | panic c => exact ⟨s1, φ1, F1, h1, h2, h3⟩
  | outgrown => exact ⟨s1, φ1, F1, h1, h2, h3⟩
theorem zbS {c : Operand} {x y : Code} {b : Bool} (hc : vB (nB s.fr) c = .bool b) (h : pA P nt (if b then x else y) K s) : pA P nt (.cond c x y) K s := by
  intro cx w0 w F φ a hf
  have := nG hf.tmps c
  rw [hc] at this
  simp only [dA] at this
  exact wpIn_cond this (h cx w0 w F φ a hf)
theorem oV {c : Operand} {x y : Code} (hc : vB (nB s.fr) c = .anyb) (h1 : pA P nt x K s) (h2 : pA P nt y K s) : pA P nt (.cond c x y) K s := by
  intro cx w0 w F φ a hf
  have := nG hf.tmps c
  rw [hc] at this
  simp only [dA] at this
  obtain ⟨b, hb⟩ := this
  refine wpIn_cond hb ?_
  cases b
  · exact h2 cx w0 w F φ a hf
  · exact h1 cx w0 w F φ a hf
def AV.Le (a b : AV) : Prop := ∀ (w : World) (F : Nat → Prop) (φ : fA) (v : Value), dA w F φ a v → dA w F φ b v
theorem AV.Le.refl (a : AV) : a.Le a := fun _ _ _ _ h => h
theorem AV.Le.top (a : AV) : a.Le .top := fun _ _ _ _ _ => by simp [dA]
theorem AV.Le.nils (sz : Nat) : AV.nils.Le (.psl sz []) := fun w F φ v h => by
  simp only [dA] at h ⊢; subst h; exact ⟨none, 0, by simp, by simp, by simp, by simp⟩
theorem AV.Le.bool (b : Bool) : (AV.bool b).Le .anyb := fun w F φ v h => by simp only [dA] at h ⊢; exact ⟨b, h⟩
def kW : List AV → List AV → Prop
  | [], [] => True
  | a :: as, b :: bs => a.Le b ∧ kW as bs
  | _, _ => False
theorem kW.rel {w : World} {F : Nat → Prop} {φ : fA} : ∀ {as bs : List AV} {vs : List Value}, kW as bs → tA w F φ as vs → tA w F φ bs vs
  | [], [], _, _, h => h
  | a :: as, b :: bs, vs, hl, h => by
    simp only [tA] at h ⊢
    obtain ⟨v, vs', h1, h2, h3⟩ := h
    exact ⟨v, vs', h1, hl.1 _ _ _ _ h2, hl.2.rel h3⟩
  | [], _ :: _, _, hl, _ => hl.elim
  | _ :: _, [], _, hl, _ => hl.elim
theorem AV.Le.agg {as bs : List AV} (h : kW as bs) : (AV.agg as).Le (.agg bs) := fun w F φ v hv => by
  simp only [dA] at hv ⊢; obtain ⟨cs, h1, h2, h3⟩ := hv; exact ⟨cs, h1, h.rel h2, h3⟩
theorem AV.Le.tup {as bs : List AV} (h : kW as bs) : (AV.tup as).Le (.tup bs) := fun w F φ v hv => by
  simp only [dA] at hv ⊢; obtain ⟨cs, h1, h2⟩ := hv; exact ⟨cs, h1, h.rel h2⟩
def kR (fr : List (Nat × AV)) : List (Nat × AV) → Prop
  | [] => True
  | (t, v) :: l => (nB fr t).Le v ∧ kR fr l
theorem kR.get {fr : List (Nat × AV)} : ∀ {l : List (Nat × AV)}, kR fr l → ∀ t, (nB fr t).Le (nB l t)
  | [], _, t => by rw [aW]; exact AV.Le.top _
  | (k, v) :: l, h, t => by
    rw [sP]
    split
    · rename_i q; subst q; exact h.1
    · exact h.2.get t
def sE (L : List Nat) (fr : List (Nat × AV)) : List (Nat × AV) := L.map fun t => (t, nB fr t)
theorem zec (fr : List (Nat × AV)) (t : Nat) : ∀ L : List Nat, uA (sE L fr) t = if t ∈ L then some (nB fr t) else none
  | [] => by simp [sE, uA]
  | k :: L => by
    have ih := zec fr t L
    simp only [sE, List.map_cons, uA] at ih ⊢
    by_cases e : t = k
    · subst e; simp
    · rw [if_neg e, ih]; simp [e]
theorem pX (L : List Nat) (fr : List (Nat × AV)) (t : Nat) : (nB fr t).Le (nB (sE L fr) t) := by
  have h := zec fr t L
  have e : nB (sE L fr) t = if t ∈ L then nB fr t else .top := by
    show (match uA (sE L fr) t with | some v => v | none => AV.top) = _
    rw [h]
    by_cases hm : t ∈ L
    · rw [if_pos hm, if_pos hm]
    · rw [if_neg hm, if_neg hm]
  rw [e]
  split
  · exact AV.Le.refl _
  · exact AV.Le.top _
def kE {α : Type} (N : List Nat) (hp : List (Nat × α)) : List (Nat × α) := hp.filter fun p => N.contains p.1
theorem mT {α : Type} (N : List Nat) (b : Nat) (x : α) : ∀ hp : List (Nat × α), uA (kE N hp) b = some x → uA hp b = some x
  | [], h => by simp [kE, uA] at h
  | (k, y) :: hp, h => by
    simp only [kE, List.filter_cons] at h
    simp only [uA]
    split at h
    · simp only [uA] at h
      split at h
      · rename_i e; rw [if_pos e]; exact h
      · rename_i e; rw [if_neg e]; exact mT N b x hp h
    · rename_i hk
      by_cases e : b = k
      · subst e
        have : ∀ hp : List (Nat × α), uA (kE N hp) b = none := by
          intro hp
          induction hp with
          | nil => rfl
          | cons q hp ih =>
            obtain ⟨k, y⟩ := q
            simp only [kE, List.filter_cons]
            split
            · rename_i hk2
              simp only [uA]
              rw [if_neg (by intro e; subst e; exact hk hk2)]
              exact ih
            · exact ih
        have := this hp
        simp only [kE] at this
        rw [this] at h; cases h
      · rw [if_neg e]; exact mT N b x hp h
theorem bY {α : Type} (N : List Nat) (b : Nat) (x : α) : ∀ hp : List (Nat × α), uA (kE N hp) b = some x → b ∈ N
  | [], h => by simp [kE, uA] at h
  | (k, y) :: hp, h => by
    simp only [kE, List.filter_cons] at h
    split at h
    · rename_i hk
      simp only [uA] at h
      split at h
      · rename_i e; subst e; simpa using hk
      · exact bY N b x hp h
    · exact bY N b x hp h
theorem zbs {α : Type} (b : Nat) : ∀ l : List (Nat × α), b ∈ l.map (·.1) → ∃ x, uA l b = some x
  | [], h => by simp at h
  | (k, y) :: l, h => by
    simp only [uA]
    by_cases e : b = k
    · exact ⟨y, by rw [if_pos e]⟩
    · rw [if_neg e]; exact zbs b l (by simpa [e] using h)
def lL (P : Program) : List SE → Prop
  | [] => True
  | se :: l => (match se.ob with | some ob => ob.holds P | none => True) ∧ lL P l
theorem lL.get : ∀ {l : List SE}, lL P l → ∀ se, se ∈ l → ∀ ob, se.ob = some ob → ob.holds P
  | [], _, se, hm => by simp at hm
  | x :: l, h, se, hm => by
    intro ob e
    rcases List.mem_cons.1 hm with q | q
    · subst q; have := h.1; rw [e] at this; exact this
    · exact h.2.get se q ob e
theorem zol {id : Nat} {ops : Array Oper} {ans : Nat → Option (AV × List lA)} {fr : List (Nat × AV)} {hp : List (Nat × lA)} {ses : List SE} (L N : List Nat) (hr : vI P nt ops ans s.nx (pE 0 ops.toList) s.fr s.hp = some (fr, hp, ses)) (hob : lL P ses)
    (h : K .normal ⟨sE L fr, kE N hp, s.nx + 8 * ops.size, s.lp⟩) : pA P nt (.region id ops false) K s := by
  intro cx w0 w F φ a hf
  obtain ⟨h1, h2, h3⟩ := jV _ _ _ _ _ _ hr
  refine zco hf.mem.heap hf.tmps rfl h1 hob.get cx.r 0 id fun a' w' φ' F' k1 k2 k3 k4 => ⟨⟨sE L fr, kE N hp, s.nx + 8 * ops.size, s.lp⟩, φ', F', ⟨hf.mem.step k4 ?_ rfl (by simp), ?_, hf.env.mono k4.weak k3⟩, k4.weak, h⟩
  · rw [← h3] at k1; exact k1.drop fun b x hx => mT N b x hp hx
  · rw [← h2] at k2; exact ⟨k2.size, fun t => pX L fr t _ _ _ _ (k2.val t)⟩
theorem zhj {id : Nat} {ops : Array Oper} {ans : Nat → Option (AV × List lA)} {fr : List (Nat × AV)} {hp : List (Nat × lA)} {ses : List SE} (L N : List Nat) (hr : vI P nt ops ans s.nx (pE 0 ops.toList) s.fr s.hp = some (fr, hp, ses)) (hob : lL P ses)
    (hmix : P.follows .mixedOrders = true) (hback : fK 0 ops.toList = true) (hpairs : kJ (aH ops.toList []) ses ops.size = true)
    (h : K .normal ⟨sE L fr, kE N hp, s.nx + 8 * ops.size, s.lp⟩) : pA P nt (.region id ops true) K s := by
  intro cx w0 w F φ a hf
  obtain ⟨h1, h2, h3⟩ := jV _ _ _ _ _ _ hr
  refine zdf hf.mem.heap hf.tmps rfl h1 hob.get cx.r 0 id hmix hback hpairs fun a' w' φ' F' k1 k2 k3 k4 => ⟨⟨sE L fr, kE N hp, s.nx + 8 * ops.size, s.lp⟩, φ', F', ⟨hf.mem.step k4 ?_ rfl (by simp), ?_, hf.env.mono k4.weak k3⟩, k4.weak, h⟩
  · rw [← h3] at k1; exact k1.drop fun b x hx => mT N b x hp hx
  · rw [← h2] at k2; exact ⟨k2.size, fun t => pX L fr t _ _ _ _ (k2.val t)⟩
theorem zhU {id : Nat} {ops : Array Oper} {ans : Nat → Option (AV × List lA)} {fr : List (Nat × AV)} {hp : List (Nat × lA)} {ses : List SE} (L : List Nat) (hr : vI P nt ops ans s.nx (pE 0 ops.toList) s.fr s.hp = some (fr, hp, ses)) (hob : lL P ses)
    (h : K .normal ⟨sE L fr, hp, s.nx + 8 * ops.size, s.lp⟩) : pA P nt (.region id ops false) K s := by
  intro cx w0 w F φ a hf
  obtain ⟨h1, h2, h3⟩ := jV _ _ _ _ _ _ hr
  refine zco hf.mem.heap hf.tmps rfl h1 hob.get cx.r 0 id fun a' w' φ' F' k1 k2 k3 k4 => ⟨⟨sE L fr, hp, s.nx + 8 * ops.size, s.lp⟩, φ', F', ⟨hf.mem.step k4 ?_ rfl (by simp), ?_, hf.env.mono k4.weak k3⟩, k4.weak, h⟩
  · rw [← h3] at k1; exact k1
  · rw [← h2] at k2; exact ⟨k2.size, fun t => pX L fr t _ _ _ _ (k2.val t)⟩
theorem zkY {id : Nat} {ops : Array Oper} {ans : Nat → Option (AV × List lA)} {fr : List (Nat × AV)} {hp : List (Nat × lA)} {ses : List SE} (L : List Nat) (hr : vI P nt ops ans s.nx (pE 0 ops.toList) s.fr s.hp = some (fr, hp, ses)) (hob : lL P ses)
    (hmix : P.follows .mixedOrders = true) (hback : fK 0 ops.toList = true) (hpairs : kJ (aH ops.toList []) ses ops.size = true)
    (h : K .normal ⟨sE L fr, hp, s.nx + 8 * ops.size, s.lp⟩) : pA P nt (.region id ops true) K s := by
  intro cx w0 w F φ a hf
  obtain ⟨h1, h2, h3⟩ := jV _ _ _ _ _ _ hr
  refine zdf hf.mem.heap hf.tmps rfl h1 hob.get cx.r 0 id hmix hback hpairs fun a' w' φ' F' k1 k2 k3 k4 => ⟨⟨sE L fr, hp, s.nx + 8 * ops.size, s.lp⟩, φ', F', ⟨hf.mem.step k4 ?_ rfl (by simp), ?_, hf.env.mono k4.weak k3⟩, k4.weak, h⟩
  · rw [← h3] at k1; exact k1
  · rw [← h2] at k2; exact ⟨k2.size, fun t => pX L fr t _ _ _ _ (k2.val t)⟩
end
end Go.AM
