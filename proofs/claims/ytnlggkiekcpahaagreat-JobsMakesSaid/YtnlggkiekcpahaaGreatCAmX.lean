/- A text of the proof. -/
import Derived.Test.YtnlggkiekcpahaaGreatCAmW
set_option linter.unusedSimpArgs false
set_option linter.unusedVariables false
namespace Go.AM
open Go Go.RowKit
def Xa {α : Type} (a : α) : α := a
theorem Xa_eq {α : Type} (a : α) : Xa a = a := of_eq_true (eq_true rfl)
def xB {α : Type} (x : Option α) (k : α → Prop) : Prop := match x with | some a => k a | none => False
theorem zla {α : Type} (a : α) (k : α → Prop) : xB (some a) k = k a := rfl
theorem zi3 {α : Type} (k : α → Prop) : xB none k = False := rfl
theorem zis {α : Type} (c : Prop) [Decidable c] (x : Option α) (k : α → Prop) : xB (if c then x else none) k = (c ∧ xB (Xa x) k) := by
  by_cases h : c <;> simp [xB, Xa, h]
@[congr] theorem zm8 {α : Type} {x y : Option α} {k : α → Prop} (h : x = y) : xB x k = xB y k := by rw [h]
theorem Holds_map {α β : Type} (f : α → β) (x : Option α) (k : β → Prop) : xB (x.map f) k = xB (Xa x) fun a => k (f a) := by cases x <;> rfl
theorem xB.get {α : Type} {x : Option α} {k : α → Prop} (h : xB x k) : ∃ a, x = some a ∧ k a := by
  cases x with
  | none => exact h.elim
  | some a => exact ⟨a, rfl, h⟩
def WG (P : Program) (nt : Nat) (ops : Array Oper) (o : Oper) (ans : Option (AV × List oA)) (nm : Nat) (fr : List (Nat × AV)) (hp : List (Nat × oA)) (k : SE → Prop) : Prop :=
  aG nt o = true ∧ match o.guard with
    | none => xB (bD P o ans nm [] (mB fr) (xA hp)) k
    | some (j, want) => match (ops[j]?).bind (·.dst) with
      | some d => d < nt ∧ match mB fr d with
        | .bool b => (b = want → xB (bD P o ans nm [d] (mB fr) (xA hp)) k) ∧ (b = !want → k (mM o [d]))
        | .tup _ => k (mM o [d])
        | _ => False
      | none => False
theorem WG.step {P : Program} {nt : Nat} {ops : Array Oper} {o : Oper} {ans : Option (AV × List oA)} {nm : Nat} {fr : List (Nat × AV)} {hp : List (Nat × oA)} {k : SE → Prop} (h : WG P nt ops o ans nm fr hp k) : ∃ se, qJ P nt ops o ans nm (mB fr) (xA hp) = some se ∧ k se := by
  obtain ⟨h1, h2⟩ := h
  unfold qJ
  rw [if_pos h1]
  split at h2
  · rename_i hg; simp only [hg]; exact h2.get
  · rename_i j want hg
    simp only [hg]
    split at h2
    · rename_i d hj
      simp only [hj]
      obtain ⟨h3, h4⟩ := h2
      rw [if_pos h3]
      split at h4
      · rename_i b hb
        simp only [hb]
        by_cases e : b = want
        · rw [if_pos e]; exact (h4.1 e).get
        · rw [if_neg e]
          exact ⟨_, rfl, h4.2 (by cases b <;> cases want <;> simp_all)⟩
      · rename_i vs hb
        simp only [hb]
        exact ⟨_, rfl, h4⟩
      · exact h4.elim
    · exact h2.elim
def nT (P : Program) (se : SE) : Prop := match se.ob with | some ob => bB P ob.f ob.args ob.r ob.blks | none => True
class Acc where
  l : List Oper
  ses : List SE
@[reducible] def Acc.add (a : Acc) (se : SE) : Acc := ⟨a.l, a.ses ++ [se]⟩
def WL0 (P : Program) (nt : Nat) (ops : Array Oper) (ans : Nat → Option (AV × List oA)) (nx : Nat) : List (Nat × Oper) → List (Nat × AV) → List (Nat × oA) → Acc → (List (Nat × AV) → List (Nat × oA) → Acc → Prop) → Prop
  | [], fr, hp, acc, k => k fr hp acc
  | (i, o) :: lB, fr, hp, acc, k => WG P nt ops o (ans i) (nx + 8 * i) fr hp fun se => nT P se ∧ WL0 P nt ops ans nx lB (pG fr se.d se.v) (rO hp se.wr) (acc.add se) k
def WL (P : Program) (nt : Nat) (ops : Array Oper) (ans : Nat → Option (AV × List oA)) (nx : Nat) (l : List (Nat × Oper)) (fr : List (Nat × AV)) (hp : List (Nat × oA)) [acc : Acc] (k : List (Nat × AV) → List (Nat × oA) → Acc → Prop) : Prop :=
  WL0 P nt ops ans nx l fr hp acc k
theorem WL0.run {P : Program} {nt : Nat} {ops : Array Oper} {ans : Nat → Option (AV × List oA)} {nx : Nat} {k : List (Nat × AV) → List (Nat × oA) → Acc → Prop} : ∀ (l : List (Nat × Oper)) (fr : List (Nat × AV)) (hp : List (Nat × oA)) (acc : Acc), WL0 P nt ops ans nx l fr hp acc k →
    ∃ fr' hp' ses, dI P nt ops ans nx l fr hp = some (fr', hp', ses) ∧ pK P ses ∧ k fr' hp' ⟨acc.l, acc.ses ++ ses⟩
  | [], fr, hp, acc, h => ⟨fr, hp, [], rfl, trivial, by simpa [WL0] using h⟩
  | (i, o) :: lB, fr, hp, acc, h => by
    obtain ⟨se, h1, h2, h3⟩ := WG.step h
    obtain ⟨fr', hp', ses, k1, k2, k3⟩ := WL0.run lB _ _ _ h3
    refine ⟨fr', hp', se :: ses, ?_, ⟨?_, k2⟩, by (have e : (acc.add se).ses ++ ses = acc.ses ++ se :: ses := by show (acc.ses ++ [se]) ++ ses = _; simp); rw [← e]; exact k3⟩
    · simp only [dI, h1, k1]
    · unfold nT at h2
      split at h2
      · rename_i ob e; rw [e]; exact h2
      · rename_i e; rw [e]; trivial
theorem WL.run {P : Program} {nt : Nat} {ops : Array Oper} {ans : Nat → Option (AV × List oA)} {nx : Nat} {k : List (Nat × AV) → List (Nat × oA) → Acc → Prop} (l : List (Nat × Oper)) (fr : List (Nat × AV)) (hp : List (Nat × oA)) (acc : Acc) (h : WL P nt ops ans nx l fr hp k) :
    ∃ fr' hp' ses, dI P nt ops ans nx l fr hp = some (fr', hp', ses) ∧ pK P ses ∧ k fr' hp' ⟨acc.l, acc.ses ++ ses⟩ := WL0.run l fr hp acc h
@[congr] theorem WL_congr {P : Program} {nt : Nat} {ops : Array Oper} {ans : Nat → Option (AV × List oA)} {nx nx' : Nat} {l : List (Nat × Oper)} {fr fr' : List (Nat × AV)} {hp hp' : List (Nat × oA)} [acc : Acc] {k : List (Nat × AV) → List (Nat × oA) → Acc → Prop}
    (h0 : nx = nx') (h1 : fr = fr') (h2 : hp = hp') : WL P nt ops ans nx l fr hp k = WL P nt ops ans nx' l fr' hp' k := by rw [h0, h1, h2]
@[congr] theorem WG_congr {P : Program} {nt : Nat} {ops : Array Oper} {o : Oper} {ans : Option (AV × List oA)} {nm nm' : Nat} {fr : List (Nat × AV)} {hp : List (Nat × oA)} {k : SE → Prop} (h : nm = nm') : WG P nt ops o ans nm fr hp k = WG P nt ops o ans nm' fr hp k := by rw [h]
theorem zki {P : Program} {nt : Nat} {ops : Array Oper} {ans : Nat → Option (AV × List oA)} {nx i : Nat} {o : Oper} {os : List Oper} {fr : List (Nat × AV)} {hp : List (Nat × oA)} [acc : Acc] {k : List (Nat × AV) → List (Nat × oA) → Acc → Prop} :
    WL P nt ops ans nx (dE i (o :: os)) fr hp k = WG P nt ops o (ans i) (Xa (nx + 8 * i)) fr hp fun se => nT P se ∧ @WL P nt ops ans (Xa nx) (dE (i + 1) os) (pG fr se.d se.v) (rO hp se.wr) (acc.add se) k := rfl
theorem WL_nil {P : Program} {nt : Nat} {ops : Array Oper} {ans : Nat → Option (AV × List oA)} {nx i : Nat} {fr : List (Nat × AV)} {hp : List (Nat × oA)} [acc : Acc] {k : List (Nat × AV) → List (Nat × oA) → Acc → Prop} :
    WL P nt ops ans nx (dE i []) fr hp k = k fr hp acc := rfl
theorem zjG {P : Program} {nt : Nat} {ops : Array Oper} {d : Option Tmp} {op : Op} {ty : TypeId} {pos : String} {after : Array Edge} {ans : Option (AV × List oA)} {nm : Nat} {fr : List (Nat × AV)} {hp : List (Nat × oA)} {k : SE → Prop} :
    WG P nt ops ⟨d, op, ty, pos, after, none⟩ ans nm fr hp k = (aG nt ⟨d, op, ty, pos, after, none⟩ = true ∧ xB (Xa (bD P ⟨d, op, ty, pos, after, none⟩ ans nm [] (mB fr) (xA hp))) k) := rfl
def WB (v : AV) (want : Bool) (x : Option SE) (sk : SE) (k : SE → Prop) : Prop := match v with
  | .bool b => (b = want → xB x k) ∧ (b = !want → k sk)
  | .tup _ => k sk
  | _ => False
@[congr] theorem WB_congr {v v' : AV} {want : Bool} {x : Option SE} {sk : SE} {k : SE → Prop} (h : v = v') : WB v want x sk k = WB v' want x sk k := by rw [h]
theorem zeK {x : Option SE} {sk : SE} {k : SE → Prop} : WB (.bool true) true x sk k = xB (Xa x) k := by simp [WB, Xa]
theorem zgh {x : Option SE} {sk : SE} {k : SE → Prop} : WB (.bool false) false x sk k = xB (Xa x) k := by simp [WB, Xa]
theorem WB_tf {x : Option SE} {sk : SE} {k : SE → Prop} : WB (.bool true) false x sk k = k sk := by simp [WB]
theorem WB_ft {x : Option SE} {sk : SE} {k : SE → Prop} : WB (.bool false) true x sk k = k sk := by simp [WB]
theorem WB_tup {vs : List AV} {want : Bool} {x : Option SE} {sk : SE} {k : SE → Prop} : WB (.tup vs) want x sk k = k sk := rfl
def zam (ops : Array Oper) (j : Nat) : Option Nat := (ops[j]?).bind (·.dst)
def WJ (nt : Nat) (fr : List (Nat × AV)) (d : Option Nat) (want : Bool) (x : Nat → Option SE) (sk : Nat → SE) (k : SE → Prop) : Prop := match d with
  | some d => d < nt ∧ WB (mB fr d) want (x d) (sk d) k
  | none => False
@[congr] theorem WJ_congr {nt : Nat} {fr : List (Nat × AV)} {d d' : Option Nat} {want : Bool} {x : Nat → Option SE} {sk : Nat → SE} {k : SE → Prop} (h : d = d') : WJ nt fr d want x sk k = WJ nt fr d' want x sk k := by rw [h]
theorem zf2 {nt : Nat} {fr : List (Nat × AV)} {d : Nat} {want : Bool} {x : Nat → Option SE} {sk : Nat → SE} {k : SE → Prop} : WJ nt fr (some d) want x sk k = (d < nt ∧ WB (Xa (mB fr d)) want (x d) (sk d) k) := rfl
theorem zeE {P : Program} {nt : Nat} {ops : Array Oper} {d : Option Tmp} {op : Op} {ty : TypeId} {pos : String} {after : Array Edge} {j : Nat} {want : Bool} {ans : Option (AV × List oA)} {nm : Nat} {fr : List (Nat × AV)} {hp : List (Nat × oA)} {k : SE → Prop} :
    WG P nt ops ⟨d, op, ty, pos, after, some (j, want)⟩ ans nm fr hp k = (aG nt ⟨d, op, ty, pos, after, some (j, want)⟩ = true ∧
      WJ nt fr (Xa (zam ops j)) want (fun g => bD P ⟨d, op, ty, pos, after, some (j, want)⟩ ans nm [g] (mB fr) (xA hp)) (fun g => mM ⟨d, op, ty, pos, after, some (j, want)⟩ [g]) k) := by
  simp only [WG, WJ, zam, Xa]
  cases (ops[j]?).bind (·.dst) with
  | none => rfl
  | some d1 => simp only [WB, Xa]
def uP [acc : Acc] : Prop := pI (nG acc.l []) acc.ses acc.l.length = true
section
variable {P : Program} {nt : Nat} {K : Exit → St → Prop} {s : St}
theorem awp_r {id : Nat} {l : List Oper} (L : List Nat) (ans : Nat → Option (AV × List oA)) {fr' : List (Nat × AV)} {hp' : List (Nat × oA)}
    (h1 : ∀ Kt : List (Nat × AV) → List (Nat × oA) → Prop, Kt fr' hp' → @WL P nt ⟨l⟩ ans (Xa s.nx) (dE 0 l) s.fr s.hp ⟨[], []⟩ fun fr hp _ => Kt (iE L fr) hp)
    (h2 : K .normal ⟨fr', hp', s.nx + 8 * l.length, s.lp⟩) : pA P nt (.region id (List.toArray l) false) K s := by
  obtain ⟨fr, hp, ses, q1, q2, q3, q4⟩ := WL.run _ _ _ _ (h1 (fun a b => a = fr' ∧ b = hp') ⟨rfl, rfl⟩)
  subst q4
  exact zfx (ops := List.toArray l) L q1 q2 (by rw [q3]; exact h2)
theorem awp_d {id : Nat} {l : List Oper} (L : List Nat) (ans : Nat → Option (AV × List oA)) {fr' : List (Nat × AV)} {hp' : List (Nat × oA)} (hmix : P.follows .mixedOrders = true) (hback : nJ 0 l = true)
    (h1 : ∀ Kt : List (Nat × AV) → List (Nat × oA) → Prop, Kt fr' hp' → @WL P nt ⟨l⟩ ans (Xa s.nx) (dE 0 l) s.fr s.hp ⟨l, []⟩ fun fr hp acc => @uP acc ∧ Kt (iE L fr) hp)
    (h2 : K .normal ⟨fr', hp', s.nx + 8 * l.length, s.lp⟩) : pA P nt (.region id (List.toArray l) true) K s := by
  obtain ⟨fr, hp, ses, q1, q2, q0, q3, q4⟩ := WL.run _ _ _ _ (h1 (fun a b => a = fr' ∧ b = hp') ⟨rfl, rfl⟩)
  subst q4
  exact zjY (ops := List.toArray l) L q1 q2 hmix hback (by simpa [uP] using q0) (by rw [q3]; exact h2)
theorem awp_if {c : Operand} {x y : Code} {b : Bool} (hc : vB (mB s.fr) c = .bool b) (h1 : b = true → pA P nt x K s) (h2 : b = false → pA P nt y K s) : pA P nt (.cond c x y) K s := by
  refine zaJ hc ?_
  cases b with
  | true => exact h1 rfl
  | false => exact h2 rfl
theorem zlw {id : Nat} {c z : Code} (h : pA P nt c (rK id (bM (pA P nt z K) K)) s) : pA P nt (.seq (.block id c) z) K s := kA (aC h)
end
end Go.AM
