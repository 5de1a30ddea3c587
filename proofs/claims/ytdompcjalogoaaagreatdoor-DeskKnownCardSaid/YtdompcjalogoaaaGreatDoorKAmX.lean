/- A text of the proof. -/
import Derived.Test.YtdompcjalogoaaaGreatDoorKAmW
set_option linter.unusedSimpArgs false
set_option linter.unusedVariables false
namespace Go.AM
open Go Go.RowKit
def Xa {α : Type} (a : α) : α := a
theorem Xa_eq {α : Type} (a : α) : Xa a = a := of_eq_true (eq_true rfl)
def Holds {α : Type} (x : Option α) (k : α → Prop) : Prop := match x with | some a => k a | none => False
theorem Holds_some {α : Type} (a : α) (k : α → Prop) : Holds (some a) k = k a := rfl
theorem Holds_none {α : Type} (k : α → Prop) : Holds none k = False := rfl
theorem Holds_if {α : Type} (c : Prop) [Decidable c] (x : Option α) (k : α → Prop) : Holds (if c then x else none) k = (c ∧ Holds (Xa x) k) := by
  by_cases h : c <;> simp [Holds, Xa, h]
@[congr] theorem Holds_congr {α : Type} {x y : Option α} {k : α → Prop} (h : x = y) : Holds x k = Holds y k := by rw [h]
theorem Holds_map {α β : Type} (f : α → β) (x : Option α) (k : β → Prop) : Holds (x.map f) k = Holds (Xa x) fun a => k (f a) := by cases x <;> rfl
theorem Holds.get {α : Type} {x : Option α} {k : α → Prop} (h : Holds x k) : ∃ a, x = some a ∧ k a := by
  cases x with
  | none => exact h.elim
  | some a => exact ⟨a, rfl, h⟩
def WG [Adr] (P : Program) (nt : Nat) (ops : Array Oper) (o : Oper) (ans : Option (AV × List ABlk)) (nm : Nat) (fr : List (Nat × AV)) (hp : List (Nat × ABlk)) (k : SE → Prop) : Prop :=
  dstOk nt o = true ∧ match o.guard with
    | none => Holds (runO false P o ans nm [] (frGet fr) (alg hp)) k
    | some (j, want) => match (ops[j]?).bind (·.dst) with
      | some d => d < nt ∧ match frGet fr d with
        | .bool b => (b = want → Holds (runO false P o ans nm [d] (frGet fr) (alg hp)) k) ∧ (b = !want → k (skipO o [d]))
        | .tup _ => k (skipO o [d])
        | _ => False
      | none => False
theorem WG.step [Adr] {P : Program} {nt : Nat} {ops : Array Oper} {o : Oper} {ans : Option (AV × List ABlk)} {nm : Nat} {fr : List (Nat × AV)} {hp : List (Nat × ABlk)} {k : SE → Prop} (h : WG P nt ops o ans nm fr hp k) : ∃ se, stepF false P nt ops o ans nm (frGet fr) (alg hp) = some se ∧ k se := by
  obtain ⟨h1, h2⟩ := h
  unfold stepF
  rw [if_pos h1]
  split at h2
  · rename_i hg; simp only [hg]; exact h2.get
  · rename_i j want hg
    simp only [hg]
    split at h2
    · rename_i d hj
      simp only [hj]
      obtain ⟨h3, h4⟩ := h2
      rw [if_pos h3]
      split at h4
      · rename_i b hb
        simp only [hb]
        by_cases e : b = want
        · rw [if_pos e]; exact (h4.1 e).get
        · rw [if_neg e]
          exact ⟨_, rfl, h4.2 (by cases b <;> cases want <;> simp_all)⟩
      · rename_i vs hb
        simp only [hb]
        exact ⟨_, rfl, h4⟩
      · exact h4.elim
    · exact h2.elim
def obOk [Adr] (P : Program) (se : SE) : Prop := match se.ob with | some ob => PCall P ob.f ob.args ob.r ob.blks | none => True
class Acc where
  l : List Oper
  ses : List SE
@[reducible] def Acc.add (a : Acc) (se : SE) : Acc := ⟨a.l, a.ses ++ [se]⟩
def WL0 [Adr] (P : Program) (nt : Nat) (ops : Array Oper) (ans : Nat → Option (AV × List ABlk)) (nx : Nat) : List (Nat × Oper) → List (Nat × AV) → List (Nat × ABlk) → Acc → (List (Nat × AV) → List (Nat × ABlk) → Acc → Prop) → Prop
  | [], fr, hp, acc, k => k fr hp acc
  | (i, o) :: rest, fr, hp, acc, k => WG P nt ops o (ans i) (nx + 8 * i) fr hp fun se => obOk P se ∧ WL0 P nt ops ans nx rest (frPut fr se.d se.v) (hsets hp se.wr) (acc.add se) k
def WL [Adr] (P : Program) (nt : Nat) (ops : Array Oper) (ans : Nat → Option (AV × List ABlk)) (nx : Nat) (l : List (Nat × Oper)) (fr : List (Nat × AV)) (hp : List (Nat × ABlk)) [acc : Acc] (k : List (Nat × AV) → List (Nat × ABlk) → Acc → Prop) : Prop :=
  WL0 P nt ops ans nx l fr hp acc k
theorem WL0.run [Adr] {P : Program} {nt : Nat} {ops : Array Oper} {ans : Nat → Option (AV × List ABlk)} {nx : Nat} {k : List (Nat × AV) → List (Nat × ABlk) → Acc → Prop} : ∀ (l : List (Nat × Oper)) (fr : List (Nat × AV)) (hp : List (Nat × ABlk)) (acc : Acc), WL0 P nt ops ans nx l fr hp acc k →
    ∃ fr' hp' ses, runL false P nt ops ans nx l fr hp = some (fr', hp', ses) ∧ oblsHold P ses ∧ k fr' hp' ⟨acc.l, acc.ses ++ ses⟩
  | [], fr, hp, acc, h => ⟨fr, hp, [], rfl, trivial, by simpa [WL0] using h⟩
  | (i, o) :: rest, fr, hp, acc, h => by
    obtain ⟨se, h1, h2, h3⟩ := WG.step h
    obtain ⟨fr', hp', ses, k1, k2, k3⟩ := WL0.run rest _ _ _ h3
    refine ⟨fr', hp', se :: ses, ?_, ⟨?_, k2⟩, by (have e : (acc.add se).ses ++ ses = acc.ses ++ se :: ses := by show (acc.ses ++ [se]) ++ ses = _; simp); rw [← e]; exact k3⟩
    · simp only [runL, h1, k1]
    · unfold obOk at h2
      split at h2
      · rename_i ob e; rw [e]; exact h2
      · rename_i e; rw [e]; trivial
theorem WL.run [Adr] {P : Program} {nt : Nat} {ops : Array Oper} {ans : Nat → Option (AV × List ABlk)} {nx : Nat} {k : List (Nat × AV) → List (Nat × ABlk) → Acc → Prop} (l : List (Nat × Oper)) (fr : List (Nat × AV)) (hp : List (Nat × ABlk)) (acc : Acc) (h : WL P nt ops ans nx l fr hp k) :
    ∃ fr' hp' ses, runL false P nt ops ans nx l fr hp = some (fr', hp', ses) ∧ oblsHold P ses ∧ k fr' hp' ⟨acc.l, acc.ses ++ ses⟩ := WL0.run l fr hp acc h
@[congr] theorem WL_congr [Adr] {P : Program} {nt : Nat} {ops : Array Oper} {ans : Nat → Option (AV × List ABlk)} {nx nx' : Nat} {l : List (Nat × Oper)} {fr fr' : List (Nat × AV)} {hp hp' : List (Nat × ABlk)} [acc : Acc] {k : List (Nat × AV) → List (Nat × ABlk) → Acc → Prop}
    (h0 : nx = nx') (h1 : fr = fr') (h2 : hp = hp') : WL P nt ops ans nx l fr hp k = WL P nt ops ans nx' l fr' hp' k := by rw [h0, h1, h2]
@[congr] theorem WG_congr [Adr] {P : Program} {nt : Nat} {ops : Array Oper} {o : Oper} {ans : Option (AV × List ABlk)} {nm nm' : Nat} {fr : List (Nat × AV)} {hp : List (Nat × ABlk)} {k : SE → Prop} (h : nm = nm') : WG P nt ops o ans nm fr hp k = WG P nt ops o ans nm' fr hp k := by rw [h]
theorem WL_cons [Adr] {P : Program} {nt : Nat} {ops : Array Oper} {ans : Nat → Option (AV × List ABlk)} {nx i : Nat} {o : Oper} {os : List Oper} {fr : List (Nat × AV)} {hp : List (Nat × ABlk)} [acc : Acc] {k : List (Nat × AV) → List (Nat × ABlk) → Acc → Prop} :
    WL P nt ops ans nx (numbered i (o :: os)) fr hp k = WG P nt ops o (ans i) (Xa (nx + 8 * i)) fr hp fun se => obOk P se ∧ @WL _ P nt ops ans (Xa nx) (numbered (i + 1) os) (frPut fr se.d se.v) (hsets hp se.wr) (acc.add se) k := rfl
theorem WL_nil [Adr] {P : Program} {nt : Nat} {ops : Array Oper} {ans : Nat → Option (AV × List ABlk)} {nx i : Nat} {fr : List (Nat × AV)} {hp : List (Nat × ABlk)} [acc : Acc] {k : List (Nat × AV) → List (Nat × ABlk) → Acc → Prop} :
    WL P nt ops ans nx (numbered i []) fr hp k = k fr hp acc := rfl
theorem WG_none [Adr] {P : Program} {nt : Nat} {ops : Array Oper} {d : Option Tmp} {op : Op} {ty : TypeId} {pos : String} {after : Array Edge} {ans : Option (AV × List ABlk)} {nm : Nat} {fr : List (Nat × AV)} {hp : List (Nat × ABlk)} {k : SE → Prop} :
    WG P nt ops ⟨d, op, ty, pos, after, none⟩ ans nm fr hp k = (dstOk nt ⟨d, op, ty, pos, after, none⟩ = true ∧ Holds (Xa (runO false P ⟨d, op, ty, pos, after, none⟩ ans nm [] (frGet fr) (alg hp))) k) := rfl
def WB (v : AV) (want : Bool) (x : Option SE) (sk : SE) (k : SE → Prop) : Prop := match v with
  | .bool b => (b = want → Holds x k) ∧ (b = !want → k sk)
  | .tup _ => k sk
  | _ => False
@[congr] theorem WB_congr {v v' : AV} {want : Bool} {x : Option SE} {sk : SE} {k : SE → Prop} (h : v = v') : WB v want x sk k = WB v' want x sk k := by rw [h]
theorem WB_true {x : Option SE} {sk : SE} {k : SE → Prop} : WB (.bool true) true x sk k = Holds (Xa x) k := by simp [WB, Xa]
theorem WB_false {x : Option SE} {sk : SE} {k : SE → Prop} : WB (.bool false) false x sk k = Holds (Xa x) k := by simp [WB, Xa]
theorem WB_tf {x : Option SE} {sk : SE} {k : SE → Prop} : WB (.bool true) false x sk k = k sk := by simp [WB]
theorem WB_ft {x : Option SE} {sk : SE} {k : SE → Prop} : WB (.bool false) true x sk k = k sk := by simp [WB]
theorem WB_tup {vs : List AV} {want : Bool} {x : Option SE} {sk : SE} {k : SE → Prop} : WB (.tup vs) want x sk k = k sk := rfl
def dstAt (ops : Array Oper) (j : Nat) : Option Nat := (ops[j]?).bind (·.dst)
def WJ (nt : Nat) (fr : List (Nat × AV)) (d : Option Nat) (want : Bool) (x : Nat → Option SE) (sk : Nat → SE) (k : SE → Prop) : Prop := match d with
  | some d => d < nt ∧ WB (frGet fr d) want (x d) (sk d) k
  | none => False
@[congr] theorem WJ_congr {nt : Nat} {fr : List (Nat × AV)} {d d' : Option Nat} {want : Bool} {x : Nat → Option SE} {sk : Nat → SE} {k : SE → Prop} (h : d = d') : WJ nt fr d want x sk k = WJ nt fr d' want x sk k := by rw [h]
theorem WJ_some {nt : Nat} {fr : List (Nat × AV)} {d : Nat} {want : Bool} {x : Nat → Option SE} {sk : Nat → SE} {k : SE → Prop} : WJ nt fr (some d) want x sk k = (d < nt ∧ WB (Xa (frGet fr d)) want (x d) (sk d) k) := rfl
theorem WG_some [Adr] {P : Program} {nt : Nat} {ops : Array Oper} {d : Option Tmp} {op : Op} {ty : TypeId} {pos : String} {after : Array Edge} {j : Nat} {want : Bool} {ans : Option (AV × List ABlk)} {nm : Nat} {fr : List (Nat × AV)} {hp : List (Nat × ABlk)} {k : SE → Prop} :
    WG P nt ops ⟨d, op, ty, pos, after, some (j, want)⟩ ans nm fr hp k = (dstOk nt ⟨d, op, ty, pos, after, some (j, want)⟩ = true ∧
      WJ nt fr (Xa (dstAt ops j)) want (fun g => runO false P ⟨d, op, ty, pos, after, some (j, want)⟩ ans nm [g] (frGet fr) (alg hp)) (fun g => skipO ⟨d, op, ty, pos, after, some (j, want)⟩ [g]) k) := by
  simp only [WG, WJ, dstAt, Xa]
  cases (ops[j]?).bind (·.dst) with
  | none => rfl
  | some d1 => simp only [WB, Xa]
section
variable {P : Program} {nt : Nat} {K : Exit → St → Prop} {s : St}
end
end Go.AM
