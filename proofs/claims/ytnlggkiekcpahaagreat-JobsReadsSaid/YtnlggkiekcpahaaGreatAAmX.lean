/- A text of the proof. -/
import Derived.Test.YtnlggkiekcpahaaGreatAAmW
set_option linter.unusedSimpArgs false
set_option linter.unusedVariables false
namespace Go.AM
open Go Go.RowKit
def Xa {α : Type} (a : α) : α:=a
theorem Xa_eq {α : Type} (a : α) : Xa a = a:=of_eq_true (eq_true rfl)
def bC {α : Type} (x : Option α) (k : α → Prop) : Prop:=match x with | some a=>k a | none=>False
theorem znd {α : Type} (a : α) (k : α → Prop) : bC (some a) k = k a:=rfl
theorem zgB {α : Type} (k : α → Prop) : bC none k = False:=rfl
theorem zjN {α : Type} (c : Prop) [Decidable c] (x : Option α) (k : α → Prop) : bC (if c then x else none) k = (c ∧ bC (Xa x) k):=by
  by_cases h : c <;> simp [bC,Xa,h]
@[congr] theorem zpM {α : Type} {x y : Option α} {k : α → Prop} (h : x = y) : bC x k = bC y k:=by rw [h]
theorem Holds_map {α β : Type} (f : α → β) (x : Option α) (k : β → Prop) : bC (x.map f) k = bC (Xa x) fun a=>k (f a):=by cases x <;> rfl
theorem bC.get {α : Type} {x : Option α} {k : α → Prop} (h : bC x k) : ∃ a,x = some a ∧ k a:=by
  cases x with
  | none=>exact h.elim
  | some a=>exact ⟨a,rfl,h⟩
def WG (P : Program) (nt : Nat) (ops : Array Oper) (o : Oper) (ans : Option (AV × List pA)) (nm : Nat) (fr : List (Nat × AV)) (hp : List (Nat × pA)) (k : SE → Prop) : Prop :=
  xG nt o = true ∧ match o.guard with
    | none=>bC (nD P o ans nm [] (qB fr) (wA hp)) k
    | some (j,want)=>match (ops[j]?).bind (·.dst) with
      | some d=>d < nt ∧ match qB fr d with
        | .bool b=>(b = want → bC (nD P o ans nm [d] (qB fr) (wA hp)) k) ∧ (b = !want → k (kP o [d]))
        | .tup _=>k (kP o [d])
        | _=>False
      | none=>False
theorem WG.step {P : Program} {nt : Nat} {ops : Array Oper} {o : Oper} {ans : Option (AV × List pA)} {nm : Nat} {fr : List (Nat × AV)} {hp : List (Nat × pA)} {k : SE → Prop} (h : WG P nt ops o ans nm fr hp k) : ∃ se,yK P nt ops o ans nm (qB fr) (wA hp) = some se ∧ k se:=by
  obtain ⟨h1,h2⟩:=h
  unfold yK
  rw [if_pos h1]
  split at h2
  · rename_i hg; simp only [hg]; exact h2.get
  · rename_i j want hg
    simp only [hg]
    split at h2
    · rename_i d hj
      simp only [hj]
      obtain ⟨h3,h4⟩:=h2
      rw [if_pos h3]
      split at h4
      · rename_i b hb
        simp only [hb]
        by_cases e : b = want
        · rw [if_pos e]; exact (h4.1 e).get
        · rw [if_neg e]
          exact ⟨_,rfl,h4.2 (by cases b <;> cases want <;> simp_all)⟩
      · rename_i vs hb
        simp only [hb]
        exact ⟨_,rfl,h4⟩
      · exact h4.elim
    · exact h2.elim
def sW (P : Program) (se : SE) : Prop:=match se.ob with | some ob=>yA P ob.f ob.args ob.r ob.blks | none=>True
class Acc where
  l : List Oper
  ses : List SE
@[reducible] def Acc.add (a : Acc) (se : SE) : Acc:=⟨a.l,a.ses++[se]⟩
def WL0 (P : Program) (nt : Nat) (ops : Array Oper) (ans : Nat → Option (AV × List pA)) (nx : Nat) : List (Nat × Oper) → List (Nat × AV) → List (Nat × pA) → Acc → (List (Nat × AV) → List (Nat × pA) → Acc → Prop) → Prop
  | [],fr,hp,acc,k=>k fr hp acc
  | (i,o)::jB,fr,hp,acc,k=>WG P nt ops o (ans i) (nx + 8 * i) fr hp fun se=>sW P se ∧ WL0 P nt ops ans nx jB (jH fr se.d se.v) (vR hp se.wr) (acc.add se) k
def WL (P : Program) (nt : Nat) (ops : Array Oper) (ans : Nat → Option (AV × List pA)) (nx : Nat) (l : List (Nat × Oper)) (fr : List (Nat × AV)) (hp : List (Nat × pA)) [acc : Acc] (k : List (Nat × AV) → List (Nat × pA) → Acc → Prop) : Prop :=
  WL0 P nt ops ans nx l fr hp acc k
theorem WL0.run {P : Program} {nt : Nat} {ops : Array Oper} {ans : Nat → Option (AV × List pA)} {nx : Nat} {k : List (Nat × AV) → List (Nat × pA) → Acc → Prop} : ∀ (l : List (Nat × Oper)) (fr : List (Nat × AV)) (hp : List (Nat × pA)) (acc : Acc), WL0 P nt ops ans nx l fr hp acc k →
    ∃ fr' hp' ses,lJ P nt ops ans nx l fr hp = some (fr',hp',ses) ∧ fM P ses ∧ k fr' hp' ⟨acc.l,acc.ses++ses⟩
  | [],fr,hp,acc,h=>⟨fr,hp,[],rfl,trivial,by simpa [WL0] using h⟩
  | (i,o)::jB,fr,hp,acc,h=>by
    obtain ⟨se,h1,h2,h3⟩:=WG.step h
    obtain ⟨fr',hp',ses,k1,k2,k3⟩:=WL0.run jB _ _ _ h3
    refine ⟨fr',hp',se::ses,?_,⟨?_,k2⟩,by (have e : (acc.add se).ses++ses = acc.ses++se::ses:=by show (acc.ses++[se])++ses = _; simp); rw [← e]; exact k3⟩
    · simp only [lJ,h1,k1]
    · unfold sW at h2
      split at h2
      · rename_i ob e; rw [e]; exact h2
      · rename_i e; rw [e]; trivial
theorem WL.run {P : Program} {nt : Nat} {ops : Array Oper} {ans : Nat → Option (AV × List pA)} {nx : Nat} {k : List (Nat × AV) → List (Nat × pA) → Acc → Prop} (l : List (Nat × Oper)) (fr : List (Nat × AV)) (hp : List (Nat × pA)) (acc : Acc) (h : WL P nt ops ans nx l fr hp k) :
    ∃ fr' hp' ses,lJ P nt ops ans nx l fr hp = some (fr',hp',ses) ∧ fM P ses ∧ k fr' hp' ⟨acc.l,acc.ses++ses⟩:=WL0.run l fr hp acc h
@[congr] theorem WL_congr {P : Program} {nt : Nat} {ops : Array Oper} {ans : Nat → Option (AV × List pA)} {nx nx' : Nat} {l : List (Nat × Oper)} {fr fr' : List (Nat × AV)} {hp hp' : List (Nat × pA)} [acc : Acc] {k : List (Nat × AV) → List (Nat × pA) → Acc → Prop}
    (h0 : nx = nx') (h1 : fr = fr') (h2 : hp = hp') : WL P nt ops ans nx l fr hp k = WL P nt ops ans nx' l fr' hp' k:=by rw [h0,h1,h2]
@[congr] theorem WG_congr {P : Program} {nt : Nat} {ops : Array Oper} {o : Oper} {ans : Option (AV × List pA)} {nm nm' : Nat} {fr : List (Nat × AV)} {hp : List (Nat × pA)} {k : SE → Prop} (h : nm = nm') : WG P nt ops o ans nm fr hp k = WG P nt ops o ans nm' fr hp k:=by rw [h]
theorem zg4 {P : Program} {nt : Nat} {ops : Array Oper} {ans : Nat → Option (AV × List pA)} {nx i : Nat} {o : Oper} {os : List Oper} {fr : List (Nat × AV)} {hp : List (Nat × pA)} [acc : Acc] {k : List (Nat × AV) → List (Nat × pA) → Acc → Prop} :
    WL P nt ops ans nx (pE i (o::os)) fr hp k = WG P nt ops o (ans i) (Xa (nx + 8 * i)) fr hp fun se=>sW P se ∧ @WL P nt ops ans (Xa nx) (pE (i + 1) os) (jH fr se.d se.v) (vR hp se.wr) (acc.add se) k:=rfl
theorem WL_nil {P : Program} {nt : Nat} {ops : Array Oper} {ans : Nat → Option (AV × List pA)} {nx i : Nat} {fr : List (Nat × AV)} {hp : List (Nat × pA)} [acc : Acc] {k : List (Nat × AV) → List (Nat × pA) → Acc → Prop} :
    WL P nt ops ans nx (pE i []) fr hp k = k fr hp acc:=rfl
theorem zkJ {P : Program} {nt : Nat} {ops : Array Oper} {d : Option Tmp} {op : Op} {ty : TypeId} {pos : String} {after : Array Edge} {ans : Option (AV × List pA)} {nm : Nat} {fr : List (Nat × AV)} {hp : List (Nat × pA)} {k : SE → Prop} :
    WG P nt ops ⟨d,op,ty,pos,after,none⟩ ans nm fr hp k = (xG nt ⟨d,op,ty,pos,after,none⟩ = true ∧ bC (Xa (nD P ⟨d,op,ty,pos,after,none⟩ ans nm [] (qB fr) (wA hp))) k):=rfl
def WB (v : AV) (want : Bool) (x : Option SE) (sk : SE) (k : SE → Prop) : Prop:=match v with
  | .bool b=>(b = want → bC x k) ∧ (b = !want → k sk)
  | .tup _=>k sk
  | _=>False
@[congr] theorem WB_congr {v v' : AV} {want : Bool} {x : Option SE} {sk : SE} {k : SE → Prop} (h : v = v') : WB v want x sk k = WB v' want x sk k:=by rw [h]
theorem ziC {x : Option SE} {sk : SE} {k : SE → Prop} : WB (.bool true) true x sk k = bC (Xa x) k:=by simp [WB,Xa]
theorem zmt {x : Option SE} {sk : SE} {k : SE → Prop} : WB (.bool false) false x sk k = bC (Xa x) k:=by simp [WB,Xa]
theorem WB_tf {x : Option SE} {sk : SE} {k : SE → Prop} : WB (.bool true) false x sk k = k sk:=by simp [WB]
theorem WB_ft {x : Option SE} {sk : SE} {k : SE → Prop} : WB (.bool false) true x sk k = k sk:=by simp [WB]
theorem WB_tup {vs : List AV} {want : Bool} {x : Option SE} {sk : SE} {k : SE → Prop} : WB (.tup vs) want x sk k = k sk:=rfl
def zba (ops : Array Oper) (j : Nat) : Option Nat:=(ops[j]?).bind (·.dst)
def WJ (nt : Nat) (fr : List (Nat × AV)) (d : Option Nat) (want : Bool) (x : Nat → Option SE) (sk : Nat → SE) (k : SE → Prop) : Prop:=match d with
  | some d=>d < nt ∧ WB (qB fr d) want (x d) (sk d) k
  | none=>False
@[congr] theorem WJ_congr {nt : Nat} {fr : List (Nat × AV)} {d d' : Option Nat} {want : Bool} {x : Nat → Option SE} {sk : Nat → SE} {k : SE → Prop} (h : d = d') : WJ nt fr d want x sk k = WJ nt fr d' want x sk k:=by rw [h]
theorem zh4 {nt : Nat} {fr : List (Nat × AV)} {d : Nat} {want : Bool} {x : Nat → Option SE} {sk : Nat → SE} {k : SE → Prop} : WJ nt fr (some d) want x sk k = (d < nt ∧ WB (Xa (qB fr d)) want (x d) (sk d) k):=rfl
theorem ziS {P : Program} {nt : Nat} {ops : Array Oper} {d : Option Tmp} {op : Op} {ty : TypeId} {pos : String} {after : Array Edge} {j : Nat} {want : Bool} {ans : Option (AV × List pA)} {nm : Nat} {fr : List (Nat × AV)} {hp : List (Nat × pA)} {k : SE → Prop} :
    WG P nt ops ⟨d,op,ty,pos,after,some (j,want)⟩ ans nm fr hp k = (xG nt ⟨d,op,ty,pos,after,some (j,want)⟩ = true ∧
      WJ nt fr (Xa (zba ops j)) want (fun g=>nD P ⟨d,op,ty,pos,after,some (j,want)⟩ ans nm [g] (qB fr) (wA hp)) (fun g=>kP ⟨d,op,ty,pos,after,some (j,want)⟩ [g]) k):=by
  simp only [WG,WJ,zba,Xa]
  cases (ops[j]?).bind (·.dst) with
  | none=>rfl
  | some d1=>simp only [WB,Xa]
def sS [acc : Acc] : Prop:=mH (gH acc.l []) acc.ses acc.l.length = true
section
variable {P : Program} {nt : Nat} {K : Exit → St → Prop} {s : St}
theorem awp_r {id : Nat} {l : List Oper} (L : List Nat) (ans : Nat → Option (AV × List pA)) {fr' : List (Nat × AV)} {hp' : List (Nat × pA)}
    (h1 : ∀ Kt : List (Nat × AV) → List (Nat × pA) → Prop,Kt fr' hp' → @WL P nt ⟨l⟩ ans (Xa s.nx) (pE 0 l) s.fr s.hp ⟨[],[]⟩ fun fr hp _=>Kt (sE L fr) hp)
    (h2 : K .normal ⟨fr',hp',s.nx + 8 * l.length,s.lp⟩) : wB P nt (.region id (List.toArray l) false) K s:=by
  obtain ⟨fr,hp,ses,q1,q2,q3,q4⟩:=WL.run _ _ _ _ (h1 (fun a b=>a = fr' ∧ b = hp') ⟨rfl,rfl⟩)
  subst q4
  exact zoi (ops:=List.toArray l) L q1 q2 (by rw [q3]; exact h2)
theorem awp_d {id : Nat} {l : List Oper} (L : List Nat) (ans : Nat → Option (AV × List pA)) {fr' : List (Nat × AV)} {hp' : List (Nat × pA)} (hmix : P.follows .mixedOrders = true) (hback : vK 0 l = true)
    (h1 : ∀ Kt : List (Nat × AV) → List (Nat × pA) → Prop,Kt fr' hp' → @WL P nt ⟨l⟩ ans (Xa s.nx) (pE 0 l) s.fr s.hp ⟨l,[]⟩ fun fr hp acc=>@sS acc ∧ Kt (sE L fr) hp)
    (h2 : K .normal ⟨fr',hp',s.nx + 8 * l.length,s.lp⟩) : wB P nt (.region id (List.toArray l) true) K s:=by
  obtain ⟨fr,hp,ses,q1,q2,q0,q3,q4⟩:=WL.run _ _ _ _ (h1 (fun a b=>a = fr' ∧ b = hp') ⟨rfl,rfl⟩)
  subst q4
  exact zmM (ops:=List.toArray l) L q1 q2 hmix hback (by simpa [sS] using q0) (by rw [q3]; exact h2)
theorem awp_if {c : Operand} {x y : Code} {b : Bool} (hc : yB (qB s.fr) c = .bool b) (h1 : b = true → wB P nt x K s) (h2 : b = false → wB P nt y K s) : wB P nt (.cond c x y) K s:=by
  refine zbO hc ?_
  cases b with
  | true=>exact h1 rfl
  | false=>exact h2 rfl
theorem zl1 {id : Nat} {c z : Code} (h : wB P nt c (pM id (tN (wB P nt z K) K)) s) : wB P nt (.seq (.block id c) z) K s:=iA (vB h)
end
end Go.AM
