/- A text of the proof. -/
import Derived.Test.YtdompcjalogoaaaGreatDoorKAmT
set_option linter.unusedSimpArgs false
set_option linter.unusedVariables false
namespace Go.AM
open Go Go.RowKit
variable {ε : Bool}
def AWPO [Adr] (P : Program) (nt : Nat) (ops : Array Oper) (l : List Nat) (K : Exit → St → Prop) (s : St) : Prop :=
  ∀ (x : Cx) (w0 w : World) (F : Nat → Prop) (φ : Emb) (a : Act), Fits x w0 w F φ nt a s → ∀ (Q : Exit → Act → World → Prop),
    (∀ e a' w' s' φ' F', Fits x w0 w' F' φ' nt a' s' → GrowW w0 w F φ w' F' φ' → K e s' → Q e a' w') → wpOpsIn (fen x.r) 0 P ops Q l a w
def wants (nt : Nat) (ops : Array Oper) (o : Oper) (τ : Nat → AV) : Bool :=
  match o.guard with
  | none => true
  | some (j, want) => match (ops[j]?).bind (·.dst) with
    | some d => decide (d < nt) && (match τ d with | .bool b => b == want | _ => false)
    | none => false
section
variable {P : Program} {nt : Nat} {K : Exit → St → Prop} {s : St} {ops : Array Oper}
theorem awp_ops [Adr] {id : Nat} (h : AWPO P nt ops (List.range ops.size) K s) : AWP P nt (.region id ops false) K s := by
  intro x w0 w F φ a hf
  exact wpIn_region (h x w0 w F φ a hf _ fun e a' w' s' φ' F' h1 h2 h3 => ⟨s', φ', F', h1, h2, h3⟩)
theorem awpo_nil [Adr] (h : K .normal s) : AWPO P nt ops [] K s := fun _ _ _ F φ _ hf _ hQ => hQ _ _ _ s φ F hf (GrowW.refl _ _ _ _) h
theorem awpo_op [Adr] {i : Nat} {o : Oper} {rest : List Nat} {ans : Option (AV × List ABlk)} {se : SE} (hi : ops[i]? = some o) (hs : stepF ε P nt ops o ans s.nx (frGet s.fr) (alg s.hp) = some se) (hob : oblsHold P [se])
    (h : AWPO P nt ops rest K ⟨frPut s.fr se.d se.v, hsets s.hp se.wr, s.nx + 8, s.lp⟩) : AWPO P nt ops (i :: rest) K s := by
  intro x w0 w F φ a hf Q hQ
  rw [wpOpsIn_cons]
  refine stepF_ok (U' := fun b => b < s.nx + 8) hf.mem.heap hf.tmps rfl hi hs (fun ob e => hob.get se (by simp) ob e) (fun m hm => by omega) (fun b hb => by omega) (fun m hm => by omega) x.r 0 ?_
  intro a' w' φ' F' h1 h2 h3 g
  refine h x w0 w' F' φ' a' ⟨hf.mem.step g (by rw [alg_hsets]; exact h1) rfl (by simp), by rw [frGet_put]; exact h2, hf.env.mono g.weak h3⟩ Q fun e a2 w2 s2 φ2 F2 k1 k2 k3 => hQ e a2 w2 s2 φ2 F2 k1 (g.weak.trans k2) k3
theorem wanted_of [Adr] {x : Cx} {w0 w : World} {F : Nat → Prop} {φ : Emb} {a : Act} (hf : Fits x w0 w F φ nt a s) {o : Oper} (h : wants nt ops o (frGet s.fr) = true) : Region.wanted o (yielded ops a.tmps) = true := by
  unfold wants at h
  split at h
  · rename_i hg; simp [Region.wanted, hg]
  · rename_i j want hg
    split at h
    · rename_i d hj
      simp only [Bool.and_eq_true, decide_eq_true_eq] at h
      obtain ⟨hdn, h⟩ := h
      split at h
      · rename_i b hb
        have hv := hf.tmps.val d
        rw [hb] at hv
        simp only [VRel] at hv
        have hy : yielded ops a.tmps j = some b := by
          unfold yielded
          rw [hj]
          simp only [Option.bind_some]
          have : a.tmps[d]? = some (.bool b) := by
            rw [Array.getElem?_eq_getElem (by rw [hf.tmps.size]; exact hdn)]
            rw [Array.getD_eq_getD_getElem?, Array.getElem?_eq_getElem (by rw [hf.tmps.size]; exact hdn)] at hv
            simpa using hv
          rw [this]
        simp only [Region.wanted, hg, hy]
        simpa using h
      · cases h
    · cases h
theorem ds_lt {o : Oper} (h : dstOk nt o = true) : ∀ t, o.dst = some t → t < nt := by
  intro t e; unfold dstOk at h; rw [e] at h; simpa using h
theorem put_defers (a : Act) (d : Option Nat) (v : Value) : (a.put d v).defers = a.defers := by cases d <;> rfl
end
end Go.AM
