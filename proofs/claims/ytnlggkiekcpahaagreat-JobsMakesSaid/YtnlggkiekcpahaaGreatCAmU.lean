/- A text of the proof. -/
import Derived.Test.YtnlggkiekcpahaaGreatCAmT
set_option linter.unusedSimpArgs false
set_option linter.unusedVariables false
namespace Go.AM
open Go Go.RowKit
def yD (P : Program) (nt : Nat) (ops : Array Oper) (l : List Nat) (K : Exit → St → Prop) (s : St) : Prop :=
  ∀ (x : Cx) (w0 w : World) (F : Nat → Prop) (φ : iA) (a : Act), jE x w0 w F φ nt a s → ∀ (Q : Exit → Act → World → Prop),
    (∀ e a' w' s' φ' F', jE x w0 w' F' φ' nt a' s' → uC w0 w F φ w' F' φ' → K e s' → Q e a' w') → wpOpsIn (lD x.r) 0 P ops Q l a w
def uL (nt : Nat) (ops : Array Oper) (o : Oper) (τ : Nat → AV) : Bool :=
  match o.guard with
  | none => true
  | some (j, want) => match (ops[j]?).bind (·.dst) with
    | some d => decide (d < nt) && (match τ d with | .bool b => b == want | _ => false)
    | none => false
section
variable {P : Program} {nt : Nat} {K : Exit → St → Prop} {s : St} {ops : Array Oper}
theorem zhj {id : Nat} (h : yD P nt ops (List.range ops.size) K s) : pA P nt (.region id ops false) K s := by
  intro x w0 w F φ a hf
  exact wpIn_region (h x w0 w F φ a hf _ fun e a' w' s' φ' F' h1 h2 h3 => ⟨s', φ', F', h1, h2, h3⟩)
theorem zC (h : K .normal s) : yD P nt ops [] K s := fun _ _ _ F φ _ hf _ hQ => hQ _ _ _ s φ F hf (uC.refl _ _ _ _) h
theorem zjz {i : Nat} {o : Oper} {lB : List Nat} {ans : Option (AV × List oA)} {se : SE} (hi : ops[i]? = some o) (hs : qJ P nt ops o ans s.nx (mB s.fr) (xA s.hp) = some se) (hob : pK P [se])
    (h : yD P nt ops lB K ⟨pG s.fr se.d se.v, rO s.hp se.wr, s.nx + 8, s.lp⟩) : yD P nt ops (i :: lB) K s := by
  intro x w0 w F φ a hf Q hQ
  rw [wpOpsIn_cons]
  refine zbU (U' := fun b => b < s.nx + 8) hf.mem.heap hf.tmps rfl hi hs (fun ob e => hob.get se (by simp) ob e) (fun m hm => by omega) (fun b hb => by omega) (fun m hm => by omega) x.r 0 ?_
  intro a' w' φ' F' h1 h2 h3 g
  refine h x w0 w' F' φ' a' ⟨hf.mem.step g (by rw [xZ]; exact h1) rfl (by simp), by rw [qM]; exact h2, hf.env.mono g.weak h3⟩ Q fun e a2 w2 s2 φ2 F2 k1 k2 k3 => hQ e a2 w2 s2 φ2 F2 k1 (g.weak.trans k2) k3
theorem wR {x : Cx} {w0 w : World} {F : Nat → Prop} {φ : iA} {a : Act} (hf : jE x w0 w F φ nt a s) {o : Oper} (h : uL nt ops o (mB s.fr) = true) : Region.wanted o (yielded ops a.tmps) = true := by
  unfold uL at h
  split at h
  · rename_i hg; simp [Region.wanted, hg]
  · rename_i j want hg
    split at h
    · rename_i d hj
      simp only [Bool.and_eq_true, decide_eq_true_eq] at h
      obtain ⟨hdn, h⟩ := h
      split at h
      · rename_i b hb
        have hv := hf.tmps.val d
        rw [hb] at hv
        simp only [fA] at hv
        have hy : yielded ops a.tmps j = some b := by
          unfold yielded
          rw [hj]
          simp only [Option.bind_some]
          have : a.tmps[d]? = some (.bool b) := by
            rw [Array.getElem?_eq_getElem (by rw [hf.tmps.size]; exact hdn)]
            rw [Array.getD_eq_getD_getElem?, Array.getElem?_eq_getElem (by rw [hf.tmps.size]; exact hdn)] at hv
            simpa using hv
          rw [this]
        simp only [Region.wanted, hg, hy]
        simpa using h
      · cases h
    · cases h
theorem dT {o : Oper} (h : aG nt o = true) : ∀ t, o.dst = some t → t < nt := by
  intro t e; unfold aG at h; rw [e] at h; simpa using h
theorem nR (a : Act) (d : Option Nat) (v : Value) : (a.put d v).defers = a.defers := by cases d <;> rfl
theorem ziJ {i : Nat} {o : Oper} {lB : List Nat} {f : Operand} {args : List Operand} {fid : FuncId} {first cap : List AV} (hi : ops[i]? = some o) (hc : oK o.op = some (f, args)) (hw : uL nt ops o (mB s.fr) = true) (hd : aG nt o = true)
    (hfv : vB (mB s.fr) f = .fn fid first cap) (h : EWP P fid (first ++ args.map (vB (mB s.fr)) ++ cap) (fun r s' => yD P nt ops lB K ⟨pG s.fr o.dst r, s'.hp, s'.nx, s'.lp⟩) s) : yD P nt ops (i :: lB) K s := by
  intro x w0 w F φ a hf Q hQ
  rw [wpOpsIn_cons]
  unfold wpOpIn
  simp only [hi]
  rw [if_pos (wR hf hw)]
  refine ⟨fun _ _ => trivial, ?_⟩
  unfold oK at hc
  split at hc
  · rename_i c hop
    split at hc
    · rename_i f' hcal
      simp only [Option.some.injEq, Prod.mk.injEq] at hc
      obtain ⟨rfl, rfl⟩ := hc
      have hargs := nO (cG hf.tmps) c.args.toList
      have hv := cG hf.tmps f'
      rw [hfv] at hv
      simp only [fA] at hv
      obtain ⟨fs, cs, hvf, h1, h2⟩ := hv
      obtain ⟨hent, hcalls⟩ := h
      rw [show (lD x.r).round = x.r from rfl, Oper.semAt_eq x.r _ _ (by rw [hop]; intro c; simp)]
      have hrun : (execOp a.eval o).run P w = .ok (.enter fid ⟨fs ++ c.args.toList.map a.eval ++ cs⟩) w := by
        unfold execOp
        simp only [hop, Sem.run_bind, resolve, hcal, hvf, Deferred.ofValue, Sem.run_pure, Result.andThen_ok, invoke]
        rw [hent]
        congr 2
        apply Array.ext'
        simp
      rw [hrun, Oper.uponIn_enter]
      refine ⟨fun h => by simp [lD, Fence.wide] at h, (oX (hcalls w0 w F φ _ hf.mem ((h1.append hargs).append h2)) x.r _).mono ?_⟩
      rintro en w' ⟨v, r, s', φ', F', rfl, k1, k2, k3, k4⟩
      refine k4 x w0 w' F' φ' _ ⟨⟨k1.heap, k1.lps, k1.lused, k1.linj⟩, ?_, hf.env.mono k2 (nR _ _ _)⟩ Q fun e a2 w2 s2 φ2 F2 g1 g2 g3 => hQ e a2 w2 s2 φ2 F2 g1 (k2.trans g2) g3
      rw [qM]
      exact (hf.tmps.monoW k2).put (dT hd) k3
    · cases hc
  · cases hc
end
end Go.AM
