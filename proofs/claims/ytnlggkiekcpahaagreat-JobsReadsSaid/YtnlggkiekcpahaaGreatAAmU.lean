/- A text of the proof. -/
import Derived.Test.YtnlggkiekcpahaaGreatAAmT
set_option linter.unusedSimpArgs false
set_option linter.unusedVariables false
namespace Go.AM
open Go Go.RowKit
def lE (P : Program) (nt : Nat) (ops : Array Oper) (l : List Nat) (K : Exit → St → Prop) (s : St) : Prop :=
  ∀ (x : Cx) (w0 w : World) (F : Nat → Prop) (φ : kA) (a : Act),tE x w0 w F φ nt a s → ∀ (Q : Exit → Act → World → Prop),
    (∀ e a' w' s' φ' F',tE x w0 w' F' φ' nt a' s' → fD w0 w F φ w' F' φ' → K e s' → Q e a' w') → wpOpsIn (aE x.r) 0 P ops Q l a w
def kN (nt : Nat) (ops : Array Oper) (o : Oper) (τ : Nat → AV) : Bool :=
  match o.guard with
  | none=>true
  | some (j,want)=>match (ops[j]?).bind (·.dst) with
    | some d=>decide (d < nt) && (match τ d with | .bool b=>b == want | _=>false)
    | none=>false
section
variable {P : Program} {nt : Nat} {K : Exit → St → Prop} {s : St} {ops : Array Oper}
theorem zgK {id : Nat} (h : lE P nt ops (List.range ops.size) K s) : wB P nt (.region id ops false) K s:=by
  intro x w0 w F φ a hf
  exact wpIn_region (h x w0 w F φ a hf _ fun e a' w' s' φ' F' h1 h2 h3=>⟨s',φ',F',h1,h2,h3⟩)
theorem mD (h : K .normal s) : lE P nt ops [] K s:=fun _ _ _ F φ _ hf _ hQ=>hQ _ _ _ s φ F hf (fD.refl _ _ _ _) h
theorem zhw {i : Nat} {o : Oper} {jB : List Nat} {ans : Option (AV × List pA)} {se : SE} (hi : ops[i]? = some o) (hs : yK P nt ops o ans s.nx (qB s.fr) (wA s.hp) = some se) (hob : fM P [se])
    (h : lE P nt ops jB K ⟨jH s.fr se.d se.v,vR s.hp se.wr,s.nx + 8,s.lp⟩) : lE P nt ops (i::jB) K s:=by
  intro x w0 w F φ a hf Q hQ
  rw [wpOpsIn_cons]
  refine zc9 (U':=fun b=>b < s.nx + 8) hf.mem.heap hf.tmps rfl hi hs (fun ob e=>hob.get se (by simp) ob e) (fun m hm=>by omega) (fun b hb=>by omega) (fun m hm=>by omega) x.r 0 ?_
  intro a' w' φ' F' h1 h2 h3 g
  refine h x w0 w' F' φ' a' ⟨hf.mem.step g (by rw [zax]; exact h1) rfl (by simp),by rw [lP]; exact h2,hf.env.mono g.weak h3⟩ Q fun e a2 w2 s2 φ2 F2 k1 k2 k3=>hQ e a2 w2 s2 φ2 F2 k1 (g.weak.trans k2) k3
theorem oU {x : Cx} {w0 w : World} {F : Nat → Prop} {φ : kA} {a : Act} (hf : tE x w0 w F φ nt a s) {o : Oper} (h : kN nt ops o (qB s.fr) = true) : Region.wanted o (yielded ops a.tmps) = true:=by
  unfold kN at h
  split at h
  · rename_i hg; simp [Region.wanted,hg]
  · rename_i j want hg
    split at h
    · rename_i d hj
      simp only [Bool.and_eq_true,decide_eq_true_eq] at h
      obtain ⟨hdn,h⟩:=h
      split at h
      · rename_i b hb
        have hv:=hf.tmps.val d
        rw [hb] at hv
        simp only [fA] at hv
        have hy : yielded ops a.tmps j = some b:=by
          unfold yielded
          rw [hj]
          simp only [Option.bind_some]
          have : a.tmps[d]? = some (.bool b):=by
            rw [Array.getElem?_eq_getElem (by rw [hf.tmps.size]; exact hdn)]
            rw [Array.getD_eq_getD_getElem?,Array.getElem?_eq_getElem (by rw [hf.tmps.size]; exact hdn)] at hv
            simpa using hv
          rw [this]
        simp only [Region.wanted,hg,hy]
        simpa using h
      · cases h
    · cases h
theorem fW {o : Oper} (h : xG nt o = true) : ∀ t,o.dst = some t → t < nt:=by
  intro t e; unfold xG at h; rw [e] at h; simpa using h
theorem oV (a : Act) (d : Option Nat) (v : Value) : (a.put d v).defers = a.defers:=by cases d <;> rfl
theorem zfU {i : Nat} {o : Oper} {jB : List Nat} {f : Operand} {args : List Operand} {fid : FuncId} {first cap : List AV} (hi : ops[i]? = some o) (hc : mM o.op = some (f, args)) (hw : kN nt ops o (qB s.fr) = true) (hd : xG nt o = true)
    (hfv : yB (qB s.fr) f = .fn fid first cap) (h : EWP P fid (first++args.map (yB (qB s.fr))++cap) (fun r s'=>lE P nt ops jB K ⟨jH s.fr o.dst r,s'.hp,s'.nx,s'.lp⟩) s) : lE P nt ops (i::jB) K s:=by
  intro x w0 w F φ a hf Q hQ
  rw [wpOpsIn_cons]
  unfold wpOpIn
  simp only [hi]
  rw [if_pos (oU hf hw)]
  refine ⟨fun _ _=>trivial,?_⟩
  unfold mM at hc
  split at hc
  · rename_i c hop
    split at hc
    · rename_i f' hcal
      simp only [Option.some.injEq,Prod.mk.injEq] at hc
      obtain ⟨rfl,rfl⟩:=hc
      have hargs:=nR (vG hf.tmps) c.args.toList
      have hv:=vG hf.tmps f'
      rw [hfv] at hv
      simp only [fA] at hv
      obtain ⟨fs,cs,hvf,h1,h2⟩:=hv
      obtain ⟨hent,hcalls⟩:=h
      rw [show (aE x.r).round = x.r from rfl,Oper.semAt_eq x.r _ _ (by rw [hop]; intro c; simp)]
      have hrun : (execOp a.eval o).run P w = .ok (.enter fid ⟨fs++c.args.toList.map a.eval++cs⟩) w:=by
        unfold execOp
        simp only [hop,Sem.run_bind,resolve,hcal,hvf,Deferred.ofValue,Sem.run_pure,Result.andThen_ok,invoke]
        rw [hent]
        congr 2
        apply Array.ext'
        simp
      rw [hrun,Oper.uponIn_enter]
      refine ⟨fun h=>by simp [aE,Fence.wide] at h,(eZ (hcalls w0 w F φ _ hf.mem ((h1.append hargs).append h2)) x.r _).mono ?_⟩
      rintro en w' ⟨v,r,s',φ',F',rfl,k1,k2,k3,k4⟩
      refine k4 x w0 w' F' φ' _ ⟨⟨k1.heap,k1.lps,k1.lused,k1.linj⟩,?_,hf.env.mono k2 (oV _ _ _)⟩ Q fun e a2 w2 s2 φ2 F2 g1 g2 g3=>hQ e a2 w2 s2 φ2 F2 g1 (k2.trans g2) g3
      rw [lP]
      exact (hf.tmps.monoW k2).put (fW hd) k3
    · cases hc
  · cases hc
end
end Go.AM
