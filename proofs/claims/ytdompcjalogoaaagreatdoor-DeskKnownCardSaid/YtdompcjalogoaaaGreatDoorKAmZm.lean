/- A text of the proof. -/
import Derived.Test.YtdompcjalogoaaaGreatDoorKAmZl
set_option linter.unusedSimpArgs false
set_option linter.unusedVariables false
namespace Go.AM
open Go Go.RowKit
def FWX [Adr] (P : Program) (fn : Func) (N : List Nat) (c : Code) (K : Fin' → St → Prop) (s : St) : Prop :=
  ∀ (w0 wE w : World) (FE F : Nat → Prop) (φE φ : Emb) (a : Act), OldL wE φE N → GrowW w0 wE FE φE w F φ → Fits ⟨none, wE.heap.size, []⟩ w0 w F φ fn.ntmps a s →
    c.wpIn (fen none) 0 P (bodyPostX (fen none) 0 P fn (FinPost w0 wE FE φE K)) a w
def FWO [Adr] (P : Program) (fn : Func) (N : List Nat) (ops : Array Oper) (l : List Nat) (y : Code) (K : Fin' → St → Prop) (s : St) : Prop :=
  ∀ (w0 wE w : World) (FE F : Nat → Prop) (φE φ : Emb) (a : Act), OldL wE φE N → GrowW w0 wE FE φE w F φ → Fits ⟨none, wE.heap.size, []⟩ w0 w F φ fn.ntmps a s →
    wpOpsIn (fen none) 0 P ops (Exit.then (y.wpIn (fen none) 0 P (bodyPostX (fen none) 0 P fn (FinPost w0 wE FE φE K))) (bodyPostX (fen none) 0 P fn (FinPost w0 wE FE φE K))) l a w
def KeepOk (N N' : List Nat) (lp : List (Nat × LBlk)) : Prop := ∀ l, l ∈ N' → l ∈ N ∨ ∀ x, alg lp l = some x → ∃ m, x.mp = some m
def leaveX [Adr] (P : Program) (rs : List ResultVar) (N : List Nat) (K : Fin' → St → Prop) : Exit → St → Prop
  | .normal, s => ∃ vs N', resS P s rs = some vs ∧ KeepOk N N' s.lp ∧ K (.val (resV vs)) ⟨s.fr, s.hp, s.nx, keepHp N' s.lp⟩
  | .ret, s => ∃ vs N', resS P s rs = some vs ∧ KeepOk N N' s.lp ∧ K (.val (resV vs)) ⟨s.fr, s.hp, s.nx, keepHp N' s.lp⟩
  | .panic ch, s => ∃ v a, ch = chainOf v ∧ PanOf a v ∧ K (.pan a) ⟨s.fr, s.hp, s.nx, keepHp N s.lp⟩
  | _, _ => False
def behindD (P : Program) (rs : List ResultVar) (N : List Nat) (K : Fin' → St → Prop) (fr : List (Nat × AV)) (md : Option AV) : Bool → St → Prop := fun rc s' =>
  match md, rc with
  | some a, false => K (.pan a) ⟨fr, s'.hp, s'.nx, keepHp N s'.lp⟩
  | _, _ => ∃ vs, resS P ⟨fr, s'.hp, s'.nx, keepHp N s'.lp⟩ rs = some vs ∧ K (.val (resV vs)) ⟨fr, s'.hp, s'.nx, keepHp N s'.lp⟩
def leaveD [Adr] (P : Program) (rs : List ResultVar) (N : List Nat) (f : FuncId) (avs : List AV) (K : Fin' → St → Prop) : Exit → St → Prop
  | .normal, s => DWX P f avs none (behindD P rs N K s.fr none) ⟨s.fr, s.hp, s.nx, keepHp N s.lp⟩
  | .ret, s => DWX P f avs none (behindD P rs N K s.fr none) ⟨s.fr, s.hp, s.nx, keepHp N s.lp⟩
  | .panic ch, s => ∃ v a, ch = chainOf v ∧ PanOf a v ∧ DWX P f avs (some a) (behindD P rs N K s.fr (some a)) ⟨s.fr, s.hp, s.nx, keepHp N s.lp⟩
  | _, _ => False
section
variable {P : Program} {fn : Func} {K : Fin' → St → Prop} {s : St} {N : List Nat}
theorem resS_keep [Adr] (fr : List (Nat × AV)) (hp : List (Nat × ABlk)) (nx : Nat) (lp lp' : List (Nat × LBlk)) : ∀ rs : List ResultVar, resS P ⟨fr, hp, nx, lp⟩ rs = resS P ⟨fr, hp, nx, lp'⟩ rs
  | rs => (resS_lp P ⟨fr, hp, nx, lp'⟩ lp rs)
theorem keepHp_inM [Adr] (N : List Nat) (lp : List (Nat × LBlk)) : ∀ l x, alg (keepHp N lp) l = some x → l ∈ N ∨ ∃ m, x.mp = some m := fun l x h => .inl (alg_keep_in N l x lp h)
theorem KeepOk.in [Adr] {N N' : List Nat} {lp : List (Nat × LBlk)} (h : KeepOk N N' lp) : ∀ l x, alg (keepHp N' lp) l = some x → l ∈ N ∨ ∃ m, x.mp = some m := fun l x hx => (h l (alg_keep_in N' l x lp hx)).imp id fun q => q x (alg_keepHp N' l x lp hx)
theorem leavesM_res [Adr] {w0 wE w : World} {FE F : Nat → Prop} {φE φ : Emb} {tmps : Array Value} {s : St} {nt : Nat} (hm : Mem w0 w F φ s) (ht : TRel w F φ (frGet s.fr) nt tmps) (hg : GrowW w0 wE FE φE w F φ) {vs : List AV} (h1 : resS P s fn.results.toList = some vs) (h2 : K (.val (resV vs)) s) :
    LeavesX (fen none) 0 P fn tmps (FinPost w0 wE FE φE K) [] .returning w := by
  obtain ⟨x, r1, r2⟩ := results_ok (P := P) hm ht h1
  exact ⟨x, r1, s, φ, F, hm, hg, .inl ⟨x, resV vs, rfl, r2, h2⟩⟩
theorem leavesM_pan [Adr] {w0 wE w : World} {FE F : Nat → Prop} {φE φ : Emb} {tmps : Array Value} {s : St} (hm : Mem w0 w F φ s) (hg : GrowW w0 wE FE φE w F φ) {v : Value} {a : AV} (hp : PanOf a v) (h2 : K (.pan a) s) :
    LeavesX (fen none) 0 P fn tmps (FinPost w0 wE FE φE K) [] (.panicking (chainOf v)) w := by
  exact ⟨s, φ, F, hm, hg, .inr ⟨v, a, rfl, hp, h2⟩⟩
theorem fwx_of [Adr] {c : Code} (h : AWP P fn.ntmps c (leaveX P fn.results.toList N K) s) : FWX P fn N c K s := by
  intro w0 wE w FE F φE φ a ho hg hf
  refine wpIn_mono (h _ w0 w F φ a hf) ?_
  rintro e a' w' ⟨s', φ', F', k1, k2, k3⟩
  obtain ⟨Ds, d1, d2, d3⟩ := k1.env.dfr
  have hB : w0.heap.size ≤ wE.heap.size := hf.env.lo.1
  have fin : (∃ vs N', resS P s' fn.results.toList = some vs ∧ KeepOk N N' s'.lp ∧ K (.val (resV vs)) ⟨s'.fr, s'.hp, s'.nx, keepHp N' s'.lp⟩) → LeavesX (fen none) 0 P fn a'.tmps (FinPost w0 wE FE φE K) a'.defers .returning w' := by
    rintro ⟨vs, N', g1, g0, g2⟩
    rw [d1]
    refine leavesM_marks (s := ⟨s'.fr, s'.hp, s'.nx, keepHp N' s'.lp⟩) (by simp) hB ho g0.in Ds w' (k1.mem.keep N' s'.fr) k1.tmps (hg.trans k2) d2 d3 fun w2 _ m2 t2 g3 => ?_
    exact leavesM_res m2 t2 g3 (by rw [resS_keep _ _ _ _ s'.lp]; exact g1) g2
  cases e with
  | normal => exact fin k3
  | ret => exact fin k3
  | exit id => exact k3.elim
  | goto l => exact k3.elim
  | panic ch =>
    obtain ⟨v, b, rfl, hp, g2⟩ := k3
    show LeavesX _ _ _ _ _ _ a'.defers _ w'
    rw [d1]
    refine leavesM_marks (s := ⟨s'.fr, s'.hp, s'.nx, keepHp N s'.lp⟩) (by simp) hB ho (keepHp_inM N _) Ds w' (k1.mem.keep N s'.fr) k1.tmps (hg.trans k2) d2 d3 fun w2 _ m2 t2 g3 => ?_
    exact leavesM_pan m2 g3 hp g2
  | outgrown => exact k3.elim
theorem fwx_seq [Adr] {x y : Code} (h : AWP P fn.ntmps x (thenK (FWX P fn N y K) (leaveX P fn.results.toList N K)) s) : FWX P fn N (.seq x y) K s := by
  intro w0 wE w FE F φE φ a ho hg hf
  refine wpIn_seq (wpIn_mono (h _ w0 w F φ a hf) ?_)
  rintro e a' w' ⟨s', φ', F', k1, k2, k3⟩
  have last : leaveX P fn.results.toList N K e s' → bodyPostX (fen none) 0 P fn (FinPost w0 wE FE φE K) e a' w' := by
    intro k3
    have hsk := fwx_of (P := P) (fn := fn) (N := N) (K := K) (c := .skip) (s := s')
    obtain ⟨Ds, d1, d2, d3⟩ := k1.env.dfr
    have hB : w0.heap.size ≤ wE.heap.size := hf.env.lo.1
    have fin : (∃ vs N', resS P s' fn.results.toList = some vs ∧ KeepOk N N' s'.lp ∧ K (.val (resV vs)) ⟨s'.fr, s'.hp, s'.nx, keepHp N' s'.lp⟩) → LeavesX (fen none) 0 P fn a'.tmps (FinPost w0 wE FE φE K) a'.defers .returning w' := by
      rintro ⟨vs, N', g1, g0, g2⟩
      rw [d1]
      refine leavesM_marks (s := ⟨s'.fr, s'.hp, s'.nx, keepHp N' s'.lp⟩) (by simp) hB ho g0.in Ds w' (k1.mem.keep N' s'.fr) k1.tmps (hg.trans k2) d2 d3 fun w2 _ m2 t2 g3 => ?_
      exact leavesM_res m2 t2 g3 (by rw [resS_keep _ _ _ _ s'.lp]; exact g1) g2
    cases e with
    | normal => exact fin k3
    | ret => exact fin k3
    | exit id => exact k3.elim
    | goto l => exact k3.elim
    | panic ch =>
      obtain ⟨v, b, rfl, hp, g2⟩ := k3
      show LeavesX _ _ _ _ _ _ a'.defers _ w'
      rw [d1]
      refine leavesM_marks (s := ⟨s'.fr, s'.hp, s'.nx, keepHp N s'.lp⟩) (by simp) hB ho (keepHp_inM N _) Ds w' (k1.mem.keep N s'.fr) k1.tmps (hg.trans k2) d2 d3 fun w2 _ m2 t2 g3 => ?_
      exact leavesM_pan m2 g3 hp g2
    | outgrown => exact k3.elim
  cases e with
  | normal => exact k3 w0 wE w' FE F' φE φ' a' ho (hg.trans k2) k1
  | ret => exact last k3
  | exit id => exact k3.elim
  | goto l => exact k3.elim
  | panic ch => exact last k3
  | outgrown => exact k3.elim
theorem fwx_scope [Adr] {c : Code} (h : FWX P fn N c K s) : FWX P fn N (.scope c) K s := by
  intro w0 wE w FE F φE φ a ho hg hf
  refine wpIn_scope (wpIn_mono (h w0 wE w FE F φE φ a ho hg hf) ?_)
  rintro e a' w' h2
  cases e with
  | normal => exact h2
  | ret => exact h2
  | exit id => exact h2
  | goto l => exact h2.elim
  | panic ch => exact h2
  | outgrown => exact h2
theorem fwx_ops [Adr] {id : Nat} {ops : Array Oper} {y : Code} (h : FWO P fn N ops (List.range ops.size) y K s) : FWX P fn N (.seq (.region id ops false) y) K s :=
  fun w0 wE w FE F φE φ a ho hg hf => wpIn_seq (wpIn_region (h w0 wE w FE F φE φ a ho hg hf))
theorem fwo_nil [Adr] {ops : Array Oper} {y : Code} (h : FWX P fn N y K s) : FWO P fn N ops [] y K s :=
  fun w0 wE w FE F φE φ a ho hg hf => h w0 wE w FE F φE φ a ho hg hf
theorem fwo_op [Adr] {ε : Bool} {ops : Array Oper} {y : Code} {i : Nat} {o : Oper} {rest : List Nat} {ans : Option (AV × List ABlk)} {se : SE} (hi : ops[i]? = some o) (hs : stepF ε P fn.ntmps ops o ans s.nx (frGet s.fr) (alg s.hp) = some se) (hob : oblsHold P [se])
    (h : FWO P fn N ops rest y K ⟨frPut s.fr se.d se.v, hsets s.hp se.wr, s.nx + 8, s.lp⟩) : FWO P fn N ops (i :: rest) y K s := by
  intro w0 wE w FE F φE φ a ho hg hf
  rw [wpOpsIn_cons]
  refine stepF_ok (U' := fun b => b < s.nx + 8) hf.mem.heap hf.tmps rfl hi hs (fun ob e => hob.get se (by simp) ob e) (fun m hm => by omega) (fun b hb => by omega) (fun m hm => by omega) none 0 ?_
  intro a' w' φ' F' h1 h2 h3 g
  exact h w0 wE w' FE F' φE φ' a' ho (hg.trans g.weak) ⟨hf.mem.step g (by rw [alg_hsets]; exact h1) rfl (by simp), by rw [frGet_put]; exact h2, hf.env.mono g.weak h3⟩
theorem fwo_defer [Adr] {ops : Array Oper} {y : Code} {i : Nat} {o : Oper} {rest : List Nat} {c : Call} {f : Operand} {fid : FuncId} {first cap : List AV} (hi : ops[i]? = some o) (hop : o.op = .defer c) (hc : c.callee = .value f) (hg0 : o.guard = none) (hd0 : o.dst = none)
    (hfv : evalO (frGet s.fr) f = .fn fid first cap) (hent : Ent P fid)
    (h : AWPO P fn.ntmps ops rest (thenK (AWP P fn.ntmps y (leaveD P fn.results.toList N fid (first ++ c.args.toList.map (evalO (frGet s.fr)) ++ cap) K)) (leaveD P fn.results.toList N fid (first ++ c.args.toList.map (evalO (frGet s.fr)) ++ cap) K)) s) : FWO P fn N ops (i :: rest) y K s := by
  intro w0 wE w FE F φE φ a ho hg hf
  rw [wpOpsIn_cons]
  unfold wpOpIn
  simp only [hi]
  rw [if_pos (by simp [Region.wanted, hg0])]
  refine ⟨fun _ _ => trivial, ?_⟩
  have hargs := rels_map (eval_rel hf.tmps) c.args.toList
  have hv := eval_rel hf.tmps f
  rw [hfv] at hv
  simp only [VRel] at hv
  obtain ⟨fs, cs, hvf, v1, v2⟩ := hv
  rw [show (fen none).round = none from rfl]
  have hrun : (Oper.semAt none a.eval o).run P w = .ok (.defer { target := .fn (.func fid) ⟨cs⟩, args := ⟨fs⟩ ++ c.args.map a.eval }) w := by
    have : Oper.semAt none a.eval o = execOp a.eval o := rfl
    rw [this]
    unfold execOp
    simp only [hop, resolve, hc, hvf, Deferred.ofValue, Sem.run_bind, Sem.run_pure, Result.andThen_ok]
  rw [hrun, Oper.uponIn_defer, hd0]
  obtain ⟨d, hd⟩ : ∃ d : Deferred, d = { target := .fn (.func fid) ⟨cs⟩, args := ⟨fs⟩ ++ c.args.map a.eval } := ⟨_, rfl⟩
  rw [← hd]
  show wpOpsIn _ _ _ _ _ rest { a with defers := d :: a.defers } w
  have hvs : VRels w F φ (first ++ c.args.toList.map (evalO (frGet s.fr)) ++ cap) (fs ++ c.args.toList.map a.eval ++ cs) := (v1.append hargs).append v2
  obtain ⟨avs, havs⟩ : ∃ avs, avs = first ++ c.args.toList.map (evalO (frGet s.fr)) ++ cap := ⟨_, rfl⟩
  rw [← havs] at h hvs
  obtain ⟨vs, hvs'⟩ : ∃ vs, vs = fs ++ c.args.toList.map a.eval ++ cs := ⟨_, rfl⟩
  rw [← hvs'] at hvs
  have hinv : ∀ w', (invoke d.target d.args).run P w' = .ok (.enter fid ⟨vs⟩) w' := fun w' => by
    rw [hd]
    simp only [invoke]
    rw [hent]
    congr 2
    apply Array.ext'
    simp [hvs']
  have hfits : Fits ⟨none, w.heap.size, d :: a.defers⟩ w0 w F φ fn.ntmps { a with defers := d :: a.defers } s :=
    ⟨hf.mem, hf.tmps, ⟨⟨[], rfl, List.nodup_nil, fun D hD => by simp at hD⟩, fun l0 hl0 => by simp at hl0, hf.mem.heap.below.size, Nat.le_refl _⟩⟩
  have key : ∀ (e : Exit) (a2 : Act) (w2 : World) (s2 : St) (φ2 : Emb) (F2 : Nat → Prop), Fits ⟨none, w.heap.size, d :: a.defers⟩ w0 w2 F2 φ2 fn.ntmps a2 s2 → GrowW w0 w F φ w2 F2 φ2 → leaveD P fn.results.toList N fid avs K e s2 → bodyPostX (fen none) 0 P fn (FinPost w0 wE FE φE K) e a2 w2 := by
    intro e a2 w2 s2 φ2 F2 k1 k2 k3
    obtain ⟨Ds2, d1, d2, d3⟩ := k1.env.dfr
    obtain ⟨Ds, f1, f2, f3⟩ := hf.env.dfr
    simp only [List.append_nil] at f1
    have hlo : w0.heap.size ≤ wE.heap.size := hf.env.lo.1
    have hwE := hg.ext.size
    have hEw : w0.heap.size ≤ w.heap.size := hf.mem.heap.below.size
    have ahead : ∀ (u : FrameMode) (md : Option AV), u ≠ .run → ModeOf md u → DWX P fid avs md (behindD P fn.results.toList N K s2.fr md) ⟨s2.fr, s2.hp, s2.nx, keepHp N s2.lp⟩ → LeavesX (fen none) 0 P fn a2.tmps (FinPost w0 wE FE φE K) a2.defers u w2 := by
      intro u md hu hmd hdw
      rw [d1]
      refine leavesM_marks (wE := w) (FE := F) (φE := φ) (s := ⟨s2.fr, s2.hp, s2.nx, keepHp N s2.lp⟩) hu hEw (ho.grow hg) (keepHp_inM N _) Ds2 w2 (k1.mem.keep N s2.fr) k1.tmps k2 d2 d3 fun w3 hw3 m3 t3 g3 => ?_
      refine ⟨hu, .inr (.inl ⟨fun h => by simp [fen, Fence.wide] at h, .func fid, ⟨cs⟩, fid, ⟨vs⟩, by rw [hd], hinv w3, fun _ _ => trivial, ?_⟩)⟩
      have hcall := hdw.2 w0 w3 F2 φ2 vs u m3 t3.glob (VRels.mono g3.ext g3.sub g3.le _ _ hvs) hmd
      obtain ⟨hF, hcall⟩ := hcall
      refine ⟨hF, fun c₀ cs₀ hc hroom => ?_⟩
      obtain ⟨e, u', w4, fr, ⟨v, s4, φ4, F4, rfl, q1, q2, q3⟩, q4⟩ := hcall c₀ cs₀ hc hroom
      refine ⟨_, u', w4, fr, ?_, q4⟩
      have g4 := g3.trans q2
      have t4 := t3.monoW q2
      have rest2 : ∀ (u2 : FrameMode), u2 ≠ .run → (∀ w5, Mem w0 w5 F4 φ4 ⟨s2.fr, s4.hp, s4.nx, keepHp N s4.lp⟩ → TRel w5 F4 φ4 (frGet s2.fr) fn.ntmps a2.tmps → GrowW w0 wE FE φE w5 F4 φ4 → LeavesX (fen none) 0 P fn a2.tmps (FinPost w0 wE FE φE K) [] u2 w5) → LeavesX (fen none) 0 P fn a2.tmps (FinPost w0 wE FE φE K) a.defers u2 w4 := by
        intro u2 hu2 hk
        rw [f1, ← List.append_nil (Ds.map markOf)]
        refine leavesM_marks (s := ⟨s2.fr, s4.hp, s4.nx, keepHp N s4.lp⟩) hu2 hlo ho (keepHp_inM N _) Ds w4 (q1.keep N s2.fr) t4 (hg.trans g4) f2 (fun D hD => ⟨(f3 D hD).1, g4.opn D (f3 D hD).2⟩) fun w5 _ m5 t5 g5 => hk w5 m5 t5 g5
      rcases q3 with ⟨rfl, q3⟩ | ⟨⟨x, rfl⟩, q3⟩
      · cases md with
        | none =>
          simp only [ModeOf] at hmd
          subst hmd
          obtain ⟨vs', p1, p2⟩ := q3
          exact rest2 .returning (by simp) fun w5 m5 t5 g5 => leavesM_res m5 t5 g5 p1 p2
        | some b =>
          obtain ⟨v', hp, rfl⟩ := hmd
          exact rest2 (.panicking (chainOf v')) (by simp) fun w5 m5 t5 g5 => leavesM_pan m5 g5 hp q3
      · have q3' : ∃ vs, resS P ⟨s2.fr, s4.hp, s4.nx, keepHp N s4.lp⟩ fn.results.toList = some vs ∧ K (.val (resV vs)) ⟨s2.fr, s4.hp, s4.nx, keepHp N s4.lp⟩ := by
          cases md <;> exact q3
        obtain ⟨vs', p1, p2⟩ := q3'
        exact rest2 .returning (by simp) fun w5 m5 t5 g5 => leavesM_res m5 t5 g5 p1 p2
    cases e with
    | normal => exact ahead _ none (by simp) rfl k3
    | ret => exact ahead _ none (by simp) rfl k3
    | exit id => exact k3.elim
    | goto l => exact k3.elim
    | panic ch =>
      obtain ⟨v, b, rfl, hp, g2⟩ := k3
      exact ahead _ (some b) (by simp) ⟨v, hp, rfl⟩ g2
    | outgrown => exact k3.elim
  refine h _ w0 w F φ _ hfits _ fun e a1 w1 s1 φ1 F1 k1 k2 k3 => ?_
  cases e with
  | normal =>
    refine wpIn_mono (k3 _ w0 w1 F1 φ1 a1 k1) ?_
    rintro e a2 w2 ⟨s2, φ2, F2, q1, q2, q3⟩
    exact key e a2 w2 s2 φ2 F2 q1 (k2.trans q2) q3
  | ret => exact key .ret a1 w1 s1 φ1 F1 k1 k2 k3
  | exit id => exact k3.elim
  | goto l => exact k3.elim
  | panic ch => exact key (.panic ch) a1 w1 s1 φ1 F1 k1 k2 k3
  | outgrown => exact k3.elim
def clrLp (N : List Nat) (l : Nat) (y : LBlk) (lp : List (Nat × LBlk)) : List (Nat × LBlk) := keepHp N (hset (keepHp (l :: N) lp) l { y with mp := some (.map []) })
def leaveB [Adr] (P : Program) (rs : List ResultVar) (N : List Nat) (l : Nat) (K : Fin' → St → Prop) : Exit → St → Prop
  | .normal, s => ∃ y m, alg s.lp l = some y ∧ y.mp = some (.map m) ∧ NoIt l s.lp ∧ ∃ vs, resS P s rs = some vs ∧ K (.val (resV vs)) ⟨s.fr, s.hp, s.nx, clrLp N l y s.lp⟩
  | .ret, s => ∃ y m, alg s.lp l = some y ∧ y.mp = some (.map m) ∧ NoIt l s.lp ∧ ∃ vs, resS P s rs = some vs ∧ K (.val (resV vs)) ⟨s.fr, s.hp, s.nx, clrLp N l y s.lp⟩
  | .panic ch, s => ∃ y m, alg s.lp l = some y ∧ y.mp = some (.map m) ∧ NoIt l s.lp ∧ ∃ v a, ch = chainOf v ∧ PanOf a v ∧ K (.pan a) ⟨s.fr, s.hp, s.nx, clrLp N l y s.lp⟩
  | _, _ => False
theorem alg_keepHp_of {α : Type} (N : List Nat) (b : Nat) (hb : b ∈ N) : ∀ hp : List (Nat × α), alg (keepHp N hp) b = alg hp b
  | [] => rfl
  | (k, x) :: hp => by
    have ih := alg_keepHp_of N b hb hp
    unfold keepHp at ih ⊢
    rw [List.filter_cons]
    split
    · simp only [alg]
      split
      · rfl
      · exact ih
    · rename_i hk
      simp only [alg]
      split
      · rename_i e; subst e
        exact absurd (by simpa using hb) hk
      · exact ih
theorem fwo_clear [Adr] {ops : Array Oper} {y : Code} {i : Nat} {o : Oper} {rest : List Nat} {c : Call} {x0 : Operand} {l : Nat} {y0 : LBlk} {m0 : List (AV × AV)} {t kt et : TypeId} (hi : ops[i]? = some o) (hop : o.op = .defer c) (hc : c.callee = .builtin .clear) (ha : c.args.toList = [x0]) (ht : c.argTypes[0]? = some t) (hut : P.underlying t = some (.map kt et)) (hg0 : o.guard = none) (hd0 : o.dst = none)
    (hx : evalO (frGet s.fr) x0 = .mp l) (hl : alg s.lp l = some y0) (hm0 : y0.mp = some (.map m0))
    (h : AWPO P fn.ntmps ops rest (thenK (AWP P fn.ntmps y (leaveB P fn.results.toList N l K)) (leaveB P fn.results.toList N l K)) s) : FWO P fn N ops (i :: rest) y K s := by
  intro w0 wE w FE F φE φ a ho hg hf
  rw [wpOpsIn_cons]
  unfold wpOpIn
  simp only [hi]
  rw [if_pos (by simp [Region.wanted, hg0])]
  refine ⟨fun _ _ => trivial, ?_⟩
  have hv := eval_rel hf.tmps x0
  rw [hx] at hv
  simp only [VRel] at hv
  obtain ⟨k, hk, hv⟩ := hv
  rw [show (fen none).round = none from rfl]
  obtain ⟨ks, hrun⟩ : ∃ ks : Array Bool, (Oper.semAt none a.eval o).run P w = .ok (.defer { target := .builtin .clear c.argTypes o.type ks, args := #[.map (some k)] }) w := by
    have : Oper.semAt none a.eval o = execOp a.eval o := rfl
    rw [this]
    unfold execOp
    have hm : c.args.map a.eval = #[.map (some k)] := by apply Array.ext'; simp [ha, hv]
    simp only [hop, resolve, hc, Sem.run_bind, Sem.run_pure, Result.andThen_ok, hm]
    exact ⟨_, rfl⟩
  rw [hrun, Oper.uponIn_defer, hd0]
  obtain ⟨d, hd⟩ : ∃ d : Deferred, d = { target := .builtin .clear c.argTypes o.type ks, args := #[.map (some k)] } := ⟨_, rfl⟩
  rw [← hd]
  show wpOpsIn _ _ _ _ _ rest { a with defers := d :: a.defers } w
  have hfits : Fits ⟨none, w.heap.size, d :: a.defers⟩ w0 w F φ fn.ntmps { a with defers := d :: a.defers } s :=
    ⟨hf.mem, hf.tmps, ⟨⟨[], rfl, List.nodup_nil, fun D hD => by simp at hD⟩, fun l0 hl0 => by simp at hl0, hf.mem.heap.below.size, Nat.le_refl _⟩⟩
  have key : ∀ (e : Exit) (a2 : Act) (w2 : World) (s2 : St) (φ2 : Emb) (F2 : Nat → Prop), Fits ⟨none, w.heap.size, d :: a.defers⟩ w0 w2 F2 φ2 fn.ntmps a2 s2 → GrowW w0 w F φ w2 F2 φ2 → leaveB P fn.results.toList N l K e s2 → bodyPostX (fen none) 0 P fn (FinPost w0 wE FE φE K) e a2 w2 := by
    intro e a2 w2 s2 φ2 F2 k1 k2 k3
    obtain ⟨Ds2, d1, d2, d3⟩ := k1.env.dfr
    obtain ⟨Ds, f1, f2, f3⟩ := hf.env.dfr
    simp only [List.append_nil] at f1
    have hlo : w0.heap.size ≤ wE.heap.size := hf.env.lo.1
    have hEw : w0.heap.size ≤ w.heap.size := hf.mem.heap.below.size
    have hold : OldL w φ (l :: N) := by
      intro l' hl'
      rcases List.mem_cons.1 hl' with rfl | hl'
      · obtain ⟨k', es, cl, q1, -, q3, -⟩ := (hf.mem.lps l' y0 hl).2 _ hm0
        exact ⟨k', q1, .inr ⟨_, q3, rfl⟩⟩
      · exact ho.grow hg l' hl'
    have ahead : ∀ (u : FrameMode) (yb : LBlk) (mb : List (AV × AV)), u ≠ .run → alg s2.lp l = some yb → yb.mp = some (.map mb) → NoIt l s2.lp →
        (∀ w5 φ5 F5, Mem w0 w5 F5 φ5 ⟨s2.fr, s2.hp, s2.nx, clrLp N l yb s2.lp⟩ → TRel w5 F5 φ5 (frGet s2.fr) fn.ntmps a2.tmps → GrowW w0 wE FE φE w5 F5 φ5 → LeavesX (fen none) 0 P fn a2.tmps (FinPost w0 wE FE φE K) [] u w5) →
        LeavesX (fen none) 0 P fn a2.tmps (FinPost w0 wE FE φE K) a2.defers u w2 := by
      intro u yb mb hu hyb hmb hni hk5
      rw [d1]
      refine leavesM_marks (wE := w) (FE := F) (φE := φ) (s := ⟨s2.fr, s2.hp, s2.nx, keepHp (l :: N) s2.lp⟩) hu hEw hold (keepHp_inM _ _) Ds2 w2 (k1.mem.keep _ s2.fr) k1.tmps k2 d2 d3 fun w3 hw3 m3 t3 g3 => ?_
      have hyb' : alg (keepHp (l :: N) s2.lp) l = some yb := by rw [alg_keepHp_of _ _ (by simp)]; exact hyb
      obtain ⟨k', es, cl, q1, q2, q3, q4⟩ := (m3.lps l yb hyb').2 _ hmb
      have hkk := g3.le.2 _ _ hk
      rw [hkk] at q1; cases q1
      obtain ⟨m4, m5⟩ := m3.putMap (l := l) (x := yb) (m := mb) (m' := []) (es' := #[]) (c' := cl) hyb' hkk q3 q2 rfl (BornOk.nil _) (fun l' y' l0 left cur hy' hm' => hni l' y' l0 left cur (alg_keepHp _ _ _ _ hy') hm')
      refine ⟨hu, .inr (.inr ⟨.clear, c.argTypes, o.type, ks, .tuple #[], w3.putObj k (.map #[] cl), by rw [hd], ?_, ?_⟩)⟩
      · rw [hd]
        simp only [invoke, builtin, Builtin.clear_, ht]
        simp [run_underlying hut, run_getObj_mp q3, run_setObj_mp _ q3]
      · have g5 := g3.trans m5
        rw [f1, ← List.append_nil (Ds.map markOf)]
        refine leavesM_marks (s := ⟨s2.fr, s2.hp, s2.nx, clrLp N l yb s2.lp⟩) hu hlo ho (keepHp_inM _ _) Ds _ ⟨m4.heap, fun l' x' hx' => m4.lps l' x' (alg_keepHp _ _ _ _ hx'), m4.lused, m4.linj⟩ (t3.monoW m5) (hg.trans g5) f2 (fun D hD => ⟨(f3 D hD).1, g5.opn D (f3 D hD).2⟩) fun w5 _ n5 t5 g6 => hk5 w5 _ _ n5 t5 g6
    cases e with
    | normal =>
      obtain ⟨yb, mb, p1, p2, pn, vs, p3, p4⟩ := k3
      exact ahead .returning yb mb (by simp) p1 p2 pn fun w5 φ5 F5 n5 t5 g5 => leavesM_res n5 t5 g5 (by rw [resS_keep _ _ _ _ s2.lp]; exact p3) p4
    | ret =>
      obtain ⟨yb, mb, p1, p2, pn, vs, p3, p4⟩ := k3
      exact ahead .returning yb mb (by simp) p1 p2 pn fun w5 φ5 F5 n5 t5 g5 => leavesM_res n5 t5 g5 (by rw [resS_keep _ _ _ _ s2.lp]; exact p3) p4
    | exit id => exact k3.elim
    | goto l => exact k3.elim
    | panic ch =>
      obtain ⟨yb, mb, p1, p2, pn, v, b, rfl, hp, p4⟩ := k3
      exact ahead (.panicking (chainOf v)) yb mb (by simp) p1 p2 pn fun w5 φ5 F5 n5 t5 g5 => leavesM_pan n5 g5 hp p4
    | outgrown => exact k3.elim
  refine h _ w0 w F φ _ hfits _ fun e a1 w1 s1 φ1 F1 k1 k2 k3 => ?_
  cases e with
  | normal =>
    refine wpIn_mono (k3 _ w0 w1 F1 φ1 a1 k1) ?_
    rintro e a2 w2 ⟨s2, φ2, F2, q1, q2, q3⟩
    exact key e a2 w2 s2 φ2 F2 q1 (k2.trans q2) q3
  | ret => exact key .ret a1 w1 s1 φ1 F1 k1 k2 k3
  | exit id => exact k3.elim
  | goto l => exact k3.elim
  | panic ch => exact key (.panic ch) a1 w1 s1 φ1 F1 k1 k2 k3
  | outgrown => exact k3.elim
theorem ewx_of_fwx [Adr] {f : FuncId} {c : Code} {args : List AV} {s : St} (hf : P.funcs[f]? = some fn) (hb : fn.body = some c) (hn : fn.name ≠ "runtime.NumGoroutine") (hl : args.length ≤ fn.ntmps)
    (h : FWX P fn (s.lp.map (·.1)) c K ⟨enumFr 0 args, s.hp, s.nx, s.lp⟩) : EWX P f args K s := by
  refine ⟨fun as w => by simp [callFunc, hf, hn, hb], fun w0 w F φ vs hm hgl hvs => ?_⟩
  refine (callsIn_wide (n := 0)).1 (callsIn_of_wp_X hf hb trivial ?_)
  exact h w0 w w F F φ φ _ hm.old (GrowW.refl _ _ _ _) (fits_enter hm hgl hvs hl)
end
end Go.AM
