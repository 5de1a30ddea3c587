/- A text of the proof. -/
import Derived.Test.YtdompcjalogoaaaGreatDoorKAmZi
import Derived.RecoverIn
set_option linter.unusedSimpArgs false
set_option linter.unusedVariables false
namespace Go.AM
open Go Go.RowKit
mutual
def conc : AV → Option Value
  | .bool b => some (.bool b)
  | .int k n => some (.int k n)
  | .str s => some (.string ⟨s.toArray⟩)
  | .nili => some .nilIface
  | .iface t x => match conc x with | some v => some (.iface t v) | none => none
  | .agg cs => match concs cs with | some vs => some (.agg ⟨vs⟩) | none => none
  | _ => none
def concs : List AV → Option (List Value)
  | [] => some []
  | x :: xs => match conc x, concs xs with | some v, some vs => some (v :: vs) | _, _ => none
end
mutual
theorem conc_eq [Adr] {w : World} {F : Nat → Prop} {φ : Emb} : ∀ (a : AV) (u v : Value), conc a = some u → VRel w F φ a v → v = u ∧ ∀ (w' : World) (F' : Nat → Prop) (φ' : Emb), VRel w' F' φ' a v
  | a, u, v => by
    cases a with
    | bool b => intro h hr; simp only [conc, Option.some.injEq] at h; simp only [VRel] at hr; subst h; subst hr; exact ⟨rfl, fun _ _ _ => by simp only [VRel]⟩
    | int k n => intro h hr; simp only [conc, Option.some.injEq] at h; simp only [VRel] at hr; subst h; subst hr; exact ⟨rfl, fun _ _ _ => by simp only [VRel]⟩
    | str s => intro h hr; simp only [conc, Option.some.injEq] at h; simp only [VRel] at hr; subst h; subst hr; exact ⟨rfl, fun _ _ _ => by simp only [VRel]⟩
    | nili => intro h hr; simp only [conc, Option.some.injEq] at h; simp only [VRel] at hr; subst h; subst hr; exact ⟨rfl, fun _ _ _ => by simp only [VRel]⟩
    | iface t x =>
      intro h hr
      simp only [conc] at h
      split at h
      · rename_i y hy; cases h
        simp only [VRel] at hr
        obtain ⟨z, rfl, hz⟩ := hr
        obtain ⟨rfl, h2⟩ := conc_eq x y z hy hz
        exact ⟨rfl, fun w' F' φ' => by simp only [VRel]; exact ⟨_, rfl, h2 w' F' φ'⟩⟩
      · cases h
    | agg cs =>
      intro h hr
      simp only [conc] at h
      split at h
      · rename_i ys hy; cases h
        simp only [VRel] at hr
        obtain ⟨zs, rfl, hz, h3⟩ := hr
        obtain ⟨rfl, h2⟩ := concs_eq cs ys zs hy hz
        exact ⟨rfl, fun w' F' φ' => by simp only [VRel]; exact ⟨_, rfl, h2 w' F' φ', h3⟩⟩
      · cases h
    | top => intro h; simp [conc] at h
    | anyb => intro h; simp [conc] at h
    | nilp => intro h; simp [conc] at h
    | ref b g i j => intro h; simp [conc] at h
    | pp cs => intro h; simp [conc] at h
    | sl b g z o l => intro h; simp [conc] at h
    | psl z es => intro h; simp [conc] at h
    | psx z es => intro h; simp [conc] at h
    | nils => intro h; simp [conc] at h
    | nilf => intro h; simp [conc] at h
    | emp => intro h; simp [conc] at h
    | nilm => intro h; simp [conc] at h
    | strb n s => intro h; simp [conc] at h
    | inty k => intro h; simp [conc] at h
    | fn f x c => intro h; simp [conc] at h
    | tup cs => intro h; simp [conc] at h
    | yld l => intro h; simp [conc] at h
    | mp l => intro h; simp [conc] at h
    | itr l => intro h; simp [conc] at h
    | gp k o cs => intro h; simp [conc] at h
    | slk b g z o l c e => intro h; simp [conc] at h
theorem concs_eq [Adr] {w : World} {F : Nat → Prop} {φ : Emb} : ∀ (as : List AV) (us vs : List Value), concs as = some us → VRels w F φ as vs → vs = us ∧ ∀ (w' : World) (F' : Nat → Prop) (φ' : Emb), VRels w' F' φ' as vs
  | [], us, vs => by intro h hr; simp only [concs, Option.some.injEq] at h; simp only [VRels] at hr; subst h; subst hr; exact ⟨rfl, fun _ _ _ => by simp only [VRels]⟩
  | a :: as, us, vs => by
    intro h hr
    simp only [concs] at h
    split at h
    · rename_i y ys hy hys; cases h
      simp only [VRels] at hr
      obtain ⟨v, vs', rfl, h1, h2⟩ := hr
      obtain ⟨rfl, k1⟩ := conc_eq a y v hy h1
      obtain ⟨rfl, k2⟩ := concs_eq as ys vs' hys h2
      exact ⟨rfl, fun w' F' φ' => by simp only [VRels]; exact ⟨_, _, rfl, k1 w' F' φ', k2 w' F' φ'⟩⟩
    · cases h
end
def PanOf [Adr] (a : AV) (v : Value) : Prop := conc a = some v ∧ ∀ (w : World) (F : Nat → Prop) (φ : Emb), VRel w F φ a v
theorem PanOf.of [Adr] {w : World} {F : Nat → Prop} {φ : Emb} {a : AV} {u v : Value} (h : conc a = some u) (hr : VRel w F φ a v) : PanOf a v := by
  obtain ⟨rfl, h2⟩ := conc_eq a u v h hr
  exact ⟨h, h2⟩
def chainOf (v : Value) : List PanicEntry := [{ v, recovered := false }]
inductive Fin' where
  | val (r : AV)
  | pan (a : AV)
def FinPost [Adr] (w0 wE : World) (FE : Nat → Prop) (φE : Emb) (K : Fin' → St → Prop) : Ending → World → Prop := fun e w2 =>
  ∃ s' φ' F', Mem w0 w2 F' φ' s' ∧ GrowW w0 wE FE φE w2 F' φ' ∧
    ((∃ v r, e = .returned v ∧ VRel w2 F' φ' r v ∧ K (.val r) s') ∨ ∃ v a, e = .panicked (chainOf v) ∧ PanOf a v ∧ K (.pan a) s')
def EWX [Adr] (P : Program) (f : FuncId) (args : List AV) (K : Fin' → St → Prop) (s : St) : Prop :=
  Ent P f ∧ ∀ (w0 w : World) (F : Nat → Prop) (φ : Emb) (vs : List Value), Mem w0 w F φ s → GOk w F → VRels w F φ args vs → Calls P f ⟨vs⟩ w (FinPost w0 w F φ K)
section
variable {P : Program} {f : FuncId} {args : List AV} {s : St}
theorem ewx_of_ewp [Adr] {K : Fin' → St → Prop} (h : EWP P f args (fun r s => K (.val r) s) s) : EWX P f args K s :=
  ⟨h.1, fun w0 w F φ vs hm hg hv => (h.2 w0 w F φ vs hm hg hv).mono fun _ _ ⟨v, r, s', φ', F', h1, h2, h3, h4, h5⟩ => ⟨s', φ', F', h2, h3, .inl ⟨v, r, h1, h4, h5⟩⟩⟩
theorem ewp_of_ewx [Adr] {K : Fin' → St → Prop} {K' : AV → St → Prop} (h : EWX P f args K s) (hk : ∀ r s, K (.val r) s → K' r s) (hp : ∀ a s, ¬ K (.pan a) s) : EWP P f args K' s :=
  ⟨h.1, fun w0 w F φ vs hm hg hv => (h.2 w0 w F φ vs hm hg hv).mono fun _ _ ⟨s', φ', F', h2, h3, h4⟩ => by
    rcases h4 with ⟨v, r, h1, h4, h5⟩ | ⟨v, a, -, -, h5⟩
    · exact ⟨v, r, s', φ', F', h1, h2, h3, h4, hk _ _ h5⟩
    · exact absurd h5 (hp _ _)⟩
theorem ewx_mono [Adr] {K K' : Fin' → St → Prop} (h : EWX P f args K s) (hk : ∀ r s, K r s → K' r s) : EWX P f args K' s :=
  ⟨h.1, fun w0 w F φ vs hm hg hv => (h.2 w0 w F φ vs hm hg hv).mono fun _ _ ⟨s', φ', F', h2, h3, h4⟩ => ⟨s', φ', F', h2, h3, h4.imp (fun ⟨v, r, h1, h4, h5⟩ => ⟨v, r, h1, h4, hk _ _ h5⟩) fun ⟨v, a, h1, h4, h5⟩ => ⟨v, a, h1, h4, hk _ _ h5⟩⟩⟩
end
section
variable {P : Program} {nt : Nat} {K : Exit → St → Prop} {s : St} {ops : Array Oper}
def afterX [Adr] (P : Program) (nt : Nat) (ops : Array Oper) (rest : List Nat) (d : Option Nat) (K : Exit → St → Prop) (s : St) : Fin' → St → Prop
  | .val r, s' => AWPO P nt ops rest K ⟨frPut s.fr d r, s'.hp, s'.nx, s'.lp⟩
  | .pan a, s' => ∀ v, PanOf a v → K (.panic (chainOf v)) ⟨s.fr, s'.hp, s'.nx, s'.lp⟩
theorem awpo_enter [Adr] {i : Nat} {o : Oper} {rest : List Nat} {fid : FuncId} {avs : List AV} (hi : ops[i]? = some o) (hw : wants nt ops o (frGet s.fr) = true) (hd : dstOk nt o = true) (hnd : ∀ c, o.op ≠ .defer c)
    (hrun : ∀ (w : World) (F : Nat → Prop) (φ : Emb) (a : Act), (∀ x, VRel w F φ (evalO (frGet s.fr) x) (a.eval x)) → ∃ vs, (execOp a.eval o).run P w = .ok (.enter fid ⟨vs⟩) w ∧ VRels w F φ avs vs)
    (h : EWX P fid avs (afterX P nt ops rest o.dst K s) s) : AWPO P nt ops (i :: rest) K s := by
  intro x w0 w F φ a hf Q hQ
  rw [wpOpsIn_cons]
  unfold wpOpIn
  simp only [hi]
  rw [if_pos (wanted_of hf hw)]
  refine ⟨fun _ _ => trivial, ?_⟩
  obtain ⟨hent, hcalls⟩ := h
  obtain ⟨vs, r1, r2⟩ := hrun w F φ a (eval_rel hf.tmps)
  rw [show (fen x.r).round = x.r from rfl, Oper.semAt_eq x.r _ _ hnd, r1, Oper.uponIn_enter]
  refine ⟨fun h => by simp [fen, Fence.wide] at h, (calls_fen (hcalls w0 w F φ _ hf.mem hf.tmps.glob r2) x.r _).mono ?_⟩
  rintro en w' ⟨s', φ', F', k1, k2, ⟨v, r, rfl, k3, k4⟩ | ⟨v, a', rfl, k3, k4⟩⟩
  · refine k4 x w0 w' F' φ' _ ⟨⟨k1.heap, k1.lps, k1.lused, k1.linj⟩, ?_, hf.env.mono k2 (put_defers _ _ _)⟩ Q fun e a2 w2 s2 φ2 F2 g1 g2 g3 => hQ e a2 w2 s2 φ2 F2 g1 (k2.trans g2) g3
    rw [frGet_put]
    exact (hf.tmps.monoW k2).put (ds_lt hd) k3
  · exact hQ _ _ _ ⟨s.fr, s'.hp, s'.nx, s'.lp⟩ φ' F' ⟨⟨k1.heap, k1.lps, k1.lused, k1.linj⟩, hf.tmps.monoW k2, hf.env.mono k2 rfl⟩ k2 (k4 v k3)
theorem awpo_callX [Adr] {i : Nat} {o : Oper} {rest : List Nat} {f : Operand} {args : List Operand} {fid : FuncId} {first cap : List AV} (hi : ops[i]? = some o) (hc : isCall o.op = some (f, args)) (hw : wants nt ops o (frGet s.fr) = true) (hd : dstOk nt o = true)
    (hfv : evalO (frGet s.fr) f = .fn fid first cap) (h : EWX P fid (first ++ args.map (evalO (frGet s.fr)) ++ cap) (afterX P nt ops rest o.dst K s) s) : AWPO P nt ops (i :: rest) K s := by
  have hent := h.1
  unfold isCall at hc
  split at hc
  rotate_left
  · cases hc
  rename_i c hop
  split at hc
  rotate_left
  · cases hc
  rename_i f' hcal
  simp only [Option.some.injEq, Prod.mk.injEq] at hc
  obtain ⟨rfl, rfl⟩ := hc
  refine awpo_enter hi hw hd (by rw [hop]; intro c; simp) (fun w F φ a he => ?_) h
  have hargs := rels_map he c.args.toList
  have hv := he f'
  rw [hfv] at hv
  simp only [VRel] at hv
  obtain ⟨fs, cs, hvf, h1, h2⟩ := hv
  refine ⟨fs ++ c.args.toList.map a.eval ++ cs, ?_, (h1.append hargs).append h2⟩
  unfold execOp
  simp only [hop, Sem.run_bind, resolve, hcal, hvf, Deferred.ofValue, Sem.run_pure, Result.andThen_ok, invoke]
  rw [hent]
  congr 2
  apply Array.ext'
  simp
theorem awpo_panic [Adr] {i : Nat} {o : Oper} {rest : List Nat} {x : Operand} {t : TypeId} {a : AV} {u : Value} (hi : ops[i]? = some o) (hop : o.op = .panic x) (hw : wants nt ops o (frGet s.fr) = true) (hx : evalO (frGet s.fr) x = .iface t a) (hc : conc (.iface t a) = some u)
    (h : ∀ v, PanOf (.iface t a) v → K (.panic (chainOf v)) s) : AWPO P nt ops (i :: rest) K s := by
  intro cx w0 w F φ act hf Q hQ
  rw [wpOpsIn_cons]
  unfold wpOpIn
  simp only [hi]
  rw [if_pos (wanted_of hf hw)]
  refine ⟨fun _ _ => trivial, ?_⟩
  have hv := eval_rel hf.tmps x
  rw [hx] at hv
  have hp := PanOf.of hc hv
  simp only [VRel] at hv
  obtain ⟨y, hy, -⟩ := hv
  rw [show (fen cx.r).round = cx.r from rfl, Oper.semAt_eq cx.r _ _ (by rw [hop]; intro c; simp)]
  have hrun : (execOp act.eval o).run P w = .halt (.panic (act.eval x)) w := by
    unfold execOp
    simp only [hop, Instr.panic, hy]
    rfl
  rw [hrun, Oper.uponIn_panic]
  exact hQ _ _ _ s φ F hf (GrowW.refl _ _ _ _) (h _ hp)
end
end Go.AM
