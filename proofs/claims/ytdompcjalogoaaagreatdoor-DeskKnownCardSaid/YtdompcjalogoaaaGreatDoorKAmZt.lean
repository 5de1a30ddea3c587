/- A text of the proof. -/
import Derived.Test.YtdompcjalogoaaaGreatDoorKAmZs
set_option linter.unusedSimpArgs false
set_option linter.unusedVariables false
namespace Go.AM
open Go Go.RowKit
section
variable {P : Program} {rec : Job → R} {nt : Nat} {ops : Array Oper}
theorem defReg_ok {x : Code} {ops : Array Oper} (h : defReg x = some ops) : ∃ id, x = .region id ops false := by
  unfold defReg at h
  split at h
  · split at h
    · cases h; exact ⟨_, rfl⟩
    · cases h
  · cases h
theorem good_fcode [Adr] (hs : Sound P rec) {fn : Func} {N : List Nat} {c : Code} {s : Cs} {os : List Out} (h : stepFcode P rec fn N c s = some os) : FWX P fn N c (VEnds os) s.st := by
  unfold stepFcode at h
  split at h
  · exact fwx_of (good_seqlike hs h fun os1 h2 e s1 he => good_finish h2 he)
  · split at h
    · rename_i x y
      split at h
      · rename_i ops hr
        obtain ⟨id, rfl⟩ := defReg_ok hr
        exact fwx_ops (hs _ _ h)
      · refine fwx_seq (good_seqlike hs h fun os1 h2 e s1 he => ?_)
        have rest : e ≠ .normal → leaveX P fn.results.toList N (VEnds os) e s1 := fun hne => by
          obtain ⟨cs, hsim, hm⟩ := he
          rcases hm with hm | ⟨b, v, hm, hp, rfl⟩
          · obtain ⟨a, ha, hsub⟩ := h2 _ hm
            have : finish P fn.results.toList N (.ex e cs) = some a := by
              cases e with
              | normal => exact absurd rfl hne
              | _ => exact ha
            exact good_finish (os1 := [.ex e cs]) (fun o ho => by simp only [List.mem_singleton] at ho; subst ho; exact ⟨a, this, hsub⟩) ⟨cs, hsim, .inl (by simp)⟩
          · obtain ⟨a, ha, hsub⟩ := h2 _ hm
            exact good_finish (os1 := [.pan b cs]) (fun o ho => by simp only [List.mem_singleton] at ho; subst ho; exact ⟨a, ha, hsub⟩) ⟨cs, hsim, .inr ⟨b, v, by simp, hp, rfl⟩⟩
        cases e with
        | normal =>
          refine ends_normal h2 (fun cs a ha hsub hsim => ?_) he
          exact fwx_sim hsim (fwx_mono (hs _ _ ha) fun _ _ k => k.mono hsub)
        | exit id => exact rest (by simp)
        | goto l => exact rest (by simp)
        | ret => exact rest (by simp)
        | panic ch => exact rest (by simp)
        | outgrown => exact rest (by simp)
    · exact fwx_scope (hs _ _ h)
    · cases h
theorem ent_of (hP : POk P) {f : FuncId} {fn : Func} {c : Code} (hf : P.funcs[f]? = some fn) (hb : fn.body = some c) : Ent P f := fun as w => by simp [callFunc, hf, hP f fn hf, hb]
theorem dwx_mono [Adr] {f : FuncId} {args : List AV} {md : Option AV} {K K' : Bool → St → Prop} {s : St} (h : DWX P f args md K s) (hk : ∀ b s, K b s → K' b s) : DWX P f args md K' s :=
  ⟨h.1, fun w0 w F φ vs u hm hg hv hu => (h.2 w0 w F φ vs u hm hg hv hu).mono fun _ _ _ ⟨v, s', φ', F', h1, h2, h3, h4⟩ => ⟨v, s', φ', F', h1, h2, h3, h4.imp (fun ⟨a, b⟩ => ⟨a, hk _ _ b⟩) fun ⟨a, b⟩ => ⟨a, hk _ _ b⟩⟩⟩
theorem dwx_sim [Adr] {f : FuncId} {args : List AV} {md : Option AV} {K : Bool → St → Prop} {s t : St} (e : Sim s t) (h : DWX P f args md K t) : DWX P f args md K s :=
  ⟨h.1, fun w0 w F φ vs u hm hg hv hu => h.2 w0 w F φ vs u (e.mem hm) hg hv hu⟩
theorem good_behind [Adr] {rs : List ResultVar} {N : List Nat} {fr : Tr AV} {frl : List (Nat × AV)} {md : Option AV} {os1 os : List Out} (hfr : frGet frl = tau fr) (h2 : ∀ o ∈ os1, ∃ a, behindC P rs N fr md o = some a ∧ ∀ x ∈ a, x ∈ os) : ∀ b s', DEnds os1 b s' → behindD P rs N (VEnds os) frl md b s' := by
  rintro b s' ⟨cs, hsim, hm⟩
  obtain ⟨a, ha, hsub⟩ := h2 _ hm
  have hk : Sim ⟨frl, s'.hp, s'.nx, keepHp N s'.lp⟩ (Cs.st ⟨fr, cs.hp, cs.nx, keepHp N cs.lp⟩) :=
    ⟨by rw [hfr]; exact (frGet_toL _).symm, hsim.hp, hsim.nx, by show keepHp N s'.lp = lpL (keepHp N cs.lp); rw [keepHp_lpL, hsim.lp]; rfl⟩
  have res : (match resC P (tau fr) cs.hp.get rs with | some vs => one (.val (resV vs) ⟨fr, cs.hp, cs.nx, keepHp N cs.lp⟩) | none => none) = some a →
      ∃ vs, resS P ⟨frl, s'.hp, s'.nx, keepHp N s'.lp⟩ rs = some vs ∧ VEnds os (.val (resV vs)) ⟨frl, s'.hp, s'.nx, keepHp N s'.lp⟩ := by
    intro ha
    split at ha
    · rename_i vs hv
      cases ha
      refine ⟨vs, ?_, _, hk, hsub _ (by simp)⟩
      rw [resS_sim hk]; exact hv
    · cases ha
  cases md with
  | none => exact res ha
  | some c =>
    cases b with
    | true => exact res ha
    | false =>
      cases ha
      exact ⟨_, hk, hsub _ (by simp)⟩
theorem good_leave [Adr] (hs : Sound P rec) {fn : Func} {N : List Nat} {f : FuncId} {avs : List AV} {os1 os : List Out} (h2 : ∀ o ∈ os1, ∃ a, leaveC P rec fn.results.toList N f avs o = some a ∧ ∀ x ∈ a, x ∈ os) {e : Exit} {s1 : St} (he : Ends os1 e s1) : leaveD P fn.results.toList N f avs (VEnds os) e s1 := by
  obtain ⟨cs, hsim, hm⟩ := he
  have go : ∀ (md : Option AV) (a : List Out), bnd (rec (.dcall f avs md ⟨cs.fr, cs.hp, cs.nx, keepHp N cs.lp⟩)) (behindC P fn.results.toList N cs.fr md) = some a → (∀ x ∈ a, x ∈ os) →
      DWX P f avs md (behindD P fn.results.toList N (VEnds os) s1.fr md) ⟨s1.fr, s1.hp, s1.nx, keepHp N s1.lp⟩ := by
    intro md a ha hsub
    obtain ⟨os2, k1, k2⟩ := bnd_ok ha
    refine dwx_sim (sim_keep hsim N) (dwx_mono (hs _ _ k1) (good_behind (by rw [hsim.fr]; exact frGet_toL _) fun o ho => ?_))
    obtain ⟨b, hb, hb2⟩ := k2 o ho
    exact ⟨b, hb, fun x hx => hsub _ (hb2 x hx)⟩
  rcases hm with hm | ⟨b, v, hm, hp, rfl⟩
  · obtain ⟨a, ha, hsub⟩ := h2 _ hm
    cases e with
    | normal => exact go none a ha hsub
    | ret => exact go none a ha hsub
    | exit id => cases ha
    | goto l => cases ha
    | panic ch => cases ha
    | outgrown => cases ha
  · obtain ⟨a, ha, hsub⟩ := h2 _ hm
    exact ⟨v, b, rfl, hp, go (some b) a ha hsub⟩
theorem good_leaveB [Adr] {fn : Func} {N : List Nat} {l : Nat} {os1 os : List Out} (h2 : ∀ o ∈ os1, ∃ a, leaveBC P fn.results.toList N l o = some a ∧ ∀ x ∈ a, x ∈ os) {e : Exit} {s1 : St} (he : Ends os1 e s1) : leaveB P fn.results.toList N l (VEnds os) e s1 := by
  obtain ⟨cs, hsim, hm⟩ := he
  have hlp : ∀ {y : LB}, alg cs.lp l = some y → alg s1.lp l = some y.l := fun {y} hy => by
    rw [hsim.lp]; exact alg_st hy
  have hk : ∀ {y : LB}, Sim ⟨s1.fr, s1.hp, s1.nx, clrLp N l y.l s1.lp⟩ (Cs.st ⟨cs.fr, cs.hp, cs.nx, clrLpC N l y cs.lp⟩) := fun {y} => by
    refine ⟨hsim.fr, hsim.hp, hsim.nx, ?_⟩
    show clrLp N l y.l s1.lp = lpL (clrLpC N l y cs.lp)
    unfold clrLp clrLpC
    rw [keepHp_lpL, hset_lpL, keepHp_lpL, hsim.lp]
    rfl
  have res : ∀ a, (match alg cs.lp l with
      | some y => match y.mp, resC P (tau cs.fr) cs.hp.get fn.results.toList with
        | some (.map _), some vs => match noItC l cs.lp with
          | true => one (.val (resV vs) ⟨cs.fr, cs.hp, cs.nx, clrLpC N l y cs.lp⟩)
          | false => none
        | _, _ => none
      | none => none) = some a → (∀ x ∈ a, x ∈ os) → ∃ y m, alg s1.lp l = some y ∧ y.mp = some (.map m) ∧ NoIt l s1.lp ∧ ∃ vs, resS P s1 fn.results.toList = some vs ∧ VEnds os (.val (resV vs)) ⟨s1.fr, s1.hp, s1.nx, clrLp N l y s1.lp⟩ := by
    intro a ha hsub
    split at ha
    rotate_left
    · cases ha
    rename_i y hy
    split at ha
    rotate_left
    · cases ha
    rename_i m vs hm hv
    split at ha
    rotate_left
    · cases ha
    rename_i hni
    cases ha
    exact ⟨y.l, m, hlp hy, hm, by rw [hsim.lp]; exact noItB_ok (noIt_st hni), vs, by rw [resS_sim hsim]; exact hv, _, hk, hsub _ (by simp)⟩
  rcases hm with hm | ⟨b, v, hm, hp, rfl⟩
  · obtain ⟨a, ha, hsub⟩ := h2 _ hm
    cases e with
    | normal => exact res a ha hsub
    | ret => exact res a ha hsub
    | exit id => cases ha
    | goto l => cases ha
    | panic ch => cases ha
    | outgrown => cases ha
  · obtain ⟨a, ha, hsub⟩ := h2 _ hm
    simp only [leaveBC] at ha
    split at ha
    rotate_left
    · cases ha
    rename_i y hy
    split at ha
    rotate_left
    · cases ha
    rename_i m hm
    split at ha
    rotate_left
    · cases ha
    rename_i hni
    cases ha
    exact ⟨y.l, m, hlp hy, hm, by rw [hsim.lp]; exact noItB_ok (noIt_st hni), v, b, rfl, hp, _, hk, hsub _ (by simp)⟩
theorem good_clear [Adr] (hs : Sound P rec) {fn : Func} {N : List Nat} {i : Nat} {o : Oper} {c : Call} {rest : List Nat} {y : Code} {s : Cs} {os : List Out} (hi : ops[i]? = some o) (hop : o.op = .defer c) (hc : c.callee = .builtin .clear) (hg0 : o.guard = none) (hd0 : o.dst = none) (h : clearC P rec fn N ops rest y s c = some os) : FWO P fn N ops (i :: rest) y (VEnds os) s.st := by
  have e : frGet s.st.fr = tau s.fr := wants_tau s
  unfold clearC at h
  split at h
  rotate_left
  · cases h
  rename_i x t ha ht
  split at h
  rotate_left
  · cases h
  rename_i kt et l hu hx
  split at h
  rotate_left
  · cases h
  rename_i y0 hy0
  split at h
  rotate_left
  · cases h
  rename_i m0 hm0
  obtain ⟨os1, h1, h2⟩ := bnd_ok h
  refine fwo_clear hi hop hc ha ht hu hg0 hd0 (by rw [e]; exact hx) (alg_st hy0) hm0 (awpo_mono (hs _ _ h1) fun e1 s1 he => ?_)
  have rest2 : e1 ≠ .normal → leaveB P fn.results.toList N l (VEnds os) e1 s1 := fun hne => by
    obtain ⟨cs, hsim, hm⟩ := he
    rcases hm with hm | ⟨b, v, hm, hp, rfl⟩
    · obtain ⟨a, ha, hsub⟩ := h2 _ hm
      have : leaveBC P fn.results.toList N l (.ex e1 cs) = some a := by
        cases e1 with
        | normal => exact absurd rfl hne
        | _ => exact ha
      exact good_leaveB (os1 := [.ex e1 cs]) (fun o ho => by simp only [List.mem_singleton] at ho; subst ho; exact ⟨a, this, hsub⟩) ⟨cs, hsim, .inl (by simp)⟩
    · obtain ⟨a, ha, hsub⟩ := h2 _ hm
      exact good_leaveB (os1 := [.pan b cs]) (fun o ho => by simp only [List.mem_singleton] at ho; subst ho; exact ⟨a, ha, hsub⟩) ⟨cs, hsim, .inr ⟨b, v, by simp, hp, rfl⟩⟩
  cases e1 with
  | normal =>
    refine ends_normal h2 (fun cs a ha hsub hsim => ?_) he
    refine awp_sim hsim (good_seqlike hs ha fun os2 k2 e2 s2 he2 => good_leaveB (fun o ho => ?_) he2)
    obtain ⟨b, hb1, hb2⟩ := k2 o ho
    exact ⟨b, hb1, fun x hx => hsub _ (hb2 x hx)⟩
  | exit id => exact rest2 (by simp)
  | goto l => exact rest2 (by simp)
  | ret => exact rest2 (by simp)
  | panic ch => exact rest2 (by simp)
  | outgrown => exact rest2 (by simp)
theorem good_fops [Adr] (hP : POk P) (hs : Sound P rec) {fn : Func} {N : List Nat} {l : List Nat} {y : Code} {s : Cs} {os : List Out} (h : stepFops P rec fn N ops l y s = some os) : FWO P fn N ops l y (VEnds os) s.st := by
  have e : frGet s.st.fr = tau s.fr := wants_tau s
  unfold stepFops at h
  split at h
  · exact fwo_nil (hs _ _ h)
  rename_i i rest
  split at h
  · cases h
  rename_i o hi
  split at h
  · rename_i c hop
    split at h
    · rename_i f hc hg0 hd0
      split at h
      · rename_i fid first cap hf
        split at h
        rotate_left
        · cases h
        rename_i hen
        have hent : Ent P fid := by
          unfold entB at hen
          split at hen
          · rename_i fn' hf'
            cases hb : fn'.body with
            | none => rw [hb] at hen; cases hen
            | some c' => exact ent_of hP hf' hb
          · cases hen
        obtain ⟨os1, h1, h2⟩ := bnd_ok h
        refine fwo_defer hi hop hc hg0 hd0 (by rw [e]; exact hf) hent ?_
        rw [e]
        refine awpo_mono (hs _ _ h1) fun e1 s1 he => ?_
        have rest2 : e1 ≠ .normal → leaveD P fn.results.toList N fid (first ++ c.args.toList.map (evalO (tau s.fr)) ++ cap) (VEnds os) e1 s1 := fun hne => by
          obtain ⟨cs, hsim, hm⟩ := he
          rcases hm with hm | ⟨b, v, hm, hp, rfl⟩
          · obtain ⟨a, ha, hsub⟩ := h2 _ hm
            have : leaveC P rec fn.results.toList N fid (first ++ c.args.toList.map (evalO (tau s.fr)) ++ cap) (.ex e1 cs) = some a := by
              cases e1 with
              | normal => exact absurd rfl hne
              | _ => exact ha
            exact good_leave hs (os1 := [.ex e1 cs]) (fun o ho => by simp only [List.mem_singleton] at ho; subst ho; exact ⟨a, this, hsub⟩) ⟨cs, hsim, .inl (by simp)⟩
          · obtain ⟨a, ha, hsub⟩ := h2 _ hm
            exact good_leave hs (os1 := [.pan b cs]) (fun o ho => by simp only [List.mem_singleton] at ho; subst ho; exact ⟨a, ha, hsub⟩) ⟨cs, hsim, .inr ⟨b, v, by simp, hp, rfl⟩⟩
        cases e1 with
        | normal =>
          refine ends_normal h2 (fun cs a ha hsub hsim => ?_) he
          refine awp_sim hsim (good_seqlike hs ha fun os2 k2 e2 s2 he2 => good_leave hs (fun o ho => ?_) he2)
          obtain ⟨b, hb1, hb2⟩ := k2 o ho
          exact ⟨b, hb1, fun x hx => hsub _ (hb2 x hx)⟩
        | exit id => exact rest2 (by simp)
        | goto l => exact rest2 (by simp)
        | ret => exact rest2 (by simp)
        | panic ch => exact rest2 (by simp)
        | outgrown => exact rest2 (by simp)
      · cases h
    · rename_i hc hg0 hd0
      exact good_clear hs hi hop hc hg0 hd0 h
    · cases h
  · rename_i hnd
    split at h
    · rename_i se hse
      refine fwo_op (ε := true) (ans := none) (se := se) hi (by rw [e, show alg s.st.hp = s.hp.get from alg_toL _]; exact hse) (ask_ok hs asked_none hse) ?_
      have g := hs _ _ h
      have hsim : Sim ⟨frPut s.st.fr se.d se.v, hsets s.st.hp se.wr, s.st.nx + 8, s.st.lp⟩ (Cs.st ⟨putD s.fr se.d se.v, putW s.hp se.wr, s.nx + 8, s.lp⟩) := sim_fr (by rw [← alg_toL]; exact alg_putW _ _) rfl
      exact fun w0 wE w FE F φE φ a ho hg hf => g w0 wE w FE F φE φ a ho hg (hsim.fits hf)
    · cases h
theorem good_call [Adr] (hP : POk P) (hs : Sound P rec) {f : FuncId} {args : List AV} {s : Cs} {os : List Out} (h : stepCall P rec f args s = some os) : EWX P f args (VEnds os) s.st := by
  unfold stepCall at h
  split at h
  · cases h
  rename_i fn hf
  split at h
  · cases h
  rename_i c hb
  split at h
  · rename_i hl
    have hn : s.st.lp.map (·.1) = s.lp.map (·.1) := lpL_names s.lp
    refine ewx_of_fwx hf hb (hP f fn hf) (Nat.le_of_ble_eq_true hl) ?_
    rw [hn]
    have hsim : Sim ⟨enumFr 0 args, s.st.hp, s.st.nx, s.st.lp⟩ (Cs.st ⟨enumT 0 args, s.hp, s.nx, s.lp⟩) := ⟨by rw [frGet_enum]; exact (frGet_toL _).symm, rfl, rfl, rfl⟩
    exact fwx_sim hsim (hs _ _ h)
  · cases h
theorem good_end [Adr] {rs : List ResultVar} {b : Bool} {os1 os : List Out} (h2 : ∀ o ∈ os1, ∃ a, endC P rs b o = some a ∧ ∀ x ∈ a, x ∈ os) {e : Exit} {s1 : St} (he : Ends os1 e s1) : endK P rs (DEnds os b) e s1 := by
  obtain ⟨cs, hsim, hm⟩ := he
  have res : ∀ a, (match resC P (tau cs.fr) cs.hp.get rs with | some _ => one (.rec' b cs) | none => none) = some a → (∀ x ∈ a, x ∈ os) → (∃ vs, resS P s1 rs = some vs) ∧ DEnds os b s1 := by
    intro a ha hsub
    split at ha
    · rename_i vs hv
      cases ha
      exact ⟨⟨vs, by rw [resS_sim hsim]; exact hv⟩, cs, hsim, hsub _ (by simp)⟩
    · cases ha
  rcases hm with hm | ⟨c, v, hm, hp, rfl⟩
  · obtain ⟨a, ha, hsub⟩ := h2 _ hm
    cases e with
    | normal => exact res a ha hsub
    | ret => exact res a ha hsub
    | exit id => cases ha
    | goto l => cases ha
    | panic ch => cases ha
    | outgrown => cases ha
  · obtain ⟨a, ha, hsub⟩ := h2 _ hm
    cases ha
theorem recOf_ok {c y : Code} {d : Nat} (h : recOf c = some (d, y)) : ∃ id ops o k, c = .seq (.region id ops false) y ∧ ops.toList = [o] ∧ o.op = .call k ∧ o.guard = none ∧ o.dst = some d ∧ k.callee = .builtin .recover ∧ k.args.toList = [] := by
  unfold recOf at h
  split at h
  · rename_i id ops y'
    split at h
    · rename_i o ho
      split at h
      · rename_i k d' h1 h2 h3
        split at h
        · rename_i h4 h5
          cases h
          exact ⟨id, ops, o, k, rfl, ho, h1, h2, h3, h4, h5⟩
        · cases h
      · cases h
    · cases h
  · cases h
theorem awpd_sim [Adr] {c : Code} {K : Exit → St → Prop} {s t : St} (e : Sim s t) (h : AWPd P nt c K t) : AWPd P nt c K s := fun B w0 w F φ a hf hd => h B w0 w F φ a (e.fits hf) hd
theorem awpod_sim [Adr] {l : List Nat} {K : Exit → St → Prop} {s t : St} (e : Sim s t) (h : AWPOd P nt ops l K t) : AWPOd P nt ops l K s := fun B w0 w F φ a hf hd => h B w0 w F φ a (e.fits hf) hd
theorem good_dcall [Adr] (hP : POk P) (hs : Sound P rec) {f : FuncId} {args : List AV} {md : Option AV} {s : Cs} {os : List Out} (h : stepDcall P rec f args md s = some os) : DWX P f args md (DEnds os) s.st := by
  unfold stepDcall at h
  split at h
  · cases h
  rename_i fn hf
  split at h
  · cases h
  rename_i c hb
  split at h
  rotate_left
  · cases h
  rename_i hl
  have hl := Nat.le_of_ble_eq_true hl
  split at h
  · rename_i d y hr
    obtain ⟨id, ops, o, k, rfl, ho, q1, q2, q3, q4, q5⟩ := recOf_ok hr
    split at h
    · rename_i hd
      have hd := Nat.le_of_ble_eq_true hd
      obtain ⟨os1, h1, h2⟩ := bnd_ok h
      have hops : ops.size = 1 := by rw [← Array.length_toList, ho]; rfl
      have h0 : ops[0]? = some o := by rw [← Array.getElem?_toList, ho]; rfl
      obtain ⟨callee, kargs, ats⟩ := k
      simp only at q4 q5
      subst q4
      have hka : kargs = #[] := by apply Array.ext'; simpa using q5
      subst hka
      refine dwx_rec (ty := 0) (ty2 := 0) hf hb (hP f fn hf) hl hops h0 q1 q2 q3 hd ?_
      have hsim : Sim ⟨(d, md.getD .nili) :: enumFr 0 args, s.st.hp, s.st.nx, s.st.lp⟩ (Cs.st ⟨(enumT 0 args).put d (nilOr md), s.hp, s.nx, s.lp⟩) := by
        refine ⟨?_, rfl, rfl, rfl⟩
        show _ = frGet ((enumT 0 args).put d _).toL
        rw [frGet_toL, tau_put, ← frGet_enum]
        funext t
        rw [frGet_cons]
        unfold fupd
        cases md <;> rfl
      exact awpd_sim hsim (awpd_mono (hs _ _ h1) fun e s1 he => good_end h2 he)
    · cases h
  · obtain ⟨os1, h1, h2⟩ := bnd_ok h
    refine dwx_of hf hb (hP f fn hf) hl ?_
    have hsim : Sim ⟨enumFr 0 args, s.st.hp, s.st.nx, s.st.lp⟩ (Cs.st ⟨enumT 0 args, s.hp, s.nx, s.lp⟩) := ⟨by rw [frGet_enum]; exact (frGet_toL _).symm, rfl, rfl, rfl⟩
    exact awpd_sim hsim (awpd_mono (hs _ _ h1) fun e s1 he => good_end h2 he)
theorem good_dcode [Adr] (hs : Sound P rec) {c : Code} {s : Cs} {os : List Out} (h : stepDcode rec nt c s = some os) : AWPd P nt c (Ends os) s.st := by
  unfold stepDcode at h
  split at h
  · cases h; exact awpd_skip (Ends.one (Sim.refl _))
  · cases h; exact awpd_exit (Ends.one (Sim.refl _))
  · cases h; exact awpd_ret (Ends.one (Sim.refl _))
  · obtain ⟨os1, h1, h2⟩ := bnd_ok h
    refine awpd_seq (awpd_mono (hs _ _ h1) fun e s1 he => ?_)
    cases e with
    | normal =>
      refine ends_normal h2 (fun cs a ha hsub hsim => ?_) he
      exact awpd_sim hsim (awpd_mono (hs _ _ ha) fun _ _ k => k.mono hsub)
    | exit id => exact ends_pass h2 (fun _ => rfl) (fun _ _ => rfl) he
    | goto l => exact ends_pass h2 (fun _ => rfl) (fun _ _ => rfl) he
    | ret => exact ends_pass h2 (fun _ => rfl) (fun _ _ => rfl) he
    | panic ch => exact ends_pass h2 (fun _ => rfl) (fun _ _ => rfl) he
    | outgrown => exact ends_pass h2 (fun _ => rfl) (fun _ _ => rfl) he
  · have e : frGet s.st.fr = tau s.fr := frGet_toL _
    split at h
    · rename_i hb; exact awpd_cond (b := true) (by rw [e]; exact hb) (hs _ _ h)
    · rename_i hb; exact awpd_cond (b := false) (by rw [e]; exact hb) (hs _ _ h)
    · cases h
  · rename_i id c
    obtain ⟨os1, h1, h2⟩ := bnd_ok h
    refine awpd_block (awpd_mono (hs _ _ h1) fun e s1 he => ?_)
    cases e with
    | exit i =>
      simp only [blockK]
      obtain ⟨cs, h1, hm⟩ := he
      rcases hm with hm | ⟨x, v, hm, -, hc⟩
      · obtain ⟨a, ha, hsub⟩ := h2 _ hm
        simp only at ha
        split
        · rename_i e
          rw [show Nat.beq i id = true by subst e; exact Nat.beq_refl _] at ha
          cases ha
          exact ⟨cs, h1, .inl (hsub _ (by simp))⟩
        · rename_i e
          rw [show Nat.beq i id = false by cases q : Nat.beq i id with | false => rfl | true => exact absurd (Nat.eq_of_beq_eq_true q) e] at ha
          cases ha
          exact ⟨cs, h1, .inl (hsub _ (by simp))⟩
      · cases hc
    | normal => exact ends_pass h2 (fun _ => rfl) (fun _ _ => rfl) he
    | goto l => exact ends_pass h2 (fun _ => rfl) (fun _ _ => rfl) he
    | ret => exact ends_pass h2 (fun _ => rfl) (fun _ _ => rfl) he
    | panic ch => exact ends_pass h2 (fun _ => rfl) (fun _ _ => rfl) he
    | outgrown => exact ends_pass h2 (fun _ => rfl) (fun _ _ => rfl) he
  · exact awpd_ops (hs _ _ h)
  · cases h
theorem good_dops [Adr] (hs : Sound P rec) {l : List Nat} {s : Cs} {os : List Out} (h : stepDops P rec nt ops l s = some os) : AWPOd P nt ops l (Ends os) s.st := by
  have e : frGet s.st.fr = tau s.fr := wants_tau s
  unfold stepDops at h
  split at h
  · cases h; exact awpod_nil (Ends.one (Sim.refl _))
  rename_i i rest
  split at h
  · cases h
  rename_i o hi
  split at h
  · split at h
    · rename_i se hse
      refine awpod_op (ε := true) (ans := none) (se := se) hi (by rw [e, show alg s.st.hp = s.hp.get from alg_toL _]; exact hse) (ask_ok hs asked_none hse) ?_
      exact awpod_sim (sim_fr (by rw [← alg_toL]; exact alg_putW _ _) rfl) (hs _ _ h)
    · cases h
  · rename_i f args hc
    split at h
    · rename_i hw
      simp only [Bool.and_eq_true] at hw
      split at h
      · rename_i fid first cap hf
        split at h
        · rename_i r s' hr
          have g := hs _ _ hr
          refine awpod_call hi hc (by rw [e]; exact hw.1) hw.2 (by rw [e]; exact hf) (ewp_of_ewx (by rw [e]; exact g) (fun r' s2 hv => ?_) (fun a s2 hv => ?_))
          · obtain ⟨cs, hsim, hm⟩ := hv
            simp only [List.mem_singleton, Out.val.injEq] at hm
            obtain ⟨rfl, rfl⟩ := hm
            have hq : Sim ⟨frPut s.st.fr o.dst r', s2.hp, s2.nx, s2.lp⟩ (Cs.st ⟨putD s.fr o.dst r', cs.hp, cs.nx, cs.lp⟩) := ⟨frGet_put' _ _ _, hsim.hp, hsim.nx, hsim.lp⟩
            exact awpod_sim hq (hs _ _ h)
          · obtain ⟨cs, hsim, hm⟩ := hv
            simp at hm
        · cases h
      · cases h
    · cases h
theorem expo_ok [Adr] {ns : List Nat} {v r : AV} {blks : List ABlk} {s : St} (h : expo ns v (alg s.hp) = some (r, blks)) : Returns r blks v s := by
  unfold expo at h
  split at h
  · rename_i r' rd blks' rd' h1 h2
    split at h
    · rename_i hc; cases h
      simp only [Bool.and_eq_true, List.all_eq_true, Bool.not_eq_true', List.contains_eq_mem, decide_eq_false_iff_not] at hc
      exact ⟨ns, r, rd, rd', h1, h2, nodupB_ok hc.1.2, hc.2, AV.Le.refl _⟩
    · cases h
  · cases h
theorem st_zero : Cs.st ⟨.e, .e, 0, []⟩ = ⟨[], [], 0, []⟩ := rfl
theorem expX_ok {v : AV} {s : Cs} {p : AV × List ABlk} (h : expX v s = some p) : ∃ ns, expo ns v s.hp.get = some p := by
  unfold expX at h
  split at h
  · rename_i q hq; cases h; exact ⟨_, hq⟩
  · exact ⟨_, h⟩
theorem agree_ok [Adr] {r : AV} {blks : List ABlk} {v : AV} {s : Cs} : ∀ os : List Out, agreeX r blks os = true → Out.val v s ∈ os → expX v s = some (r, blks)
  | [], _, hm => by cases hm
  | o :: os, h, hm => by
    cases o with
    | val v0 s0 =>
      simp only [agreeX] at h
      split at h
      rotate_left
      · cases h
      rename_i r' blks' hx
      split at h
      rotate_left
      · cases h
      rename_i h1
      split at h
      rotate_left
      · cases h
      rename_i h2
      rcases List.mem_cons.1 hm with e | e
      · cases e
        rw [hx, avB_ok 40 _ _ h1, listB_ok blkB_ok _ _ h2]
      · exact agree_ok os h e
    | _ => simp [agreeX] at h
theorem agree_no {r : AV} {blks : List ABlk} {a : AV} {s : Cs} : ∀ os : List Out, agreeX r blks os = true → Out.pan a s ∈ os → False
  | [], _, hm => by cases hm
  | o :: os, h, hm => by
    cases o with
    | val v0 s0 =>
      simp only [agreeX] at h
      split at h
      rotate_left
      · cases h
      split at h
      rotate_left
      · cases h
      split at h
      rotate_left
      · cases h
      rcases List.mem_cons.1 hm with e | e
      · cases e
      · exact agree_no os h e
    | _ => simp [agreeX] at h
theorem good_step [Adr] (hP : POk P) {con : Cons} (hc : COk P con) (hs : Sound P rec) : Sound P (stepJ P con rec) := by
  intro j os h
  cases j with
  | code nt c s => exact good_code hs h
  | loop nt c s => exact good_loop hs h
  | inscope nt c r s => exact good_scoped hs h
  | ops nt ops l s =>
    cases l with
    | nil => cases h; exact awpo_nil (Ends.one (Sim.refl _))
    | cons i rest => exact good_ops hs hc h
  | draw nt ops c l s => exact fun h1 h2 => good_draw hs h1 h2 h
  | every nt ops fuel listed s => exact good_every hs h
  | call f args s => exact good_call hP hs h
  | pcall f args =>
    intro r blks hr
    subst hr
    simp only [stepJ, stepPcall] at h
    split at h
    · rename_i g hg
      split at h
      · rename_i r' blks' h1
        cases h
        exact hc.pure f g hg _ _ _ h1
      · cases h
    · cases h
    · cases h
    · split at h
      · rename_i v s os' h1
        have g1 := hs _ _ h1
        split at h
        rotate_left
        · cases h
        rename_i r0 blks0 hx0
        split at h
        rotate_left
        · cases h
        rename_i hag
        cases h
        refine pcall_of_ewp (ewp_of_ewx (by rw [← st_zero]; exact g1) (fun r' s2 hv => ?_) (fun a s2 hv => ?_))
        · obtain ⟨cs, hsim, hm⟩ := hv
          have hx : expX r' cs = some (r, blks) := by
            rcases List.mem_cons.1 hm with hm | hm
            · cases hm; exact hx0
            · exact agree_ok os' hag hm
          obtain ⟨ns, hn⟩ := expX_ok hx
          refine expo_ok (ns := ns) ?_
          rw [hsim.hp]
          show expo ns _ (alg cs.hp.toL) = _
          rw [alg_toL]; exact hn
        · obtain ⟨cs, hsim, hm⟩ := hv
          rcases List.mem_cons.1 hm with hm | hm
          · cases hm
          · exact (agree_no os' hag hm).elim
      · cases h
  | fcode fn N c s => exact good_fcode hs h
  | fops fn N ops l y s => exact good_fops hP hs h
  | dcall f args md s => exact good_dcall hP hs h
  | dcode nt c s => exact good_dcode hs h
  | dops nt ops l s => exact good_dops hs h
theorem run_sound [Adr] (hP : POk P) {con : Cons} (hc : COk P con) : ∀ n, Sound P (run P con n)
  | 0 => fun j os h => by rw [run_zero] at h; cases h
  | n + 1 => fun j os h => by rw [run_succ] at h; exact good_step hP hc (run_sound hP hc n) j os h
theorem run_pcall [Adr] (hP : POk P) {con : Cons} (hc : COk P con) {n : Nat} {f : FuncId} {args : List AV} {r : AV} {blks : List ABlk} (h : run P con n (.pcall f args) = some [.ans r blks]) : PCall P f args r blks := run_sound hP hc n _ _ h _ _ rfl
end
end Go.AM
