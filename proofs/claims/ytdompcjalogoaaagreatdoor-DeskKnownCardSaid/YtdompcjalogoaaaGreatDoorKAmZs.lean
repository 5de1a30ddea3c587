/- A text of the proof. -/
import Derived.Test.YtdompcjalogoaaaGreatDoorKAmZr
set_option linter.unusedSimpArgs false
set_option linter.unusedVariables false
namespace Go.AM
open Go Go.RowKit
section
variable {P : Program} {rec : Job → R} {nt : Nat} {ops : Array Oper}
theorem wants_tau [Adr] (s : Cs) : frGet s.st.fr = tau s.fr := frGet_toL _
theorem sim_fr [Adr] {s : Cs} {d : Option Nat} {v : AV} {hp : List (Nat × ABlk)} {hp' : Tr ABlk} {nx : Nat} {lp : List (Nat × LBlk)} {lp' : List (Nat × LB)} (e1 : alg hp = hp'.get) (e2 : lp = lpL lp') : Sim ⟨frPut s.st.fr d v, hp, nx, lp⟩ (Cs.st ⟨putD s.fr d v, hp', nx, lp'⟩) :=
  ⟨frGet_put' _ _ _, by rw [e1]; exact (alg_toL _).symm, rfl, e2⟩
theorem good_plain [Adr] (hs : Sound P rec) {o : Oper} {i : Nat} {rest : List Nat} {s : Cs} {a : Option (AV × List ABlk)} {os : List Out} (hi : ops[i]? = some o) (ha : Asked rec P o (tau s.fr) s.hp.get a) (h : plainC P rec nt ops o rest s a = some os) : AWPO P nt ops (i :: rest) (Ends os) s.st := by
  unfold plainC at h
  split at h
  · rename_i se hse
    refine awpo_op (ε := true) (ans := a) (se := se) hi (by rw [wants_tau, show alg s.st.hp = s.hp.get from alg_toL _]; exact hse) (ask_ok hs ha hse) ?_
    exact awpo_sim (sim_fr (by rw [← alg_toL]; exact alg_putW _ _) rfl) (hs _ _ h)
  · cases h
theorem asked_call [Adr] {o : Oper} {f : Operand} {args : List Operand} {τ : Nat → AV} {η : Heap} (hc : isCall o.op = some (f, args)) : Asked rec P o τ η (askF rec (evalO τ f) (args.map (evalO τ)) η) := by
  refine ⟨fun f' args' h r hr => ?_, fun h => by rw [hc] at h; cases h⟩
  rw [hc] at h; cases h
  exact hr
theorem asked_inv [Adr] {o : Oper} {f : AV} {args : List AV} {τ : Nat → AV} {η : Heap} (hc : isInv P o.op τ = some (f, args)) : Asked rec P o τ η (askF rec f args η) := by
  refine ⟨fun f' args' h r hr => ?_, fun _ f' args' h r hr => ?_⟩
  · exfalso
    unfold isInv at hc
    unfold isCall at h
    split at hc
    · rename_i c hop
      rw [hop] at h
      simp only at h
      split at h
      · rename_i g hg
        rw [hg] at hc
        cases hc
      · cases h
    · cases hc
  · rw [hc] at h; cases h
    exact hr
theorem good_after [Adr] (hs : Sound P rec) {rest : List Nat} {d : Option Nat} {s : Cs} {os1 os : List Out} (h2 : ∀ o ∈ os1, ∃ a, afterC rec nt ops rest d s o = some a ∧ ∀ x ∈ a, x ∈ os) : ∀ r s', VEnds os1 r s' → afterX P nt ops rest d (Ends os) s.st r s' := by
  intro r s' hv
  cases r with
  | val r =>
    obtain ⟨cs, hsim, hm⟩ := hv
    obtain ⟨a, ha, hsub⟩ := h2 _ hm
    simp only [afterC] at ha
    have g := hs _ _ ha
    exact awpo_sim (sim_fr (by rw [hsim.hp]; exact alg_toL _) hsim.lp |> fun q => by rw [show s'.nx = cs.nx from hsim.nx]; exact q) (awpo_mono g fun _ _ k => k.mono hsub)
  | pan b =>
    obtain ⟨cs, hsim, hm⟩ := hv
    obtain ⟨a, ha, hsub⟩ := h2 _ hm
    simp only [afterC] at ha
    cases ha
    intro v hv
    refine ⟨⟨s.fr, cs.hp, cs.nx, cs.lp⟩, ⟨rfl, hsim.hp, hsim.nx, hsim.lp⟩, .inr ⟨b, v, hsub _ (by simp), hv, rfl⟩⟩
theorem good_callC [Adr] (hs : Sound P rec) {con : Cons} (hc : COk P con) {o : Oper} {i : Nat} {rest : List Nat} {s : Cs} {os : List Out} {f : Operand} {args : List Operand} (hi : ops[i]? = some o) (hcl : isCall o.op = some (f, args)) (hw : wants nt ops o (tau s.fr) = true)
    (h : callC P con rec nt ops o rest s (evalO (tau s.fr) f) (args.map (evalO (tau s.fr))) = some os) : AWPO P nt ops (i :: rest) (Ends os) s.st := by
  have e : frGet s.st.fr = tau s.fr := wants_tau s
  unfold callC at h
  split at h
  · cases h
  rename_i hd
  split at h
  · rename_i fid first cap hf
    split at h
    · rename_i g hg
      split at h
      · rename_i r s' hr
        refine awpo_callX hi hcl (by rw [e]; exact hw) hd (by rw [e]; exact hf) (ewx_of_ewp ?_)
        rw [e]
        have := hc.inp _ _ hg _ _ _ _ hr
        refine ⟨this.1, fun w0 w F φ vs hm hgl hv => (this.2 w0 w F φ vs hm hgl hv).mono ?_⟩
        rintro en w' ⟨v, r', s2, φ', F', rfl, k1, k2, k3, rfl, hsim⟩
        exact ⟨v, r', s2, φ', F', rfl, k1, k2, k3, awpo_sim (sim_fr (by rw [hsim.hp]; exact alg_toL _) hsim.lp |> fun q => by rw [show s2.nx = s'.nx from hsim.nx]; exact q) (hs _ _ h)⟩
      · obtain ⟨os1, h1, h2⟩ := bnd_ok h
        refine awpo_callX hi hcl (by rw [e]; exact hw) hd (by rw [e]; exact hf) ?_
        rw [e]
        exact ewx_mono (hs _ _ h1) (good_after hs h2)
    · rename_i g hg
      refine good_plain hs hi ?_ h
      rw [← hf]
      exact asked_call hcl
    · rename_i g hg
      split at h
      · rename_i r hr
        refine awpo_ext hi hcl (by rw [e]; exact hw) hd (by rw [e]; exact hf) (fun w F φ vs hv => ?_) (awpo_sim (sim_fr (alg_toL _) rfl) (hs _ _ h))
        rw [e] at hv
        exact hc.ext _ _ hg _ _ hr w F φ vs hv
      · cases h
    · obtain ⟨os1, h1, h2⟩ := bnd_ok h
      refine awpo_callX hi hcl (by rw [e]; exact hw) hd (by rw [e]; exact hf) ?_
      rw [e]
      exact ewx_mono (hs _ _ h1) (good_after hs h2)
  ·
    rename_i l hf
    split at h
    rotate_left
    · cases h
    rename_i x hx
    split at h
    rotate_left
    · cases h
    rename_i hmp
    split at h
    rotate_left
    · cases h
    rename_i hl
    simp only [Bool.and_eq_true, decide_eq_true_eq, List.length_map] at hl
    have hx' : alg s.st.lp l = some x.l := by
      show alg (lpL s.lp) l = _
      rw [alg_lpL, hx]; rfl
    refine awpo_yield hi hcl (by rw [e]; exact hw) hd (by rw [e]; exact hf) hx' hmp hl.1 hl.2 ?_
    obtain ⟨os1, h1, h2⟩ := bnd_ok h
    have hsim0 : Sim ⟨frPuts x.l.fr x.l.ps (args.map (evalO (frGet s.st.fr))), s.st.hp, s.st.nx, s.st.lp⟩ (Cs.st ⟨putsT x.fr x.ps (args.map (evalO (tau s.fr))), s.hp, s.nx, s.lp⟩) := by
      refine ⟨?_, rfl, rfl, rfl⟩
      rw [e]
      show frGet (frPuts x.fr.toL x.ps _) = frGet (putsT x.fr x.ps _).toL
      rw [frGet_toL]
      exact frGet_puts _ _ _ _ (frGet_toL _)
    refine awp_sim hsim0 (awp_mono (hs _ _ h1) fun e1 s1 he => ?_)
    have bad : e1 ≠ .normal → False := fun hne => by
      obtain ⟨cs, -, hm⟩ := he
      rcases hm with hm | ⟨b, v, hm, -, -⟩
      · obtain ⟨a, ha, -⟩ := h2 _ hm
        unfold assignC at ha
        split at ha
        · rename_i hq; cases hq; exact hne rfl
        · cases ha
      · obtain ⟨a, ha, -⟩ := h2 _ hm
        cases ha
    cases e1 with
    | normal =>
      refine ends_normal h2 (fun cs a ha hsub hsim => ?_) he
      simp only [assignC] at ha
      split at ha
      rotate_left
      · cases ha
      rename_i y hy
      split at ha
      rotate_left
      · cases ha
      rename_i hst
      have hy' : alg s1.lp l = some y.l := by
        rw [hsim.lp]
        show alg (lpL cs.lp) l = _
        rw [alg_lpL, hy]; rfl
      refine ⟨y.l, hy', hst, ?_⟩
      obtain ⟨os2, k1, k2⟩ := bnd_ok ha
      have hsim1 : Sim { s1 with lp := hset s1.lp l { y.l with st := .busy, pend := y.l.pend } } (Cs.st { cs with lp := hset cs.lp l { y with st := .busy } }) := by
        refine ⟨hsim.fr, hsim.hp, hsim.nx, ?_⟩
        show hset s1.lp l _ = lpL (hset cs.lp l _)
        rw [hset_lpL, hsim.lp]; rfl
      refine awp_sim hsim1 (awp_mono (hs _ _ k1) fun e2 s2 he2 => ?_)
      obtain ⟨cs2, hsim2, hm⟩ := he2
      rcases hm with hm | ⟨b, v, hm, -, -⟩
      rotate_left
      · obtain ⟨a2, ha2, -⟩ := k2 _ hm
        cases ha2
      obtain ⟨a2, ha2, hsub2⟩ := k2 _ hm
      simp only [roundC] at ha2
      split at ha2
      rotate_left
      · cases ha2
      rename_i b s3 hr
      unfold round at hr
      split at hr
      rotate_left
      · cases hr
      rename_i y2 hy2
      have hy2' : alg s2.lp l = some y2.l := by
        rw [hsim2.lp]
        show alg (lpL cs2.lp) l = _
        rw [alg_lpL, hy2]; rfl
      have go : ∀ (b : Bool) (z : LB), rec (.ops nt ops rest ⟨putD s.fr o.dst (.bool b), cs2.hp, cs2.nx, hset cs2.lp l z⟩) = some a2 → AWPO P nt ops rest (Ends os) ⟨frPut s.st.fr o.dst (.bool b), s2.hp, s2.nx, hset s2.lp l z.l⟩ := by
        intro b z hz
        have hq : Sim ⟨frPut s.st.fr o.dst (.bool b), s2.hp, s2.nx, hset s2.lp l z.l⟩ (Cs.st ⟨putD s.fr o.dst (.bool b), cs2.hp, cs2.nx, hset cs2.lp l z⟩) :=
          ⟨frGet_put' _ _ _, hsim2.hp, hsim2.nx, by show hset s2.lp l z.l = lpL (hset cs2.lp l z); rw [hset_lpL, hsim2.lp]; rfl⟩
        exact awpo_sim hq (awpo_mono (hs _ _ hz) fun _ _ k => k.mono fun x hx => hsub _ (hsub2 x hx))
      cases e2 with
      | normal => cases hr; exact ⟨y2.l, hy2', go true _ ha2⟩
      | ret => cases hr; exact ⟨y2.l, hy2', go false _ ha2⟩
      | exit id => cases hr; exact ⟨y2.l, hy2', go false _ ha2⟩
      | goto t => cases hr; exact ⟨y2.l, hy2', go false _ ha2⟩
      | panic ch => cases hr
      | outgrown => cases hr
    | exit id => exact (bad (by simp)).elim
    | goto l => exact (bad (by simp)).elim
    | ret => exact (bad (by simp)).elim
    | panic ch => exact (bad (by simp)).elim
    | outgrown => exact (bad (by simp)).elim
  · cases h
theorem good_invC [Adr] (hs : Sound P rec) {con : Cons} {o : Oper} {i : Nat} {rest : List Nat} {s : Cs} {os : List Out} (hi : ops[i]? = some o) (hw : wants nt ops o (tau s.fr) = true) (h : invC con P rec nt ops o rest s = some os) : AWPO P nt ops (i :: rest) (Ends os) s.st := by
  have e : frGet s.st.fr = tau s.fr := wants_tau s
  unfold invC at h
  split at h
  · cases h
  rename_i hd
  split at h
  rotate_left
  · cases h
  rename_i f args hinv
  split at h
  rotate_left
  · cases h
  rename_i fid
  split at h
  · cases h
  · exact good_plain hs hi (asked_inv hinv) h
  · cases h
  · obtain ⟨os1, h1, h2⟩ := bnd_ok h
    exact awpo_invX hi (by rw [e]; exact hinv) (by rw [e]; exact hw) hd (ewx_mono (hs _ _ h1) (good_after hs h2))
theorem good_pur [Adr] {l : List Nat} {x : Operand} {s s' : Cs} {K : Exit → St → Prop} (h : purC s x = some s') (hk : AWPO P nt ops l K s'.st) : AWPO P nt ops l K s.st := by
  unfold purC at h
  split at h
  · rename_i t
    split at h
    · cases h; exact hk
    · split at h
      · rename_i v rd hp
        cases h
        have hsim : Sim ⟨(t, v) :: s.st.fr, hsets s.st.hp (freezeAll (alg s.st.hp) rd), s.st.nx, s.st.lp⟩ (Cs.st ⟨s.fr.put t v, putW s.hp (freezeAll s.hp.get rd), s.nx, s.lp⟩) := by
          refine ⟨?_, ?_, rfl, rfl⟩
          · show frGet ((t, v) :: s.fr.toL) = frGet (s.fr.put t v).toL
            rw [frGet_toL, tau_put, ← frGet_toL]
            funext k
            rw [frGet_cons]; rfl
          · rw [show alg s.st.hp = s.hp.get from alg_toL _]
            exact alg_putW _ _
        exact awpo_pur (t := t) (v := v) (rd := rd) (by rw [wants_tau, show alg s.st.hp = s.hp.get from alg_toL _]; exact hp) (awpo_sim hsim hk)
      · cases h
  · cases h; exact hk
theorem alg_st [Adr] {s : Cs} {l : Nat} {y : LB} (h : alg s.lp l = some y) : alg s.st.lp l = some y.l := by
  show alg (lpL s.lp) l = _
  rw [alg_lpL, h]; rfl
theorem hset_st [Adr] {s : Cs} (l : Nat) (y : LB) : hset s.st.lp l y.l = lpL (hset s.lp l y) := by
  rw [hset_lpL]; rfl
theorem noIt_lp {l : Nat} : ∀ {lp : List (Nat × LB)}, noItC l lp = true → noItB l (lpL lp) = true
  | [], _ => rfl
  | (k, x) :: lp, h => by
    simp only [noItC] at h
    simp only [lpL, List.map_cons, noItB]
    show (match x.mp with | some (.mit l0 _ _) => if l0 = l then false else noItB l (lpL lp) | _ => noItB l (lpL lp)) = true
    split at h
    · rename_i l0 a b hm
      rw [hm]
      simp only
      split at h
      · cases h
      · rename_i q
        rw [if_neg (fun e => by subst e; simp at q)]
        exact noIt_lp h
    · rename_i hm
      split
      · rename_i l0 a b hm2
        exact absurd hm2 (hm l0 a b)
      · exact noIt_lp h
theorem noIt_st [Adr] {s : Cs} {l : Nat} (h : noItC l s.lp = true) : noItB l s.st.lp = true := noIt_lp h
theorem nextAll_ok {f : AV × AV → List (AV × AV) → R} {all : List (AV × AV)} : ∀ (l : List (AV × AV)) (j0 : Nat) (os : List Out), nextAll f all j0 l = some os → ∀ j kv, l[j]? = some kv → ∃ a, f kv (dropAt all (j0 + j)) = some a ∧ ∀ x ∈ a, x ∈ os
  | [], j0, os, _, j, kv, hj => by simp at hj
  | kv0 :: l, j0, os, h, j, kv, hj => by
    simp only [nextAll] at h
    split at h
    rotate_left
    · cases h
    rename_i a ha
    split at h
    rotate_left
    · cases h
    rename_i b hb
    cases h
    cases j with
    | zero =>
      simp at hj; subst hj
      exact ⟨a, ha, fun x hx => List.mem_append_left _ hx⟩
    | succ j =>
      simp at hj
      obtain ⟨c, h1, h2⟩ := nextAll_ok l (j0 + 1) b hb j kv hj
      exact ⟨c, by rw [show j0 + (j + 1) = j0 + 1 + j by omega]; exact h1, fun x hx => List.mem_append_right _ (h2 x hx)⟩
theorem good_spec [Adr] (hs : Sound P rec) {o : Oper} {i : Nat} {rest : List Nat} {s : Cs} {os : List Out} (hi : ops[i]? = some o) (hw : wants nt ops o (tau s.fr) = true) (hk : ∀ c, o.op = .call c → c.callee = .builtin .delete) (h : specC P rec nt ops o rest s = some os) : AWPO P nt ops (i :: rest) (Ends os) s.st := by
  have e : frGet s.st.fr = tau s.fr := wants_tau s
  unfold specC at h
  split at h
  · cases h
  rename_i hd
  split at h
  ·
    rename_i x hop
    split at h
    · rename_i t a hx
      split at h
      · rename_i u hc
        cases h
        exact awpo_panic hi hop (by rw [e]; exact hw) (by rw [e]; exact hx) hc fun v hv => ⟨s, Sim.refl _, .inr ⟨_, v, by simp, hv, rfl⟩⟩
      · cases h
    · cases h
  ·
    rename_i t hop
    exact awpo_mkmap hi hop (by rw [e]; exact hw) hd (awpo_sim (sim_fr (alg_toL _) rfl) (hs _ _ h))
  ·
    rename_i t x ix ok hop
    split at h
    rotate_left
    · cases h
    rename_i l hx
    split at h
    rotate_left
    · cases h
    rename_i y hy
    split at h
    rotate_left
    · cases h
    rename_i m hm
    split at h
    rotate_left
    · cases h
    rename_i v hv
    exact awpo_mapGet hi hop (by rw [e]; exact hw) hd (by rw [e]; exact hx) (alg_st hy) hm (by rw [e]; exact hv) (awpo_sim (sim_fr (alg_toL _) rfl) (hs _ _ h))
  ·
    rename_i t x ix vx hop
    split at h
    rotate_left
    · cases h
    rename_i s2 hp
    split at h
    · cases h
    rename_i hw2
    split at h
    rotate_left
    · cases h
    rename_i l hx
    split at h
    rotate_left
    · cases h
    rename_i y hy
    split at h
    rotate_left
    · cases h
    rename_i m hm
    split at h
    rotate_left
    · cases h
    rename_i hni
    split at h
    rotate_left
    · cases h
    rename_i m' hv
    have e2 : frGet s2.st.fr = tau s2.fr := wants_tau s2
    exact good_pur hp (awpo_mapPut hi hop (by rw [e2]; exact hw2) hd (by rw [e2]; exact hx) (alg_st hy) hm (noIt_st hni) (by rw [e2]; exact hv) (awpo_sim (sim_fr (alg_toL _) (hset_st l { y with mp := some (.map m') })) (hs _ _ h)))
  ·
    rename_i t x ix vx hop
    split at h
    rotate_left
    · cases h
    rename_i s2 hp
    split at h
    · cases h
    rename_i hw2
    split at h
    rotate_left
    · cases h
    rename_i l hx
    split at h
    rotate_left
    · cases h
    rename_i y hy
    split at h
    rotate_left
    · cases h
    rename_i m hm
    split at h
    rotate_left
    · cases h
    rename_i hni
    split at h
    rotate_left
    · cases h
    rename_i m' hv
    have e2 : frGet s2.st.fr = tau s2.fr := wants_tau s2
    exact good_pur hp (awpo_mapIns hi hop (by rw [e2]; exact hw2) hd (by rw [e2]; exact hx) (alg_st hy) hm (noIt_st hni) (by rw [e2]; exact hv) (awpo_sim (sim_fr (alg_toL _) (hset_st l { y with mp := some (.map m') })) (hs _ _ h)))
  ·
    rename_i t x hop
    split at h
    · rename_i u hu hx
      exact awpo_rangeS hi hop (by rw [e]; exact hw) hd hu (by rw [e]; exact hx) (awpo_sim (sim_fr (alg_toL _) rfl) (hs _ _ h))
    · rename_i kt et l hu hx
      split at h
      rotate_left
      · cases h
      rename_i y hy
      split at h
      rotate_left
      · cases h
      rename_i m hm
      exact awpo_rangeM hi hop (by rw [e]; exact hw) hd hu (by rw [e]; exact hx) (alg_st hy) hm (awpo_sim (sim_fr (alg_toL _) rfl) (hs _ _ h))
    · cases h
  ·
    rename_i x hop
    split at h
    rotate_left
    · cases h
    rename_i l hx
    split at h
    rotate_left
    · cases h
    rename_i y hy
    split at h
    rotate_left
    · cases h
    rename_i l0 left cur hm
    refine awpo_nextM hi hop (by rw [e]; exact hw) hd (by rw [e]; exact hx) (alg_st hy) hm (fun hnil => ?_) (fun j kv hj => ?_)
    · subst hnil
      exact awpo_sim (sim_fr (alg_toL _) rfl) (hs _ _ h)
    · split at h
      · simp at hj
      · obtain ⟨a, ha, hsub⟩ := nextAll_ok _ _ _ h j kv hj
        rw [Nat.zero_add] at ha
        exact awpo_mono (awpo_sim (sim_fr (alg_toL _) (hset_st l { y with mp := some (.mit l0 _ (some kv)) })) (hs _ _ ha)) fun e s k => k.mono hsub
  ·
    rename_i x hop
    split at h
    rotate_left
    · cases h
    rename_i l hx
    split at h
    rotate_left
    · cases h
    rename_i y hy
    split at h
    rotate_left
    · cases h
    rename_i l0 left cur hm
    split at h
    rotate_left
    · cases h
    rename_i kv
    exact awpo_entry hi hop (by rw [e]; exact hw) hd (by rw [e]; exact hx) (alg_st hy) hm (awpo_sim (sim_fr (alg_toL _) rfl) (hs _ _ h))
  ·
    rename_i x hop
    split at h
    rotate_left
    · cases h
    rename_i l hx
    split at h
    rotate_left
    · cases h
    rename_i y hy
    split at h
    rotate_left
    · cases h
    rename_i u p hm
    split at h
    rotate_left
    · cases h
    rename_i v p' hv
    exact awpo_nextS hi hop (by rw [e]; exact hw) hd (by rw [e]; exact hx) (alg_st hy) hm hv (awpo_sim (sim_fr (alg_toL _) (hset_st l { y with mp := some (.sit u p') })) (hs _ _ h))
  ·
    rename_i c hop
    split at h
    · rename_i t ts x ix ht ha
      split at h
      rotate_left
      · cases h
      rename_i l hx
      split at h
      rotate_left
      · cases h
      rename_i y hy
      split at h
      rotate_left
      · cases h
      rename_i m hm
      split at h
      rotate_left
      · cases h
      rename_i hni
      split at h
      rotate_left
      · cases h
      rename_i m' hv
      exact awpo_mapDel hi hop (hk c hop) ha ht (by rw [e]; exact hw) hd (by rw [e]; exact hx) (alg_st hy) hm (noIt_st hni) (by rw [e]; exact hv) (awpo_sim (sim_fr (alg_toL _) (hset_st l { y with mp := some (.map m') })) (hs _ _ h))
    · cases h
  · cases h
theorem kind_call {o : Op} {f : Operand} {args : Array Operand} (h : kindOf o = .call f args) : isCall o = some (f, args.toList) := by
  unfold kindOf at h
  split at h
  · rename_i c
    split at h
    · rename_i g hg
      cases h
      simp [isCall, hg]
    · cases h
    · cases h
    · cases h
  all_goals cases h
theorem kind_spec {o : Op} (h : kindOf o = .spec) : ∀ c, o = .call c → c.callee = .builtin .delete := by
  rintro c rfl
  simp only [kindOf] at h
  split at h
  · cases h
  · cases h
  · rename_i hc; exact hc
  · cases h
theorem frc_ok {α : Type} {n : Nat} {x : Option α} {y : α} (h : frc n x = some y) : x = some y := by
  unfold frc at h
  split at h
  · exact h
  · cases h
theorem kind_plain [Adr] {P : Program} {o : Op} (h : kindOf o = .plain) : isCall o = none ∧ ∀ τ, isInv P o τ = none := by
  cases o <;> simp only [kindOf, reduceCtorEq] at h <;> try exact ⟨rfl, fun _ => rfl⟩
  rename_i c
  obtain ⟨callee, args, ats⟩ := c
  cases callee <;> simp only [reduceCtorEq] at h
  exact ⟨rfl, fun _ => rfl⟩
theorem plainX_eq [Adr] {o : Oper} {rest : List Nat} {s : Cs} {os : List Out} (hk : kindOf o.op = .plain) (h : plainX P rec nt ops o rest s = some os) : plainC P rec nt ops o rest s none = some os := by
  obtain ⟨k1, k2⟩ := kind_plain (P := P) hk
  have hrun : ∀ gt, runO true P o none s.nx gt (tau s.fr) s.hp.get = (match opFn o.op P (evalO (tau s.fr)) s.hp.get s.nx with
      | some e => some { d := o.dst, v := e.v, wr := e.wr, rt := gt ++ opTmps o.op.operands.toList, rb := e.rd, ob := none } | none => none) := by
    intro gt
    unfold runO
    rw [k1, opFn_eq]
    simp only [k2]
    cases opSemE true P o.op (evalO (tau s.fr)) s.hp.get s.nx <;> rfl
  have exe : ∀ gt, exeX P rec nt ops o rest s = some os → (match runO true P o none s.nx gt (tau s.fr) s.hp.get with
      | some se => rec (.ops nt ops rest ⟨putD s.fr se.d se.v, putW s.hp se.wr, s.nx + 8, s.lp⟩) | none => none) = some os := by
    intro gt h
    unfold exeX at h
    rw [hrun]
    split at h
    · rename_i e he; rw [he]; exact h
    · cases h
  unfold plainX gKind at h
  unfold plainC stepF
  split at h
  · cases h
  · rename_i hg
    split at hg
    · cases hg
    rename_i hd
    rw [if_pos hd]
    split at hg
    · rename_i hgd
      simp only [hgd]
      exact exe [] h
    · split at hg
      · split at hg <;> cases hg
      · cases hg
  · rename_i d want hg
    split at hg
    · cases hg
    rename_i hd
    rw [if_pos hd]
    split at hg
    · cases hg
    rename_i j w' hgd
    simp only [hgd]
    split at hg
    rotate_left
    · cases hg
    rename_i d' hj
    split at hg
    rotate_left
    · cases hg
    rename_i hlt
    cases hg
    simp only [hj]
    rw [if_pos (show d < nt from Nat.le_of_ble_eq_true hlt)]
    unfold guardX at h
    split at h
    · rename_i b hb
      rw [hb]
      simp only
      split at h
      · rename_i hq
        rw [if_pos (by simpa using hq)]
        exact exe [d] h
      · rename_i hq
        rw [if_neg (by simpa using hq)]
        exact h
    · rename_i vs hb
      rw [hb]
      exact h
    · cases h
theorem good_ops [Adr] (hs : Sound P rec) {con : Cons} (hc : COk P con) {i : Nat} {rest : List Nat} {s : Cs} {os : List Out} (h : stepOps P con rec nt ops i rest s = some os) : AWPO P nt ops (i :: rest) (Ends os) s.st := by
  have h := frc_ok h
  split at h
  · cases h
  rename_i o hi
  unfold stepOp at h
  split at h
  · rename_i hk; exact good_plain hs hi asked_none (plainX_eq hk h)
  · rename_i f args hk
    unfold stepCallO at h
    split at h
    · rename_i hw
      exact good_callC hs hc hi (kind_call hk) hw h
    · exact good_plain hs hi asked_none h
  · unfold stepInvO at h
    split at h
    · rename_i hw
      exact good_invC hs hi hw h
    · exact good_plain hs hi asked_none h
  · rename_i hk
    unfold stepSpecO at h
    split at h
    · rename_i hw
      exact good_spec hs hi hw (kind_spec hk) h
    · exact good_plain hs hi asked_none h
theorem resC_eq (P : Program) (s : St) : ∀ rs : List ResultVar, resS P s rs = resC P (frGet s.fr) (alg s.hp) rs
  | [] => rfl
  | .tmp t :: rs => by
    simp only [resS, resC, resC_eq P s rs]
    cases resC P (frGet s.fr) (alg s.hp) rs <;> rfl
  | .cell a t :: rs => by
    simp only [resS, resC, resC_eq P s rs]
    cases aLoad P t (frGet s.fr a) (alg s.hp) <;> cases resC P (frGet s.fr) (alg s.hp) rs <;> rfl
theorem resS_sim [Adr] {P : Program} {s : St} {cs : Cs} (h : Sim s cs.st) (rs : List ResultVar) : resS P s rs = resC P (tau cs.fr) cs.hp.get rs := by
  rw [resC_eq, h.fr, h.hp]
  show resC P (frGet cs.fr.toL) (alg cs.hp.toL) rs = _
  rw [frGet_toL, alg_toL]
theorem sim_keep [Adr] {s1 : St} {cs : Cs} (h : Sim s1 cs.st) (N : List Nat) : Sim ⟨s1.fr, s1.hp, s1.nx, keepHp N s1.lp⟩ (Cs.st ⟨cs.fr, cs.hp, cs.nx, keepHp N cs.lp⟩) :=
  ⟨h.fr, h.hp, h.nx, by show keepHp N s1.lp = lpL (keepHp N cs.lp); rw [keepHp_lpL, h.lp]; rfl⟩
theorem keepC_ok {N : List Nat} {vs : List AV} {η : Heap} {lp : List (Nat × LB)} : KeepOk N (keepC N vs η lp) (lpL lp) := by
  intro l hl
  unfold keepC at hl
  split at hl
  · exact .inl hl
  split at hl
  · exact .inl hl
  rcases List.mem_append.1 hl with q | q
  · exact .inl q
  refine .inr fun x hx => ?_
  have q := (List.mem_filter.1 q).2
  unfold hasRec at q
  rw [alg_lpL] at hx
  split at q
  rotate_left
  · cases q
  rename_i y hy
  rw [hy] at hx
  cases hx
  exact Option.isSome_iff_exists.1 q
theorem good_finish [Adr] {fn : Func} {N : List Nat} {os1 os : List Out} (h2 : ∀ o ∈ os1, ∃ a, finish P fn.results.toList N o = some a ∧ ∀ x ∈ a, x ∈ os) {e : Exit} {s1 : St} (he : Ends os1 e s1) : leaveX P fn.results.toList N (VEnds os) e s1 := by
  obtain ⟨cs, hsim, hm⟩ := he
  have res : ∀ a, (match resC P (tau cs.fr) cs.hp.get fn.results.toList with | some vs => one (.val (resV vs) ⟨cs.fr, cs.hp, cs.nx, keepHp (keepC N vs cs.hp.get cs.lp) cs.lp⟩) | none => none) = some a → (∀ x ∈ a, x ∈ os) →
      ∃ vs N', resS P s1 fn.results.toList = some vs ∧ KeepOk N N' s1.lp ∧ VEnds os (.val (resV vs)) ⟨s1.fr, s1.hp, s1.nx, keepHp N' s1.lp⟩ := by
    intro a ha hsub
    split at ha
    · rename_i vs hv
      cases ha
      exact ⟨vs, keepC N vs cs.hp.get cs.lp, by rw [resS_sim hsim]; exact hv, by rw [show s1.lp = lpL cs.lp from hsim.lp]; exact keepC_ok, _, sim_keep hsim _, hsub _ (by simp)⟩
    · cases ha
  rcases hm with hm | ⟨b, v, hm, hp, rfl⟩
  · obtain ⟨a, ha, hsub⟩ := h2 _ hm
    cases e with
    | normal => exact res a ha hsub
    | ret => exact res a ha hsub
    | exit id => cases ha
    | goto l => cases ha
    | panic ch => cases ha
    | outgrown => cases ha
  · obtain ⟨a, ha, hsub⟩ := h2 _ hm
    cases ha
    exact ⟨v, b, rfl, hp, _, sim_keep hsim N, hsub _ (by simp)⟩
theorem leavesM_mono {fn : Func} {tmps : Array Value} {R R' : Ending → World → Prop} (hR : ∀ e w, R e w → R' e w) : ∀ (ds : List Deferred) (u : FrameMode) (w : World), LeavesX (fen none) 0 P fn tmps R ds u w → LeavesX (fen none) 0 P fn tmps R' ds u w
  | [], u, w, h => by
    cases u with
    | run => exact h
    | returning => obtain ⟨v, h1, h2⟩ := h; exact ⟨v, h1, hR _ _ h2⟩
    | panicking ch => exact hR _ _ h
  | d :: ds, u, w, ⟨hu, h⟩ => by
    refine ⟨hu, ?_⟩
    rcases h with ⟨r, w', h1, h2, h3⟩ | ⟨hn, fv, cap, f, args, h1, h2, h3, h4⟩ | ⟨b, ts, t, ks, v, w', h1, h2, h3⟩
    · exact .inl ⟨r, w', h1, h2, leavesM_mono hR ds u w' h3⟩
    · refine .inr (.inl ⟨hn, fv, cap, f, args, h1, h2, h3, h4.mono fun e u' w' k => ?_⟩)
      cases e with
      | returned v => exact leavesM_mono hR ds _ w' k
      | panicked ch => exact leavesM_mono hR ds _ w' k
      | outgrown => exact hR _ _ k
    · exact .inr (.inr ⟨b, ts, t, ks, v, w', h1, h2, leavesM_mono hR ds u w' h3⟩)
theorem fwx_mono [Adr] {fn : Func} {N : List Nat} {c : Code} {K K' : Fin' → St → Prop} {s : St} (h : FWX P fn N c K s) (hk : ∀ e s, K e s → K' e s) : FWX P fn N c K' s := by
  intro w0 wE w FE F φE φ a ho hg hf
  refine wpIn_mono (h w0 wE w FE F φE φ a ho hg hf) fun e a' w' => ?_
  have fp : ∀ e w, FinPost w0 wE FE φE K e w → FinPost w0 wE FE φE K' e w := fun _ _ ⟨s', φ', F', h2, h3, h4⟩ => ⟨s', φ', F', h2, h3, h4.imp (fun ⟨v, r, h1, h4, h5⟩ => ⟨v, r, h1, h4, hk _ _ h5⟩) fun ⟨v, a, h1, h4, h5⟩ => ⟨v, a, h1, h4, hk _ _ h5⟩⟩
  cases e with
  | normal => exact leavesM_mono fp _ _ _
  | ret => exact leavesM_mono fp _ _ _
  | panic ch => exact leavesM_mono fp _ _ _
  | outgrown => exact fp _ _
  | exit id => exact fun h => h
  | goto l => exact fun h => h
theorem fwx_sim [Adr] {fn : Func} {N : List Nat} {c : Code} {K : Fin' → St → Prop} {s t : St} (e : Sim s t) (h : FWX P fn N c K t) : FWX P fn N c K s :=
  fun w0 wE w FE F φE φ a ho hg hf => h w0 wE w FE F φE φ a ho hg (e.fits hf)
end
end Go.AM
