/- A text of the proof. -/
import Derived.Test.YtdompcjalogoaaaGreatDoorKAmU
set_option linter.unusedSimpArgs false
set_option linter.unusedVariables false
namespace Go.AM
open Go Go.RowKit
section
variable {w0 w : World} {F : Nat → Prop} {φ : Emb} {s : St}
theorem Mem.putLoop [Adr] {k l : Nat} {rec : Loop} {x : LBlk} (h : Mem w0 w F φ s) (hl : alg s.lp l = some x) (hk : φ.loop l = some k) (hr : w.heap[k]? = some (.loop rec)) (st : LoopState) (pe : Option Code) :
    Mem w0 (w.putObj k (.loop { rec with state := st, pending := pe })) F φ { s with lp := hset s.lp l { x with st := st, pend := pe } } ∧ GrowW w0 w F φ (w.putObj k (.loop { rec with state := st, pending := pe })) F φ := by
  have hlt : k < w.heap.size := (Array.getElem?_eq_some_iff.1 hr).1
  have hx := Ext0.put (o' := .loop { rec with state := st, pending := pe }) h.heap.fwk hr rfl
  have hop : ∀ k', Opened w k' → Opened (w.putObj k (.loop { rec with state := st, pending := pe })) k' := fun k' ho => by
    unfold Opened
    rw [World.putObj_heap_other (fun e => by subst e; unfold Opened at ho; rw [hr] at ho; cases ho)]; exact ho
  have hg : GrowW w0 w F φ (w.putObj k (.loop { rec with state := st, pending := pe })) F φ := by
    refine ⟨Emb.le_refl φ, fun _ h => h, fun _ h => .inl h, hx, hop, fun k' rec' hk' => ?_, fun k' o hk' ho => ?_⟩
    · by_cases e : k' = k
      · subst e; rw [hr] at hk'; cases hk'; exact ⟨_, World.putObj_heap_same hlt, rfl⟩
      · exact ⟨rec', by rw [World.putObj_heap_other e]; exact hk', rfl⟩
    · exact ⟨o, by rw [World.putObj_heap_other fun e => by subst e; rw [hr] at hk'; cases hk'; cases ho]; exact hk', ho⟩
  have hmp := (h.lps l x hl).isLoop hk hr
  obtain ⟨k0, rec0, h1, h2, h3, h4, h5, h6, h7, h8, h9, h10⟩ := (h.lps l x hl).1 hmp
  rw [hk] at h1; cases h1
  rw [hr] at h3; cases h3
  refine ⟨⟨h.heap.put hr rfl h2, fun l' y hy => ?_, fun l' k' e => by rw [World.putObj_size]; exact h.lused l' k' e, h.linj⟩, hg⟩
  change alg (hset s.lp l { x with st := st, pend := pe }) l' = some y at hy
  rw [alg_hset] at hy
  by_cases e : l' = l
  · subst e
    rw [fupd_same] at hy; cases hy
    exact RecL.recd ⟨k, _, hk, h2, World.putObj_heap_same hlt, rfl, rfl, h6, h7, h8, h9.monoW hg, hop _ h10⟩ hmp
  · rw [fupd_other _ _ _ _ e] at hy
    refine (h.lps l' y hy).mono hg fun k' o' e1 _ e2 => ?_
    rw [World.putObj_heap_other fun e3 => ?_]; exact e2
    rcases e1 with e1 | ⟨⟨es, c, rfl⟩, -⟩
    · exact e (h.linj l' l k (by rw [e1, e3]) hk)
    · subst e3; rw [hr] at e2; cases e2
end
def frPuts (fr : List (Nat × AV)) : List Nat → List AV → List (Nat × AV)
  | p :: ps, v :: vs => frPuts ((p, v) :: fr) ps vs
  | _, _ => fr
theorem puts_rel [Adr] {w : World} {F : Nat → Prop} {φ : Emb} {nt : Nat} : ∀ (ps : List Nat) (avs : List AV) (vs : List Value) (fr : List (Nat × AV)) (tmps : Array Value), avs.length = ps.length → ps.all (fun p => decide (p < nt)) = true → VRels w F φ avs vs → TRel w F φ (frGet fr) nt tmps →
    TRel w F φ (frGet (frPuts fr ps avs)) nt ((ps.zip vs).foldl (fun tmps (t, a) => tmps.setIfInBounds t a) tmps)
  | [], [], vs, fr, tmps, _, _, _, ht => by simpa [frPuts] using ht
  | p :: ps, v :: avs, vs, fr, tmps, hl, hp, hv, ht => by
    simp only [VRels] at hv
    obtain ⟨y, ys, rfl, h1, h2⟩ := hv
    simp only [List.all_cons, Bool.and_eq_true, decide_eq_true_eq] at hp
    simp only [frPuts, List.zip_cons_cons, List.foldl_cons]
    refine puts_rel ps avs ys ((p, v) :: fr) _ (by simpa using hl) hp.2 h2 ?_
    have := ht.put (d := some p) (fun t e => by cases e; exact hp.1) h1 (a := { tmps := tmps, defers := [] })
    rw [← frGet_put] at this
    exact this
  | [], _ :: _, _, _, _, hl, _, _, _ => by simp at hl
  | _ :: _, [], _, _, _, hl, _, _, _ => by simp at hl
def roundK (l : Nat) (N : Bool → St → Prop) : Exit → St → Prop
  | .normal, s => ∃ y, alg s.lp l = some y ∧ N true { s with lp := hset s.lp l { y with st := .ready, pend := none } }
  | .ret, s => ∃ y, alg s.lp l = some y ∧ N false { s with lp := hset s.lp l { y with st := .done, pend := some .ret } }
  | .exit id, s => ∃ y, alg s.lp l = some y ∧ N false { s with lp := hset s.lp l { y with st := .done, pend := some (.exit id) } }
  | .goto t, s => ∃ y, alg s.lp l = some y ∧ N false { s with lp := hset s.lp l { y with st := .done, pend := some (.goto t) } }
  | _, _ => False
section
variable {P : Program} {nt : Nat} {K : Exit → St → Prop} {s : St} {ops : Array Oper}
theorem awpo_yield [Adr] {i : Nat} {o : Oper} {rest : List Nat} {f : Operand} {args : List Operand} {l : Nat} {x : LBlk} (hi : ops[i]? = some o) (hc : isCall o.op = some (f, args)) (hw : wants nt ops o (frGet s.fr) = true) (hd : dstOk nt o = true)
    (hfv : evalO (frGet s.fr) f = .yld l) (hl : alg s.lp l = some x) (hmp : x.mp = none) (hlen : args.length = x.ps.length) (hps : x.ps.all (fun p => decide (p < x.nt)) = true)
    (h : AWP P x.nt x.assign (thenK (fun s1 => ∃ y, alg s1.lp l = some y ∧ y.st = .ready ∧
      AWP P x.nt x.body (roundK l fun b s2 => AWPO P nt ops rest K ⟨frPut s.fr o.dst (.bool b), s2.hp, s2.nx, s2.lp⟩) { s1 with lp := hset s1.lp l { y with st := .busy, pend := y.pend } }) (fun _ _ => False))
      ⟨frPuts x.fr x.ps (args.map (evalO (frGet s.fr))), s.hp, s.nx, s.lp⟩) : AWPO P nt ops (i :: rest) K s := by
  intro cx w0 w F φ a hf Q hQ
  rw [wpOpsIn_cons]
  unfold wpOpIn
  simp only [hi]
  rw [if_pos (wanted_of hf hw)]
  refine ⟨fun _ _ => trivial, ?_⟩
  unfold isCall at hc
  split at hc
  rotate_left
  · cases hc
  rename_i c hop
  split at hc
  rotate_left
  · cases hc
  rename_i f' hcal
  simp only [Option.some.injEq, Prod.mk.injEq] at hc
  obtain ⟨rfl, rfl⟩ := hc
  have hargs := rels_map (eval_rel hf.tmps) c.args.toList
  have hv := eval_rel hf.tmps f'
  rw [hfv] at hv
  simp only [VRel] at hv
  obtain ⟨k, hk, hvf⟩ := hv
  obtain ⟨k0, rec, h1, h2, h3, h4, h5, h6, h7, h8, h9, h10⟩ := (hf.mem.lps l x hl).1 hmp
  rw [hk] at h1; cases h1
  rw [show (fen cx.r).round = cx.r from rfl, Oper.semAt_eq cx.r _ _ (by rw [hop]; intro c; simp)]
  have hsz : (c.args.map a.eval).size = rec.params.size := by
    have : rec.params.size = x.ps.length := by rw [← h6]; simp
    rw [this, ← hlen]; simp
  have hrun : (execOp a.eval o).run P w = .ok (.round k rec.fn ((rec.params.zip (c.args.map a.eval)).foldl (fun tmps (t, a) => tmps.setIfInBounds t a) rec.tmps) rec.assign rec.body) w := by
    unfold execOp
    simp only [hop, Sem.run_bind, resolve, hcal, hvf, Deferred.ofValue, Sem.run_pure, Result.andThen_ok, invoke]
    rw [Array.empty_append]
    exact run_yield h3 hsz
  rw [hrun, Oper.uponIn_round]
  refine ⟨fun h => by simp [fen, Fence.wide] at h, ?_⟩
  rw [h7, h8]
  refine roundIn_of_wpIn trivial ?_
  have htm : TRel w F φ (frGet (frPuts x.fr x.ps (c.args.toList.map (evalO (frGet s.fr))))) x.nt ((rec.params.zip (c.args.map a.eval)).foldl (fun tmps (t, a) => tmps.setIfInBounds t a) rec.tmps) := by
    have := puts_rel x.ps (c.args.toList.map (evalO (frGet s.fr))) (c.args.toList.map a.eval) x.fr rec.tmps (by simpa using hlen) hps hargs h9
    rw [← h6] at this ⊢
    rw [← Array.foldl_toList, Array.toList_zip, Array.toList_map]
    exact this
  have hfits : Fits ⟨some k, w.heap.size, []⟩ w0 w F φ x.nt { tmps := (rec.params.zip (c.args.map a.eval)).foldl (fun tmps (t, a) => tmps.setIfInBounds t a) rec.tmps, defers := [] } ⟨frPuts x.fr x.ps (c.args.toList.map (evalO (frGet s.fr))), s.hp, s.nx, s.lp⟩ :=
    ⟨⟨hf.mem.heap, hf.mem.lps, hf.mem.lused, hf.mem.linj⟩, htm, ⟨⟨[], rfl, List.nodup_nil, fun D hD => by simp at hD⟩, fun l0 hl0 => by cases hl0; exact ⟨rec, h3, h10⟩, hf.mem.heap.below.size, Nat.le_refl _⟩⟩
  refine wpIn_mono (h _ w0 w F φ _ hfits) ?_
  rintro e a1 w1 ⟨s1, φ1, F1, g1, g2, g3⟩
  cases e with
  | exit id => exact g3.elim
  | ret => exact g3.elim
  | goto l => exact g3.elim
  | panic ch => exact g3.elim
  | outgrown => exact g3.elim
  | normal =>
    obtain ⟨y, hy, hrd, hbody⟩ := g3
    have hk1 := g2.le.2 _ _ hk
    obtain ⟨recA, hA1, -⟩ := g2.lps k rec h3
    have hmpA := (g1.mem.lps l y hy).isLoop hk1 hA1
    obtain ⟨k1, rec1, q1, q2, q3, q4, q5, q6, q7, q8, q9, q10⟩ := (g1.mem.lps l y hy).1 hmpA
    rw [hk1] at q1; cases q1
    obtain ⟨m1, m2⟩ := g1.mem.putLoop hy hk1 q3 .busy y.pend
    refine ⟨_, run_beginRound q3 (by rw [q4, hrd]), ?_⟩
    rw [show ({ rec1 with state := .busy } : Loop) = { rec1 with state := .busy, pending := y.pend } by rw [← q5]]
    refine wpIn_mono (hbody ⟨some k, w.heap.size, []⟩ w0 _ F1 φ1 a1 ⟨⟨m1.heap, m1.lps, m1.lused, m1.linj⟩, g1.tmps.monoW m2, g1.env.mono m2 rfl⟩) ?_
    rintro e2 a2 w2 ⟨s2, φ2, F2, t1, t2, t3⟩
    have fin : ∀ (jump : Option Code) (z : LBlk), alg s2.lp l = some z → AWPO P nt ops rest K ⟨frPut s.fr o.dst (.bool jump.isNone), s2.hp, s2.nx, hset s2.lp l { z with st := if jump.isNone then .ready else .done, pend := jump }⟩ →
        ∃ v w', (Instr.endRound k jump).run P w2 = .ok v w' ∧ wpOpsIn (fen cx.r) 0 P ops Q rest (a.put o.dst v) w' := by
      intro jump z hz hN
      have hk2 := t2.le.2 _ _ hk1
      obtain ⟨recB, hB1, -⟩ := (m2.trans t2).lps k rec1 q3
      have hmpB := (t1.mem.lps l z hz).isLoop hk2 hB1
      obtain ⟨k2, rec2, u1, u2, u3, u4, u5, u6, u7, u8, u9, u10⟩ := (t1.mem.lps l z hz).1 hmpB
      rw [hk2] at u1; cases u1
      obtain ⟨m3, m4⟩ := t1.mem.putLoop hz hk2 u3 (if jump.isNone then .ready else .done) jump
      have hg := (g2.trans m2).trans (t2.trans m4)
      refine ⟨_, _, run_endRound jump u3, hN cx w0 _ F2 φ2 _ ⟨⟨m3.heap, m3.lps, m3.lused, m3.linj⟩, ?_, hf.env.mono hg (put_defers _ _ _)⟩ Q fun e a2 w2 s2 φ2 F2 p1 p2 p3 => hQ e a2 w2 s2 φ2 F2 p1 (hg.trans p2) p3⟩
      rw [frGet_put]
      exact (hf.tmps.monoW hg).put (ds_lt hd) (by simp [VRel])
    cases e2 with
    | normal => obtain ⟨z, hz, hN⟩ := t3; exact fin none z hz hN
    | ret => obtain ⟨z, hz, hN⟩ := t3; exact fin (some .ret) z hz hN
    | exit id => obtain ⟨z, hz, hN⟩ := t3; exact fin (some (.exit id)) z hz hN
    | goto t => obtain ⟨z, hz, hN⟩ := t3; exact fin (some (.goto t)) z hz hN
    | panic ch => exact t3.elim
    | outgrown => exact t3.elim
end
end Go.AM
