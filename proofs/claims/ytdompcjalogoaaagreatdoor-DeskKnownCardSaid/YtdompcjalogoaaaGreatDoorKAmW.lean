/- A text of the proof. -/
import Derived.Test.YtdompcjalogoaaaGreatDoorKAmV
set_option linter.unusedSimpArgs false
set_option linter.unusedVariables false
namespace Go.AM
open Go Go.RowKit
theorem HRel.allocO [Adr] {w0 w : World} {F : Nat → Prop} {φ φ' : Emb} {U U' : Nat → Prop} {η : Heap} (h : HRel w0 w F φ U η) (hb : φ'.blk = φ.blk) (hle : φ.le φ') (hU : ∀ b, U b → U' b) (o : Obj) : HRel w0 (w.alloc o) F φ' U' η := by
  have hx := ext_alloc h.fb o
  refine ⟨h.below.alloc h.below.size o, fun b hb' => Nat.lt_of_lt_of_le (h.fb b hb') hx.size, fun b g x e => hU b (h.used b g x (by rw [hb] at e; exact e)), fun b g cb sz e => Nat.lt_of_lt_of_le (h.inb b g cb sz (by rw [hb] at e; exact e)) hx.size, fun b x hbx => ?_, fun b x hbx g hg => by rw [hb]; exact h.gen b x hbx g hg,
    fun b b' x y cb sz sz' hx hy e1 e2 => h.inj b b' x y cb sz sz' hx hy (by rw [hb] at e1; exact e1) (by rw [hb] at e2; exact e2), fun b o' hb' ho => h.fwk b o' hb' (by rw [heap_alloc_old w o b (h.fb b hb')] at ho; exact ho)⟩
  obtain ⟨pl, p1, p2, p3⟩ := h.blk b x hbx
  refine ⟨pl, by rw [hb]; exact p1, p2, p3.mono hx.toExt0 hle fun cb e => ?_⟩
  subst e
  exact heap_alloc_old _ _ _ (h.inb _ _ _ _ p1)
def Emb.addLoop (φ : Emb) (l k : Nat) : Emb := { φ with loop := fun l' => if l' = l then some k else φ.loop l' }
section
variable {w0 w : World} {F : Nat → Prop} {φ : Emb} {s : St}
theorem Mem.allocO [Adr] (h : Mem w0 w F φ s) (o : Obj) : Mem w0 (w.alloc o) F φ s ∧ GrowW w0 w F φ (w.alloc o) F φ := by
  have hx := ext_alloc h.heap.fb o
  have old : ∀ (k : Nat) (p : Obj), w.heap[k]? = some p → (w.alloc o).heap[k]? = some p := fun k p hk => by rw [heap_alloc_old w o k (Array.getElem?_eq_some_iff.1 hk).1]; exact hk
  have hg : GrowW w0 w F φ (w.alloc o) F φ := ⟨Emb.le_refl φ, fun _ h => h, fun _ h => .inl h, hx.toExt0, fun k hk => old k _ hk, fun k rec hk => ⟨rec, old k _ hk, rfl⟩, fun k o' hk ho => ⟨o', old k _ hk, ho⟩⟩
  exact ⟨⟨h.heap.allocO rfl (Emb.le_refl φ) (fun _ h => h) o, fun l x hl => (h.lps l x hl).mono hg fun k o _ _ e => old k _ e, fun l k e => ⟨(h.lused l k e).1, Nat.lt_of_lt_of_le (h.lused l k e).2 hx.toExt0.size⟩, h.linj⟩, hg⟩
theorem Mem.allocLoop [Adr] (h : Mem w0 w F φ s) {nt : Nat} {tmps : Array Value} (ht : TRel w F φ (frGet s.fr) nt tmps) (fn : FuncId) (ps : Array Nat) (assign body : Code) {D : Nat} (hD : Opened w D) :
    Mem w0 (w.alloc (.loop { state := .ready, pending := none, fn, tmps, params := ps, assign, body, defers := D })) F (φ.addLoop s.nx w.heap.size) ⟨[], s.hp, s.nx + 1, (s.nx, ⟨s.fr, nt, ps.toList, assign, body, .ready, none, none⟩) :: s.lp⟩ ∧
    GrowW w0 w F φ (w.alloc (.loop { state := .ready, pending := none, fn, tmps, params := ps, assign, body, defers := D })) F (φ.addLoop s.nx w.heap.size) := by
  obtain ⟨o, ho⟩ : ∃ o : Loop, o = { state := .ready, pending := none, fn, tmps, params := ps, assign, body, defers := D } := ⟨_, rfl⟩
  rw [← ho]
  have hx := ext_alloc h.heap.fb (.loop o)
  have old : ∀ (k : Nat) (p : Obj), w.heap[k]? = some p → (w.alloc (.loop o)).heap[k]? = some p := fun k p hk => by rw [heap_alloc_old w _ k (Array.getElem?_eq_some_iff.1 hk).1]; exact hk
  have hno : φ.loop s.nx = none := by
    cases e : φ.loop s.nx with
    | none => rfl
    | some k => have := (h.lused _ _ e).1; omega
  have hle : φ.le (φ.addLoop s.nx w.heap.size) := by
    refine ⟨fun _ _ _ h => h, fun l k hk => ?_⟩
    simp only [Emb.addLoop]
    rw [if_neg (fun e => by subst e; rw [hno] at hk; cases hk)]; exact hk
  have hg : GrowW w0 w F φ (w.alloc (.loop o)) F (φ.addLoop s.nx w.heap.size) := ⟨hle, fun _ h => h, fun _ h => .inl h, hx.toExt0, fun k hk => old k _ hk, fun k rec hk => ⟨rec, old k _ hk, rfl⟩, fun k o' hk ho => ⟨o', old k _ hk, ho⟩⟩
  have cases' : ∀ l k, (φ.addLoop s.nx w.heap.size).loop l = some k → (l = s.nx ∧ k = w.heap.size) ∨ φ.loop l = some k := fun l k e => by
    simp only [Emb.addLoop] at e
    split at e
    · rename_i q; cases e; exact .inl ⟨q, rfl⟩
    · exact .inr e
  refine ⟨⟨h.heap.allocO (φ' := φ.addLoop s.nx w.heap.size) rfl hle (fun b hb => Nat.lt_succ_of_lt hb) _, fun l x hl => ?_, fun l k e => ?_, fun l l' k e1 e2 => ?_⟩, hg⟩
  · simp only [alg] at hl
    split at hl
    · rename_i e; subst e; cases hl
      have e1 : o.tmps = tmps := by rw [ho]
      have e2 : o.defers = D := by rw [ho]
      refine RecL.recd ?_ rfl
      refine ⟨w.heap.size, o, by simp [Emb.addLoop], h.heap.below.size, heap_alloc_new _ _, by rw [ho], by rw [ho], by rw [ho], by rw [ho], by rw [ho], ?_, ?_⟩
      · rw [e1]; exact ht.monoW hg
      · rw [e2]; exact hg.opn _ hD
    · exact (h.lps l x hl).mono hg fun k o _ _ e => old k _ e
  · have := hx.toExt0.size
    rcases cases' l k e with ⟨rfl, rfl⟩ | q
    · exact ⟨Nat.lt_succ_self _, by simp⟩
    · have := h.lused _ _ q; simp only; omega
  · rcases cases' l k e1 with ⟨rfl, rfl⟩ | q
    · rcases cases' l' _ e2 with ⟨rfl, -⟩ | q'
      · rfl
      · have := (h.lused _ _ q').2; omega
    · rcases cases' l' k e2 with ⟨rfl, rfl⟩ | q'
      · have := (h.lused _ _ q).2; omega
      · exact h.linj _ _ _ q q'
end
section
variable {P : Program} {nt : Nat} {K : Exit → St → Prop} {s : St}
def behindK [Adr] (P : Program) (nt : Nat) (K : Exit → St → Prop) (s : St) : AV → St → Prop := fun _ s2 =>
  ∃ y, alg s2.lp s.nx = some y ∧ (y.st == .busy) = false ∧ match y.pend with
    | none => K .normal ⟨s.fr, s2.hp, s2.nx, keepHp (s.lp.map (·.1)) s2.lp⟩
    | some c => AWP P nt c K ⟨s.fr, s2.hp, s2.nx, keepHp (s.lp.map (·.1)) s2.lp⟩
theorem awp_rangeFunc [Adr] {g : Operand} {ps : Array Tmp} {assign body : Code} {fid : FuncId} {first cap : List AV} (hg : evalO (frGet s.fr) g = .fn fid first cap)
    (h : EWP P fid (first ++ [.yld s.nx] ++ cap) (behindK P nt K s) ⟨[], s.hp, s.nx + 1, (s.nx, ⟨s.fr, nt, ps.toList, assign, body, .ready, none, none⟩) :: s.lp⟩) : AWP P nt (.rangeFunc g ps assign body) K s := by
  intro cx w0 w F φ a hf
  refine wpIn_rangeFunc fun fn _ => ?_
  have hv := eval_rel hf.tmps g
  rw [hg] at hv
  simp only [VRel] at hv
  obtain ⟨fs, cs, hvf, v1, v2⟩ := hv
  obtain ⟨hent, hcalls⟩ := h
  have key : ∀ (wD : World) (D : Nat) (mark : List Deferred), Mem w0 wD F φ s → GrowW w0 w F φ wD F φ → Opened wD D → Env cx w0 wD { a with defers := mark ++ a.defers } →
      (Instr.enterLoop fn a.tmps ps assign body (fen cx.r).round).run P w = .ok (wD.heap.size, mark) (wD.alloc (.loop { state := .ready, pending := none, fn, tmps := a.tmps, params := ps, assign, body, defers := D })) →
      ∃ (l : Nat) (mark : List Deferred) (w₁ : World) (d : Deferred) (w₁' : World) (f : FuncId) (args : Array Value) (w₂ : World),
        (Instr.enterLoop fn a.tmps ps assign body (fen cx.r).round).run P w = .ok (l, mark) w₁ ∧ (resolve a.eval (rangeCall g l) 0).run P w₁ = .ok d w₁' ∧ (∀ f', Target.leads P w₁' d.target d.args = some f' → (fen cx.r).fn f') ∧
        (invoke d.target d.args).run P w₁' = .ok (.enter f args) w₂ ∧ ((fen cx.r).depth.isSome = true → 1 ≤ 0) ∧
        CallsIn (fen cx.r) (0 - 1) P f args w₂ (rangePost (fen cx.r) 0 P l (fun e a' w' => ∃ s' φ' F', Fits cx w0 w' F' φ' nt a' s' ∧ GrowW w0 w F φ w' F' φ' ∧ K e s') { a with defers := mark ++ a.defers }) := by
    intro wD D mark hm hg1 hD henv hrun
    obtain ⟨m1, m2⟩ := hm.allocLoop (hf.tmps.monoW hg1) fn ps assign body hD
    have hg2 := hg1.trans m2
    obtain ⟨W, hW⟩ : ∃ W, wD.alloc (.loop { state := .ready, pending := none, fn, tmps := a.tmps, params := ps, assign, body, defers := D }) = W := ⟨_, rfl⟩
    rw [hW] at m1 m2 hg2 hrun
    have hargs : VRels W F (φ.addLoop s.nx wD.heap.size) (first ++ [.yld s.nx] ++ cap) (fs ++ [.func (.yield wD.heap.size) #[] #[]] ++ cs) := by
      refine ((VRels.mono hg2.ext hg2.sub hg2.le _ _ v1).append ?_).append (VRels.mono hg2.ext hg2.sub hg2.le _ _ v2)
      simp only [VRels, VRel]
      exact ⟨_, [], rfl, ⟨_, by simp [Emb.addLoop], rfl⟩, rfl⟩
    have hc := calls_fen (hcalls w0 W F _ _ m1 (hf.tmps.glob.mono hg2.ext hg2.sub) hargs) cx.r (0 - 1)
    refine ⟨wD.heap.size, mark, W, { target := .fn (.func fid) ⟨cs⟩, args := ⟨fs⟩ ++ #[.func (.yield wD.heap.size) #[] #[]] }, W, fid, ⟨fs ++ [.func (.yield wD.heap.size) #[] #[]] ++ cs⟩, W, hrun, ?_, fun _ _ => trivial, ?_, fun h => by simp [fen, Fence.wide] at h, ?_⟩
    · simp only [resolve, hvf, Deferred.ofValue, Sem.run_pure]
      simp [Act.eval]
    · simp only [invoke]
      rw [hent]
      congr 2
      apply Array.ext'
      simp
    · refine CallsIn.mono hc ?_
      rintro en w3 ⟨v, r, s2, φ2, F2, rfl, k1, k2, k3, y, hy, hst, hfin⟩
      have hl2 := k2.le.2 s.nx wD.heap.size (by simp [Emb.addLoop])
      obtain ⟨recA, hA1, -⟩ := k2.lps wD.heap.size { state := .ready, pending := none, fn, tmps := a.tmps, params := ps, assign, body, defers := D } (by rw [← hW]; exact heap_alloc_new _ _)
      obtain ⟨k, rec, q1, q2, q3, q4, q5, q6, q7, q8, q9, q10⟩ := (k1.lps _ y hy).1 ((k1.lps _ y hy).isLoop hl2 hA1)
      rw [hl2] at q1; cases q1
      obtain ⟨m3, m4⟩ := k1.putLoop hy hl2 q3 .exhausted y.pend
      have hgt := (hg2.trans k2).trans m4
      have hfits : Fits cx w0 (w3.putObj wD.heap.size (.loop { rec with state := .exhausted, pending := y.pend })) F2 φ2 nt { a with defers := mark ++ a.defers } ⟨s.fr, s2.hp, s2.nx, keepHp (s.lp.map (·.1)) s2.lp⟩ := by
        refine ⟨⟨m3.heap, fun l x hl => ?_, m3.lused, m3.linj⟩, hf.tmps.monoW hgt, henv.mono ((m2.trans k2).trans m4) rfl⟩
        have hne : l ≠ s.nx := by
          obtain ⟨x0, hx0⟩ := alg_mem l _ (alg_keep_in _ _ _ _ hl)
          obtain ⟨k', e, -⟩ := (hm.lps l x0 hx0).at
          have := (hm.lused _ _ e).1
          omega
        refine m3.lps l x ?_
        show alg (hset s2.lp s.nx _) l = some x
        rw [alg_hset, fupd_other _ _ _ _ hne]
        exact alg_keepHp _ _ _ _ hl
      have hend := run_endLoop (P := P) q3 (by rw [q4]; intro e; rw [e] at hst; cases hst)
      rw [show ({ rec with state := .exhausted } : Loop) = { rec with state := .exhausted, pending := y.pend } by rw [← q5], q5] at hend
      refine ⟨y.pend, _, hend, ?_⟩
      split
      · rename_i e; rw [e] at hfin hfits hgt ⊢; exact ⟨_, φ2, F2, hfits, hgt, hfin⟩
      · rename_i c e
        rw [e] at hfin hfits hgt
        rw [e]
        refine wpIn_mono (hfin cx w0 _ F2 φ2 _ hfits) ?_
        rintro e2 a3 w4 ⟨s4, φ4, F4, t1, t2, t3⟩
        exact ⟨s4, φ4, F4, t1, hgt.trans t2, t3⟩
  cases hr : cx.r with
  | none =>
    obtain ⟨m1, m2⟩ := hf.mem.allocO (.deferred (some []))
    rw [hr] at key
    refine key _ w.heap.size [markOf w.heap.size] m1 m2 (heap_alloc_new _ _) ?_ ?_
    · have he := hf.env.mono m2 (a' := a) rfl
      obtain ⟨Ds, d1, d2, d3⟩ := hf.env.dfr
      refine ⟨⟨w.heap.size :: Ds, by simp [d1], List.nodup_cons.2 ⟨fun hm => ?_, d2⟩, fun D hD => ?_⟩, he.rnd, he.lo⟩
      · have : w.heap.size < w.heap.size := (Array.getElem?_eq_some_iff.1 (d3 _ hm).2).1
        omega
      · rcases List.mem_cons.1 hD with e | e
        · subst e; exact ⟨hf.env.lo.2, heap_alloc_new _ _⟩
        · exact ⟨(d3 D e).1, m2.opn _ (d3 D e).2⟩
    · have := run_enterLoop_outer (P := P) (w := w) fn a.tmps ps assign body
      rw [show (fen none).round = none from rfl, this]
      simp [markOf]
  | some l0 =>
    obtain ⟨rec0, r1, r2⟩ := hf.env.rnd l0 hr
    rw [hr] at key
    refine key w rec0.defers [] hf.mem (GrowW.refl _ _ _ _) r2 ?_ ?_
    · simpa using hf.env
    · exact run_enterLoop_inner r1 fn a.tmps ps assign body
end
end Go.AM
