/- A text of the proof. -/
import Derived.Test.YtdompcjalogoaaaGreatDoorKAmZn
set_option linter.unusedSimpArgs false
set_option linter.unusedVariables false
namespace Go.AM
open Go Go.RowKit
section
variable {P : Program} {nt : Nat} {K : Exit → St → Prop} {s : St}
def LoopIn (F : Fence) (n : Nat) (P : Program) (c : Code) (Q : Exit → Act → World → Prop) (a : Act) (w : World) : Prop :=
  ∀ (b : Frame) (k : List Item) (cs : List Frame), b.roundOf = F.round → F.fn b.fn → F.room (cs.length + 1 + n) →
    ∃ e a' w', Q e a' w' ∧ ArrivesIn (Machine.fenced P F) P (lone (b.atR a (.code c :: .inLoop c :: k)) cs w) b k cs e a' w'
theorem loopIn_wp {F : Fence} {n : Nat} {c : Code} {Q : Exit → Act → World → Prop} {a : Act} {w : World} (h : LoopIn F n P c Q a w) : (Code.loop c).wpIn F n P Q a w := by
  intro b k cs hro hb hr
  obtain ⟨e, a', w', hq, harr⟩ := h b k cs hro hb hr
  exact ⟨e, a', w', hq, .of_steps (.one (fenced_calm hb hr rfl) stepR_loop) harr⟩
theorem loopIn_step {F : Fence} {n : Nat} {c : Code} {Q : Exit → Act → World → Prop} {a : Act} {w : World} (h : c.wpIn F n P (Exit.then (LoopIn F n P c Q) Q) a w) : LoopIn F n P c Q a w := by
  intro b k cs hro hb hr
  obtain ⟨e, a1, w1, hq, harr⟩ := h b (.inLoop c :: k) cs hro hb hr
  have out : ∀ e', e' ≠ Exit.normal → Q e' a1 w1 → ArrivesIn (Machine.fenced P F) P (lone (b.atR a (.code c :: .inLoop c :: k)) cs w) b (.inLoop c :: k) cs e' a1 w1 →
      ∃ e a' w', Q e a' w' ∧ ArrivesIn (Machine.fenced P F) P (lone (b.atR a (.code c :: .inLoop c :: k)) cs w) b k cs e a' w' := fun e' hne hq' harr' => ⟨e', a1, w1, hq', harr'.pass (x := .inLoop c) rfl (fun _ _ => .inl hne)⟩
  cases e with
  | normal =>
    obtain ⟨e2, a2, w2, hq2, harr2⟩ := hq b k cs hro hb hr
    exact ⟨e2, a2, w2, hq2, .of_steps (StepsIn.trans harr (.one (fenced_calm hb hr rfl) stepR_inLoop)) harr2⟩
  | exit id => exact out _ (by simp) hq harr
  | goto l => exact out _ (by simp) hq harr
  | ret => exact out _ (by simp) hq harr
  | panic ch => exact out _ (by simp) hq harr
  | outgrown => exact out _ (by simp) hq harr
def AWPL [Adr] (P : Program) (nt : Nat) (c : Code) (K : Exit → St → Prop) (s : St) : Prop :=
  ∀ (x : Cx) (w0 w : World) (F : Nat → Prop) (φ : Emb) (a : Act), Fits x w0 w F φ nt a s →
    LoopIn (fen x.r) 0 P c (fun e a' w' => ∃ s' φ' F', Fits x w0 w' F' φ' nt a' s' ∧ GrowW w0 w F φ w' F' φ' ∧ K e s') a w
theorem awp_loopL [Adr] {c : Code} (h : AWPL P nt c K s) : AWP P nt (.loop c) K s := fun x w0 w F φ a hf => loopIn_wp (h x w0 w F φ a hf)
theorem LoopIn.mono {F : Fence} {n : Nat} {c : Code} {Q Q' : Exit → Act → World → Prop} {a : Act} {w : World} (h : LoopIn F n P c Q a w) (hq : ∀ e a w, Q e a w → Q' e a w) : LoopIn F n P c Q' a w :=
  fun b k cs hro hb hr => let ⟨e, a', w', q, r⟩ := h b k cs hro hb hr; ⟨e, a', w', hq _ _ _ q, r⟩
theorem awpl_step [Adr] {c : Code} (h : AWP P nt c (thenK (AWPL P nt c K) K) s) : AWPL P nt c K s := by
  intro cx w0 w F φ a hf
  refine loopIn_step (wpIn_mono (h cx w0 w F φ a hf) ?_)
  rintro e a1 w1 ⟨s1, φ1, F1, h1, h2, h3⟩
  cases e with
  | normal =>
    refine (h3 cx w0 w1 F1 φ1 a1 h1).mono ?_
    rintro e a2 w2 ⟨s2, φ2, F2, k1, k2, k3⟩
    exact ⟨s2, φ2, F2, k1, h2.trans k2, k3⟩
  | exit id => exact ⟨s1, φ1, F1, h1, h2, h3⟩
  | goto l => exact ⟨s1, φ1, F1, h1, h2, h3⟩
  | ret => exact ⟨s1, φ1, F1, h1, h2, h3⟩
  | panic c => exact ⟨s1, φ1, F1, h1, h2, h3⟩
  | outgrown => exact ⟨s1, φ1, F1, h1, h2, h3⟩
end
structure Sim (s t : St) : Prop where
  fr : frGet s.fr = frGet t.fr
  hp : alg s.hp = alg t.hp
  nx : s.nx = t.nx
  lp : s.lp = t.lp
theorem Sim.fits [Adr] {x : Cx} {w0 w : World} {F : Nat → Prop} {φ : Emb} {nt : Nat} {a : Act} {s t : St} (e : Sim s t) (h : Fits x w0 w F φ nt a s) : Fits x w0 w F φ nt a t := by
  obtain ⟨sf, sh, sn, sl⟩ := s
  obtain ⟨tf, th, tn, tl⟩ := t
  obtain ⟨e1, e2, e3, e4⟩ := e
  simp only at e1 e2 e3 e4
  subst e3 e4
  obtain ⟨⟨m1, m2, m3, m4⟩, h2, h3⟩ := h
  simp only at m1 m2 m3 m4 h2
  rw [e2] at m1
  rw [e1] at h2
  exact ⟨⟨m1, m2, m3, m4⟩, h2, h3⟩
theorem awp_sim [Adr] {P : Program} {nt : Nat} {K : Exit → St → Prop} {s t : St} {c : Code} (e : Sim s t) (h : AWP P nt c K t) : AWP P nt c K s := fun x w0 w F φ a hf => h x w0 w F φ a (e.fits hf)
theorem awpo_sim [Adr] {P : Program} {nt : Nat} {K : Exit → St → Prop} {s t : St} {ops : Array Oper} {l : List Nat} (e : Sim s t) (h : AWPO P nt ops l K t) : AWPO P nt ops l K s := fun x w0 w F φ a hf => h x w0 w F φ a (e.fits hf)
def sitRec (u : List UInt8) (p : Nat) : LBlk := ⟨[], 0, [], .skip, .skip, .ready, none, some (.sit u p)⟩
section
variable {w0 w : World} {F : Nat → Prop} {φ : Emb} {s : St}
theorem run_getObj_sit {P : Program} {l : Nat} {w : World} {b : ByteArray} {q : Nat} (h : w.heap[l]? = some (.stringIter b q)) : (getObj l).run P w = .ok (.stringIter b q) w := by simp [getObj, Sem.run, h]
theorem run_setObj_sit {P : Program} {l : Nat} {w : World} {b : ByteArray} {q : Nat} (o : Obj) (h : w.heap[l]? = some (.stringIter b q)) : (setObj l o).run P w = .ok () (w.putObj l o) := by simp [setObj, Sem.run, h, World.putObj]
theorem putObj_self {w : World} {k : Nat} {o : Obj} (h : w.heap[k]? = some o) : w.putObj k o = w := by
  have : w.heap.setIfInBounds k o = w.heap := by
    obtain ⟨h1, h2⟩ := Array.getElem?_eq_some_iff.1 h
    apply Array.ext
    · simp
    · intro i h3 h4
      rw [Array.getElem_setIfInBounds]
      split
      · rename_i e; subst e; exact h2.symm
      · rfl
  unfold World.putObj
  rw [this]
theorem Mem.allocSit [Adr] (h : Mem w0 w F φ s) (u : List UInt8) (q : Nat) :
    Mem w0 (w.alloc (.stringIter ⟨u.toArray⟩ q)) F (φ.addLoop s.nx w.heap.size) ⟨s.fr, s.hp, s.nx + 8, (s.nx, sitRec u q) :: s.lp⟩ ∧
    GrowW w0 w F φ (w.alloc (.stringIter ⟨u.toArray⟩ q)) F (φ.addLoop s.nx w.heap.size) := by
  obtain ⟨ob, hob⟩ : ∃ ob : Obj, ob = .stringIter ⟨u.toArray⟩ q := ⟨_, rfl⟩
  rw [← hob]
  have hx := ext_alloc h.heap.fb ob
  have old : ∀ (k : Nat) (p : Obj), w.heap[k]? = some p → (w.alloc ob).heap[k]? = some p := fun k p hk => by rw [heap_alloc_old w _ k (Array.getElem?_eq_some_iff.1 hk).1]; exact hk
  have hno : φ.loop s.nx = none := by
    cases e : φ.loop s.nx with
    | none => rfl
    | some k => have := (h.lused _ _ e).1; omega
  have hle : φ.le (φ.addLoop s.nx w.heap.size) := by
    refine ⟨fun _ _ _ h => h, fun l k hk => ?_⟩
    simp only [Emb.addLoop]
    rw [if_neg (fun e => by subst e; rw [hno] at hk; cases hk)]; exact hk
  have hg : GrowW w0 w F φ (w.alloc ob) F (φ.addLoop s.nx w.heap.size) := ⟨hle, fun _ h => h, fun _ h => .inl h, hx.toExt0, fun k hk => old k _ hk, fun k rec hk => ⟨rec, old k _ hk, rfl⟩, fun k o hk ho => ⟨o, old k _ hk, ho⟩⟩
  have cases' : ∀ l k, (φ.addLoop s.nx w.heap.size).loop l = some k → (l = s.nx ∧ k = w.heap.size) ∨ φ.loop l = some k := fun l k e => by
    simp only [Emb.addLoop] at e
    split at e
    · rename_i q; cases e; exact .inl ⟨q, rfl⟩
    · exact .inr e
  refine ⟨⟨h.heap.allocO (φ' := φ.addLoop s.nx w.heap.size) rfl hle (fun b hb => Nat.lt_of_lt_of_le hb (Nat.le_add_right _ _)) _, fun l x hl => ?_, fun l k e => ?_, fun l l' k e1 e2 => ?_⟩, hg⟩
  · simp only [alg] at hl
    split at hl
    · rename_i e; subst e; cases hl
      exact RecO.recd (m := .sit u q) ⟨w.heap.size, by simp [Emb.addLoop], h.heap.below.size, by rw [heap_alloc_new, hob]⟩ rfl
    · exact (h.lps l x hl).mono hg fun k o _ _ e => old k _ e
  · have := hx.toExt0.size
    rcases cases' l k e with ⟨rfl, rfl⟩ | q
    · exact ⟨by simp only; omega, by simp⟩
    · have := h.lused _ _ q; simp only; omega
  · rcases cases' l k e1 with ⟨rfl, rfl⟩ | q
    · rcases cases' l' _ e2 with ⟨rfl, -⟩ | q'
      · rfl
      · have := (h.lused _ _ q').2; omega
    · rcases cases' l' k e2 with ⟨rfl, rfl⟩ | q'
      · have := (h.lused _ _ q).2; omega
      · exact h.linj _ _ _ q q'
theorem Mem.putSit [Adr] {k l : Nat} {x : LBlk} {u : List UInt8} {q q' : Nat} (h : Mem w0 w F φ s) (hl : alg s.lp l = some x) (hk : φ.loop l = some k) (hr : w.heap[k]? = some (.stringIter ⟨u.toArray⟩ q)) (h0 : w0.heap.size ≤ k) :
    Mem w0 (w.putObj k (.stringIter ⟨u.toArray⟩ q')) F φ { s with lp := hset s.lp l { x with mp := some (.sit u q') } } ∧ GrowW w0 w F φ (w.putObj k (.stringIter ⟨u.toArray⟩ q')) F φ := by
  have hlt : k < w.heap.size := (Array.getElem?_eq_some_iff.1 hr).1
  have hx := Ext0.put (o' := .stringIter ⟨u.toArray⟩ q') h.heap.fwk hr rfl
  have hg : GrowW w0 w F φ (w.putObj k (.stringIter ⟨u.toArray⟩ q')) F φ := by
    refine ⟨Emb.le_refl φ, fun _ h => h, fun _ h => .inl h, hx, fun k' ho => ?_, fun k' rec' hk' => ?_, fun k' o1 hk' ho => ?_⟩
    · unfold Opened
      rw [World.putObj_heap_other (fun e => by subst e; unfold Opened at ho; rw [hr] at ho; cases ho)]; exact ho
    · exact ⟨rec', by rw [World.putObj_heap_other fun e => by subst e; rw [hr] at hk'; cases hk']; exact hk', rfl⟩
    · by_cases e : k' = k
      · subst e; exact ⟨_, World.putObj_heap_same hlt, rfl⟩
      · exact ⟨o1, by rw [World.putObj_heap_other e]; exact hk', ho⟩
  refine ⟨⟨h.heap.put hr rfl h0, fun l' y hy => ?_, fun l' k' e => by rw [World.putObj_size]; exact h.lused l' k' e, h.linj⟩, hg⟩
  change alg (hset s.lp l { x with mp := some (.sit u q') }) l' = some y at hy
  rw [alg_hset] at hy
  by_cases e : l' = l
  · subst e
    rw [fupd_same] at hy; cases hy
    exact RecO.recd (m := .sit u q') ⟨k, hk, h0, World.putObj_heap_same hlt⟩ rfl
  · rw [fupd_other _ _ _ _ e] at hy
    refine (h.lps l' y hy).mono hg fun k' o' e1 _ e2 => ?_
    rw [World.putObj_heap_other fun e3 => ?_]; exact e2
    rcases e1 with e1 | ⟨⟨es, c, rfl⟩, -⟩
    · exact e (h.linj l' l k (by rw [e1, e3]) hk)
    · subst e3; rw [hr] at e2; cases e2
end
section
variable {P : Program} {nt : Nat} {K : Exit → St → Prop} {s : St} {ops : Array Oper}
theorem awpo_pur [Adr] {l : List Nat} {t : Nat} {v : AV} {rd : List Nat} (hp : pur (alg s.hp) 60 (frGet s.fr t) = some (v, rd))
    (h : AWPO P nt ops l K ⟨(t, v) :: s.fr, hsets s.hp (freezeAll (alg s.hp) rd), s.nx, s.lp⟩) : AWPO P nt ops l K s := by
  intro cx w0 w F φ a hf Q hQ
  have hh := hf.mem.heap
  have hfz := hh.freeze rd
  have hF : ∀ b, F b → Lent F φ (alg s.hp) rd b := fun b hb => .inl hb
  have hg : GrowW w0 w F φ w (Lent F φ (alg s.hp) rd) φ := ⟨Emb.le_refl φ, hF, fun b hb => by
    rcases hb with hb | ⟨n, -, blk, hb, sz, e⟩
    · exact .inl hb
    · obtain ⟨pl, p1, -, p3⟩ := hh.blk n blk hb
      rw [e] at p1; cases p1
      exact .inr p3.1, Ext0.refl F w, fun _ h => h, fun _ rec h => ⟨rec, h, rfl⟩, fun _ o h e => ⟨o, h, e⟩⟩
  have hv := pur_ok hh 60 _ _ _ _ hp (hf.tmps.val t)
  have ht := hf.tmps.monoW hg
  refine h cx w0 w _ φ a ⟨⟨by rw [alg_hsets]; exact hfz, fun l x hx => (hf.mem.lps l x hx).mono hg fun _ _ _ _ h => h, hf.mem.lused, hf.mem.linj⟩, ⟨ht.size, fun t' => ?_, ht.glob⟩, hf.env.mono hg rfl⟩ Q fun e a2 w2 s2 φ2 F2 k1 k2 k3 => hQ e a2 w2 s2 φ2 F2 k1 (hg.trans k2) k3
  rw [frGet_cons]
  split
  · rename_i e; subst e
    exact VRel.mono (Ext0.refl _ w) (fun _ h => h) (Emb.zero_le φ) _ _ hv
  · exact ht.val t'
end
def sitNext (u : List UInt8) (p : Nat) : Option (AV × Nat) :=
  match u[p]? with
  | none => some (.tup [.bool false], p)
  | some c => if c.toNat < 128 then some (.tup [.bool true, .int .i64 p, .int .i32 c.toNat], p + 1) else none
section
variable {P : Program} {nt : Nat} {K : Exit → St → Prop} {s : St} {ops : Array Oper}
theorem awpo_rangeS [Adr] {i : Nat} {o : Oper} {rest : List Nat} {t : TypeId} {x : Operand} {u : List UInt8} (hi : ops[i]? = some o) (hop : o.op = .range t x) (hw : wants nt ops o (frGet s.fr) = true) (hd : dstOk nt o = true)
    (hu : P.underlying t = some .string) (hx : evalO (frGet s.fr) x = .str u)
    (h : AWPO P nt ops rest K ⟨frPut s.fr o.dst (.itr s.nx), s.hp, s.nx + 8, (s.nx, sitRec u 0) :: s.lp⟩) : AWPO P nt ops (i :: rest) K s := by
  intro cx w0 w F φ a hf Q hQ
  rw [wpOpsIn_cons]
  unfold wpOpIn
  simp only [hi]
  rw [if_pos (wanted_of hf hw)]
  refine ⟨fun _ _ => trivial, ?_⟩
  rw [show (fen cx.r).round = cx.r from rfl, Oper.semAt_eq cx.r _ _ (by rw [hop]; intro c; simp)]
  have e1 := eval_rel hf.tmps x
  rw [hx] at e1
  simp only [VRel] at e1
  have hrun : (execOp a.eval o).run P w = .ok (.value (.pointer (some ⟨w.heap.size, 0, none⟩))) (w.alloc (.stringIter ⟨u.toArray⟩ 0)) := by
    unfold execOp
    simp only [hop, Instr.range, Sem.run_bind, run_underlying hu, Result.andThen_ok, e1, Sem.run_pure]
    rfl
  rw [hrun, Oper.uponIn_value]
  obtain ⟨m1, m2⟩ := hf.mem.allocSit u 0
  refine h cx w0 _ F _ _ ⟨⟨m1.heap, m1.lps, m1.lused, m1.linj⟩, ?_, hf.env.mono m2 (put_defers _ _ _)⟩ Q fun e a2 w2 s2 φ2 F2 g1 g2 g3 => hQ e a2 w2 s2 φ2 F2 g1 (m2.trans g2) g3
  rw [frGet_put]
  exact (hf.tmps.monoW m2).put (ds_lt hd) (by simp only [VRel]; exact ⟨_, by simp [Emb.addLoop], rfl⟩)
theorem awpo_nextS [Adr] {i : Nat} {o : Oper} {rest : List Nat} {x : Operand} {l : Nat} {y : LBlk} {u : List UInt8} {p p' : Nat} {v : AV} (hi : ops[i]? = some o) (hop : o.op = .next x true) (hw : wants nt ops o (frGet s.fr) = true) (hd : dstOk nt o = true)
    (hx : evalO (frGet s.fr) x = .itr l) (hl : alg s.lp l = some y) (hm : y.mp = some (.sit u p)) (hv : sitNext u p = some (v, p'))
    (h : AWPO P nt ops rest K ⟨frPut s.fr o.dst v, s.hp, s.nx + 8, hset s.lp l { y with mp := some (.sit u p') }⟩) : AWPO P nt ops (i :: rest) K s := by
  intro cx w0 w F φ a hf Q hQ
  rw [wpOpsIn_cons]
  unfold wpOpIn
  simp only [hi]
  rw [if_pos (wanted_of hf hw)]
  refine ⟨fun _ _ => trivial, ?_⟩
  rw [show (fen cx.r).round = cx.r from rfl, Oper.semAt_eq cx.r _ _ (by rw [hop]; intro c; simp)]
  have e1 := eval_rel hf.tmps x
  rw [hx] at e1
  simp only [VRel] at e1
  obtain ⟨k, hk1, e1⟩ := e1
  obtain ⟨k', hk, h0, hr⟩ := (hf.mem.lps l y hl).2 _ hm
  rw [hk1] at hk; cases hk
  obtain ⟨m1, m2⟩ := hf.mem.putSit (q' := p') hl hk1 hr h0
  obtain ⟨r, hrun, hrr⟩ : ∃ r, ((execOp a.eval o).run P w = .ok (.value r) (w.putObj k (.stringIter ⟨u.toArray⟩ p'))) ∧ ∀ w' F' φ', VRel w' F' φ' v r := by
    unfold sitNext at hv
    have hsz : (⟨u.toArray⟩ : ByteArray).size = u.length := size_mk u
    split at hv
    · rename_i hn
      cases hv
      have hge : ¬ p < (⟨u.toArray⟩ : ByteArray).size := by rw [hsz]; have := List.getElem?_eq_none_iff.1 hn; omega
      refine ⟨.tuple #[.bool false], ?_, fun w' F' φ' => by simp only [VRel]; exact ⟨[.bool false], rfl, by simp only [VRels, VRel]; exact ⟨_, _, rfl, rfl, rfl⟩⟩⟩
      have hself : w.putObj k (.stringIter ⟨u.toArray⟩ p) = w := putObj_self hr
      rw [hself]
      unfold execOp
      simp only [hop, Instr.next, e1, Sem.run_bind, run_getObj_sit hr, Result.andThen_ok, hge, if_false, Sem.run_pure]
    · rename_i c hc
      split at hv
      · rename_i hlt
        cases hv
        have hlt2 : p < (⟨u.toArray⟩ : ByteArray).size := by rw [hsz]; exact (List.getElem?_eq_some_iff.1 hc).1
        have hdec : Utf8.decode ⟨u.toArray⟩ p = (c.toNat, 1) := by
          have hg : (⟨u.toArray⟩ : ByteArray).get! (p + 0) = c := by
            obtain ⟨l1, l2⟩ := List.getElem?_eq_some_iff.1 hc
            show u.toArray[p + 0]! = c
            rw [Nat.add_zero, getElem!_pos u.toArray p (by simpa using l1)]
            simpa using l2
          simp only [Utf8.decode, hg]
          rw [if_pos (by omega)]
        refine ⟨.tuple #[.bool true, .int .i64 p, .int .i32 c.toNat], ?_, fun w' F' φ' => by simp only [VRel]; exact ⟨[.bool true, .int .i64 p, .int .i32 c.toNat], rfl, by simp only [VRels, VRel]; exact ⟨_, _, rfl, rfl, _, _, rfl, rfl, _, _, rfl, rfl, rfl⟩⟩⟩
        unfold execOp
        simp only [hop, Instr.next, e1, Sem.run_bind, run_getObj_sit hr, Result.andThen_ok, hlt2, if_true, hdec, run_setObj_sit _ hr, Sem.run_pure, goInt]
      · cases hv
  rw [hrun, Oper.uponIn_value]
  refine h cx w0 _ F _ _ ⟨⟨m1.heap.weakenU fun b hb => Nat.lt_of_lt_of_le hb (Nat.le_add_right _ _), m1.lps, fun l k e => ⟨Nat.lt_of_lt_of_le (m1.lused l k e).1 (Nat.le_add_right _ _), (m1.lused l k e).2⟩, m1.linj⟩, ?_, hf.env.mono m2 (put_defers _ _ _)⟩ Q fun e a2 w2 s2 φ2 F2 g1 g2 g3 => hQ e a2 w2 s2 φ2 F2 g1 (m2.trans g2) g3
  rw [frGet_put]
  exact (hf.tmps.monoW m2).put (ds_lt hd) (hrr _ _ _)
theorem awpo_invX [Adr] {i : Nat} {o : Oper} {rest : List Nat} {fid : FuncId} {args : List AV} (hi : ops[i]? = some o) (hc : isInv P o.op (frGet s.fr) = some (.fn fid [] [], args)) (hw : wants nt ops o (frGet s.fr) = true) (hd : dstOk nt o = true)
    (h : EWX P fid args (afterX P nt ops rest o.dst K s) s) : AWPO P nt ops (i :: rest) K s := by
  have hent := h.1
  unfold isInv at hc
  split at hc
  rotate_left
  · cases hc
  rename_i c hop
  split at hc
  rotate_left
  · cases hc
  rename_i rcv name hcal
  split at hc
  rotate_left
  · cases hc
  rename_i f x hrec
  simp only [Option.some.injEq, Prod.mk.injEq, AV.fn.injEq, and_true] at hc
  obtain ⟨rfl, rfl⟩ := hc
  refine awpo_enter hi hw hd (by rw [hop]; intro c; simp) (fun w F φ a he => ?_) h
  unfold recvO at hrec
  split at hrec
  rotate_left
  · cases hrec
  rename_i t x' hev
  split at hrec
  rotate_left
  · cases hrec
  rename_i fm hm
  simp only [Option.some.injEq, Prod.mk.injEq] at hrec
  obtain ⟨rfl, rfl⟩ := hrec
  have hrv := he rcv
  rw [hev] at hrv
  simp only [VRel] at hrv
  obtain ⟨y, hy, hxy⟩ := hrv
  refine ⟨y :: c.args.toList.map a.eval, ?_, by simp only [VRels]; exact ⟨y, _, rfl, hxy, rels_map he c.args.toList⟩⟩
  unfold execOp
  simp only [hop, Sem.run_bind, resolve, hcal, Sem.run_pure, Result.andThen_ok, invoke, hy]
  have e0 : (#[Value.iface t y] ++ c.args.map a.eval)[0]? = some (.iface t y) := by rw [← Array.getElem?_toList, Array.toList_append]; rfl
  have e1 : (#[Value.iface t y] ++ c.args.map a.eval).extract 1 (#[Value.iface t y] ++ c.args.map a.eval).size = c.args.map a.eval := by
    apply Array.ext'
    simp [Array.toList_extract]
    exact List.take_of_length_le (by simp)
  simp only [e0, e1, callMethod, Sem.run_bind, Result.andThen_ok]
  have hn : ∃ k, P.types.size + Made.depth = k + 1 := Nat.exists_eq_succ_of_ne_zero (by simp [Made.depth])
  obtain ⟨k, hk⟩ := hn
  simp only [run_program, Result.andThen_ok, hk, method_ok hm k y w]
  rw [hent]
  congr 2
  apply Array.ext'
  simp
end
section
variable {P : Program} {nt : Nat} {K K' : Exit → St → Prop} {s : St}
theorem awpo_mono [Adr] {ops : Array Oper} {l : List Nat} (h : AWPO P nt ops l K s) (hk : ∀ e s, K e s → K' e s) : AWPO P nt ops l K' s :=
  fun x w0 w F φ a hf Q hQ => h x w0 w F φ a hf Q fun e a' w' s' φ' F' h1 h2 h3 => hQ e a' w' s' φ' F' h1 h2 (hk _ _ h3)
theorem awpl_mono [Adr] {c : Code} (h : AWPL P nt c K s) (hk : ∀ e s, K e s → K' e s) : AWPL P nt c K' s :=
  fun x w0 w F φ a hf => (h x w0 w F φ a hf).mono fun _ _ _ ⟨s', φ', F', h1, h2, h3⟩ => ⟨s', φ', F', h1, h2, hk _ _ h3⟩
end
end Go.AM
