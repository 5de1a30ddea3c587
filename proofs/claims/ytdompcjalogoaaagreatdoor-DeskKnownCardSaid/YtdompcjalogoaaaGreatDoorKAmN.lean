/- A text of the proof. -/
import Derived.Test.YtdompcjalogoaaaGreatDoorKAmM
import Derived.RangeFuncCalls
import Derived.TacticsIn
set_option linter.unusedSimpArgs false
set_option linter.unusedVariables false
namespace Go.AM
open Go Go.RowKit
variable {ε : Bool}
structure TRel [Adr] (w : World) (F : Nat → Prop) (φ : Emb) (τ : Nat → AV) (nt : Nat) (tmps : Array Value) : Prop where
  size : tmps.size = nt
  val : ∀ t, VRel w F φ (τ t) (tmps.getD t undef)
  glob : GOk w F
structure Grow (w0 w : World) (F : Nat → Prop) (φ : Emb) (w' : World) (F' : Nat → Prop) (φ' : Emb) : Prop where
  sle : φ.sle φ'
  sub : ∀ b, F b → F' b
  new : ∀ b, F' b → F b ∨ w0.heap.size ≤ b
  ext : Ext F w w'
theorem Grow.le {w0 w : World} {F : Nat → Prop} {φ : Emb} {w' : World} {F' : Nat → Prop} {φ' : Emb} (g : Grow w0 w F φ w' F' φ') : φ.le φ' := g.sle.le
theorem Grow.refl [Adr] (w0 w : World) (F : Nat → Prop) (φ : Emb) : Grow w0 w F φ w F φ := ⟨Emb.sle_refl φ, fun _ h => h, fun _ h => .inl h, Ext.refl F w⟩
theorem Grow.trans [Adr] {w0 w w1 w2 : World} {F F1 F2 : Nat → Prop} {φ φ1 φ2 : Emb} (h : Grow w0 w F φ w1 F1 φ1) (k : Grow w0 w1 F1 φ1 w2 F2 φ2) : Grow w0 w F φ w2 F2 φ2 :=
  ⟨Emb.sle_trans h.sle k.sle, fun b hb => k.sub b (h.sub b hb), fun b hb => by
    rcases k.new b hb with q | q
    · exact h.new b q
    · exact .inr q, h.ext.trans k.ext h.sub⟩
theorem TRel.mono [Adr] {w0 w w' : World} {F F' : Nat → Prop} {φ φ' : Emb} {τ : Nat → AV} {nt : Nat} {tmps : Array Value} (h : TRel w F φ τ nt tmps) (g : Grow w0 w F φ w' F' φ') : TRel w' F' φ' τ nt tmps :=
  ⟨h.size, fun t => VRel.mono g.ext g.sub g.le _ _ (h.val t), h.glob.mono g.ext g.sub⟩
theorem TRel.put [Adr] {w : World} {F : Nat → Prop} {φ : Emb} {τ : Nat → AV} {nt : Nat} {a : Act} (h : TRel w F φ τ nt a.tmps) {d : Option Nat} {v : AV} {x : Value} (hd : ∀ t, d = some t → t < nt) (hv : VRel w F φ v x) :
    TRel w F φ (putT τ d v) nt (a.put d x).tmps := by
  unfold putT
  cases d with
  | none => exact h
  | some t =>
    have ht := hd t rfl
    refine ⟨by simp [Act.put, h.size], fun s => ?_, h.glob⟩
    simp only [Act.put, fupd]
    by_cases e : s = t
    · subst e
      rw [if_pos rfl]
      have : (a.tmps.setIfInBounds s x).getD s undef = x := by
        rw [Array.getD_eq_getD_getElem?]
        simp [h.size, ht]
      rw [this]; exact hv
    · rw [if_neg e]
      have : (a.tmps.setIfInBounds t x).getD s undef = a.tmps.getD s undef := by
        rw [Array.getD_eq_getD_getElem?, Array.getD_eq_getD_getElem?, Array.getElem?_setIfInBounds_ne (fun h => e h.symm)]
      rw [this]; exact h.val s
theorem avZ_getD_rel [Adr] (v : Value) (w : World) (F : Nat → Prop) (φ : Emb) : VRel w F φ ((avZ v).getD .top) v := by
  cases e : avZ v with
  | none => simp [VRel]
  | some a => exact (avZ_rel e w F φ).1
theorem avC_rel [Adr] (v : Value) (w : World) (F : Nat → Prop) (φ : Emb) : VRel w F φ (avC v) v := by
  unfold avC
  split
  · simp [VRel]
  · exact avZ_getD_rel _ w F φ
theorem eval_rel [Adr] {w : World} {F : Nat → Prop} {φ : Emb} {τ : Nat → AV} {nt : Nat} {a : Act} (h : TRel w F φ τ nt a.tmps) : ∀ x, VRel w F φ (evalO τ x) (a.eval x)
  | .tmp t => h.val t
  | .const v => avC_rel v w F φ
  | .global g => VRel.mono (Ext0.refl F w) (fun _ h => h) (Emb.zero_le φ) _ _ (h.glob g)
  | .func f => by simp only [evalO, VRel, Act.eval]; exact ⟨[], [], rfl, by simp [VRels], by simp [VRels]⟩
def fen (r : Option Nat) : Fence := { Fence.wide with round := r }
theorem calls_fen {P : Program} {f : FuncId} {args : Array Value} {w : World} {R : Ending → World → Prop} (h : Calls P f args w R) (r : Option Nat) (n : Nat) : CallsIn (fen r) n P f args w R := by
  cases r with
  | none => exact callsIn_wide.2 h
  | some l => exact CallsIn.inRound l (callsIn_wide.2 h)
theorem opSem_noDefer {P : Program} {op : Op} {ρ : Operand → AV} {η : Heap} {nm : Nat} {e : Eff} (h : opSem P op ρ η nm = some e) : ∀ c, op ≠ .defer c := by
  intro c hc; subst hc; simp [opSem] at h
section
variable {P : Program} {w0 w : World} {F : Nat → Prop} {φ : Emb} {U U' : Nat → Prop} {η : Heap} {τ : Nat → AV} {nt : Nat} {a : Act} {ds : List Deferred}
theorem opSem2_noDefer {P : Program} {op : Op} {ρ : Operand → AV} {η : Heap} {nm : Nat} {e : Eff} (h : opSem2 P op ρ η nm = some e) : ∀ c, op ≠ .defer c := by
  rintro c rfl
  simp only [opSem2, reduceCtorEq] at h
theorem opSemE_noDefer [Adr] {P : Program} {ε : Bool} {op : Op} {ρ : Operand → AV} {η : Heap} {nm : Nat} {e : Eff} (h : opSemE ε P op ρ η nm = some e) : ∀ c, op ≠ .defer c := by
  cases ε with
  | false => exact opSem_noDefer h
  | true =>
    simp only [opSemE] at h
    split at h
    · rename_i e' h2; exact opSem2_noDefer h2
    · split at h
      · exact opSem_noDefer h
      · exact opSem_noDefer h
def Goes [Adr] (w0 w : World) (F : Nat → Prop) (φ : Emb) (U' : Nat → Prop) (η' : Heap) (τ' : Nat → AV) (nt : Nat) (ds : List Deferred) (K : Act → World → Prop) : Prop :=
  ∀ a' w' φ' F', HRel w0 w' F' φ' U' η' → TRel w' F' φ' τ' nt a'.tmps → a'.defers = ds → Grow w0 w F φ w' F' φ' → K a' w'
theorem method_ok [Adr] {P : Program} {t : TypeId} {name : String} {f : FuncId} (h : aMethod P t name = some f) (n : Nat) (v : Value) (w : World) : (Go.method (n + 1) t v name).run P w = .ok (f, v) w := by
  unfold aMethod at h
  split at h
  · rename_i i u hi hu
    split at h
    · rename_i m hm
      split at h
      · rename_i hp
        have hpath : m.path.toList = [] := by simpa using hp
        unfold Go.method
        simp only [Sem.run_bind, run_typeInfo_of hi, Result.andThen_ok, hm, hpath, Go.follow, Sem.run_pure]
        split at h
        · rename_i g hg; cases h
          simp only [hg, Go.receiverAt, Sem.run_bind, run_underlying hu, Result.andThen_ok, Go.Place.get, Sem.run_pure]
        · cases h
        · cases h
        · rename_i g hg hne1 hne2; cases h
          simp only [hg, Sem.run_bind, Go.receiverAt, run_underlying hu, Result.andThen_ok]
          simp [Go.Place.get]
        · cases h
      · cases h
    · cases h
  · cases h
theorem runO_ok [Adr] (h : HRel w0 w F φ U η) (ht : TRel w F φ τ nt a.tmps) (hd : a.defers = ds) {o : Oper} {ans : Option (AV × List ABlk)} {nm : Nat} {gt : List Nat} {se : SE} (hs : runO ε P o ans nm gt τ η = some se) (hob : ∀ ob, se.ob = some ob → ob.holds P)
    (hdst : dstOk nt o = true) (hfresh : ∀ m, m < 8 → ¬ U (nm + m)) (hU : ∀ b, U b → U' b) (hUn : ∀ m, m < 8 → U' (nm + m)) (r : Option Nat) (n : Nat) {K : Act → World → Prop} {Q : Exit → Act → World → Prop}
    (hK : Goes w0 w F φ U' (apH η se) (apT τ se) nt ds K) : o.wpIn (fen r) n P a w K Q := by
  refine ⟨fun _ _ => trivial, ?_⟩
  have hdd : ∀ t, o.dst = some t → t < nt := by
    intro t e
    unfold dstOk at hdst; rw [e] at hdst; simpa using hdst
  unfold runO at hs
  split at hs
  · rename_i f args hc
    split at hs
    · rename_i an
      split at hs
      · rename_i e ob hsc
        cases hs
        have hob' := hob ob rfl
        unfold isCall at hc
        split at hc
        · rename_i c hop
          split at hc
          · rename_i f' hcal
            simp only [Option.some.injEq, Prod.mk.injEq] at hc
            obtain ⟨rfl, rfl⟩ := hc
            have hargs := rels_map (eval_rel ht) c.args.toList
            obtain ⟨fid, fs, cs, hvf, hent, hcalls⟩ := call_ok h ht.glob hsc (eval_rel ht f') hargs hob' hfresh hU hUn
            rw [show (fen r).round = r from rfl, Oper.semAt_eq r _ _ (by rw [hop]; intro c; simp)]
            have hrun : (execOp a.eval o).run P w = .ok (.enter fid ⟨fs ++ c.args.toList.map a.eval ++ cs⟩) w := by
              unfold execOp
              simp only [hop, Sem.run_bind, resolve, hcal, hvf, Deferred.ofValue, Sem.run_pure, Result.andThen_ok, invoke]
              rw [hent]
              congr 2
              apply Array.ext'
              simp
            rw [hrun, Oper.uponIn_enter]
            refine ⟨fun h => by simp [fen, Fence.wide] at h, (calls_fen hcalls r _).mono ?_⟩
            rintro en w' ⟨x, φ', F', rfl, k1, k2, k3, k4, k5, k6⟩
            have g : Grow w0 w F φ w' F' φ' := ⟨k1, k2, k3, k4⟩
            refine hK _ w' φ' F' k5 ?_ ?_ g
            · exact (ht.mono g).put hdd k6
            · cases o.dst <;> exact hd
          · cases hc
        · cases hc
      · cases hs
    · cases hs
  · rename_i hc
    split at hs
    · rename_i f args hinv
      split at hs
      · rename_i an
        split at hs
        · rename_i e ob hsc
          cases hs
          have hob' := hob ob rfl
          unfold isInv at hinv
          split at hinv
          · rename_i c hop
            split at hinv
            · rename_i rcv name hcal
              split at hinv
              · rename_i fid x hrec
                simp only [Option.some.injEq, Prod.mk.injEq] at hinv
                obtain ⟨rfl, rfl⟩ := hinv
                unfold recvO at hrec
                split at hrec
                · rename_i t x' hev
                  split at hrec
                  · rename_i fm hm
                    simp only [Option.some.injEq, Prod.mk.injEq] at hrec
                    obtain ⟨rfl, rfl⟩ := hrec
                    have hrv := eval_rel ht rcv
                    rw [hev] at hrv
                    simp only [VRel] at hrv
                    obtain ⟨y, hy, hxy⟩ := hrv
                    have hargs : VRels w F φ (x' :: c.args.toList.map (evalO τ)) (y :: c.args.toList.map a.eval) := by
                      simp only [VRels]; exact ⟨y, _, rfl, hxy, rels_map (eval_rel ht) c.args.toList⟩
                    have hf : VRel w F φ (.fn fm [] []) (.func (.func fm) ⟨[]⟩ ⟨[]⟩) := by
                      simp only [VRel]; exact ⟨[], [], rfl, by simp [VRels], by simp [VRels]⟩
                    obtain ⟨fid, fs, cs, hvf, hent, hcalls⟩ := call_ok h ht.glob hsc hf hargs hob' hfresh hU hUn
                    simp only [Value.func.injEq, Fn.func.injEq, Array.mk.injEq] at hvf
                    obtain ⟨rfl, rfl, rfl⟩ := hvf
                    rw [show (fen r).round = r from rfl, Oper.semAt_eq r _ _ (by rw [hop]; intro c; simp)]
                    have hrun : (execOp a.eval o).run P w = .ok (.enter fm ⟨[] ++ (y :: c.args.toList.map a.eval) ++ []⟩) w := by
                      unfold execOp
                      simp only [hop, Sem.run_bind, resolve, hcal, Sem.run_pure, Result.andThen_ok, invoke, hy]
                      have e0 : (#[Value.iface t y] ++ c.args.map a.eval)[0]? = some (.iface t y) := by rw [← Array.getElem?_toList, Array.toList_append]; rfl
                      have e1 : (#[Value.iface t y] ++ c.args.map a.eval).extract 1 (#[Value.iface t y] ++ c.args.map a.eval).size = c.args.map a.eval := by
                        apply Array.ext'
                        simp [Array.toList_extract]
                        exact List.take_of_length_le (by simp)
                      simp only [e0, e1, callMethod, Sem.run_bind, Result.andThen_ok]
                      have hn : ∃ k, P.types.size + Made.depth = k + 1 := Nat.exists_eq_succ_of_ne_zero (by simp [Made.depth])
                      obtain ⟨k, hk⟩ := hn
                      simp only [run_program, Result.andThen_ok, hk, method_ok hm k y w]
                      rw [hent]
                      congr 2
                      apply Array.ext'
                      simp
                    rw [hrun, Oper.uponIn_enter]
                    refine ⟨fun h => by simp [fen, Fence.wide] at h, (calls_fen hcalls r _).mono ?_⟩
                    rintro en w' ⟨x, φ', F', rfl, k1, k2, k3, k4, k5, k6⟩
                    have g : Grow w0 w F φ w' F' φ' := ⟨k1, k2, k3, k4⟩
                    refine hK _ w' φ' F' k5 ?_ ?_ g
                    · exact (ht.mono g).put hdd k6
                    · cases o.dst <;> exact hd
                  · cases hrec
                · cases hrec
              · cases hinv
            · cases hinv
          · cases hinv
        · cases hs
      · cases hs
    rename_i hinv
    split at hs
    · rename_i e hsem
      cases hs
      obtain ⟨w', φ', x, hr, k1, k2, k3, k4⟩ := opSemE_ok h (eval_rel ht) (by have := hfresh 0 (by omega); simpa using this) hU (by have := hUn 0 (by omega); simpa using this) hsem
      have g : Grow w0 w F φ w' F φ' := ⟨k1, fun _ h => h, fun _ h => .inl h, k2⟩
      rw [show (fen r).round = r from rfl, Oper.semAt_eq r _ _ (opSemE_noDefer hsem)]
      have fin : ∀ y, y = x → K (a.put o.dst y) w' := by
        rintro y rfl
        refine hK _ w' φ' F k3 ?_ ?_ g
        · exact (ht.mono g).put hdd k4
        · cases o.dst <;> exact hd
      rcases hr with hr | ⟨hr, hx⟩
      · rw [hr, Oper.uponIn_value]; exact fin x rfl
      · rw [hr, Oper.uponIn_skip]; exact fin undef hx.symm
    · cases hs
theorem undef_rel [Adr] : VRel w F φ (.tup []) undef := by simp only [VRel]; exact ⟨[], rfl, by simp [VRels]⟩
theorem stepF_ok [Adr] (h : HRel w0 w F φ U η) (ht : TRel w F φ τ nt a.tmps) (hd : a.defers = ds) {ops : Array Oper} {i : Nat} {o : Oper} (hi : ops[i]? = some o) {ans : Option (AV × List ABlk)} {nm : Nat} {se : SE} (hs : stepF ε P nt ops o ans nm τ η = some se) (hob : ∀ ob, se.ob = some ob → ob.holds P)
    (hfresh : ∀ m, m < 8 → ¬ U (nm + m)) (hU : ∀ b, U b → U' b) (hUn : ∀ m, m < 8 → U' (nm + m)) (r : Option Nat) (n : Nat) {K : Act → World → Prop} {Q : Exit → Act → World → Prop}
    (hK : Goes w0 w F φ U' (apH η se) (apT τ se) nt ds K) : wpOpIn (fen r) n P ops Q i K a w := by
  unfold wpOpIn
  simp only [hi]
  unfold stepF at hs
  split at hs
  rotate_left
  · cases hs
  rename_i hdst
  have hdd : ∀ t, o.dst = some t → t < nt := by
    intro t e
    unfold dstOk at hdst; rw [e] at hdst; simpa using hdst
  split at hs
  · rename_i hg
    rw [if_pos (by simp [Region.wanted, hg])]
    exact runO_ok h ht hd hs hob hdst hfresh hU hUn r n hK
  · rename_i j want hg
    split at hs
    · rename_i d hj
      split at hs
      · rename_i hdn
        have hy : yielded ops a.tmps j = match a.tmps.getD d undef with | .bool b => some b | _ => none := by
          unfold yielded
          rw [hj]
          simp only [Option.bind_some]
          rw [Array.getElem?_eq_getElem (by rw [ht.size]; exact hdn), Array.getD_eq_getD_getElem?, Array.getElem?_eq_getElem (by rw [ht.size]; exact hdn)]
          simp only [Option.getD_some]
          split <;> split <;> simp_all
        have skip : se = skipO o [d] → yielded ops a.tmps j ≠ some want → (if Region.wanted o (yielded ops a.tmps) = true then o.wpIn (fen r) n P a w K Q else (∀ f, o.about P w a.eval = some f → (fen r).fn f) ∧ K (a.put o.dst undef) w) := by
          intro e hne
          subst e
          rw [if_neg (by simp [Region.wanted, hg]; exact hne)]
          refine ⟨fun _ _ => trivial, hK _ w φ F (h.weakenU hU) ?_ ?_ (Grow.refl _ _ _ _)⟩
          · exact ht.put hdd undef_rel
          · cases o.dst <;> exact hd
        have hv := ht.val d
        split at hs
        · rename_i b hb
          rw [hb] at hv
          simp only [VRel] at hv
          rw [hv] at hy
          split at hs
          · rename_i e
            rw [if_pos (by simp [Region.wanted, hg, hy, e])]
            exact runO_ok h ht hd hs hob hdst hfresh hU hUn r n hK
          · rename_i e
            exact skip (by cases hs; rfl) (by rw [hy]; simp; exact e)
        · rename_i vs hb
          rw [hb] at hv
          simp only [VRel] at hv
          obtain ⟨cs, hv, -⟩ := hv
          rw [hv] at hy
          exact skip (by cases hs; rfl) (by rw [hy]; simp)
        · cases hs
      · cases hs
    · cases hs
end
end Go.AM
