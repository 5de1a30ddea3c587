/- A text of the proof. -/
import Derived.Test.YtdompcjalogoaaaGreatDoorKAmZc
import Derived.ChangeArms
section
set_option linter.unusedSimpArgs false
set_option linter.unusedVariables false
namespace Go.AM
open Go Go.RowKit
def oldF (W : World) (b : Nat) : Prop := b < W.heap.size ∧ ∀ o, W.heap[b]? = some o → isRec o = false
theorem oldF_ok (W : World) : FOk (oldF W) W := fun _ h => h
theorem VRels.len [Adr] {w : World} {F : Nat → Prop} {φ : Emb} : ∀ {as : List AV} {vs : List Value}, VRels w F φ as vs → as.length = vs.length
  | [], vs, h => by simp only [VRels] at h; subst h; rfl
  | a :: as, vs, h => by
    simp only [VRels] at h
    obtain ⟨v, vs', rfl, -, h2⟩ := h
    simp [VRels.len h2]
theorem cell_old {w : World} {a : Addr} {v : Value} (h : w.cell? a = some v) : a.spot = none ∧ oldF w a.block := by
  unfold World.cell? at h
  split at h
  · rename_i c el fz hb
    refine ⟨?_, (Array.getElem?_eq_some_iff.1 hb).1, fun o ho => ?_⟩
    · cases hs : a.spot with
      | none => rfl
      | some _ => simp [hs] at h
    · rw [hb] at ho; cases ho; rfl
  · cases h
end Go.AM
end
section
set_option linter.unusedSimpArgs false
set_option linter.unusedVariables false
namespace Go.AM
open Go Go.RowKit
def undatL {H : Type} (P : Program) (n : Nat) (f : TypeId → DataW H → Option (List AV)) : List (Nat × TypeId) → Nat → List (DataW H) → Option (List AV)
  | [], o, [] => if o = n then some [] else none
  | (off, t) :: fs, o, d :: ds => if off = o then match f t d with
      | some as => if as.length = P.cellsOf t then match undatL P n f fs (o + as.length) ds with
          | some bs => some (as ++ bs)
          | none => none
        else none
      | none => none
    else none
  | _, _, _ => none
def undat {H : Type} (P : Program) : Nat → TypeId → DataW H → Option (List AV)
  | 0, _, _ => none
  | n + 1, t, d => match P.underlying t, d with
    | some .bool, .lit (.bool b) => some [.bool b]
    | some (.int _), .lit (.int k n) => some [.int k n]
    | some .string, .lit (.string s) => some [.str s]
    | some (.struct fs), .agg ds => undatL P (P.cellsOf t) (undat P n) (fs.toList.map fun f => (f.offset, f.type)) 0 ds
    | some (.array m e), .agg ds => undatL P (P.cellsOf t) (undat P n) ((List.range m).map fun i => (i * P.cellsOf e, e)) 0 ds
    | _, _ => none
theorem undatL_ok [Adr] {H : Type} {P : Program} {W : World} {F : Nat → Prop} {tr : TypeId → List Value → Option (DataW H × List MemPlace)} {f : TypeId → DataW H → Option (List AV)} {cs : List Value}
    (hf : ∀ t vs x as, tr t vs = some x → f t x.1 = some as → VRels W F Emb.zero as vs ∧ ∀ c ∈ vs, c.oneCell' = true) :
    ∀ (fl : List (Nat × TypeId)) (o : Nat) (xs : List (DataW H × List MemPlace)) (as : List AV), fl.mapM (fun p => tr p.2 ((cs.drop p.1).take (P.cellsOf p.2))) = some xs → undatL P cs.length f fl o (xs.map (·.1)) = some as →
      VRels W F Emb.zero as (cs.drop o) ∧ ∀ c ∈ cs.drop o, c.oneCell' = true
  | [], o, xs, as, h, hu => by
    simp at h; subst h
    simp only [List.map_nil, undatL] at hu
    split at hu
    · rename_i e; subst e; cases hu; simp [VRels]
    · cases hu
  | (off, t) :: fl, o, xs, as, h, hu => by
    simp only [List.mapM_cons, Option.bind_eq_bind, Option.bind_eq_some_iff, Option.pure_def, Option.some.injEq] at h
    obtain ⟨x, hx, xs', hxs, rfl⟩ := h
    simp only [List.map_cons, undatL] at hu
    split at hu
    rotate_left
    · cases hu
    rename_i e; subst e
    split at hu
    rotate_left
    · cases hu
    rename_i as1 h1
    split at hu
    rotate_left
    · cases hu
    rename_i hl
    split at hu
    rotate_left
    · cases hu
    rename_i bs hb
    cases hu
    obtain ⟨k1, k2⟩ := hf t _ x as1 hx h1
    obtain ⟨m1, m2⟩ := undatL_ok hf fl _ xs' bs hxs hb
    rw [hl] at m1 m2
    have e : cs.drop off = (cs.drop off).take (P.cellsOf t) ++ cs.drop (off + P.cellsOf t) := by
      rw [← List.drop_drop]; exact (List.take_append_drop _ _).symm
    rw [e]
    refine ⟨k1.append m1, fun c hc => ?_⟩
    rcases List.mem_append.1 hc with hc | hc
    · exact k2 c hc
    · exact m2 c hc
theorem mapM_map {α β γ : Type} (g : α → β) (f : β → Option γ) : ∀ (l : List α), (l.map g).mapM f = l.mapM fun x => f (g x)
  | [] => rfl
  | x :: l => by simp only [List.map_cons, List.mapM_cons, mapM_map g f l]
theorem undat_ok [Adr] {H : Type} {enc : TypeId × Value → H} {P : Program} {W : World} {F : Nat → Prop} {base : Nat} {sp : Nat → Bool} {held : Bool} : ∀ (n : Nat) (t : TypeId) (cs : List Value) (x : DataW H × List MemPlace) (fuel : Nat) (as : List AV),
    DataW.trod enc P W base sp held fuel t cs = some x → undat P n t x.1 = some as → VRels W F Emb.zero as cs ∧ ∀ c ∈ cs, c.oneCell' = true
  | 0, t, cs, x, fuel, as, h, hu => by simp [undat] at hu
  | n + 1, t, cs, x, 0, as, h, hu => by simp [DataW.trod] at h
  | n + 1, t, cs, (d, ps), fuel + 1, as, h, hu => by
    unfold undat at hu
    split at hu
    · rename_i b ht hd
      simp only at hd; subst hd
      cases hu
      unfold DataW.trod at h
      rw [ht] at h
      split at h <;> simp_all [VRels, VRel, Value.oneCell']
    · rename_i k0 k n' ht hd
      simp only at hd; subst hd
      cases hu
      unfold DataW.trod at h
      rw [ht] at h
      split at h <;> simp_all [VRels, VRel, Value.oneCell']
    · rename_i s ht hd
      simp only at hd; subst hd
      cases hu
      unfold DataW.trod at h
      rw [ht] at h
      split at h <;> simp_all [VRels, VRel, Value.oneCell']
      obtain ⟨_, h2, _⟩ := h
      subst h2
      simp
    · rename_i fs ds ht hd
      simp only at hd; subst hd
      unfold DataW.trod at h
      rw [ht] at h
      have h' : cs.length = P.cellsOf t ∧ ∃ xs, fs.toList.mapM (fun f => DataW.trod enc P W base sp held fuel f.type ((cs.drop f.offset).take (P.cellsOf f.type))) = some xs ∧ xs.map (·.1) = ds := by
        split at h <;> simp_all
        obtain ⟨h1, xs, h2, h3, _⟩ := h
        exact ⟨xs, h2, h3⟩
      obtain ⟨h1, xs, h2, h3⟩ := h'
      rw [← h1, ← h3] at hu
      have := undatL_ok (tr := DataW.trod enc P W base sp held fuel) (W := W) (F := F) (cs := cs) (fun t vs x as k1 k2 => undat_ok n t vs x fuel as k1 k2) _ 0 xs as (by rw [mapM_map]; exact h2) hu
      simpa using this
    · rename_i m e ds ht hd
      simp only at hd; subst hd
      unfold DataW.trod at h
      rw [ht] at h
      have h' : cs.length = P.cellsOf t ∧ ∃ xs, (List.range m).mapM (fun i => DataW.trod enc P W base sp held fuel e ((cs.drop (i * P.cellsOf e)).take (P.cellsOf e))) = some xs ∧ xs.map (·.1) = ds := by
        split at h <;> simp_all
        obtain ⟨h1, xs, h2, h3, _⟩ := h
        exact ⟨xs, h2, h3⟩
      obtain ⟨h1, xs, h2, h3⟩ := h'
      rw [← h1, ← h3] at hu
      have := undatL_ok (tr := DataW.trod enc P W base sp held fuel) (W := W) (F := F) (cs := cs) (fun t vs x as k1 k2 => undat_ok n t vs x fuel as k1 k2) _ 0 xs as (by rw [mapM_map]; exact h2) hu
      simpa using this
    · cases hu
theorem laid_cells [Adr] {P : Program} {W : World} {F : Nat → Prop} {g : Nat} {n : String} {cs : Array Value} {as : List AV} (hg : P.globalNamed n = some g) (hv : W.var? P n = some cs) (h : VRels W F Emb.zero as cs.toList) (h1 : ∀ c ∈ cs.toList, c.oneCell' = true) : CRel W F Emb.zero as g 0 := by
  rw [CRel_iff]
  refine ⟨cs.toList, h, fun k v hk => ?_, h1⟩
  have := World.var?_cell hg hv k
  rw [Nat.zero_add, this]
  simpa using hk
end Go.AM
end
