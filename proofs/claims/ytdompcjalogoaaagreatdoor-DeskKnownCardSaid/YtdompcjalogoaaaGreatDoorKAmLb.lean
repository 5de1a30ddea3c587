/- A text of the proof. -/
import Derived.Test.YtdompcjalogoaaaGreatDoorKAmLa
set_option linter.unusedSimpArgs false
set_option linter.unusedVariables false
namespace Go.AM
open Go Go.RowKit
section
variable {P : Program} {w0 w : World} {F : Nat → Prop} {φ : Emb} {U U' : Nat → Prop} {η : Heap}
theorem opSem2_ok [Adr] (h : HRel w0 w F φ U η) {ρ : Operand → Value} {ρa : Operand → AV} (hρ : ∀ x, VRel w F φ (ρa x) (ρ x)) {nm : Nat} (hnm : ¬ U nm) (hU : ∀ b, U b → U' b) (hUn : U' nm) {o : Oper} {e : Eff} (he : opSem2 P o.op ρa η nm = some e) :
    Leaves w0 w F φ U' (apWr η e.wr) e.v ((execOp ρ o).run P w) := by
  obtain ⟨dst, op, ty, pos, after, guard⟩ := o
  simp only at he
  unfold execOp
  simp only
  cases op <;> simp only [opSem2, reduceCtorEq] at he
  case binOp op t x y yt =>
    simp only [Option.map_eq_some_iff] at he
    obtain ⟨v, hv, rfl⟩ := he
    obtain ⟨z, r1, r2⟩ := kBin_ok (P := P) (w := w) hv (hρ x) (hρ y)
    exact Leaves.same h hU r1 r2
  case load t a =>
    simp only [Option.map_eq_some_iff] at he
    obtain ⟨v, hv, rfl⟩ := he
    obtain ⟨y, r1, r2⟩ := kLoad_ok (P := P) hv (hρ a)
    exact Leaves.same h hU r1 r2
  case fieldAddr t x f =>
    simp only [Option.map_eq_some_iff] at he
    obtain ⟨v, hv, rfl⟩ := he
    obtain ⟨z, r1, r2⟩ := kFieldAddr_ok (P := P) hv (hρ x)
    exact Leaves.same h hU r1 r2
  case indexAddr t x i =>
    simp only [Option.map_eq_some_iff] at he
    obtain ⟨v, hv, rfl⟩ := he
    obtain ⟨z, r1, r2⟩ := kIndexAddr_ok (P := P) hv (hρ x) (hρ i)
    exact Leaves.same h hU r1 r2
  case slice t x lo hi mx =>
    split at he
    · rename_i v hv
      cases he
      obtain ⟨z, r1, r2⟩ := kSlice_ok (P := P) hv (hρ x) (orel_map hρ lo) (orel_map hρ hi) (orel_map hρ mx)
      exact Leaves.same h hU r1 r2
    · split at he
      · rename_i v hv
        cases he
        obtain ⟨z, r1, r2⟩ := kSliceX_ok (P := P) hv (wkx_rel (hρ x)) (orel_map hρ lo) (orel_map hρ hi) (orel_map hρ mx)
        exact Leaves.same h hU r1 r2
      · simp only [Option.map_eq_some_iff] at he
        obtain ⟨⟨v, rd⟩, hv, rfl⟩ := he
        obtain ⟨z, r1, r2⟩ := kArrSl_ok (P := P) h hv (hρ x) (orel_map hρ lo) (orel_map hρ hi) (orel_map hρ mx)
        exact Leaves.same h hU r1 r2
  case makeSlice t l c =>
    simp only [Option.map_eq_some_iff] at he
    obtain ⟨⟨v, nm', blk⟩, hv, rfl⟩ := he
    obtain ⟨rfl, hr⟩ := kMake_ok (P := P) h hv (hρ l) (hρ c) hnm hU hUn
    exact Leaves.of hr
  case convert s d x =>
    split at he
    · rename_i r hv
      obtain ⟨v, nm', blk⟩ := r
      cases he
      obtain ⟨rfl, hr⟩ := kConv_ok (P := P) h hv (hρ x) hnm hU hUn
      exact Leaves.of hr
    · split at he
      · rename_i r hv
        obtain ⟨v, rd⟩ := r
        cases he
        obtain ⟨z, r1, r2⟩ := kConvS_ok (P := P) h hv (hρ x)
        exact Leaves.same h hU r1 r2
      simp only [Option.map_eq_some_iff] at he
      obtain ⟨⟨v, rd⟩, hv, rfl⟩ := he
      obtain ⟨z, r1, r2⟩ := kConvP_ok (P := P) h hv (hρ x)
      exact Leaves.same h hU r1 r2
  case alloc t =>
    simp only [Option.map_eq_some_iff] at he
    obtain ⟨⟨v, nm', blk⟩, hv, rfl⟩ := he
    obtain ⟨rfl, hr⟩ := kAlloc_ok (P := P) h hv hnm hU hUn
    exact Leaves.of hr
  case build t parts =>
    simp only [Option.map_eq_some_iff] at he
    obtain ⟨v, hv, rfl⟩ := he
    obtain ⟨y, r1, r2⟩ := kBuild_ok (P := P) (w := w) (F := F) (φ := φ) (cparts := parts.map fun (i, x) => (i, ρ x)) hv (by simp) (map_rel hρ parts)
    exact Leaves.same h hU r1 r2
  case index t x i =>
    simp only [Option.map_eq_some_iff] at he
    obtain ⟨v, hv, rfl⟩ := he
    obtain ⟨z, r1, r2⟩ := kIndex_ok (P := P) hv (hρ x) (hρ i)
    exact Leaves.same h hU r1 r2
  case call c =>
    obtain ⟨callee, args, argTypes⟩ := c
    cases callee <;> simp only [reduceCtorEq] at he
    rename_i b
    have hT : ∀ {l : List TypeId}, argTypes.toList = l → argTypes = ⟨l⟩ := fun h => by rw [← h]
    have hA : ∀ {l : List AV}, args.toList.map ρa = l → ∃ vs, args.map ρ = ⟨vs⟩ ∧ VRels w F φ l vs := fun h => ⟨args.toList.map ρ, by apply Array.ext'; simp, by rw [← h]; exact rels_map hρ _⟩
    cases b <;> simp only [semB2, reduceCtorEq] at he
    case len =>
      split at he
      · rename_i t b g z off len lo ex e1 e2
        simp only [Option.map_eq_some_iff] at he
        obtain ⟨el, hel, rfl⟩ := he
        obtain ⟨vs, h1, h2⟩ := hA e2
        simp only [VRels, VRel] at h2
        obtain ⟨y, _, rfl, ⟨cb, cap, -, rfl, -⟩, rfl⟩ := h2
        rw [hT e1]
        refine ⟨w, φ, .int .i64 len, .inl ?_, Emb.sle_refl φ, Ext.refl F w, h.weakenU hU, by simp only [VRel]⟩
        simp [resolve, invoke, builtin, h1, Builtin.len_, run_underlying (tSlice_un hel), goInt]
      · rename_i t n s e1 e2
        split at he
        rotate_left
        · cases he
        rename_i hu
        cases he
        obtain ⟨vs, h1, h2⟩ := hA e2
        simp only [VRels, VRel] at h2
        obtain ⟨y, _, rfl, ⟨rfl, -⟩, rfl⟩ := h2
        rw [hT e1]
        refine ⟨w, φ, .int .i64 (⟨s.toArray⟩ : ByteArray).size, .inl ?_, Emb.sle_refl φ, Ext.refl F w, h.weakenU hU, by simp only [VRel]; exact ⟨_, rfl⟩⟩
        simp [resolve, invoke, builtin, h1, Builtin.len_, run_underlying hu, goInt]
      · cases he
    case cap =>
      split at he
      · rename_i t b g z off len lo e1 e2
        simp only [Option.map_eq_some_iff] at he
        obtain ⟨el, hel, rfl⟩ := he
        obtain ⟨vs, h1, h2⟩ := hA e2
        simp only [VRels, VRel] at h2
        obtain ⟨y, _, rfl, ⟨cb, cap, -, rfl, -, -, hx, -⟩, rfl⟩ := h2
        rw [hx trivial] at h1
        rw [hT e1]
        refine ⟨w, φ, .int .i64 lo, .inl ?_, Emb.sle_refl φ, Ext.refl F w, h.weakenU hU, by simp only [VRel]⟩
        simp [resolve, invoke, builtin, h1, Builtin.cap_, run_underlying (tSlice_un hel), goInt]
      · rename_i t e1 e2
        simp only [Option.map_eq_some_iff] at he
        obtain ⟨el, hel, rfl⟩ := he
        obtain ⟨vs, h1, h2⟩ := hA e2
        simp only [VRels, VRel] at h2
        obtain ⟨y, _, rfl, rfl, rfl⟩ := h2
        rw [hT e1]
        refine ⟨w, φ, .int .i64 0, .inl ?_, Emb.sle_refl φ, Ext.refl F w, h.weakenU hU, by simp only [VRel]⟩
        simp [resolve, invoke, builtin, h1, Builtin.cap_, run_underlying (tSlice_un hel), goInt]
      · cases he
    case append =>
      split at he
      · rename_i t t' s x e1 e2
        obtain ⟨vs, h1, h2⟩ := hA e2
        simp only [VRels] at h2
        obtain ⟨y, _, rfl, hy, y', _, rfl, hy', rfl⟩ := h2
        split at he
        · simp only [Option.map_eq_some_iff] at he
          obtain ⟨⟨v, ⟨nm', blk⟩, rd⟩, hv, rfl⟩ := he
          obtain ⟨w', φ', z, r1, r2, r3, r4, r5⟩ := kAppend_ok (P := P) (ty := ty) h hv hy hy' hnm hU hUn
          rw [hT e1]
          refine ⟨w', φ', z, .inl ?_, r2, r3, r4, r5⟩
          simp [resolve, invoke, builtin, h1, r1]
        · simp only [Option.map_eq_some_iff] at he
          obtain ⟨⟨v, ⟨nm', blk⟩, rd⟩, hv, rfl⟩ := he
          obtain ⟨w', φ', z, r1, r2, r3, r4, r5⟩ := kAppX_ok (P := P) (ty := ty) h hv hy hy' hnm hU hUn
          rw [hT e1]
          refine ⟨w', φ', z, .inl ?_, r2, r3, r4, r5⟩
          simp [resolve, invoke, builtin, h1, r1]
        · split at he
          · simp only [Option.map_eq_some_iff] at he
            obtain ⟨⟨v, ⟨nm', blk⟩, rd⟩, hv, rfl⟩ := he
            simp only [VRel] at hy'
            subst hy'
            obtain ⟨w', φ', z, r1, r2, r3, r4, r5⟩ := kAppStr_ok (P := P) (ty := ty) h hv hy hnm hU hUn
            rw [hT e1]
            refine ⟨w', φ', z, .inl ?_, r2, r3, r4, r5⟩
            simp [resolve, invoke, builtin, h1, r1]
          · simp only [Option.map_eq_some_iff] at he
            obtain ⟨⟨v, ⟨nm', blk⟩, rd⟩, hv, rfl⟩ := he
            obtain ⟨w', φ', z, r1, r2, r3, r4, r5⟩ := append_ok (P := P) (ty := ty) h hv hy (wk_rel hy') hnm hU hUn
            rw [hT e1]
            refine ⟨w', φ', z, .inl ?_, r2, r3, r4, r5⟩
            simp [resolve, invoke, builtin, h1, r1]
          · split at he
            · simp only [Option.map_eq_some_iff] at he
              obtain ⟨⟨v, nm', blk⟩, hv, rfl⟩ := he
              obtain ⟨w', φ', z, r1, r2, r3, r4, r5⟩ := kZeros_ok (P := P) (ty := ty) h hv hy hy' hnm hU hUn
              rw [hT e1]
              refine ⟨w', φ', z, .inl ?_, r2, r3, r4, r5⟩
              simp [resolve, invoke, builtin, h1, r1]
            · cases he
          · cases he
      · cases he
    case unsafeSliceData =>
      split at he
      · rename_i x e2
        simp only [Option.map_eq_some_iff] at he
        obtain ⟨v, hv, rfl⟩ := he
        obtain ⟨vs, h1, h2⟩ := hA e2
        simp only [VRels] at h2
        obtain ⟨y, _, rfl, hy, rfl⟩ := h2
        obtain ⟨z, r1, r2⟩ := kSlData_ok (P := P) (w := w) (ts := argTypes) (ty := ty) hv hy
        refine ⟨w, φ, z, .inl ?_, Emb.sle_refl φ, Ext.refl F w, h.weakenU hU, r2⟩
        simp [resolve, invoke, builtin, h1, r1]
      · cases he
    case unsafeString =>
      split at he
      · rename_i t it x n e1 e2
        simp only [Option.map_eq_some_iff] at he
        obtain ⟨⟨v, wr, rd⟩, hv, rfl⟩ := he
        obtain ⟨vs, h1, h2⟩ := hA e2
        simp only [VRels] at h2
        obtain ⟨y, _, rfl, hy, y', _, rfl, hy', rfl⟩ := h2
        obtain ⟨w', z, r1, r2, r3, r4⟩ := kUStr_ok (P := P) (it := it) (ty := ty) h hv hy hy'
        rw [hT e1]
        refine ⟨w', φ, z, .inl ?_, Emb.sle_refl φ, r2, r3.weakenU hU, r4⟩
        simp [resolve, invoke, builtin, h1, r1]
      · cases he
    case copy =>
      split at he
      · rename_i t t' d x e1 e2
        obtain ⟨vs, h1, h2⟩ := hA e2
        simp only [VRels] at h2
        obtain ⟨y, _, rfl, hy, y', _, rfl, hy', rfl⟩ := h2
        simp only [Option.map_eq_some_iff] at he
        obtain ⟨⟨v, ⟨nm', blk⟩, rd⟩, hv, rfl⟩ := he
        obtain ⟨w', φ', z, r1, r2, r3, r4, r5⟩ := kCopy_ok (P := P) (ty := ty) h hv hy hy'
        rw [hT e1]
        refine ⟨w', φ', z, .inl ?_, r2, r3, r4.weakenU hU, r5⟩
        simp [resolve, invoke, builtin, h1, r1]
      · cases he
    case clear =>
      split at he
      · rename_i t d e1 e2
        obtain ⟨vs, h1, h2⟩ := hA e2
        simp only [VRels] at h2
        obtain ⟨y, _, rfl, hy, rfl⟩ := h2
        rw [hT e1]
        split at he
        · rename_i hz
          simp only [Option.map_eq_some_iff] at he
          obtain ⟨e0, hel, rfl⟩ := he
          refine ⟨w, φ, .tuple #[], .inl ?_, Emb.sle_refl φ, Ext.refl F w, h.weakenU hU, by simp only [VRel]; exact ⟨[], rfl, by simp only [VRels]⟩⟩
          simp [resolve, invoke, builtin, h1, lenZ_run (P := P) (ty := ty) hel hz hy]
        · simp only [Option.map_eq_some_iff] at he
          obtain ⟨⟨v, ⟨nm', blk⟩, rd⟩, hv, rfl⟩ := he
          obtain ⟨w', φ', z, r1, r2, r3, r4, r5⟩ := kClear_ok (P := P) (ty := ty) h hv hy
          refine ⟨w', φ', z, .inl ?_, r2, r3, r4.weakenU hU, r5⟩
          simp [resolve, invoke, builtin, h1, r1]
      · cases he
    case min =>
      split at he
      · rename_i a b c l e2
        obtain ⟨vs, h1, h2⟩ := hA e2
        simp only [VRels] at h2
        obtain ⟨x, _, rfl, hx, y, _, rfl, hy, z, us, rfl, hz, hl⟩ := h2
        simp only [Option.map_eq_some_iff] at he
        obtain ⟨v, hv, rfl⟩ := he
        obtain ⟨q, r1, r2⟩ := foldMin_ok (P := P) (w := w) _ _ _ _ (y :: z :: us) hv hx (by simp only [VRels]; exact ⟨y, _, rfl, hy, z, us, rfl, hz, hl⟩)
        refine ⟨w, φ, q, .inl ?_, Emb.sle_refl φ, Ext.refl F w, h.weakenU hU, r2⟩
        simp [resolve, invoke, builtin, h1, Builtin.min_, -List.foldlM_cons, r1]
      · cases he
    case max =>
      split at he
      · rename_i a b c l e2
        obtain ⟨vs, h1, h2⟩ := hA e2
        simp only [VRels] at h2
        obtain ⟨x, _, rfl, hx, y, _, rfl, hy, z, us, rfl, hz, hl⟩ := h2
        simp only [Option.map_eq_some_iff] at he
        obtain ⟨v, hv, rfl⟩ := he
        obtain ⟨q, r1, r2⟩ := foldMax_ok (P := P) (w := w) _ _ _ _ (y :: z :: us) hv hx (by simp only [VRels]; exact ⟨y, _, rfl, hy, z, us, rfl, hz, hl⟩)
        refine ⟨w, φ, q, .inl ?_, Emb.sle_refl φ, Ext.refl F w, h.weakenU hU, r2⟩
        simp [resolve, invoke, builtin, h1, Builtin.max_, -List.foldlM_cons, r1]
      · cases he
theorem opSemE_ok [Adr] {ε : Bool} (h : HRel w0 w F φ U η) {ρ : Operand → Value} {ρa : Operand → AV} (hρ : ∀ x, VRel w F φ (ρa x) (ρ x)) {nm : Nat} (hnm : ¬ U nm) (hU : ∀ b, U b → U' b) (hUn : U' nm) {o : Oper} {e : Eff} (he : opSemE ε P o.op ρa η nm = some e) :
    Leaves w0 w F φ U' (apWr η e.wr) e.v ((execOp ρ o).run P w) := by
  cases ε with
  | false => exact opSem_ok h hρ hnm hU hUn he
  | true =>
    simp only [opSemE] at he
    split at he
    · rename_i e' h2; cases he
      exact opSem2_ok h hρ hnm hU hUn h2
    · split at he
      · exact opSem_ok h (fun x => wkx_rel (hρ x)) hnm hU hUn he
      · exact opSem_ok h hρ hnm hU hUn he
end
end Go.AM
