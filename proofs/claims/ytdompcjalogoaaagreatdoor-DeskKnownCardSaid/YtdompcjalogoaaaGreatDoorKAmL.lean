/- A text of the proof. -/
import Derived.Test.YtdompcjalogoaaaGreatDoorKAmJ
import Derived.Test.YtdompcjalogoaaaGreatDoorKAmKa
set_option linter.unusedSimpArgs false
set_option linter.unusedVariables false
namespace Go.AM
open Go Go.RowKit
section
variable {P : Program} {w0 w : World} {F : Nat → Prop} {φ : Emb} {U U' : Nat → Prop} {η : Heap}
def Leaves [Adr] (w0 w : World) (F : Nat → Prop) (φ : Emb) (U' : Nat → Prop) (η' : Heap) (v : AV) (r : Result Next) : Prop :=
  ∃ w' φ' x, (r = .ok (.value x) w' ∨ (r = .ok .skip w' ∧ x = undef)) ∧ φ.sle φ' ∧ Ext F w w' ∧ HRel w0 w' F φ' U' η' ∧ VRel w' F φ' v x
theorem Leaves.same [Adr] (h : HRel w0 w F φ U η) (hU : ∀ b, U b → U' b) {v : AV} {x : Value} {s : Sem Value} (hr : s.run P w = .ok x w) (hv : VRel w F φ v x) :
    Leaves w0 w F φ U' η v ((do pure (.value (← s)) : Sem Next).run P w) :=
  ⟨w, φ, x, .inl (by simp [hr]), Emb.sle_refl φ, Ext.refl F w, h.weakenU hU, hv⟩
theorem Leaves.of [Adr] {v : AV} {s : Sem Value} {η' : Heap} (h : ∃ w' φ' x, s.run P w = .ok x w' ∧ φ.sle φ' ∧ Ext F w w' ∧ HRel w0 w' F φ' U' η' ∧ VRel w' F φ' v x) :
    Leaves w0 w F φ U' η' v ((do pure (.value (← s)) : Sem Next).run P w) := by
  obtain ⟨w', φ', x, h1, h2, h3, h4, h5⟩ := h
  exact ⟨w', φ', x, .inl (by simp [h1]), h2, h3, h4, h5⟩
theorem map_rel [Adr] {ρ : Operand → Value} {ρa : Operand → AV} (hρ : ∀ x, VRel w F φ (ρa x) (ρ x)) (parts : Array (Nat × Operand)) :
    ∀ (k : Nat) (p : Nat × AV) (q : Nat × Value), (parts.toList.map fun p => (p.1, ρa p.2))[k]? = some p → (parts.map fun (i, x) => (i, ρ x))[k]? = some q → p.1 = q.1 ∧ VRel w F φ p.2 q.2 := by
  intro k p q hp hq
  simp only [List.getElem?_map, Option.map_eq_some_iff, Array.getElem?_map, Array.getElem?_toList] at hp hq
  obtain ⟨a, ha, rfl⟩ := hp
  obtain ⟨b, hb, rfl⟩ := hq
  rw [ha] at hb; cases hb
  exact ⟨rfl, hρ _⟩
theorem rels_map [Adr] {ρ : Operand → Value} {ρa : Operand → AV} (hρ : ∀ x, VRel w F φ (ρa x) (ρ x)) : ∀ (l : List Operand), VRels w F φ (l.map ρa) (l.map ρ)
  | [] => by simp [VRels]
  | x :: l => by simp only [List.map_cons, VRels]; exact ⟨_, _, rfl, hρ x, rels_map hρ l⟩
theorem orel_map [Adr] {ρ : Operand → Value} {ρa : Operand → AV} (hρ : ∀ x, VRel w F φ (ρa x) (ρ x)) (o : Option Operand) : ORel w F φ (o.map ρa) (o.map ρ) := by
  cases o with
  | none => rfl
  | some x => exact ⟨_, rfl, hρ x⟩
theorem opSem_ok [Adr] (h : HRel w0 w F φ U η) {ρ : Operand → Value} {ρa : Operand → AV} (hρ : ∀ x, VRel w F φ (ρa x) (ρ x)) {nm : Nat} (hnm : ¬ U nm) (hU : ∀ b, U b → U' b) (hUn : U' nm) {o : Oper} {e : Eff} (he : opSem P o.op ρa η nm = some e) :
    Leaves w0 w F φ U' (apWr η e.wr) e.v ((execOp ρ o).run P w) := by
  obtain ⟨dst, op, ty, pos, after, guard⟩ := o
  simp only at he
  unfold execOp
  simp only
  cases op <;> simp only [opSem, reduceCtorEq] at he
  case move x => cases he; exact ⟨w, φ, ρ x, .inl rfl, Emb.sle_refl φ, Ext.refl F w, h.weakenU hU, hρ x⟩
  case assign x => cases he; exact ⟨w, φ, ρ x, .inl rfl, Emb.sle_refl φ, Ext.refl F w, h.weakenU hU, hρ x⟩
  case pick c a b =>
    split at he
    · rename_i t hc
      cases he
      have := hρ c; rw [hc] at this; simp only [VRel] at this
      refine ⟨w, φ, if t then ρ a else ρ b, .inl (by simp [this, asBool]), Emb.sle_refl φ, Ext.refl F w, h.weakenU hU, ?_⟩
      cases t
      · exact hρ b
      · exact hρ a
    · cases he
  case alloc t =>
    split at he
    · rename_i n z hn hz
      split at he
      · rename_i hl; cases he
        exact Leaves.of (alloc_ok h hz hl hnm hU hUn)
      · cases he
    · cases he
  case box t x =>
    split at he
    · rename_i cs hc; cases he
      exact Leaves.of (box_ok h hc (hρ x) hnm hU hUn)
    · cases he
  case build t parts =>
    simp only [Option.map_eq_some_iff] at he
    obtain ⟨v, hv, rfl⟩ := he
    obtain ⟨y, r1, r2⟩ := build_ok (P := P) (w := w) (F := F) (φ := φ) (cparts := parts.map fun (i, x) => (i, ρ x)) hv (by simp) (map_rel hρ parts)
    exact Leaves.same h hU r1 r2
  case buildSlice t len parts =>
    simp only [Option.map_eq_some_iff] at he
    obtain ⟨⟨v, nm', blk⟩, hv, rfl⟩ := he
    obtain ⟨rfl, hr⟩ := buildSlice_ok (P := P) (cparts := parts.map fun (i, x) => (i, ρ x)) h hv (by simp) (map_rel hρ parts) hnm hU hUn
    exact Leaves.of hr
  case load t a =>
    simp only [Option.map_eq_some_iff] at he
    obtain ⟨⟨v, rd⟩, hv, rfl⟩ := he
    obtain ⟨y, r1, r2⟩ := load_ok (P := P) h hv (hρ a)
    exact Leaves.same h hU r1 r2
  case store t a x =>
    simp only [Option.map_eq_some_iff] at he
    obtain ⟨⟨b, blk⟩, hv, rfl⟩ := he
    obtain ⟨w', φ', r1, r2, r3, r4⟩ := store_ok (P := P) h hv (hρ a) (hρ x)
    refine ⟨w', φ', undef, .inr ⟨by simp [r1], rfl⟩, r2, r3, r4.weakenU hU, ?_⟩
    simp only [VRel]
    exact ⟨[], rfl, by simp [VRels]⟩
  case nilCheck x =>
    have hx := hρ x
    split at he
    · rename_i b g i j e; cases he
      rw [e] at hx
      have hx' := hx
      simp only [VRel] at hx'
      obtain ⟨cb, sz, -, hv⟩ := hx'
      refine ⟨w, φ, ρ x, .inl ?_, Emb.sle_refl φ, Ext.refl F w, h.weakenU hU, hx⟩
      simp [hv]
    · rename_i cs e; cases he
      rw [e] at hx
      have hx' := hx
      simp only [VRel] at hx'
      obtain ⟨b, o, hv, -⟩ := hx'
      refine ⟨w, φ, ρ x, .inl ?_, Emb.sle_refl φ, Ext.refl F w, h.weakenU hU, hx⟩
      simp [hv]
    · rename_i f a c e; cases he
      rw [e] at hx
      have hx' := hx
      simp only [VRel] at hx'
      obtain ⟨fs, cs, hv, -⟩ := hx'
      refine ⟨w, φ, ρ x, .inl ?_, Emb.sle_refl φ, Ext.refl F w, h.weakenU hU, hx⟩
      simp [hv]
    · cases he
  case binOp op t x y yt =>
    simp only [Option.map_eq_some_iff] at he
    obtain ⟨v, hv, rfl⟩ := he
    obtain ⟨z, r1, r2⟩ := bin_ok (P := P) (ox := x) (oy := y) hv (hρ x) (hρ y)
    exact Leaves.same h hU r1 r2
  case makeInterface t x =>
    split at he
    · rename_i hc; cases he
      obtain ⟨u, hu, hn⟩ := tConc_un hc
      refine Leaves.same h hU (x := .iface t (ρ x)) ?_ ?_
      · unfold Instr.makeInterface
        simp only [Sem.run_bind, run_underlying hu, Result.andThen_ok]
        cases u <;> simp_all
      · simp only [VRel]; exact ⟨ρ x, rfl, hρ x⟩
    · cases he
  case typeAssert x xt t ok =>
    split at he
    · rename_i hc
      simp only [Bool.and_eq_true] at hc
      obtain ⟨rfl, hc⟩ := hc
      obtain ⟨u, hu, hn⟩ := tConc_un hc
      have hx := hρ x
      have zero : ∀ {e : Eff}, (tZeroV P t).map (fun z => (⟨.tup [z, .bool false], [], []⟩ : Eff)) = some e → ∀ (y : Value), (y = .nilIface ∨ ∃ u v, y = .iface u v ∧ u ≠ t) → ρ x = y → Leaves w0 w F φ U' (apWr η e.wr) e.v ((do pure (.value (← Instr.typeAssert (ρ x) xt t true)) : Sem Next).run P w) := by
        intro e he y hy hxy
        simp only [Option.map_eq_some_iff] at he
        obtain ⟨z, hz, rfl⟩ := he
        obtain ⟨v, r1, r2⟩ := run_zeroV_of hz w
        refine Leaves.same h hU (x := .tuple #[v, .bool false]) ?_ ?_
        · rw [hxy]
          unfold Instr.typeAssert
          simp only [Sem.run_bind, run_underlying hu, Result.andThen_ok]
          rcases hy with rfl | ⟨u', v', rfl, hne⟩
          · cases u <;> simp_all
          · cases u <;> simp_all
        · simp only [VRel]
          exact ⟨[v, .bool false], rfl, by simp only [VRels]; exact ⟨v, _, rfl, r2 w F φ, .bool false, _, rfl, by simp only [VRel], rfl⟩⟩
      split at he
      · rename_i u' v e
        rw [e] at hx
        simp only [VRel] at hx
        obtain ⟨y, hy, hv⟩ := hx
        split at he
        · rename_i heq; subst heq; cases he
          refine Leaves.same h hU (x := .tuple #[y, .bool true]) ?_ ?_
          · rw [hy]
            unfold Instr.typeAssert
            simp only [Sem.run_bind, run_underlying hu, Result.andThen_ok]
            cases u <;> simp_all
          · simp only [VRel]
            exact ⟨[y, .bool true], rfl, by simp only [VRels]; exact ⟨y, _, rfl, hv, .bool true, _, rfl, by simp only [VRel], rfl⟩⟩
        · rename_i hne
          exact zero he _ (.inr ⟨u', y, rfl, hne⟩) hy
      · rename_i e
        rw [e] at hx
        simp only [VRel] at hx
        exact zero he _ (.inl rfl) hx
      · cases he
    · cases he
  case unOp op t x =>
    simp only [Option.map_eq_some_iff] at he
    obtain ⟨v, hv, rfl⟩ := he
    obtain ⟨z, r1, r2⟩ := un_ok (P := P) (w := w) hv (hρ x)
    exact Leaves.same h hU r1 r2
  case convert s d x =>
    simp only [Option.map_eq_some_iff] at he
    obtain ⟨v, hv, rfl⟩ := he
    obtain ⟨z, r1, r2⟩ := conv_ok (P := P) (w := w) hv (hρ x)
    exact Leaves.same h hU r1 r2
  case makeFunc f first cap =>
    cases f <;> simp only [reduceCtorEq] at he
    rename_i f'
    cases he
    refine Leaves.same h hU (x := .func (.func f') (first.map ρ) (cap.map ρ)) rfl ?_
    simp only [VRel]
    exact ⟨first.toList.map ρ, cap.toList.map ρ, by congr 1 <;> (apply Array.ext'; simp), rels_map hρ _, rels_map hρ _⟩
  case makeSlice t l c =>
    simp only [Option.map_eq_some_iff] at he
    obtain ⟨⟨v, nm', blk⟩, hv, rfl⟩ := he
    obtain ⟨rfl, hr⟩ := makeSlice_ok (P := P) h hv (hρ l) (hρ c) hnm hU hUn
    exact Leaves.of hr
  case slice t x lo hi mx =>
    simp only [Option.map_eq_some_iff] at he
    obtain ⟨v, hv, rfl⟩ := he
    obtain ⟨z, r1, r2⟩ := slice_ok (P := P) hv (hρ x) (orel_map hρ lo) (orel_map hρ hi) (orel_map hρ mx)
    exact Leaves.same h hU r1 r2
  case fieldAddr t x f =>
    simp only [Option.map_eq_some_iff] at he
    obtain ⟨v, hv, rfl⟩ := he
    obtain ⟨z, r1, r2⟩ := fieldAddr_ok (P := P) hv (hρ x)
    exact Leaves.same h hU r1 r2
  case field t x f =>
    split at he
    · rename_i off ty' cs hf hx
      simp only [Option.map_eq_some_iff] at he
      obtain ⟨v, hv, rfl⟩ := he
      have hh := hρ x
      rw [hx] at hh
      obtain ⟨z, r1, r2⟩ := field_ok (P := P) (v := v) hf (fun vs hvs h1 => run_part_of (P := P) hv hvs h1) hh
      exact Leaves.same h hU r1 r2
    · cases he
  case indexAddr t x i =>
    simp only [Option.map_eq_some_iff] at he
    obtain ⟨v, hv, rfl⟩ := he
    obtain ⟨z, r1, r2⟩ := indexAddr_ok (P := P) hv (hρ x) (hρ i)
    exact Leaves.same h hU r1 r2
  case index t x i =>
    split at he
    · rename_i s k n hu hx hi
      split at he
      · rename_i hn
        simp only [Option.map_eq_some_iff] at he
        obtain ⟨c, hc, rfl⟩ := he
        have h1 := hρ x
        have h2 := hρ i
        rw [hx] at h1; rw [hi] at h2
        simp only [VRel] at h1 h2
        refine Leaves.same h hU (x := .int .u8 c.toNat) ?_ (by simp [VRel])
        have hget : (⟨s.toArray⟩ : ByteArray)[n.toNat]? = some c := by
          have hlt := (List.getElem?_eq_some_iff.1 hc)
          obtain ⟨l1, l2⟩ := hlt
          have : n.toNat < (⟨s.toArray⟩ : ByteArray).size := by rw [size_mk]; exact l1
          rw [getElem?_pos (⟨s.toArray⟩ : ByteArray) n.toNat this]
          exact congrArg some l2
        simp [Instr.index, h1, h2, asIntOf, run_underlying hu, hn, hget]
      · cases he
    · cases he
  case extract x i =>
    split at he
    · rename_i vs hx
      simp only [Option.map_eq_some_iff] at he
      obtain ⟨v, hv, rfl⟩ := he
      have h1 := hρ x
      rw [hx] at h1
      simp only [VRel] at h1
      obtain ⟨cs, h1, h2⟩ := h1
      obtain ⟨y, hy, hr⟩ := h2.get hv
      exact Leaves.same h hU (x := y) (by simp [Instr.extract, h1, hy]) hr
    · cases he
  case call c =>
    obtain ⟨callee, args, argTypes⟩ := c
    cases callee <;> simp only [reduceCtorEq] at he
    rename_i b
    unfold semBuiltin at he
    have hT : ∀ {l : List TypeId}, argTypes.toList = l → argTypes = ⟨l⟩ := fun h => by rw [← h]
    have hA : ∀ {l : List AV}, args.toList.map ρa = l → ∃ vs, args.map ρ = ⟨vs⟩ ∧ VRels w F φ l vs := fun h => ⟨args.toList.map ρ, by apply Array.ext'; simp, by rw [← h]; exact rels_map hρ _⟩
    split at he
    · rename_i t x e1 e2
      simp only [Option.map_eq_some_iff] at he
      obtain ⟨v, hv, rfl⟩ := he
      obtain ⟨vs, h1, h2⟩ := hA e2
      simp only [VRels] at h2
      obtain ⟨y, _, rfl, hy, rfl⟩ := h2
      obtain ⟨z, r1, r2⟩ := len_ok (P := P) (ty := ty) hv hy
      rw [hT e1]
      refine ⟨w, φ, z, .inl ?_, Emb.sle_refl φ, Ext.refl F w, h.weakenU hU, r2⟩
      simp [resolve, invoke, builtin, h1, r1]
    · rename_i t t' s x e1 e2
      simp only [Option.map_eq_some_iff] at he
      obtain ⟨⟨v, ⟨nm', blk⟩, rd⟩, hv, rfl⟩ := he
      obtain ⟨vs, h1, h2⟩ := hA e2
      simp only [VRels] at h2
      obtain ⟨y, _, rfl, hy, y', _, rfl, hy', rfl⟩ := h2
      obtain ⟨w', φ', z, r1, r2, r3, r4, r5⟩ := append_ok (P := P) (ty := ty) h hv hy hy' hnm hU hUn
      rw [hT e1]
      refine ⟨w', φ', z, .inl ?_, r2, r3, r4, r5⟩
      simp [resolve, invoke, builtin, h1, r1]
    · rename_i ts x y e2
      simp only [Option.map_eq_some_iff] at he
      obtain ⟨v, hv, rfl⟩ := he
      obtain ⟨vs, h1, h2⟩ := hA e2
      simp only [VRels] at h2
      obtain ⟨p, _, rfl, hp, q, _, rfl, hq, rfl⟩ := h2
      unfold aMin at hv
      split at hv
      · rename_i k a k' b
        split at hv
        · rename_i ek; subst ek; cases hv
          simp only [VRel] at hp hq; subst hp; subst hq
          refine ⟨w, φ, .int k (if b < a then b else a), .inl ?_, Emb.sle_refl φ, Ext.refl F w, h.weakenU hU, by simp [VRel]⟩
          simp [resolve, invoke, builtin, h1, Builtin.min_, Builtin.min2]
        · cases hv
      · cases hv
    · rename_i ts x y e2
      simp only [Option.map_eq_some_iff] at he
      obtain ⟨v, hv, rfl⟩ := he
      obtain ⟨vs, h1, h2⟩ := hA e2
      simp only [VRels] at h2
      obtain ⟨p, _, rfl, hp, q, _, rfl, hq, rfl⟩ := h2
      unfold aMax at hv
      split at hv
      · rename_i k a k' b
        split at hv
        · rename_i ek; subst ek; cases hv
          simp only [VRel] at hp hq; subst hp; subst hq
          refine ⟨w, φ, .int k (if b > a then b else a), .inl ?_, Emb.sle_refl φ, Ext.refl F w, h.weakenU hU, by simp [VRel]⟩
          simp [resolve, invoke, builtin, h1, Builtin.max_, Builtin.max2]
        · cases hv
      · cases hv
    · cases he
end
end Go.AM
