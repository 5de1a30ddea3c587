/- A text of the proof. -/
import Derived.Test.YtdompcjalogoaaaGreatDoorKAmG
set_option linter.unusedSimpArgs false
set_option linter.unusedVariables false
namespace Go.AM
open Go Go.RowKit
section
variable {P : Program} {w0 w : World} {F : Nat → Prop} {φ : Emb} {U U' : Nat → Prop} {η : Heap}
def ORel [Adr] (w : World) (F : Nat → Prop) (φ : Emb) : Option AV → Option Value → Prop
  | none, y => y = none
  | some a, y => ∃ v, y = some v ∧ VRel w F φ a v
theorem bound_ok [Adr] {x : AV} {v : Value} {n y : Nat} {d : Nat} {code : BoundsCode} (h : sliceBd (some x) d = some n) (hx : VRel w F φ x v) (hn : n ≤ y) : (Instr.sliceBound v y code).run P w = .ok n w := by
  unfold sliceBd at h
  split at h
  · rename_i e; cases e
  · rename_i k i e
    cases e
    split at h
    · rename_i hi
      cases h
      simp only [VRel] at hx; subst hx
      have : i ≤ (y : Int) := by omega
      simp [Instr.sliceBound, asIntOf, hi, this]
    · cases h
  · cases h
theorem bounds_ok [Adr] {lo hi mx : Option AV} {clo chi cmx : Option Value} {len cap l h m : Nat} (hlo : ORel w F φ lo clo) (hhi : ORel w F φ hi chi) (hmx : ORel w F φ mx cmx) (hl : sliceBd lo 0 = some l) (hh : sliceBd hi len = some h) (hm : sliceBd mx len = some m)
    (hc : mx.isSome = true → hi.isSome = true) (h1 : l ≤ h) (h2 : h ≤ m) (h3 : m ≤ len) (h4 : len ≤ cap) :
    ∃ m', (Instr.sliceBounds true len cap clo chi cmx).run P w = .ok (l, h, m') w ∧ h ≤ m' ∧ m' ≤ cap := by
  cases mx with
  | none =>
    simp only [ORel] at hmx; subst hmx
    refine ⟨cap, ?_, by simp [sliceBd] at hm; omega, Nat.le_refl _⟩
    simp only [sliceBd, Option.some.injEq] at hm
    cases hi with
    | none =>
      simp only [ORel] at hhi; subst hhi
      simp only [sliceBd, Option.some.injEq] at hh
      cases lo with
      | none =>
        simp only [ORel] at hlo; subst hlo
        simp only [sliceBd, Option.some.injEq] at hl
        simp [Instr.sliceBounds, hh, hl]
      | some x =>
        obtain ⟨v, rfl, hv⟩ := hlo
        simp [Instr.sliceBounds, bound_ok hl hv h1, hh]
    | some y =>
      obtain ⟨u, rfl, hu⟩ := hhi
      cases lo with
      | none =>
        simp only [ORel] at hlo; subst hlo
        simp only [sliceBd, Option.some.injEq] at hl
        simp [Instr.sliceBounds, bound_ok hh hu (show h ≤ cap by omega), hl]
      | some x =>
        obtain ⟨v, rfl, hv⟩ := hlo
        simp [Instr.sliceBounds, bound_ok hh hu (show h ≤ cap by omega), bound_ok hl hv h1]
  | some z =>
    obtain ⟨q, rfl, hq⟩ := hmx
    refine ⟨m, ?_, h2, by omega⟩
    cases hi with
    | none => simp at hc
    | some y =>
      obtain ⟨u, rfl, hu⟩ := hhi
      cases lo with
      | none =>
        simp only [ORel] at hlo; subst hlo
        simp only [sliceBd, Option.some.injEq] at hl
        simp [Instr.sliceBounds, bound_ok hm hq (show m ≤ cap by omega), bound_ok hh hu h2, hl]
      | some x =>
        obtain ⟨v, rfl, hv⟩ := hlo
        simp [Instr.sliceBounds, bound_ok hm hq (show m ≤ cap by omega), bound_ok hh hu h2, bound_ok hl hv h1]
theorem bounds_ok2 [Adr] {lo hi mx : Option AV} {clo chi cmx : Option Value} {len cap l h m : Nat} (hlo : ORel w F φ lo clo) (hhi : ORel w F φ hi chi) (hmx : ORel w F φ mx cmx) (hl : sliceBd lo 0 = some l) (hh : sliceBd hi len = some h) (hm : sliceBd mx len = some m)
    (hc : mx.isSome = true → hi.isSome = true) (h1 : l ≤ h) (h2 : h ≤ m) (h3 : m ≤ len) (h4 : len ≤ cap) :
    ∃ m', (Instr.sliceBounds true len cap clo chi cmx).run P w = .ok (l, h, m') w ∧ (mx.isSome = true → m' = m) := by
  cases mx with
  | none =>
    simp only [ORel] at hmx; subst hmx
    refine ⟨cap, ?_, fun h => by simp at h⟩
    simp only [sliceBd, Option.some.injEq] at hm
    cases hi with
    | none =>
      simp only [ORel] at hhi; subst hhi
      simp only [sliceBd, Option.some.injEq] at hh
      cases lo with
      | none =>
        simp only [ORel] at hlo; subst hlo
        simp only [sliceBd, Option.some.injEq] at hl
        simp [Instr.sliceBounds, hh, hl]
      | some x =>
        obtain ⟨v, rfl, hv⟩ := hlo
        simp [Instr.sliceBounds, bound_ok hl hv h1, hh]
    | some y =>
      obtain ⟨u, rfl, hu⟩ := hhi
      cases lo with
      | none =>
        simp only [ORel] at hlo; subst hlo
        simp only [sliceBd, Option.some.injEq] at hl
        simp [Instr.sliceBounds, bound_ok hh hu (show h ≤ cap by omega), hl]
      | some x =>
        obtain ⟨v, rfl, hv⟩ := hlo
        simp [Instr.sliceBounds, bound_ok hh hu (show h ≤ cap by omega), bound_ok hl hv h1]
  | some z =>
    obtain ⟨q, rfl, hq⟩ := hmx
    refine ⟨m, ?_, fun _ => rfl⟩
    cases hi with
    | none => simp at hc
    | some y =>
      obtain ⟨u, rfl, hu⟩ := hhi
      cases lo with
      | none =>
        simp only [ORel] at hlo; subst hlo
        simp only [sliceBd, Option.some.injEq] at hl
        simp [Instr.sliceBounds, bound_ok hm hq (show m ≤ cap by omega), bound_ok hh hu h2, hl]
      | some x =>
        obtain ⟨v, rfl, hv⟩ := hlo
        simp [Instr.sliceBounds, bound_ok hm hq (show m ≤ cap by omega), bound_ok hh hu h2, bound_ok hl hv h1]
theorem run_sliceAt_slice {t e : TypeId} (hu : P.underlying t = some (.slice e)) (x : Value) (a b c : Option Value) : (Instr.sliceAt t x a b c).run P w = (Instr.slice t x a b c).run P w := by
  unfold Instr.sliceAt
  simp [run_underlying hu]
theorem run_sliceAt_string {t : TypeId} (hu : P.underlying t = some .string) (x : Value) (a b c : Option Value) : (Instr.sliceAt t x a b c).run P w = (Instr.slice t x a b c).run P w := by
  unfold Instr.sliceAt
  simp [run_underlying hu]
theorem slice_ok [Adr] {t : TypeId} {x v : AV} {y : Value} {lo hi mx : Option AV} {clo chi cmx : Option Value} (hs : aSlice P t x lo hi mx = some v) (hx : VRel w F φ x y) (hlo : ORel w F φ lo clo) (hhi : ORel w F φ hi chi) (hmx : ORel w F φ mx cmx) :
    ∃ z, (Instr.sliceAt t y clo chi cmx).run P w = .ok z w ∧ VRel w F φ v z := by
  unfold aSlice at hs
  split at hs
  · rename_i s hu
    split at hs
    · cases hs
    · rename_i hmn
      cases mx with
      | some z => simp at hmn
      | none =>
        simp only [ORel] at hmx; subst hmx
        split at hs
        · rename_i l h hl hh
          split at hs
          · rename_i hcond
            cases hs
            simp only [VRel] at hx; subst hx
            rw [run_sliceAt_string hu]
            refine ⟨.string ⟨((s.drop l).take (h - l)).toArray⟩, ?_, by simp only [VRel]⟩
            have hsz : (⟨s.toArray⟩ : ByteArray).size = s.length := by simp [ByteArray.size]
            have hext : (⟨s.toArray⟩ : ByteArray).extract l h = ⟨((s.drop l).take (h - l)).toArray⟩ := by
              apply ByteArray.ext
              simp [ByteArray.data_extract]
            have hb : (Instr.sliceBounds false s.length s.length clo chi none).run P w = .ok (l, h, s.length) w := by
              cases hi with
              | none =>
                simp only [ORel] at hhi; subst hhi
                simp only [sliceBd, Option.some.injEq] at hh
                cases lo with
                | none => simp only [ORel] at hlo; subst hlo; simp only [sliceBd, Option.some.injEq] at hl; simp [Instr.sliceBounds, hh, hl]
                | some x => obtain ⟨v, rfl, hv⟩ := hlo; simp [Instr.sliceBounds, bound_ok hl hv hcond.1, hh]
              | some y =>
                obtain ⟨u, rfl, hu'⟩ := hhi
                cases lo with
                | none => simp only [ORel] at hlo; subst hlo; simp only [sliceBd, Option.some.injEq] at hl; simp [Instr.sliceBounds, bound_ok hh hu' hcond.2, hl]
                | some x => obtain ⟨v, rfl, hv⟩ := hlo; simp [Instr.sliceBounds, bound_ok hh hu' hcond.2, bound_ok hl hv hcond.1]
            simp [Instr.slice, run_underlying hu, hsz, hb, hext]
          · cases hs
        · cases hs
  · rename_i e b g z off len hu
    split at hs
    · rename_i sz l h m hsz hl hh hm
      split at hs
      · rename_i hcond
        obtain ⟨rfl, c1, c2, c3, c4⟩ := hcond
        rw [run_sliceAt_slice hu]
        simp only [VRel] at hx
        rcases hx with ⟨h1, h2, h3, a0, rfl⟩ | ⟨cb, cap, h1, rfl, h3, el, n, h4, h5⟩
        · subst h2; subst h3
          obtain ⟨m', r1, r2, r3⟩ := bounds_ok (P := P) (cap := 0) hlo hhi hmx hl hh hm c1 c2 c3 c4 (Nat.le_refl _)
          have e1 : m' = 0 := by omega
          have e2 : h = 0 := by omega
          have e3 : l = 0 := by omega
          subst e1; subst e2; subst e3
          refine ⟨.slice a0 0 0, ?_, ?_⟩
          · simp [Instr.slice, run_underlying hu, r1, run_sizeOf_of hsz]
          · rw [if_pos (by simp)] at hs
            cases hs
            simp only [VRel]; exact .inl ⟨h1, by simp⟩
        · obtain ⟨m', r1, r2, r3⟩ := bounds_ok (P := P) (cap := cap) hlo hhi hmx hl hh hm c1 c2 c3 c4 h3
          refine ⟨.slice (if m' = l then some ⟨cb, off * z, none⟩ else (some (⟨cb, off * z, none⟩ : Addr)).map (·.add (l * z))) (h - l) (m' - l), ?_, ?_⟩
          · simp [Instr.slice, run_underlying hu, r1, run_sizeOf_of hsz]
          · split at hs
            · rename_i hlh
              cases hs
              simp only [VRel]
              refine .inr ⟨cb, m' - l, h1, ?_, by omega, el, n, h4, ?_⟩
              · by_cases e : m' = l
                · have : l = 0 := by omega
                  subst this
                  rw [if_pos e]; simp
                · rw [if_neg e]; simp [addr_add, Nat.add_mul]
              · have : off + l + (m' - l) = off + m' := by omega
                rw [this]
                exact Nat.le_trans (Nat.mul_le_mul_right _ (by omega)) h5
            · rename_i hlh
              cases hs
              simp only [VRel]
              exact ⟨_, m' - l, by congr 1; simp; omega, by simp, by simp, by simp⟩
      · cases hs
    · cases hs
  · rename_i e sz es hu
    split at hs
    · rename_i sz' l h m hsz hl hh hm
      split at hs
      · rename_i hcond
        obtain ⟨c0, c1, rfl, rfl, rfl⟩ := hcond
        cases hs
        rw [run_sliceAt_slice hu]
        simp only [VRel] at hx
        obtain ⟨a, cap, rfl, h2, h3, h4⟩ := hx
        obtain ⟨m', r1, r3⟩ := bounds_ok2 (P := P) (cap := cap) hlo hhi hmx hl hh hm (fun _ => c1) (Nat.le_refl _) (Nat.le_refl _) (Nat.zero_le _) h2
        have hm' : m' = 0 := r3 c0
        subst hm'
        refine ⟨.slice a 0 0, ?_, by simp [VRel]⟩
        simp [Instr.slice, run_underlying hu, r1, run_sizeOf_of hsz]
      split at hs
      · rename_i hcond
        obtain ⟨rfl, c1, c2, c3, c4⟩ := hcond
        cases hs
        rw [run_sliceAt_slice hu]
        simp only [VRel] at hx
        obtain ⟨a, cap, rfl, h2, h3, h4⟩ := hx
        obtain ⟨m', r1, r2, r3⟩ := bounds_ok (P := P) (cap := cap) hlo hhi hmx hl hh hm c1 c2 c3 c4 h2
        have hlen : ((es.drop l).take (h - l)).length = h - l := by simp; omega
        refine ⟨.slice (if m' = l then a else a.map (·.add (l * sz'))) (h - l) (m' - l), ?_, ?_⟩
        · simp [Instr.slice, run_underlying hu, r1, run_sizeOf_of hsz]
        · simp only [VRel]
          refine ⟨_, m' - l, by rw [hlen], by rw [hlen]; omega, fun x hx => h3 x (List.mem_of_mem_drop (List.mem_of_mem_take hx)), fun hne => ?_⟩
          have hlt : l < h := by
            rcases Nat.lt_or_ge l h with q | q
            · exact q
            · exact absurd (List.eq_nil_of_length_eq_zero (by rw [hlen]; omega)) hne
          obtain ⟨b, o, rfl, h5, h6⟩ := h4 (by intro e; rw [e] at c4; simp at c4; omega)
          refine ⟨b, o + l * sz', ?_, h5, ERel_take _ _ _ (ERel_drop es o l h3 h6 (by omega))⟩
          rw [if_neg (by omega)]; simp [addr_add]
      · cases hs
    · cases hs
  · rename_i e hu
    split at hs
    · rename_i sz l h m hsz hl hh hm
      split at hs
      · rename_i hcond
        obtain ⟨c1, c2, c3, c4⟩ := hcond
        cases hs
        rw [run_sliceAt_slice hu]
        simp only [VRel] at hx
        subst hx
        obtain ⟨m', r1, r2, r3⟩ := bounds_ok (P := P) (cap := 0) hlo hhi hmx hl hh hm c1 c2 c3 c4 (Nat.le_refl _)
        have e1 : m' = 0 := by omega
        have e2 : h = 0 := by omega
        have e3 : l = 0 := by omega
        subst e1; subst e2; subst e3
        refine ⟨.slice none 0 0, ?_, by simp only [VRel]⟩
        simp [Instr.slice, run_underlying hu, r1, run_sizeOf_of hsz]
      · cases hs
    · cases hs
  · cases hs
theorem get_of_take {α : Type} {l : List α} {n j : Nat} {x : α} (h : (l.take n)[j]? = some x) : l[j]? = some x := by
  rw [List.getElem?_take] at h
  split at h
  · exact h
  · cases h
theorem elems_take [Adr] (h : HRel w0 w F φ U η) {sz : Nat} {x : AV} {y : Value} {xs : List (List AV)} {rd : List Nat} (he : aElems η sz x = some (xs, rd)) (hx : VRel w F φ x y) :
    ∃ a cap us, y = .slice a xs.length cap ∧ (∀ m, m ≤ xs.length → (Builtin.firstCells sz m y).run P w = .ok ⟨us.take (m * sz)⟩ w) ∧ VRels w F φ xs.flatten us ∧ (∀ v ∈ us, v.oneCell' = true) ∧ (∀ e ∈ xs, e.length = sz) := by
  unfold aElems at he
  split at he
  · cases he
    simp only [VRel] at hx; subst hx
    exact ⟨none, 0, [], rfl, fun m hm => by simp [Builtin.firstCells], by simp [VRels], by simp, by simp⟩
  · cases he
    simp only [VRel] at hx; obtain ⟨a, rfl⟩ := hx
    exact ⟨a, 0, [], rfl, fun m hm => by
      have : m = 0 := by simpa using hm
      subst this
      cases a <;> simp [Builtin.firstCells, loadCells, loadCellsFrom], by simp [VRels], by simp, by simp⟩
  · rename_i sz' es
    split at he
    · rename_i hcond
      cases he
      simp only [VRel] at hx
      obtain ⟨a, cap, rfl, h2, h3, h4⟩ := hx
      by_cases hne : xs = []
      · subst hne
        refine ⟨a, cap, [], rfl, fun m hm => ?_, by simp [VRels], by simp, by simp⟩
        have : m = 0 := by simpa using hm
        subst this
        cases a <;> simp [Builtin.firstCells, loadCells, loadCellsFrom]
      · obtain ⟨b, o, rfl, h5, h6⟩ := h4 hne
        have hsz : sz' = sz := by rcases hcond with e | e; exact e; exact absurd e hne
        subst hsz
        rw [ERel_flat, CRel_iff] at h6
        obtain ⟨us, u1, u2, u3⟩ := h6
        refine ⟨_, cap, us, rfl, fun m hm => ?_, VRels.mono (Ext0.refl F w) (fun _ h => h) (Emb.zero_le φ) _ _ u1, u3, h3⟩
        have hul := u1.length
        rw [flatten_len _ _ h3] at hul
        have hml : m * sz' ≤ xs.length * sz' := Nat.mul_le_mul_right _ hm
        have := run_loadCells_list (P := P) w ⟨b, o, none⟩ (us.take (m * sz')) (fun j u hj => by rw [addr_add]; exact u2 j u (get_of_take hj))
        rw [List.length_take, Nat.min_eq_left (by omega)] at this
        simp only [Builtin.firstCells, this]
    · cases he
  · rename_i b g z off len
    split at he
    · rename_i blk hb
      split at he
      · rename_i hcond
        obtain ⟨rfl, rfl, c2, c3⟩ := hcond
        simp only [Option.some.injEq, Prod.mk.injEq] at he
        obtain ⟨rfl, -⟩ := he
        obtain ⟨pl, p1, p2, p3⟩ := h.blk b blk hb
        have hlen : ((blk.es.drop off).take len).length = len := by simp; omega
        simp only [VRel] at hx
        rcases hx with ⟨h1, h2, h3, a0, rfl⟩ | ⟨cb, cap, h1, rfl, h3, el, n, h4, h5⟩
        · subst h2; subst h3
          refine ⟨a0, 0, [], by simp, fun m hm => by
            have : m = 0 := by simpa using hm
            subst this
            cases a0 <;> simp [Builtin.firstCells, loadCells, loadCellsFrom], by simp [VRels], by simp, by simp⟩
        · rw [h1, c2] at p1; cases p1
          obtain ⟨-, -, -, p4⟩ := p3
          have hE := ERel_take _ _ len (ERel_drop blk.es 0 off p2 p4 (by omega))
          rw [Nat.zero_add, ERel_flat, CRel_iff] at hE
          obtain ⟨us, u1, u2, u3⟩ := hE
          have hall : ∀ e ∈ (blk.es.drop off).take len, e.length = z := fun e he => by
            rw [p2 e (List.mem_of_mem_drop (List.mem_of_mem_take he)), c2]
          refine ⟨_, cap, us, by rw [hlen], fun m hm => ?_, VRels.mono (Ext0.refl F w) (fun _ h => h) (blk.emb_le φ) _ _ u1, u3, hall⟩
          have hul := u1.length
          rw [flatten_len _ _ hall] at hul
          have hml : m * z ≤ ((blk.es.drop off).take len).length * z := Nat.mul_le_mul_right _ hm
          have := run_loadCells_list (P := P) w ⟨cb, off * z, none⟩ (us.take (m * z)) (fun j u hj => by rw [addr_add]; rw [c2] at u2; exact u2 j u (get_of_take hj))
          rw [List.length_take, Nat.min_eq_left (by omega)] at this
          simp only [Builtin.firstCells, this]
      · cases he
    · cases he
  · cases he
theorem elems_ok [Adr] (h : HRel w0 w F φ U η) {sz : Nat} {x : AV} {y : Value} {xs : List (List AV)} {rd : List Nat} (he : aElems η sz x = some (xs, rd)) (hx : VRel w F φ x y) :
    ∃ a cap us, y = .slice a xs.length cap ∧ (Builtin.firstCells sz xs.length y).run P w = .ok ⟨us⟩ w ∧ VRels w F φ xs.flatten us ∧ (∀ v ∈ us, v.oneCell' = true) ∧ (∀ e ∈ xs, e.length = sz) := by
  obtain ⟨a, cap, us, h1, h2, h3, h4, h5⟩ := elems_take (P := P) h he hx
  refine ⟨a, cap, us, h1, ?_, h3, h4, h5⟩
  have hul := h3.length
  rw [flatten_len _ _ h5] at hul
  rw [h2 _ (Nat.le_refl _), List.take_of_length_le (by omega)]
end
end Go.AM
