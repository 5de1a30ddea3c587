/- A text of the proof. -/
import Derived.Test.YtdompcjalogoaaaGreatDoorKAmE
set_option linter.unusedSimpArgs false
set_option linter.unusedVariables false
namespace Go.AM
open Go Go.RowKit
section
variable {P : Program} {w0 w : World} {F : Nat → Prop} {φ : Emb} {U : Nat → Prop} {η : Heap}
theorem tField_spec {t : TypeId} {f off : Nat} {ty : TypeId} (h : tField P t f = some (off, ty)) : ∃ fs fd n, P.underlying t = some (.struct fs) ∧ fs[f]? = some fd ∧ fd.offset = off ∧ fd.type = ty ∧ tSize P ty = some (n + 1) := by
  unfold tField at h
  split at h
  · rename_i fs hu
    split at h
    · rename_i fd hf
      split at h
      · rename_i n hz; simp only [Option.some.injEq, Prod.mk.injEq] at h; exact ⟨fs, fd, n, hu, hf, h.1, h.2, by rw [← h.2]; exact hz⟩
      · cases h
    · cases h
  · cases h
theorem fieldAddr_ok [Adr] {t : TypeId} {a v : AV} {x : Value} {f : Nat} (h : aFieldAddr P t a f = some v) (hx : VRel w F φ a x) :
    ∃ y, (Instr.fieldAt t x f).run P w = .ok y w ∧ VRel w F φ v y := by
  unfold aFieldAddr at h
  split at h
  · rename_i off ty b g i j hf
    cases h
    obtain ⟨fs, fd, n, h1, h2, rfl, rfl, hn⟩ := tField_spec hf
    simp only [VRel] at hx
    obtain ⟨cb, sz, h6, rfl⟩ := hx
    refine ⟨.pointer (some ⟨cb, i * sz + j + fd.offset, none⟩), ?_, ?_⟩
    · simp [Instr.fieldAt, run_underlying h1, h2, Instr.sureAddr, fieldPlace, run_sizeOf_of hn, addr_add]
    · simp only [VRel]; exact ⟨cb, sz, h6, by rw [Nat.add_assoc]⟩
  · rename_i off ty cs hf
    split at h
    · rename_i hle
      cases h
      obtain ⟨fs, fd, n, h1, h2, rfl, rfl, hn⟩ := tField_spec hf
      simp only [VRel] at hx
      obtain ⟨b, o, rfl, h6, h7⟩ := hx
      refine ⟨.pointer (some ⟨b, o + fd.offset, none⟩), ?_, ?_⟩
      · simp [Instr.fieldAt, run_underlying h1, h2, Instr.sureAddr, fieldPlace, run_sizeOf_of hn, addr_add]
      · simp only [VRel]; exact ⟨b, o + fd.offset, rfl, h6, CRel_drop _ _ _ h7 hle⟩
    · cases h
  · cases h
theorem field_ok [Adr] {t : TypeId} {cs : List AV} {v : AV} {x : Value} {f off : Nat} {ty : TypeId} (hf : tField P t f = some (off, ty)) (hp : ∀ vs : List Value, VRels w F φ cs vs → (∀ c ∈ vs, c.oneCell' = true) → ∃ y, (part ty ⟨vs⟩ off).run P w = .ok y w ∧ VRel w F φ v y) (hx : VRel w F φ (.agg cs) x) :
    ∃ y, (Instr.field t x f).run P w = .ok y w ∧ VRel w F φ v y := by
  obtain ⟨fs, fd, n, h1, h2, rfl, rfl, hn⟩ := tField_spec hf
  simp only [VRel] at hx
  obtain ⟨vs, rfl, h3, h4⟩ := hx
  obtain ⟨y, r1, r2⟩ := hp vs h3 h4
  exact ⟨y, by simp [Instr.field, run_underlying h1, h2, asAgg, r1], r2⟩
theorem run_part_of [Adr] {t : TypeId} {cs : List AV} {off : Nat} {v : AV} {vs : List Value} (h : aPart P t cs off = some v) (hr : VRels w F φ cs vs) (h1 : ∀ x ∈ vs, x.oneCell' = true) :
    ∃ y, (part t ⟨vs⟩ off).run P w = .ok y w ∧ VRel w F φ v y := by
  unfold aPart at h
  split at h
  · rename_i n hag hn
    cases h
    refine ⟨.agg ⟨(vs.drop off).take n⟩, ?_, ?_⟩
    · simp only [part, Sem.run_bind, run_isAgg_of hag, Result.andThen_ok, if_true, run_sizeOf_of hn, Sem.run_pure]
      congr 2
      rw [List.extract_toArray, List.extract_eq_take_drop, show off + n - off = n by omega]
    · simp only [VRel]; exact ⟨_, rfl, (hr.drop off).take n, fun c hc => h1 c (List.mem_of_mem_drop (List.mem_of_mem_take hc))⟩
  · rename_i n hag hn
    obtain ⟨y, hy, hv⟩ := hr.get h
    refine ⟨y, ?_, hv⟩
    simp [part, run_isAgg_of hag, hy]
  · cases h
theorem indexAddr_ok [Adr] {t : TypeId} {a ix v : AV} {x y : Value} (hi : aIndexAddr P t a ix = some v) (hx : VRel w F φ a x) (hy : VRel w F φ ix y) :
    ∃ z, (Instr.indexAt t x y).run P w = .ok z w ∧ VRel w F φ v z := by
  unfold aIndexAddr at hi
  split at hi
  · rename_i e k n he
    simp only [VRel] at hy; subst hy
    split at hi
    · rename_i sz b g sz' off len hs
      split at hi
      · rename_i hb
        cases hi
        obtain ⟨rfl, hb⟩ := hb
        simp only [VRel] at hx
        rcases hx with ⟨_, _, h3, _⟩ | ⟨cb, cap, h1, rfl, h3, h4⟩
        · omega
        · refine ⟨.pointer (some ⟨cb, off * sz' + n.toNat * sz', none⟩), ?_, ?_⟩
          · simp [Instr.indexAt, asIntOf, run_underlying (tSlice_un he), hb, run_sizeOf_of hs, addr_add]
          · simp only [VRel]; exact ⟨cb, sz', h1, by rw [Nat.add_mul]; rfl⟩
      · cases hi
    · rename_i sz sz' es hs
      split at hi
      · rename_i hb
        split at hi
        · rename_i el hel
          cases hi
          obtain ⟨rfl, hb⟩ := hb
          simp only [VRel] at hx
          obtain ⟨a, cap, rfl, h2, h3, h4⟩ := hx
          have hlt := (List.getElem?_eq_some_iff.1 hel).1
          obtain ⟨b, o, rfl, h5, h6⟩ := h4 (by intro e; rw [e] at hlt; simp at hlt)
          refine ⟨.pointer (some ⟨b, o + n.toNat * sz', none⟩), ?_, ?_⟩
          · have : n < es.length := by omega
            simp [Instr.indexAt, asIntOf, run_underlying (tSlice_un he), hb, this, run_sizeOf_of hs, addr_add]
          · simp only [VRel]; exact ⟨b, _, rfl, h5, ERel_get es o n.toNat el h3 h6 hel⟩
        · cases hi
      · cases hi
    · cases hi
  · rename_i k n he
    simp only [VRel] at hy; subst hy
    split at hi
    · rename_i len e ha
      split at hi
      · rename_i sz b g i j hs
        split at hi
        · rename_i hb
          cases hi
          simp only [VRel] at hx
          obtain ⟨cb, sz', h6, rfl⟩ := hx
          refine ⟨.pointer (some ⟨cb, i * sz' + j + n.toNat * sz, none⟩), ?_, ?_⟩
          · simp [Instr.indexAt, asIntOf, run_underlying (tArr_un ha), Instr.sureAddr, hb, run_sizeOf_of hs, addr_add]
          · simp only [VRel]; exact ⟨cb, sz', h6, by rw [Nat.add_assoc]⟩
        · cases hi
      · rename_i sz cs hs
        split at hi
        · rename_i hb
          cases hi
          simp only [VRel] at hx
          obtain ⟨b, o, rfl, h6, h7⟩ := hx
          refine ⟨.pointer (some ⟨b, o + n.toNat * sz, none⟩), ?_, ?_⟩
          · simp [Instr.indexAt, asIntOf, run_underlying (tArr_un ha), Instr.sureAddr, hb.1, hb.2.1, run_sizeOf_of hs, addr_add]
          · simp only [VRel]; exact ⟨b, _, rfl, h6, CRel_drop _ _ _ h7 hb.2.2⟩
        · cases hi
      · cases hi
    · cases hi
  · cases hi
theorem foldl_set_list (off : Nat) : ∀ (vs : List Value) (k : Nat) (cells : Array Value), off + k + vs.length ≤ cells.size →
    ((vs.zipIdx k).foldl (fun cs (x : Value × Nat) => cs.setIfInBounds (off + x.2) x.1) cells).toList = cells.toList.take (off + k) ++ vs ++ cells.toList.drop (off + k + vs.length)
  | [], k, cells, _ => by simp
  | v :: vs, k, cells, h => by
    simp only [List.length_cons] at h
    simp only [List.zipIdx_cons, List.foldl_cons]
    rw [foldl_set_list off vs (k + 1) _ (by simp; omega)]
    simp only [Array.toList_setIfInBounds, List.length_cons]
    have e := list_seg_step cells.toList (off + k) v vs (by simp; omega)
    rw [show off + (k + 1) = off + k + 1 by omega]
    simpa [Nat.add_assoc, Nat.add_comm 1] using e
theorem fill_rel [Adr] {place : Nat → Option (Nat × Nat)} : ∀ (parts : List (Nat × AV)) (cparts : List (Nat × Value)) (cs cs' : List AV) (cells : Array Value),
    aFill place cs parts = some cs' → parts.length = cparts.length → (∀ (k : Nat) (p : Nat × AV) (q : Nat × Value), parts[k]? = some p → cparts[k]? = some q → p.1 = q.1 ∧ VRel w F φ p.2 q.2) →
    VRels w F φ cs cells.toList → (∀ x ∈ cells.toList, x.oneCell' = true) →
    ∃ cells', Instr.fill place cells cparts = some cells' ∧ VRels w F φ cs' cells'.toList ∧ (∀ x ∈ cells'.toList, x.oneCell' = true)
  | [], cparts, cs, cs', cells, h, hl, _, hr, h1 => by
    cases cparts with
    | nil => simp only [aFill, Option.some.injEq] at h; subst h; exact ⟨cells, rfl, hr, h1⟩
    | cons q qs => simp at hl
  | (i, v) :: rest, cparts, cs, cs', cells, h, hl, hp, hr, h1 => by
    cases cparts with
    | nil => simp at hl
    | cons q qs =>
      obtain ⟨q1, q2⟩ := q
      obtain ⟨rfl, hv⟩ := hp 0 (i, v) (q1, q2) rfl rfl
      simp only at hv
      simp only [aFill] at h
      split at h
      · rename_i off n vs hpl hc
        split at h
        · rename_i hcond
          obtain ⟨c1, c2⟩ := hcond
          obtain ⟨r1, r2⟩ := cells_rel hc hv
          have hlen := r1.length
          have hcl := hr.length
          have hsz : q2.cells.size = n := by rw [← c1, hlen]; simp
          simp only [Array.length_toList] at hcl
          have hfold : ((q2.cells.zipIdx).foldl (fun cs (x : Value × Nat) => cs.setIfInBounds (off + x.2) x.1) cells).toList = cells.toList.take off ++ q2.cells.toList ++ cells.toList.drop (off + n) := by
            have := foldl_set_list off q2.cells.toList 0 cells (by simp; omega)
            rw [← Array.foldl_toList, Array.toList_zipIdx]
            simpa [hsz] using this
          obtain ⟨cells', f1, f2, f3⟩ := fill_rel rest qs _ cs' ((q2.cells.zipIdx).foldl (fun cs (x : Value × Nat) => cs.setIfInBounds (off + x.2) x.1) cells) h (by simpa using hl)
            (fun k p q hp' hq' => hp (k + 1) p q (by simpa using hp') (by simpa using hq')) (by rw [hfold]; exact ((hr.take off).append r1).append (hr.drop (off + n))) (by
              rw [hfold]
              intro x hx
              rcases List.mem_append.1 hx with hx | hx
              · rcases List.mem_append.1 hx with hx | hx
                · exact h1 x (List.mem_of_mem_take hx)
                · exact r2 x hx
              · exact h1 x (List.mem_of_mem_drop hx))
          refine ⟨cells', ?_, f2, f3⟩
          simp only [Instr.fill, hpl]
          rw [if_neg (by simp [hsz]; omega)]
          exact f1
        · cases h
      · cases h
theorem places_eq {fs : List Field} {pl : List (Nat × Nat)} (h : fs.mapM (fun f => (tSize P f.type).map fun n => (f.offset, n)) = some pl) : fs.mapM (fun f => (P.info? f.type).map fun i => (f.offset, i.size)) = some pl := by
  rw [← h]
  congr 1
  funext f
  simp [tSize, Option.map_map, Function.comp_def]
theorem build_ok [Adr] {t : TypeId} {parts : List (Nat × AV)} {cparts : Array (Nat × Value)} {v : AV} (h : aBuild P t parts = some v) (hl : parts.length = cparts.size)
    (hp : ∀ (k : Nat) (p : Nat × AV) (q : Nat × Value), parts[k]? = some p → cparts[k]? = some q → p.1 = q.1 ∧ VRel w F φ p.2 q.2) :
    ∃ y, (Instr.build t cparts).run P w = .ok y w ∧ VRel w F φ v y := by
  unfold aBuild at h
  split at h
  · rename_i pl z hpl hz
    simp only [Option.map_eq_some_iff] at h
    obtain ⟨cs', hf, rfl⟩ := h
    unfold tPlaces at hpl
    split at hpl
    · rename_i fs hu
      unfold tZero at hz
      cases hi : P.info? t with
      | none => rw [hi] at hz; cases hz
      | some it =>
        rw [hi] at hz
        simp only [Option.bind_some] at hz
        cases hzz : it.zero with
        | none => rw [hzz] at hz; cases hz
        | some zv =>
          rw [hzz] at hz
          simp only at hz
          obtain ⟨z1, z2, z3⟩ := avZs_rel (w := w) (F := F) (φ := φ) hz
          obtain ⟨cells', f1, f2, f3⟩ := fill_rel (w := w) (F := F) (φ := φ) parts cparts.toList z cs' zv.cells hf (by simpa using hl) (fun k p q hp' hq' => hp k p q hp' (by simpa using hq')) z1 z2
          refine ⟨.agg cells', run_build w t cparts cells' ?_, by simp only [VRel]; exact ⟨cells'.toList, by simp, f2, f3⟩⟩
          unfold Program.built
          simp only [hi, hu, hzz, places_eq hpl]
          rw [← f1]
          congr 1
          funext x
          simp
    · cases hpl
  · cases h
end
end Go.AM
