/- A text of the proof. -/
import Derived.Test.YtdompcjalogoaaaGreatDoorKAmH
set_option linter.unusedSimpArgs false
set_option linter.unusedVariables false
namespace Go.AM
open Go Go.RowKit
section
variable {P : Program} {w0 w : World} {F : Nat → Prop} {φ : Emb} {U U' : Nat → Prop} {η : Heap}
theorem growBy_le (need : Nat) : ∀ (rounds c : Nat), c ≤ 2 * need → 256 ≤ c → Builtin.growBy need rounds c ≤ 2 * need
  | 0, c, h, _ => by simpa [Builtin.growBy] using h
  | r + 1, c, h, h2 => by
    simp only [Builtin.growBy]
    split
    · exact h
    · exact growBy_le need r _ (by omega) (by omega)
theorem nextcap_le [Adr] {need cap : Nat} (h : cap < need) : Builtin.nextslicecap need cap ≤ 2 * need := by
  unfold Builtin.nextslicecap
  split
  · omega
  · split
    · omega
    · exact growBy_le need 4 cap (by omega) (by omega)
theorem run_append_room [Adr] {t t' e e' ty : TypeId} {sz : Nat} (h1 : P.underlying t = some (.slice e)) (h2 : P.underlying t' = some (.slice e')) (hs : tSize P e = some sz) {base : Option Addr} {sLen sCap n cx : Nat} {ax : Option Addr} {us : List Value}
    (hroom : sLen + n ≤ sCap) (hx : (Builtin.firstCells sz n (.slice ax n cx)).run P w = .ok ⟨us⟩ w) :
    (Builtin.append_ #[t, t'] ty #[.slice base sLen sCap, .slice ax n cx]).run P w =
      match base with
      | some a => ((storeCells (a.add (sLen * sz)) us).run P w).andThen fun _ w' => .ok (.slice base (sLen + n) sCap) w'
      | none => .ok (.slice none (sLen + n) sCap) w := by
  cases base <;> simp [Builtin.append_, run_underlying h1, run_underlying h2, run_sizeOf_of hs, Builtin.lenOf, hroom, hx]
theorem run_append_grow [Adr] {t t' e e' ty : TypeId} {sz bs : Nat} {zv : Value} (h1 : P.underlying t = some (.slice e)) (h2 : P.underlying t' = some (.slice e')) (hs : tSize P e = some sz) (hb : tBytes P e = some bs) (hbs : 0 < bs)
    (hz : ∀ w, (zeroValue e).run P w = .ok zv w) {base : Option Addr} {sLen sCap n cx : Nat} {ax : Option Addr} {os us : List Value}
    (hroom : sCap < sLen + n) (hbig : 2 * ((sLen + n) * bs) ≤ 2 ^ 48) (ho : (Builtin.firstCells sz sLen (.slice base sLen sCap)).run P w.drew = .ok ⟨os⟩ w.drew) (hx : (Builtin.firstCells sz n (.slice ax n cx)).run P w.drew = .ok ⟨us⟩ w.drew) :
    ∃ newCap rest, sLen + n ≤ newCap ∧ rest.size = (newCap - (sLen + n)) * zv.cells.size ∧ (Builtin.append_ #[t, t'] ty #[.slice base sLen sCap, .slice ax n cx]).run P w =
      .ok (.slice (some ⟨w.heap.size, 0, none⟩) (sLen + n) newCap) (w.drew.alloc (.cells (⟨os⟩ ++ ⟨us⟩ ++ rest) e)) := by
  obtain ⟨it, hit, hitb⟩ := tBytes_info hb
  refine ⟨sLen + n + w.tape w.drawn (.appendCap (sLen + n) sCap e) % (2 ^ 63 - (sLen + n)), Builtin.zeroCells zv.cells (sLen + n + w.tape w.drawn (.appendCap (sLen + n) sCap e) % (2 ^ 63 - (sLen + n)) - (sLen + n)), by omega, by simp [Builtin.zeroCells], ?_⟩
  have hnc : ¬ Builtin.nextslicecap (sLen + n) sCap * it.bytes > 2 ^ 48 := by
    have h3 := nextcap_le hroom
    have h4 : Builtin.nextslicecap (sLen + n) sCap * it.bytes ≤ 2 * (sLen + n) * it.bytes := Nat.mul_le_mul_right _ h3
    rw [Nat.mul_assoc, hitb] at h4
    rw [hitb]; omega
  have hb0 : it.bytes ≠ 0 := by omega
  have ho' : (Builtin.firstCells sz sLen (.slice base sLen sCap)).run P { w with drawn := w.drawn + 1 } = .ok ⟨os⟩ { w with drawn := w.drawn + 1 } := ho
  have hx' : (Builtin.firstCells sz n (.slice ax n cx)).run P { w with drawn := w.drawn + 1 } = .ok ⟨us⟩ { w with drawn := w.drawn + 1 } := hx
  have hnr : ¬ sLen + n ≤ sCap := by omega
  simp only [Builtin.append_, List.getElem?_toArray, List.getElem?_cons_zero, List.getElem?_cons_succ, Sem.run_bind, run_underlying h1, run_underlying h2, Result.andThen_ok, run_sizeOf_of hs, Sem.run_pure, Builtin.lenOf, Bool.false_eq_true, if_false, hnr, run_typeInfo_of hit, hnc, hb0, false_or, and_false]
  simp only [Sem.run_bind, run_choose, Question.forced, Bool.false_eq_true, if_false, Result.andThen_ok, Question.cut, run_askRoom, ho', hx', hz, Bool.not_false, if_true, Sem.run_pure, newRow, run_newObj]
  rfl
theorem HRel.virt [Adr] (h : HRel w0 w F φ U η) (nm : Nat) (blk : ABlk) (he : blk.es = []) (hno : ∀ g, blk.g ≤ g → φ.blk nm g = none) (hU : ∀ b, U b → U' b) (hUn : U' nm) :
    φ.sle (φ.add nm blk.g (none, blk.sz)) ∧ HRel w0 w F (φ.add nm blk.g (none, blk.sz)) U' (fupd η nm (some blk)) := by
  have hle := φ.sle_add nm blk.g (none, blk.sz) (hno _ (Nat.le_refl _))
  refine ⟨hle, h.upd nm blk none h.below (Ext0.refl _ _) hle (fun _ _ _ => rfl) (fun _ _ _ _ _ _ _ => by simp) (fun b g x hx => ?_) hU hUn ?_ (fun g hg => ?_) (fun b x cb sz sz' _ _ _ e2 => ?_)⟩
  · rcases φ.add_cases _ _ _ hx with g1 | ⟨g1, g2, g3⟩
    · exact .inl g1
    · exact .inr ⟨g1, g2, fun c hc => by rw [g3] at hc; cases hc⟩
  · exact ⟨none, φ.add_same _ _ _, by rw [he]; simp, he⟩
  · simp only [Emb.add]; rw [if_neg (by omega)]; exact hno g (by omega)
  · rw [φ.add_same] at e2; cases e2
theorem list_app_row {c : Array Value} {os us : List Value} {p : Nat} (hp : os.length = p) (hc : p + us.length ≤ c.size) (ho : ∀ (k : Nat) (v : Value), os[k]? = some v → c[k]? = some v) :
    ∀ (k : Nat) (v : Value), (os ++ us)[k]? = some v → (c.toList.take p ++ us ++ c.toList.drop (p + us.length)).toArray[k]? = some v := by
  intro k v hk
  simp only [List.getElem?_toArray]
  rw [List.append_assoc, List.getElem?_append]
  simp only [List.length_take, Array.length_toList]
  rw [Nat.min_eq_left (by omega)]
  rw [List.getElem?_append] at hk
  split at hk
  · rename_i h1
    rw [if_pos (by omega), List.getElem?_take, if_pos (by omega)]
    simpa using ho k v hk
  · rename_i h1
    rw [if_neg (by omega), List.getElem?_append, if_pos]
    · rw [← hp]; exact hk
    · have := (List.getElem?_eq_some_iff.1 hk).1; omega
theorem app_emb [Adr] {blk : ABlk} {xs : List (List AV)} {os us : List Value} (o1 : VRels w F (blk.emb φ) blk.es.flatten os) (x2 : VRels w F φ xs.flatten us) :
    VRels w F (({ blk with g := blk.g + 1, es := blk.es ++ xs, pure := blk.pure && xs.all AV.isP.isPs, ty := none } : ABlk).emb φ) (blk.es ++ xs).flatten (os ++ us) := by
  rw [List.flatten_append]
  unfold ABlk.emb at o1 ⊢
  by_cases hp : blk.pure = true
  · rw [if_pos hp] at o1
    by_cases hq : xs.all AV.isP.isPs = true
    · simp only [hp, hq, Bool.and_true, if_true]
      exact o1.append (isPs_rel _ _ (isPs_flatten xs hq) x2)
    · simp only [hp, hq, Bool.and_false, Bool.false_eq_true, if_false]
      exact (VRels.mono (Ext0.refl F w) (fun _ h => h) (Emb.zero_le φ) _ _ o1).append x2
  · rw [if_neg hp] at o1
    simp only [hp, Bool.false_and, Bool.false_eq_true, if_false]
    exact o1.append x2
theorem append_ok [Adr] (h : HRel w0 w F φ U η) {t t' ty : TypeId} {s x v : AV} {ys yx : Value} {nm nm' : Nat} {blk' : ABlk} {rd : List Nat} (ha : aAppend P t t' s x η nm = some (v, (nm', blk'), rd)) (hs : VRel w F φ s ys) (hx : VRel w F φ x yx)
    (hnm : ¬ U nm) (hU : ∀ b, U b → U' b) (hUn : U' nm) :
    ∃ w' φ' z, (Builtin.append_ #[t, t'] ty #[ys, yx]).run P w = .ok z w' ∧ φ.sle φ' ∧ Ext F w w' ∧ HRel w0 w' F φ' U' (fupd η nm' (some blk')) ∧ VRel w' F φ' v z := by
  unfold aAppend at ha
  split at ha
  rotate_left
  · cases ha
  rename_i e e' he he'
  split at ha
  rotate_left
  · cases ha
  rename_i sz bs sz' z hsz hbs hsz' hz
  split at ha
  rotate_left
  · cases ha
  rename_i hcond
  obtain ⟨rfl, hpos, hbpos, hzl⟩ := hcond
  split at ha
  rotate_left
  · cases ha
  rename_i xs rd' hel
  have u1 := tSlice_un he
  have u2 := tSlice_un he'
  obtain ⟨zv, z1, z2, z3, z4⟩ := run_zero_of (P := P) hz w
  have hzr : ∀ w, (zeroValue e).run P w = .ok zv w := fun w' => by
    obtain ⟨zv', q1, _⟩ := run_zero_of (P := P) hz w'
    have : zv' = zv := by
      simp only [zeroValue, Sem.run_bind] at q1 z1
      cases hi : P.info? e with
      | none => simp [typeInfo, hi] at q1
      | some i =>
        simp only [run_typeInfo_of hi, Result.andThen_ok] at q1 z1
        cases hzz : i.zero with
        | none => simp [hzz] at q1
        | some u => simp [hzz] at q1 z1; rw [← q1, ← z1]
    rw [← this]; exact q1
  obtain ⟨ax, cx, us, rfl, x1, x2, x3, x4⟩ := elems_ok (P := P) h hel hx
  have hul := x2.length
  rw [flatten_len _ _ x4] at hul
  have hD : HRel w0 w.drew F φ U η := h.heap_same rfl h.below.drew
  have hxD : VRel w.drew F φ x (.slice ax xs.length cx) := VRel.mono (ext_drew F w) (fun _ h => h) (Emb.le_refl φ) _ _ hx
  obtain ⟨ax', cx', us', y1, y2, y3, y4, -⟩ := elems_ok (P := P) hD hel hxD
  cases y1
  have hulD := y3.length
  rw [flatten_len _ _ x4] at hulD
  have hxe : Ext F w w.drew := ext_drew F w
  split at ha
  ·
    split at ha
    · rename_i hbig
      simp only [Option.some.injEq, Prod.mk.injEq] at ha
      obtain ⟨rfl, ⟨rfl, rfl⟩, -⟩ := ha
      simp only [VRel] at hs; subst hs
      by_cases hxe0 : xs = []
      · subst hxe0
        have hrun := run_append_room (P := P) (w := w) (ty := ty) (base := none) (sLen := 0) (sCap := 0) u1 u2 hsz (by simp) x1
        obtain ⟨v1, v2⟩ := h.virt (U' := U') nm { g := 0, own := true, pure := ([] : List (List AV)).all AV.isP.isPs, sz := sz, es := [] } rfl (fun g _ => by
          cases e : φ.blk nm g with
          | none => rfl
          | some x => exact absurd (h.used _ _ _ e) hnm) hU hUn
        exact ⟨w, _, .slice none 0 0, by simpa using hrun, v1, Ext.refl _ _, v2, by simp only [VRel]; exact .inl ⟨φ.add_same _ _ _, by simp⟩⟩
      · have hlen : 0 < xs.length := List.length_pos_iff.2 hxe0
        obtain ⟨newCap, rest, n1, n2, n3⟩ := run_append_grow (P := P) (w := w) (ty := ty) (base := none) (sLen := 0) (sCap := 0) (os := []) u1 u2 hsz hbs hbpos hzr (by omega) (by simpa using hbig) (by simp [Builtin.firstCells]) y2
        obtain ⟨a1, a2, a3, -⟩ := hD.alloc (U' := U') (c := (⟨[]⟩ ++ ⟨us'⟩ ++ rest : Array Value)) (el := e) (vs := us') nm hnm { g := 0, own := true, pure := xs.all AV.isP.isPs, sz := sz, es := xs } rfl x4
          (emb_rel y3 (fun q => isPs_flatten xs q)) y4 (fun k v hk => by
            have := (List.getElem?_eq_some_iff.1 hk).1
            rw [Array.getElem?_append_left (by simpa using this)]
            simpa using hk) hU hUn
        refine ⟨_, _, _, n3, a2, hxe.trans a3 (fun _ h => h), a1, ?_⟩
        simp only [VRel]
        refine .inr ⟨w.heap.size, newCap, φ.add_same _ _ _, by simp, by omega, e, _, by simp only [World.shape?]; rw [show w.heap.size = w.drew.heap.size from rfl, heap_alloc_new], ?_⟩
        have hzs := (z4 w F φ).length
        simp only [Array.length_toList] at hzs
        rw [← hzs, hzl] at n2
        simp only [Array.size_append, n2, List.size_toArray, List.length_nil, Nat.zero_add, ← hulD]
        rw [← Nat.add_mul]
        exact Nat.mul_le_mul_right _ (by omega)
    · cases ha
  ·
    split at ha
    · rename_i hbig
      simp only [Option.some.injEq, Prod.mk.injEq] at ha
      obtain ⟨rfl, ⟨rfl, rfl⟩, -⟩ := ha
      simp only [VRel] at hs; obtain ⟨a0, rfl⟩ := hs
      by_cases hxe0 : xs = []
      · subst hxe0
        have hrun := run_append_room (P := P) (w := w) (ty := ty) (base := a0) (sLen := 0) (sCap := 0) u1 u2 hsz (by simp) x1
        obtain ⟨v1, v2⟩ := h.virt (U' := U') nm { g := 0, own := true, pure := ([] : List (List AV)).all AV.isP.isPs, sz := sz, es := [] } rfl (fun g _ => by
          cases e : φ.blk nm g with
          | none => rfl
          | some x => exact absurd (h.used _ _ _ e) hnm) hU hUn
        exact ⟨w, _, .slice a0 0 0, by (have hu0 : us = [] := by simpa [VRels] using x2); subst hu0; cases a0 <;> simpa [storeCells] using hrun, v1, Ext.refl _ _, v2, by simp only [VRel]; exact .inl ⟨φ.add_same _ _ _, by simp⟩⟩
      · have hlen : 0 < xs.length := List.length_pos_iff.2 hxe0
        obtain ⟨newCap, rest, n1, n2, n3⟩ := run_append_grow (P := P) (w := w) (ty := ty) (base := a0) (sLen := 0) (sCap := 0) (os := []) u1 u2 hsz hbs hbpos hzr (by omega) (by simpa using hbig) (by cases a0 <;> simp [Builtin.firstCells, loadCells, loadCellsFrom]) y2
        obtain ⟨a1, a2, a3, -⟩ := hD.alloc (U' := U') (c := (⟨[]⟩ ++ ⟨us'⟩ ++ rest : Array Value)) (el := e) (vs := us') nm hnm { g := 0, own := true, pure := xs.all AV.isP.isPs, sz := sz, es := xs } rfl x4
          (emb_rel y3 (fun q => isPs_flatten xs q)) y4 (fun k v hk => by
            have := (List.getElem?_eq_some_iff.1 hk).1
            rw [Array.getElem?_append_left (by simpa using this)]
            simpa using hk) hU hUn
        refine ⟨_, _, _, n3, a2, hxe.trans a3 (fun _ h => h), a1, ?_⟩
        simp only [VRel]
        refine .inr ⟨w.heap.size, newCap, φ.add_same _ _ _, by simp, by omega, e, _, by simp only [World.shape?]; rw [show w.heap.size = w.drew.heap.size from rfl, heap_alloc_new], ?_⟩
        have hzs := (z4 w F φ).length
        simp only [Array.length_toList] at hzs
        rw [← hzs, hzl] at n2
        simp only [Array.size_append, n2, List.size_toArray, List.length_nil, Nat.zero_add, ← hulD]
        rw [← Nat.add_mul]
        exact Nat.mul_le_mul_right _ (by omega)
    · cases ha
  · rename_i b g z' off len
    split at ha
    rotate_left
    · cases ha
    rename_i blk hb
    split at ha
    rotate_left
    · cases ha
    rename_i hcond
    obtain ⟨rfl, rfl, c1, rfl, c2, hown, hbig⟩ := hcond
    simp only [Option.some.injEq, Prod.mk.injEq] at ha
    obtain ⟨rfl, ⟨rfl, rfl⟩, -⟩ := ha
    obtain ⟨pl, p1, p2, p3⟩ := h.blk b blk hb
    have hall : ∀ e ∈ blk.es ++ xs, e.length = blk.sz := by
      intro e he
      rcases List.mem_append.1 he with he | he
      · exact p2 e he
      · rw [x4 e he, c1]
    have hUb : U' b := hU _ (h.used _ _ _ p1)
    simp only [VRel] at hs
    rcases hs with ⟨h1, -, h3, a0, rfl⟩ | ⟨cb, cap, h1, rfl, h3, el, n, h4, h5⟩
    ·
      rw [h1, c1] at p1; cases p1
      simp only [LRel] at p3
      subst h3
      by_cases hxe0 : xs = []
      · subst hxe0
        have hrun := run_append_room (P := P) (w := w) (ty := ty) (base := a0) (sLen := 0) (sCap := 0) u1 u2 hsz (by simp) x1
        obtain ⟨v1, v2⟩ := h.virt (U' := U') b { blk with g := blk.g + 1, es := blk.es ++ [], pure := blk.pure && ([] : List (List AV)).all AV.isP.isPs, ty := none } (by simp [p3]) (fun g hg => h.gen b blk hb g (by simp at hg; omega)) hU hUb
        refine ⟨w, _, .slice a0 0 0, by (have hu0 : us = [] := by simpa [VRels] using x2); subst hu0; cases a0 <;> simpa [storeCells] using hrun, v1, Ext.refl _ _, v2, ?_⟩
        simp only [VRel]
        exact .inl ⟨by rw [← c1]; exact φ.add_same _ _ _, by simp⟩
      · have hlen : 0 < xs.length := List.length_pos_iff.2 hxe0
        obtain ⟨newCap, rest, n1, n2, n3⟩ := run_append_grow (P := P) (w := w) (ty := ty) (base := a0) (sLen := 0) (sCap := 0) (os := []) u1 u2 hsz hbs hbpos hzr (by omega) (by simpa using hbig) (by cases a0 <;> simp [Builtin.firstCells, loadCells, loadCellsFrom]) y2
        have hes : blk.es ++ xs = xs := by rw [p3]; rfl
        obtain ⟨a1, a2, a3⟩ := hD.renew (blk' := { blk with g := blk.g + 1, es := blk.es ++ xs, pure := blk.pure && xs.all AV.isP.isPs, ty := none }) (c' := (⟨[]⟩ ++ ⟨us'⟩ ++ rest : Array Value)) (el := e) (us := us') hb rfl hall
          (by
            refine emb_rel (blk := { blk with g := blk.g + 1, es := blk.es ++ xs, pure := blk.pure && xs.all AV.isP.isPs, ty := none }) ?_ ?_
            · show VRels _ _ _ (blk.es ++ xs).flatten _
              rw [hes]; exact y3
            · intro q
              simp only [Bool.and_eq_true] at q
              show AV.isP.isPs (blk.es ++ xs).flatten = true
              rw [hes]; exact isPs_flatten xs q.2) y4 (fun k v hk => by
            have := (List.getElem?_eq_some_iff.1 hk).1
            rw [Array.getElem?_append_left (by simpa using this)]
            simpa using hk)
        refine ⟨_, _, _, n3, a1, hxe.trans a2 (fun _ h => h), a3.weakenU hU, ?_⟩
        simp only [VRel]
        refine .inr ⟨w.heap.size, newCap, by rw [← c1]; exact φ.add_same _ _ _, by simp, by omega, e, _, by simp only [World.shape?]; rw [show w.heap.size = w.drew.heap.size from rfl, heap_alloc_new], ?_⟩
        have hzs := (z4 w F φ).length
        simp only [Array.length_toList] at hzs
        rw [← hzs, hzl] at n2
        simp only [Array.size_append, n2, List.size_toArray, List.length_nil, Nat.zero_add, ← hulD]
        rw [← Nat.add_mul]
        exact Nat.mul_le_mul_right _ (by omega)
    ·
      rw [h1, c1] at p1; cases p1
      obtain ⟨f1, f2, ⟨c, el', fz, f3, ⟨hfz, -⟩, f4⟩, f5⟩ := p3
      obtain rfl := hfz hown
      have hel' : n = c.size := by
        simp only [World.shape?, f3, Option.some.injEq, Prod.mk.injEq] at h4
        exact h4.2.symm
      subst hel'
      rw [ERel_flat, CRel_iff] at f5
      obtain ⟨os, o1, o2, o3⟩ := f5
      have hol := o1.length
      rw [flatten_len _ _ p2] at hol
      have hoc : ∀ (k : Nat) (v : Value), os[k]? = some v → c[k]? = some v := fun k v hk => by
        have := o2 k v hk
        simp only [World.cell?, f3, Nat.zero_add] at this
        simpa using this
      simp only [Nat.zero_add, Nat.zero_mul] at h5 ⊢
      have hus := app_emb (blk := blk) o1 x2
      by_cases hroom : len + xs.length ≤ cap
      · have hrun := run_append_room (P := P) (w := w) (ty := ty) (base := some ⟨cb, 0, none⟩) (sLen := len) (sCap := cap) u1 u2 hsz hroom x1
        have hfit : len * z' + us.length ≤ c.size := by
          rw [← hul, ← Nat.add_mul]
          exact Nat.le_trans (Nat.mul_le_mul_right _ hroom) h5
        have hst := run_storeCells_at (P := P) cb (len * z') el' us 0 c w f3 (by simpa using hfit) x3
        simp only [addr_add, Nat.zero_add, Nat.add_zero] at hrun hst
        rw [hst] at hrun
        simp only [Result.andThen_ok] at hrun
        have hpl : os.length = len * z' := by rw [← hol, c1, c2]
        obtain ⟨φ', r1, r2, r3, r4⟩ := h.rewrite (blk' := { blk with g := blk.g + 1, es := blk.es ++ xs, pure := blk.pure && xs.all AV.isP.isPs, ty := none })
          (c' := (c.toList.take (len * z') ++ us ++ c.toList.drop (len * z' + us.length)).toArray) (us := os ++ us) hb (by rw [c1]; exact h1) hown f3 (by
            simp only [List.size_toArray, List.length_append, List.length_take, List.length_drop, Array.length_toList]
            omega) rfl (.inr rfl) hall hus (by
            intro v hv
            rcases List.mem_append.1 hv with hv | hv
            · exact o3 v hv
            · exact x3 v hv) (list_app_row hpl hfit hoc)
        refine ⟨_, φ', _, hrun, r1, r3, r4.weakenU hU, ?_⟩
        simp only [VRel]
        refine .inr ⟨cb, cap, by rw [← c1]; exact r2, by simp, hroom, el, c.size, r3.shape _ _ h4, by simpa using h5⟩
      · have hDo : VRels w.drew F (blk.emb φ) blk.es.flatten os := VRels.mono hxe (fun _ h => h) (Emb.le_refl _) _ _ o1
        have hold : (Builtin.firstCells z' len (.slice (some ⟨cb, 0, none⟩) len cap)).run P w.drew = .ok ⟨os⟩ w.drew := by
          have := run_loadCells_list (P := P) w.drew ⟨cb, 0, none⟩ os (fun j u hj => by rw [addr_add]; exact o2 j u hj)
          have hpl : os.length = len * z' := by rw [← hol, c1, c2]
          simp only [Builtin.firstCells, ← hpl, this]
        obtain ⟨newCap, rest, n1, n2, n3⟩ := run_append_grow (P := P) (w := w) (ty := ty) (base := some ⟨cb, 0, none⟩) (sLen := len) (sCap := cap) (os := os) u1 u2 hsz hbs hbpos hzr (by omega) hbig hold y2
        have husD := app_emb (blk := blk) hDo y3
        obtain ⟨a1, a2, a3⟩ := hD.renew (blk' := { blk with g := blk.g + 1, es := blk.es ++ xs, pure := blk.pure && xs.all AV.isP.isPs, ty := none }) (c' := (⟨os⟩ ++ ⟨us'⟩ ++ rest : Array Value)) (el := e) (us := os ++ us') hb rfl hall husD (by
            intro v hv
            rcases List.mem_append.1 hv with hv | hv
            · exact o3 v hv
            · exact y4 v hv) (fun k v hk => by
            have := (List.getElem?_eq_some_iff.1 hk).1
            rw [Array.getElem?_append_left (by simpa using this)]
            simpa using hk)
        refine ⟨_, _, _, n3, a1, hxe.trans a2 (fun _ h => h), a3.weakenU hU, ?_⟩
        simp only [VRel]
        refine .inr ⟨w.heap.size, newCap, by rw [← c1]; exact φ.add_same _ _ _, by simp, by omega, e, _, by simp only [World.shape?]; rw [show w.heap.size = w.drew.heap.size from rfl, heap_alloc_new], ?_⟩
        have hzs := (z4 w F φ).length
        simp only [Array.length_toList] at hzs
        rw [← hzs, hzl] at n2
        have hpl : os.length = len * z' := by rw [← hol, c1, c2]
        simp only [Array.size_append, n2, List.size_toArray, ← hulD, hpl]
        rw [← Nat.add_mul, ← Nat.add_mul]
        simp only [Nat.zero_add]
        exact Nat.mul_le_mul_right _ (by omega)
  · cases ha
end
end Go.AM
