/- A text of the proof. -/
import Derived.Test.YtdompcjalogoaaaGreatDoorKAmC
set_option linter.unusedSimpArgs false
set_option linter.unusedVariables false
namespace Go.AM
open Go Go.RowKit
theorem psx_rel [Adr] {w : World} {F : Nat → Prop} {φ : Emb} {z : Nat} {es : List (List AV)} {v : Value} (h : VRel w F φ (.psx z es) v) : VRel w F φ (.psl z es) v := by
  simp only [VRel] at h ⊢
  obtain ⟨a, h1, h2, h3⟩ := h
  exact ⟨a, _, h1, Nat.le_refl _, h2, h3⟩
mutual
theorem isP_rel [Adr] {w : World} {F : Nat → Prop} {φ ψ : Emb} : ∀ (a : AV) (v : Value), a.isP = true → VRel w F φ a v → VRel w F ψ a v
  | a, v => by
    cases a with
    | ref b g i j => intro h; simp [AV.isP] at h
    | sl b g z o l => intro h; simp [AV.isP] at h
    | yld l => intro h; simp [AV.isP] at h
    | mp l => intro h; simp [AV.isP] at h
    | itr l => intro h; simp [AV.isP] at h
    | fn f x c =>
      intro h hr; simp only [AV.isP, Bool.and_eq_true] at h; simp only [VRel] at hr ⊢
      obtain ⟨fs, cs, h1, h2, h3⟩ := hr
      exact ⟨fs, cs, h1, isPs_rel x fs h.1 h2, isPs_rel c cs h.2 h3⟩
    | iface t x => intro h hr; simp only [AV.isP] at h; simp only [VRel] at hr ⊢; obtain ⟨y, h1, h2⟩ := hr; exact ⟨y, h1, isP_rel x y h h2⟩
    | agg cs => intro h hr; simp only [AV.isP] at h; simp only [VRel] at hr ⊢; obtain ⟨y, h1, h2, h3⟩ := hr; exact ⟨y, h1, isPs_rel cs y h h2, h3⟩
    | tup cs => intro h hr; simp only [AV.isP] at h; simp only [VRel] at hr ⊢; obtain ⟨y, h1, h2⟩ := hr; exact ⟨y, h1, isPs_rel cs y h h2⟩
    | top => intro _ _; simp [VRel]
    | anyb => intro _ hr; simpa [VRel] using hr
    | bool b => intro _ hr; simpa [VRel] using hr
    | int k n => intro _ hr; simpa [VRel] using hr
    | str s => intro _ hr; simpa [VRel] using hr
    | nilp => intro _ hr; simpa [VRel] using hr
    | pp cs => intro _ hr; simpa [VRel] using hr
    | nils => intro _ hr; simpa [VRel] using hr
    | psl sz es => intro _ hr; simpa [VRel] using hr
    | psx sz es => intro _ hr; simpa [VRel] using hr
    | nilf => intro _ hr; simpa [VRel] using hr
    | nili => intro _ hr; simpa [VRel] using hr
    | emp => intro _ hr; simpa [VRel] using hr
    | nilm => intro _ hr; simpa [VRel] using hr
    | strb n s => intro _ hr; simpa [VRel] using hr
    | inty k => intro _ hr; simpa [VRel] using hr
    | gp k o cs => intro _ hr; simpa only [VRel] using hr
    | slk b g z o l c e => intro h; simp [AV.isP] at h
theorem isPs_rel [Adr] {w : World} {F : Nat → Prop} {φ ψ : Emb} : ∀ (as : List AV) (vs : List Value), AV.isP.isPs as = true → VRels w F φ as vs → VRels w F ψ as vs
  | [], vs => by intro _ h; simpa [VRels] using h
  | a :: as, vs => by
    intro h hr; simp only [AV.isP.isPs, Bool.and_eq_true] at h; simp only [VRels] at hr ⊢
    obtain ⟨v, vs', h1, h2, h3⟩ := hr
    exact ⟨v, vs', h1, isP_rel a v h.1 h2, isPs_rel as vs' h.2 h3⟩
end
theorem cells_rel [Adr] {w : World} {F : Nat → Prop} {φ : Emb} {a : AV} {v : Value} {cs : List AV} (hc : a.cells = some cs) (h : VRel w F φ a v) :
    VRels w F φ cs v.cells.toList ∧ (∀ x ∈ v.cells.toList, x.oneCell' = true) := by
  cases a <;> simp only [AV.cells, Option.some.injEq, reduceCtorEq] at hc <;> subst hc <;> simp only [VRel] at h
  all_goals first
    | (obtain ⟨y, rfl, h1, h2⟩ := h; exact ⟨h1, h2⟩)
    | skip
  all_goals
    have one : v.cells.toList = [v] ∧ v.oneCell' = true := by
      first
        | (rcases h with ⟨_, _, _, _, rfl⟩ | ⟨_, _, _, rfl, _⟩ <;> simp [Value.cells, Value.oneCell'] <;> done)
        | (obtain ⟨_, _, _, rfl, _⟩ := h; simp [Value.cells, Value.oneCell']; done)
        | (subst h; simp [Value.cells, Value.oneCell'])
        | (obtain ⟨x, rfl⟩ := h; simp [Value.cells, Value.oneCell'])
        | (obtain ⟨x, y, _, rfl⟩ := h; simp [Value.cells, Value.oneCell'])
        | (obtain ⟨x, y, rfl, _⟩ := h; simp [Value.cells, Value.oneCell'])
        | (obtain ⟨x, _, rfl⟩ := h; simp [Value.cells, Value.oneCell'])
        | (obtain ⟨x, rfl, _⟩ := h; simp [Value.cells, Value.oneCell'])
    refine ⟨?_, by rw [one.1]; intro x hx; simp at hx; subst hx; exact one.2⟩
    rw [one.1]
    exact ⟨v, [], rfl, by simp only [VRel]; exact h, rfl⟩
theorem flatten_set (sz : Nat) : ∀ (es : List (List AV)) (i j n : Nat) (e cs : List AV), (∀ e ∈ es, e.length = sz) → es[i]? = some e → j + n ≤ sz → cs.length = n →
    (es.set i (e.take j ++ cs ++ e.drop (j + n))).flatten = es.flatten.take (i * sz + j) ++ cs ++ es.flatten.drop (i * sz + j + n)
  | [], i, j, n, e, cs => by intro _ h; simp at h
  | x :: es, 0, j, n, e, cs => by
    intro hl h hj hc
    simp at h; subst h
    have hx : x.length = sz := hl x (by simp)
    simp only [List.set_cons_zero, List.flatten_cons, Nat.zero_mul, Nat.zero_add]
    rw [List.take_append_of_le_length (by omega), List.drop_append_of_le_length (by omega)]
    simp
  | x :: es, i + 1, j, n, e, cs => by
    intro hl h hj hc
    have hx : x.length = sz := hl x (by simp)
    have ih := flatten_set sz es i j n e cs (fun y hy => hl y (by simp [hy])) (by simpa using h) hj hc
    simp only [List.set_cons_succ, List.flatten_cons, ih]
    have e1 : (i + 1) * sz + j = x.length + (i * sz + j) := by rw [Nat.succ_mul, hx]; omega
    rw [e1, Nat.add_assoc x.length]
    rw [List.take_length_add_append, List.drop_length_add_append]
    simp [List.append_assoc]
theorem mem_set_len {sz : Nat} {es : List (List AV)} {i : Nat} {e : List AV} (hl : ∀ x ∈ es, x.length = sz) (he : e.length = sz) : ∀ x ∈ es.set i e, x.length = sz := by
  intro x hx
  rcases List.mem_or_eq_of_mem_set hx with h | h
  · exact hl x h
  · rw [h]; exact he
theorem ext_setRow [Adr] {w : World} {F : Nat → Prop} {cb : Nat} {c c' : Array Value} {el : TypeId} (hc : w.heap[cb]? = some (.cells c el (0, 0))) (hF : ¬ F cb) (hs : c'.size = c.size) : Ext F w (w.setRow cb c') := by
  refine ⟨⟨by simp, fun b hb => setRow_other w cb b c' (fun e => hF (e ▸ hb)), fun b x hx => ?_⟩, fun b o ho hn => ?_⟩
  · by_cases e : b = cb
    · subst e
      simp only [World.shape?, setRow_heap w b c c' el _ hc]
      simp only [World.shape?, hc] at hx
      rw [hs]; exact hx
    · rw [shape_of_heap (setRow_other w cb b c' e)]; exact hx
  · by_cases e : b = cb
    · subst e; rw [hc] at ho; cases ho; exact absurd rfl (hn _ _ _)
    · rw [setRow_other w cb b c' e]; exact ho
theorem HRel.rewrite [Adr] {w0 w : World} {F : Nat → Prop} {φ : Emb} {U : Nat → Prop} {η : Heap} (h : HRel w0 w F φ U η) {nm : Nat} {blk blk' : ABlk} {cb : Nat} {c c' : Array Value} {el : TypeId} {us : List Value}
    (hb : η nm = some blk) (hp : φ.blk nm blk.g = some (some cb, blk.sz)) (ho : blk.own = true) (hcb : w.heap[cb]? = some (.cells c el (0, 0))) (hs : c'.size = c.size)
    (hsz : blk'.sz = blk.sz) (hgg : blk'.g = blk.g ∨ blk'.g = blk.g + 1) (hl : ∀ e ∈ blk'.es, e.length = blk'.sz)
    (hus : VRels w F (blk'.emb φ) blk'.es.flatten us) (h1 : ∀ v ∈ us, v.oneCell' = true) (hrow : ∀ (k : Nat) (v : Value), us[k]? = some v → c'[k]? = some v) (hty : ∀ t, blk'.ty = some t → blk.ty = some t := by first | exact fun _ h => h | (intro _ h; cases h)) :
    ∃ φ', φ.sle φ' ∧ φ'.blk nm blk'.g = some (some cb, blk.sz) ∧ Ext F w (w.setRow cb c') ∧ HRel w0 (w.setRow cb c') F φ' U (fupd η nm (some blk')) := by
  obtain ⟨pl, e1, e2, e3⟩ := h.blk nm blk hb
  rw [hp] at e1; cases e1
  obtain ⟨f1, f2, ⟨c2, el2, fz2, g1, ⟨-, g2⟩, -⟩, -⟩ := e3
  rw [hcb] at g1
  cases g1
  have hF := f2 ho
  have hx : Ext F w (w.setRow cb c') := ext_setRow hcb hF hs
  have hfit : blk'.es.length * blk'.sz ≤ c'.size := by
    have := hus.length
    rw [flatten_len _ _ hl] at this
    rw [this]
    by_cases hz : us.length = 0
    · omega
    · have : us[us.length - 1]? = some us[us.length - 1] := List.getElem?_eq_getElem (by omega)
      have := hrow _ _ this
      have := (Array.getElem?_eq_some_iff.1 this).1
      omega
  have hrw : RowAt (w.setRow cb c') cb 0 us := by
    intro k v hk
    rw [cell_setRow_same w cb _ c c' el _ hcb]
    simpa using hrow k v hk
  have key : ∀ φ', φ.le φ' → φ'.blk nm blk'.g = some (some cb, blk.sz) → (∀ b g x, φ'.blk b g = some x → φ.blk b g = some x ∨ (b = nm ∧ g = blk'.g ∧ ∀ c, x.1 = some c → c < w.heap.size)) →
      (∀ g, blk'.g < g → φ'.blk nm g = none) → HRel w0 (w.setRow cb c') F φ' U (fupd η nm (some blk')) := by
    intro φ' hle hn hnew hgen
    refine h.upd nm blk' (some cb) (below_setRow h.below f1 c') hx hle (fun b hb' hne => setRow_other w cb b c' (fun e => hne (by rw [e]))) (fun b x cb' sz hne hbx hbl e => ?_) (fun b g x hxx => ?_) (fun _ hu => hu) (h.used _ _ _ hp) ?_ hgen (fun b x cb' sz sz' hne hbx g1 g2 => ?_)
    · cases e; exact hne (h.inj b nm x blk cb _ _ hbx hb hbl hp)
    · rcases hnew b g x hxx with g1 | ⟨g1, g2, g3⟩
      · exact .inl g1
      · exact .inr ⟨g1, g2, fun c hc => by rw [setRow_size]; exact g3 c hc⟩
    · refine ⟨some cb, by rw [hn, hsz], hl, f1, fun _ => hF, ⟨c', el, _, setRow_heap w cb c c' el _ hcb, ⟨fun _ => rfl, fun t ht => g2 t (hty t ht)⟩, hfit⟩, ?_⟩
      rw [ERel_flat, CRel_iff]
      exact ⟨us, VRels.mono hx (fun _ h => h) (blk'.emb_mono hle) _ _ hus, hrw, h1⟩
    · rw [hn] at g2; cases g2; exact hne (h.inj b nm x blk cb _ _ hbx hb g1 hp)
  rcases hgg with hg | hg
  · refine ⟨φ, Emb.sle_refl φ, by rw [hg]; exact hp, hx, key φ (Emb.le_refl φ) (by rw [hg]; exact hp) (fun _ _ _ h => .inl h) (fun g hg' => h.gen nm blk hb g (by omega))⟩
  · have hno : φ.blk nm (blk.g + 1) = none := h.gen nm blk hb _ (by omega)
    refine ⟨φ.add nm (blk.g + 1) (some cb, blk.sz), φ.sle_add _ _ _ hno, by rw [hg]; exact φ.add_same _ _ _, hx, key _ (φ.le_add _ _ _ hno) (by rw [hg]; exact φ.add_same _ _ _) (fun b g x hxx => ?_) (fun g hg' => ?_)⟩
    · rcases φ.add_cases _ _ _ hxx with g1 | ⟨g1, g2, g3⟩
      · exact .inl g1
      · exact .inr ⟨g1, by rw [g2, hg], fun c hc => by rw [g3] at hc; cases hc; exact h.inb _ _ _ _ hp⟩
    · simp only [Emb.add]
      rw [if_neg (by omega)]
      exact h.gen nm blk hb g (by omega)
theorem HRel.renew [Adr] {w0 w : World} {F : Nat → Prop} {φ : Emb} {U : Nat → Prop} {η : Heap} (h : HRel w0 w F φ U η) {nm : Nat} {blk blk' : ABlk} {c' : Array Value} {el : TypeId} {us : List Value}
    (hb : η nm = some blk) (hgg : blk'.g = blk.g + 1) (hl : ∀ e ∈ blk'.es, e.length = blk'.sz)
    (hus : VRels w F (blk'.emb φ) blk'.es.flatten us) (h1 : ∀ v ∈ us, v.oneCell' = true) (hrow : ∀ (k : Nat) (v : Value), us[k]? = some v → c'[k]? = some v) (hty : ∀ t, blk'.ty = some t → el = t := by intro _ h; cases h) :
    let φ' := φ.add nm (blk.g + 1) (some w.heap.size, blk'.sz)
    φ.sle φ' ∧ Ext F w (w.alloc (.cells c' el)) ∧ HRel w0 (w.alloc (.cells c' el)) F φ' U (fupd η nm (some blk')) := by
  intro φ'
  have hno : φ.blk nm (blk.g + 1) = none := h.gen nm blk hb _ (by omega)
  have hle : φ.sle φ' := φ.sle_add _ _ _ hno
  have hx : Ext F w (w.alloc (.cells c' el)) := ext_alloc h.fb _
  have hsz := h.below.size
  obtain ⟨pl, e1, e2, e3⟩ := h.blk nm blk hb
  have hfit : blk'.es.length * blk'.sz ≤ c'.size := by
    have := hus.length
    rw [flatten_len _ _ hl] at this
    rw [this]
    by_cases hz : us.length = 0
    · omega
    · have : us[us.length - 1]? = some us[us.length - 1] := List.getElem?_eq_getElem (by omega)
      have := hrow _ _ this
      have := (Array.getElem?_eq_some_iff.1 this).1
      omega
  refine ⟨hle, hx, h.upd nm blk' none (h.below.alloc hsz _) hx hle (fun b hb _ => heap_alloc_old _ _ _ hb) (fun _ _ _ _ _ _ _ => by simp) (fun b g x hxx => ?_) (fun _ hu => hu) (h.used _ _ _ e1) ?_ (fun g hg' => ?_) (fun b x cb' sz sz' hne hbx g1 g2 => ?_)⟩
  · rcases φ.add_cases _ _ _ hxx with g1 | ⟨g1, g2, g3⟩
    · exact .inl g1
    · exact .inr ⟨g1, by rw [g2, hgg], fun c hc => by rw [g3] at hc; cases hc; simp⟩
  · refine ⟨some w.heap.size, by rw [hgg]; exact φ.add_same _ _ _, hl, hsz, fun _ hF => absurd (h.fb _ hF) (Nat.lt_irrefl _), ⟨c', el, _, heap_alloc_new _ _, ⟨fun _ => rfl, hty⟩, hfit⟩, ?_⟩
    rw [ERel_flat, CRel_iff]
    exact ⟨us, VRels.mono hx (fun _ h => h) (blk'.emb_mono hle) _ _ hus, row_alloc w c' el _ us hrow, h1⟩
  · show (φ.add _ _ _).blk _ _ = _
    simp only [Emb.add]
    rw [if_neg (by omega)]
    exact h.gen nm blk hb g (by omega)
  · rw [hgg] at g2
    change (φ.add nm (blk.g + 1) (some w.heap.size, blk'.sz)).blk nm (blk.g + 1) = _ at g2
    rw [φ.add_same] at g2
    cases g2
    exact absurd (h.inb _ _ _ _ g1) (Nat.lt_irrefl _)
end Go.AM
