/- A text of the proof. -/
import Derived.Test.YtdompcjalogoaaaGreatDoorKAmB
import Derived.Laws.CopyRow
import Derived.Laws.CopyOwn
set_option linter.unusedSimpArgs false
set_option linter.unusedVariables false
namespace Go.AM
open Go Go.RowKit
def fupd {α : Type} (η : Nat → α) (b : Nat) (x : α) : Nat → α := fun c => if c = b then x else η c
theorem fupd_same {α : Type} (η : Nat → α) (b : Nat) (x : α) : fupd η b x b = x := by simp [fupd]
theorem fupd_other {α : Type} (η : Nat → α) (b c : Nat) (x : α) (h : c ≠ b) : fupd η b x c = η c := by simp [fupd, h]
def Emb.add (φ : Emb) (b g : Nat) (x : Option Nat × Nat) : Emb := { φ with blk := fun b' g' => if b' = b ∧ g' = g then some x else φ.blk b' g' }
theorem Emb.add_same (φ : Emb) (b g : Nat) (x : Option Nat × Nat) : (φ.add b g x).blk b g = some x := by simp [Emb.add]
theorem Emb.le_add (φ : Emb) (b g : Nat) (x : Option Nat × Nat) (h : φ.blk b g = none) : φ.le (φ.add b g x) := by
  refine ⟨fun b' g' y hy => ?_, fun l y hy => hy⟩
  simp only [Emb.add]
  split
  · rename_i e; rw [e.1, e.2, h] at hy; cases hy
  · exact hy
theorem Emb.sle_add [Adr] (φ : Emb) (b g : Nat) (x : Option Nat × Nat) (h : φ.blk b g = none) : φ.sle (φ.add b g x) := ⟨φ.le_add b g x h, rfl⟩
theorem Emb.add_cases (φ : Emb) (b g : Nat) (x : Option Nat × Nat) {b' g' : Nat} {y : Option Nat × Nat} (h : (φ.add b g x).blk b' g' = some y) :
    φ.blk b' g' = some y ∨ (b' = b ∧ g' = g ∧ y = x) := by
  simp only [Emb.add] at h
  split at h
  · rename_i e; exact .inr ⟨e.1, e.2, by simpa using h.symm⟩
  · exact .inl h
def ABlk.emb (blk : ABlk) (φ : Emb) : Emb := if blk.pure then Emb.zero else φ
theorem ABlk.emb_le [Adr] (blk : ABlk) (φ : Emb) : (blk.emb φ).le φ := by unfold ABlk.emb; split <;> first | exact Emb.zero_le φ | exact Emb.le_refl φ
theorem ABlk.emb_mono [Adr] (blk : ABlk) {φ ψ : Emb} (h : φ.le ψ) : (blk.emb φ).le (blk.emb ψ) := by unfold ABlk.emb; split <;> first | exact Emb.le_refl _ | exact h
def ABlk.hd (blk : ABlk) (el : TypeId) (fz : Nat × Nat) : Prop := (blk.own = true → fz = (0, 0)) ∧ ∀ t, blk.ty = some t → el = t
def LRel [Adr] (w0 w : World) (F : Nat → Prop) (φ : Emb) (blk : ABlk) : Option Nat → Prop
  | none => blk.es = []
  | some cb => w0.heap.size ≤ cb ∧ (blk.own = true → ¬ F cb) ∧ (∃ c el fz, w.heap[cb]? = some (.cells c el fz) ∧ blk.hd el fz ∧ blk.es.length * blk.sz ≤ c.size) ∧ ERel w F (blk.emb φ) blk.es cb 0
def BRel [Adr] (w0 w : World) (F : Nat → Prop) (φ : Emb) (b : Nat) (blk : ABlk) : Prop :=
  ∃ pl, φ.blk b blk.g = some (pl, blk.sz) ∧ (∀ e ∈ blk.es, e.length = blk.sz) ∧ LRel w0 w F φ blk pl
def isRec : Obj → Bool
  | .loop _ => true
  | .deferred _ => true
  | .map .. => true
  | .stringIter .. => true
  | .mapIter .. => true
  | _ => false
structure HRel [Adr] (w0 w : World) (F : Nat → Prop) (φ : Emb) (U : Nat → Prop) (η : Heap) : Prop where
  below : Below w0.heap.size w0 w
  fb : ∀ b, F b → b < w.heap.size
  used : ∀ b g x, φ.blk b g = some x → U b
  inb : ∀ b g cb sz, φ.blk b g = some (some cb, sz) → cb < w.heap.size
  blk : ∀ b x, η b = some x → BRel w0 w F φ b x
  gen : ∀ b x, η b = some x → ∀ g, x.g < g → φ.blk b g = none
  inj : ∀ b b' x y cb sz sz', η b = some x → η b' = some y → φ.blk b x.g = some (some cb, sz) → φ.blk b' y.g = some (some cb, sz') → b = b'
  fwk : ∀ b o, F b → w.heap[b]? = some o → isRec o = false
theorem LRel.mono [Adr] {w0 w w' : World} {F : Nat → Prop} {φ φ' : Emb} {blk : ABlk} {pl : Option Nat} (h : LRel w0 w F φ blk pl) (hx : Ext0 F w w') (hle : φ.le φ')
    (hs : ∀ cb, pl = some cb → w'.heap[cb]? = w.heap[cb]?) : LRel w0 w' F φ' blk pl := by
  cases pl with
  | none => exact h
  | some cb =>
    obtain ⟨h1, h2, ⟨c, el, fz, h3, h4⟩, h5⟩ := h
    exact ⟨h1, h2, ⟨c, el, fz, (hs cb rfl).trans h3, h4⟩, ERel.mono hx (fun _ h => h) (blk.emb_mono hle) _ _ _ (hs cb rfl) h5⟩
theorem HRel.upd [Adr] {w0 w w' : World} {F : Nat → Prop} {φ φ' : Emb} {U U' : Nat → Prop} {η : Heap} (h : HRel w0 w F φ U η) (nm : Nat) (blk' : ABlk) (cb0 : Option Nat)
    (hb : Below w0.heap.size w0 w') (hx : Ext0 F w w') (hle : φ.le φ')
    (hsame : ∀ b, b < w.heap.size → some b ≠ cb0 → w'.heap[b]? = w.heap[b]?)
    (hother : ∀ b x cb sz, b ≠ nm → η b = some x → φ.blk b x.g = some (some cb, sz) → some cb ≠ cb0)
    (hnew : ∀ b g x, φ'.blk b g = some x → φ.blk b g = some x ∨ (b = nm ∧ g = blk'.g ∧ ∀ c, x.1 = some c → c < w'.heap.size))
    (hU : ∀ b, U b → U' b) (hUn : U' nm) (hblk : BRel w0 w' F φ' nm blk')
    (hg : ∀ g, blk'.g < g → φ'.blk nm g = none)
    (hinj : ∀ b x cb sz sz', b ≠ nm → η b = some x → φ.blk b x.g = some (some cb, sz) → φ'.blk nm blk'.g = some (some cb, sz') → False) :
    HRel w0 w' F φ' U' (fupd η nm (some blk')) := by
  have back : ∀ b x y, b ≠ nm → η b = some x → φ'.blk b x.g = some y → φ.blk b x.g = some y := by
    intro b x y hne _ hy
    rcases hnew _ _ _ hy with h1 | ⟨h1, _⟩
    · exact h1
    · exact absurd h1 hne
  refine ⟨hb, fun b hb' => Nat.lt_of_lt_of_le (h.fb b hb') hx.size, fun b g x hx' => ?_, fun b g cb sz hx' => ?_, fun b x hbx => ?_, fun b x hbx g hg' => ?_, fun b b' x y cb sz sz' hbx hby e1 e2 => ?_, fun b o hb' ho => h.fwk b o hb' (by rw [hx.same b hb'] at ho; exact ho)⟩
  · rcases hnew _ _ _ hx' with h1 | ⟨h1, _⟩
    · exact hU b (h.used _ _ _ h1)
    · exact h1 ▸ hUn
  · rcases hnew _ _ _ hx' with h1 | ⟨_, _, h1⟩
    · exact Nat.lt_of_lt_of_le (h.inb _ _ _ _ h1) hx.size
    · exact h1 cb rfl
  · by_cases e : b = nm
    · subst e; rw [fupd_same] at hbx; cases hbx; exact hblk
    · rw [fupd_other _ _ _ _ e] at hbx
      obtain ⟨pl, h1, h2, h3⟩ := h.blk b x hbx
      refine ⟨pl, hle.1 _ _ _ h1, h2, h3.mono hx hle fun cb hcb => ?_⟩
      subst hcb
      exact hsame cb (h.inb _ _ _ _ h1) (hother b x cb _ e hbx h1)
  · by_cases e : b = nm
    · subst e; rw [fupd_same] at hbx; cases hbx; exact hg g hg'
    · rw [fupd_other _ _ _ _ e] at hbx
      cases hc : φ'.blk b g with
      | none => rfl
      | some y =>
        rcases hnew _ _ _ hc with h1 | ⟨h1, _⟩
        · rw [h.gen b x hbx g hg'] at h1; cases h1
        · exact absurd h1 e
  · by_cases e : b = nm
    · by_cases e' : b' = nm
      · rw [e, e']
      · subst e; rw [fupd_same] at hbx; cases hbx
        rw [fupd_other _ _ _ _ e'] at hby
        exact (hinj b' y cb sz' sz e' hby (back _ _ _ e' hby e2) e1).elim
    · rw [fupd_other _ _ _ _ e] at hbx
      by_cases e' : b' = nm
      · subst e'; rw [fupd_same] at hby; cases hby
        exact (hinj b x cb sz sz' e hbx (back _ _ _ e hbx e1) e2).elim
      · rw [fupd_other _ _ _ _ e'] at hby
        exact h.inj b b' x y cb sz sz' hbx hby (back _ _ _ e hbx e1) (back _ _ _ e' hby e2)
theorem HRel.weakenU [Adr] {w0 w : World} {F : Nat → Prop} {φ : Emb} {U U' : Nat → Prop} {η : Heap} (h : HRel w0 w F φ U η) (hU : ∀ b, U b → U' b) : HRel w0 w F φ U' η :=
  ⟨h.below, h.fb, fun b g x hx => hU b (h.used b g x hx), h.inb, h.blk, h.gen, h.inj, h.fwk⟩
theorem HRel.drop [Adr] {w0 w : World} {F : Nat → Prop} {φ : Emb} {U : Nat → Prop} {η η' : Heap} (h : HRel w0 w F φ U η) (hη : ∀ b x, η' b = some x → η b = some x) : HRel w0 w F φ U η' :=
  ⟨h.below, h.fb, h.used, h.inb, fun b x hx => h.blk b x (hη b x hx), fun b x hx => h.gen b x (hη b x hx), fun b b' x y cb sz sz' hx hy => h.inj b b' x y cb sz sz' (hη b x hx) (hη b' y hy), h.fwk⟩
theorem heap_alloc_new (w : World) (o : Obj) : (w.alloc o).heap[w.heap.size]? = some o := by
  show (w.heap.push o)[w.heap.size]? = _
  simp
theorem heap_alloc_old (w : World) (o : Obj) (k : Nat) (h : k < w.heap.size) : (w.alloc o).heap[k]? = w.heap[k]? := Below.heap_alloc w o k h
theorem shape_of_heap {w w' : World} {b : Nat} (h : w'.heap[b]? = w.heap[b]?) : w'.shape? b = w.shape? b := by simp only [World.shape?, h]
theorem shape_lt {w : World} {b : Nat} {x : TypeId × Nat} (h : w.shape? b = some x) : b < w.heap.size := by
  by_cases hb : b < w.heap.size
  · exact hb
  · simp [World.shape?, Array.getElem?_eq_none (Nat.le_of_not_lt hb)] at h
theorem ext_alloc [Adr] {w : World} {F : Nat → Prop} (hF : ∀ b, F b → b < w.heap.size) (o : Obj) : Ext F w (w.alloc o) :=
  ⟨⟨by simp, fun b hb => heap_alloc_old w o b (hF b hb), fun b x hx => by rw [shape_of_heap (heap_alloc_old w o b (shape_lt hx))]; exact hx⟩,
    fun b p hp _ => by rw [heap_alloc_old w o b (Array.getElem?_eq_some_iff.1 hp).1]; exact hp⟩
theorem row_alloc [Adr] (w : World) (c : Array Value) (el : TypeId) (fz : Nat × Nat) (vs : List Value) (hv : ∀ (k : Nat) (v : Value), vs[k]? = some v → c[k]? = some v) : RowAt (w.alloc (.cells c el fz)) w.heap.size 0 vs := by
  intro k v hk
  simp only [World.cell?, heap_alloc_new]
  simpa using hv k v hk
theorem HRel.allocM [Adr] {w0 w : World} {F : Nat → Prop} {φ : Emb} {U U' : Nat → Prop} {η : Heap} (h : HRel w0 w F φ U η) (nm : Nat) (hn : ¬ U nm) (blk : ABlk) (c : Array Value) (el : TypeId) (fz : Nat × Nat) (vs : List Value) (hfz : blk.own = true → fz = (0, 0)) (hty : ∀ t, blk.ty = some t → el = t)
    (hg : blk.g = 0) (hl : ∀ e ∈ blk.es, e.length = blk.sz) (hvs : VRels w F (blk.emb φ) blk.es.flatten vs) (h1 : ∀ v ∈ vs, v.oneCell' = true)
    (hc : ∀ (k : Nat) (v : Value), vs[k]? = some v → c[k]? = some v) (hU : ∀ b, U b → U' b) (hUn : U' nm) :
    HRel w0 (w.alloc (.cells c el fz)) F (φ.add nm 0 (some w.heap.size, blk.sz)) U' (fupd η nm (some blk)) ∧ φ.sle (φ.add nm 0 (some w.heap.size, blk.sz)) ∧ Ext F w (w.alloc (.cells c el fz)) ∧ c.size = c.size := by
  have hno : ∀ g, φ.blk nm g = none := fun g => by
    cases e : φ.blk nm g with
    | none => rfl
    | some x => exact absurd (h.used _ _ _ e) hn
  have hle : φ.sle (φ.add nm 0 (some w.heap.size, blk.sz)) := φ.sle_add _ _ _ (hno 0)
  have hx : Ext F w (w.alloc (.cells c el fz)) := ext_alloc h.fb _
  have hsz := h.below.size
  refine ⟨h.upd nm blk none (h.below.alloc hsz _) hx hle (fun b hb _ => heap_alloc_old _ _ _ hb) (fun _ _ _ _ _ _ _ => by simp) (fun b g x hxx => ?_) hU hUn ?_ (fun g hgg => ?_) (fun b x cb sz sz' hne hb e1 e2 => ?_), hle, hx, rfl⟩
  · rcases φ.add_cases _ _ _ hxx with h2 | ⟨h2, h3, h4⟩
    · exact .inl h2
    · exact .inr ⟨h2, by rw [h3, hg], fun c' hc' => by rw [h4] at hc'; cases hc'; simp⟩
  · refine ⟨some w.heap.size, by rw [hg]; exact φ.add_same _ _ _, hl, hsz, fun _ hF => absurd (h.fb _ hF) (Nat.lt_irrefl _), ⟨c, el, _, heap_alloc_new _ _, ⟨hfz, hty⟩, ?_⟩, ?_⟩
    · have := hvs.length
      rw [flatten_len _ _ hl] at this
      rw [this]
      by_cases hz : vs.length = 0
      · omega
      · have : vs[vs.length - 1]? = some vs[vs.length - 1] := List.getElem?_eq_getElem (by omega)
        have := hc _ _ this
        have := (Array.getElem?_eq_some_iff.1 this).1
        omega
    · rw [ERel_flat, CRel_iff]
      exact ⟨vs, VRels.mono hx (fun _ h => h) (blk.emb_mono hle) _ _ hvs, row_alloc w c el _ vs hc, h1⟩
  · rw [hg] at hgg
    simp only [Emb.add]
    rw [if_neg (by omega)]
    exact hno g
  · rw [hg, φ.add_same] at e2
    cases e2
    exact absurd (h.inb _ _ _ _ e1) (Nat.lt_irrefl _)
theorem HRel.alloc [Adr] {w0 w : World} {F : Nat → Prop} {φ : Emb} {U U' : Nat → Prop} {η : Heap} (h : HRel w0 w F φ U η) (nm : Nat) (hn : ¬ U nm) (blk : ABlk) (c : Array Value) (el : TypeId) (vs : List Value)
    (hg : blk.g = 0) (hl : ∀ e ∈ blk.es, e.length = blk.sz) (hvs : VRels w F (blk.emb φ) blk.es.flatten vs) (h1 : ∀ v ∈ vs, v.oneCell' = true)
    (hc : ∀ (k : Nat) (v : Value), vs[k]? = some v → c[k]? = some v) (hU : ∀ b, U b → U' b) (hUn : U' nm) (hty : ∀ t, blk.ty = some t → el = t := by intro _ h; cases h) :
    HRel w0 (w.alloc (.cells c el)) F (φ.add nm 0 (some w.heap.size, blk.sz)) U' (fupd η nm (some blk)) ∧ φ.sle (φ.add nm 0 (some w.heap.size, blk.sz)) ∧ Ext F w (w.alloc (.cells c el)) ∧ c.size = c.size :=
  h.allocM nm hn blk c el (0, 0) vs (fun _ => rfl) hty hg hl hvs h1 hc hU hUn
theorem ext_drew (F : Nat → Prop) (w : World) : Ext F w w.drew := ⟨⟨Nat.le_refl _, fun _ _ => rfl, fun _ _ h => h⟩, fun _ _ h _ => h⟩
theorem HRel.heap_same [Adr] {w0 w w' : World} {F : Nat → Prop} {φ : Emb} {U : Nat → Prop} {η : Heap} (h : HRel w0 w F φ U η) (hh : w'.heap = w.heap) (hb : Below w0.heap.size w0 w') : HRel w0 w' F φ U η := by
  have hx : Ext0 F w w' := ⟨by rw [hh]; exact Nat.le_refl _, fun b _ => by rw [hh], fun b x hx => by rw [shape_of_heap (w := w) (by rw [hh])]; exact hx⟩
  exact ⟨hb, fun b hb => by rw [hh]; exact h.fb b hb, h.used, fun b g cb sz e => by rw [hh]; exact h.inb b g cb sz e,
    fun b x hbx => let ⟨pl, h1, h2, h3⟩ := h.blk b x hbx; ⟨pl, h1, h2, h3.mono hx (Emb.le_refl _) fun cb _ => by rw [hh]⟩, h.gen, h.inj, fun b o hb' ho => h.fwk b o hb' (by rw [hh] at ho; exact ho)⟩
end Go.AM
