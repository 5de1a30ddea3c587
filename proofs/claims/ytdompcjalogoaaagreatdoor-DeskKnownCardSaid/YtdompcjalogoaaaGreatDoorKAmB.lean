/- A text of the proof. -/
import Derived.Test.YtdompcjalogoaaaGreatDoorKAmA
set_option linter.unusedSimpArgs false
set_option linter.unusedVariables false
namespace Go.AM
open Go Go.RowKit
structure Emb where
  blk : Nat → Nat → Option (Option Nat × Nat)
  loop : Nat → Option Nat
def Emb.zero : Emb := { blk := fun _ _ => .none, loop := fun _ => .none }
def Emb.le (φ ψ : Emb) : Prop := (∀ b g x, φ.blk b g = some x → ψ.blk b g = some x) ∧ (∀ l x, φ.loop l = some x → ψ.loop l = some x)
def roomAt (w : World) (cb sz off cap : Nat) : Prop := ∃ el n, w.shape? cb = some (el, n) ∧ (off + cap) * sz ≤ n
mutual
def VRel [Adr] (w : World) (F : Nat → Prop) : Emb → AV → Value → Prop
  | _, .top, _ => True
  | _, .anyb, v => ∃ b, v = .bool b
  | _, .bool b, v => v = .bool b
  | _, .int k n, v => v = .int k n
  | _, .str s, v => v = .string ⟨s.toArray⟩
  | _, .nilp, v => v = .pointer none
  | φ, .ref b g i j, v => ∃ cb sz, φ.blk b g = some (some cb, sz) ∧ v = .pointer (some ⟨cb, i * sz + j, none⟩)
  | _, .pp cs, v => ∃ b o, v = .pointer (some ⟨b, o, none⟩) ∧ F b ∧ CRel w F Emb.zero cs b o
  | _, .nils, v => v = .slice none 0 0
  | φ, .sl b g sz off len, v =>
    (φ.blk b g = some (none, sz) ∧ off = 0 ∧ len = 0 ∧ ∃ a, v = .slice a 0 0) ∨
    ∃ cb cap, φ.blk b g = some (some cb, sz) ∧ v = .slice (some ⟨cb, off * sz, none⟩) len cap ∧ len ≤ cap ∧ roomAt w cb sz off cap
  | _, .psl sz es, v => ∃ a cap, v = .slice a es.length cap ∧ es.length ≤ cap ∧ (∀ e ∈ es, e.length = sz) ∧
      (es ≠ [] → ∃ b o, a = some ⟨b, o, none⟩ ∧ F b ∧ ERel w F Emb.zero es b o)
  | _, .psx sz es, v => ∃ a, v = .slice a es.length es.length ∧ (∀ e ∈ es, e.length = sz) ∧
      (es ≠ [] → ∃ b o, a = some ⟨b, o, none⟩ ∧ F b ∧ ERel w F Emb.zero es b o)
  | φ, .fn f first cap, v => ∃ fs cs, v = .func (.func f) ⟨fs⟩ ⟨cs⟩ ∧ VRels w F φ first fs ∧ VRels w F φ cap cs
  | φ, .yld l, v => ∃ lc, φ.loop l = some lc ∧ v = .func (.yield lc) #[] #[]
  | φ, .mp l, v => ∃ lc, φ.loop l = some lc ∧ v = .map (some lc)
  | φ, .itr l, v => ∃ lc, φ.loop l = some lc ∧ v = .pointer (some ⟨lc, 0, none⟩)
  | _, .nilf, v => v = .nilFunc
  | _, .nili, v => v = .nilIface
  | _, .nilm, v => v = .map none
  | _, .strb n s, v => v = .string ⟨s.toArray⟩ ∧ s.length ≤ n
  | _, .inty k, v => ∃ n, v = .int k n
  | _, .emp, v => ∃ a, v = .slice a 0 0
  | φ, .iface t x, v => ∃ y, v = .iface t y ∧ VRel w F φ x y
  | φ, .agg cells, v => ∃ cs, v = .agg ⟨cs⟩ ∧ VRels w F φ cells cs ∧ ∀ c ∈ cs, c.oneCell' = true
  | φ, .tup vs, v => ∃ cs, v = .tuple ⟨cs⟩ ∧ VRels w F φ vs cs
  | φ, .slk b g sz off len lo ex, v => ∃ cb cap, φ.blk b g = some (some cb, sz) ∧ v = .slice (some ⟨cb, off * sz, none⟩) len cap ∧ len ≤ lo ∧ lo ≤ cap ∧ (ex = true → cap = lo) ∧ roomAt w cb sz off cap
  | _, .gp k o cs, v => v = .pointer (some ⟨Adr.ad k, Adr.of k + o, none⟩) ∧ (cs ≠ [] → F (Adr.ad k) ∧ CRel w F Emb.zero cs (Adr.ad k) (Adr.of k + o))
def VRels [Adr] (w : World) (F : Nat → Prop) : Emb → List AV → List Value → Prop
  | _, [], vs => vs = []
  | φ, a :: as, vs => ∃ v vs', vs = v :: vs' ∧ VRel w F φ a v ∧ VRels w F φ as vs'
def CRel [Adr] (w : World) (F : Nat → Prop) : Emb → List AV → Nat → Nat → Prop
  | _, [], _, _ => True
  | φ, a :: as, b, o => (∃ v, w.cell? ⟨b, o, none⟩ = some v ∧ v.oneCell' = true ∧ VRel w F φ a v) ∧ CRel w F φ as b (o + 1)
def ERel [Adr] (w : World) (F : Nat → Prop) : Emb → List (List AV) → Nat → Nat → Prop
  | _, [], _, _ => True
  | φ, e :: es, b, o => CRel w F φ e b o ∧ ERel w F φ es b (o + e.length)
end
def GOk [Adr] (w : World) (F : Nat → Prop) : Prop := ∀ g, VRel w F Emb.zero (Adr.gl g) (.pointer (some ⟨g, 0, none⟩))
structure Ext0 (F : Nat → Prop) (w w' : World) : Prop where
  size : w.heap.size ≤ w'.heap.size
  same : ∀ b, F b → w'.heap[b]? = w.heap[b]?
  shape : ∀ b x, w.shape? b = some x → w'.shape? b = some x
structure Ext (F : Nat → Prop) (w w' : World) : Prop extends Ext0 F w w' where
  objs : ∀ (b : Nat) (o : Obj), w.heap[b]? = some o → (∀ c el fz, o ≠ .cells c el fz) → w'.heap[b]? = some o
theorem Ext0.refl (F : Nat → Prop) (w : World) : Ext0 F w w := ⟨Nat.le_refl _, fun _ _ => rfl, fun _ _ h => h⟩
theorem Ext0.trans {F G : Nat → Prop} {a b c : World} (h : Ext0 F a b) (k : Ext0 G b c) (hFG : ∀ x, F x → G x) : Ext0 F a c :=
  ⟨Nat.le_trans h.size k.size, fun x hx => (k.same x (hFG x hx)).trans (h.same x hx), fun x y hxy => k.shape x y (h.shape x y hxy)⟩
theorem Ext.refl [Adr] (F : Nat → Prop) (w : World) : Ext F w w := ⟨Ext0.refl F w, fun _ _ h _ => h⟩
theorem Ext.trans [Adr] {F G : Nat → Prop} {a b c : World} (h : Ext F a b) (k : Ext G b c) (hFG : ∀ x, F x → G x) : Ext F a c :=
  ⟨h.toExt0.trans k.toExt0 hFG, fun x o hx ho => k.objs x o (h.objs x o hx ho) ho⟩
instance {F : Nat → Prop} {w w' : World} : Coe (Ext F w w') (Ext0 F w w') := ⟨Ext.toExt0⟩
theorem Emb.le_refl (φ : Emb) : φ.le φ := ⟨fun _ _ _ h => h, fun _ _ h => h⟩
theorem Emb.le_trans {a b c : Emb} (h : a.le b) (k : b.le c) : a.le c := ⟨fun x y z hz => k.1 _ _ _ (h.1 x y z hz), fun x y hy => k.2 _ _ (h.2 x y hy)⟩
structure Emb.sle (φ ψ : Emb) : Prop where
  le : φ.le ψ
  lp : ψ.loop = φ.loop
instance {φ ψ : Emb} : Coe (φ.sle ψ) (φ.le ψ) := ⟨Emb.sle.le⟩
theorem Emb.sle_refl [Adr] (φ : Emb) : φ.sle φ := ⟨Emb.le_refl φ, rfl⟩
theorem Emb.sle_trans [Adr] {a b c : Emb} (h : a.sle b) (k : b.sle c) : a.sle c := ⟨Emb.le_trans h.le k.le, k.lp.trans h.lp⟩
theorem Emb.zero_le (φ : Emb) : Emb.zero.le φ := ⟨fun _ _ _ h => by simp [Emb.zero] at h, fun _ _ h => by simp [Emb.zero] at h⟩
theorem cell_same {w w' : World} {b o : Nat} (h : w'.heap[b]? = w.heap[b]?) : w'.cell? ⟨b, o, none⟩ = w.cell? ⟨b, o, none⟩ := by
  simp only [World.cell?, h]
mutual
theorem VRel.mono [Adr] {w w' : World} {F F' : Nat → Prop} (hx : Ext0 F w w') (hF : ∀ b, F b → F' b) : ∀ {φ φ' : Emb}, φ.le φ' → ∀ (a : AV) (v : Value), VRel w F φ a v → VRel w' F' φ' a v
  | φ, φ', hle, a, v => by
    cases a with
    | top => intro _; simp [VRel]
    | anyb => intro h; simpa [VRel] using h
    | bool b => intro h; simpa [VRel] using h
    | int k n => intro h; simpa [VRel] using h
    | str s => intro h; simpa [VRel] using h
    | nilp => intro h; simpa [VRel] using h
    | ref b g i j => intro h; simp only [VRel] at h ⊢; obtain ⟨cb, sz, h1, h2⟩ := h; exact ⟨cb, sz, hle.1 _ _ _ h1, h2⟩
    | pp cs =>
      intro h; simp only [VRel] at h ⊢; obtain ⟨b, o, h1, h2, h3⟩ := h
      exact ⟨b, o, h1, hF b h2, CRel.mono hx hF (Emb.le_refl _) cs b o (hx.same b h2) h3⟩
    | nils => intro h; simpa [VRel] using h
    | sl b g sz off len =>
      intro h; simp only [VRel] at h ⊢
      rcases h with ⟨h1, h2⟩ | ⟨cb, cap, h1, h2, h3, el, n, h4, h5⟩
      · exact .inl ⟨hle.1 _ _ _ h1, h2⟩
      · exact .inr ⟨cb, cap, hle.1 _ _ _ h1, h2, h3, el, n, hx.shape _ _ h4, h5⟩
    | psl sz es =>
      intro h; simp only [VRel] at h ⊢; obtain ⟨a, cap, h1, h2, h3, h4⟩ := h
      exact ⟨a, cap, h1, h2, h3, fun he => let ⟨b, o, e1, e2, e3⟩ := h4 he; ⟨b, o, e1, hF b e2, ERel.mono hx hF (Emb.le_refl _) es b o (hx.same b e2) e3⟩⟩
    | psx sz es =>
      intro h; simp only [VRel] at h ⊢; obtain ⟨a, h1, h3, h4⟩ := h
      exact ⟨a, h1, h3, fun he => let ⟨b, o, e1, e2, e3⟩ := h4 he; ⟨b, o, e1, hF b e2, ERel.mono hx hF (Emb.le_refl _) es b o (hx.same b e2) e3⟩⟩
    | fn f first cap =>
      intro h; simp only [VRel] at h ⊢; obtain ⟨fs, cs, h1, h2, h3⟩ := h
      exact ⟨fs, cs, h1, VRels.mono hx hF hle first fs h2, VRels.mono hx hF hle cap cs h3⟩
    | yld l => intro h; simp only [VRel] at h ⊢; obtain ⟨lc, h1, h2⟩ := h; exact ⟨lc, hle.2 _ _ h1, h2⟩
    | mp l => intro h; simp only [VRel] at h ⊢; obtain ⟨lc, h1, h2⟩ := h; exact ⟨lc, hle.2 _ _ h1, h2⟩
    | itr l => intro h; simp only [VRel] at h ⊢; obtain ⟨lc, h1, h2⟩ := h; exact ⟨lc, hle.2 _ _ h1, h2⟩
    | nilf => intro h; simpa [VRel] using h
    | nili => intro h; simpa [VRel] using h
    | emp => intro h; simpa [VRel] using h
    | nilm => intro h; simpa [VRel] using h
    | strb n s => intro h; simpa [VRel] using h
    | inty k => intro h; simpa [VRel] using h
    | slk b g sz off len lo ex =>
      intro h; simp only [VRel] at h ⊢
      obtain ⟨cb, cap, h1, h2, h3, h6, h7, el, n, h4, h5⟩ := h
      exact ⟨cb, cap, hle.1 _ _ _ h1, h2, h3, h6, h7, el, n, hx.shape _ _ h4, h5⟩
    | gp k o cs =>
      intro h; simp only [VRel] at h ⊢
      exact ⟨h.1, fun he => let ⟨e1, e2⟩ := h.2 he; ⟨hF _ e1, CRel.mono hx hF (Emb.le_refl _) cs _ _ (hx.same _ e1) e2⟩⟩
    | iface t x => intro h; simp only [VRel] at h ⊢; obtain ⟨y, h1, h2⟩ := h; exact ⟨y, h1, VRel.mono hx hF hle x y h2⟩
    | agg cells => intro h; simp only [VRel] at h ⊢; obtain ⟨cs, h1, h2, h3⟩ := h; exact ⟨cs, h1, VRels.mono hx hF hle cells cs h2, h3⟩
    | tup vs => intro h; simp only [VRel] at h ⊢; obtain ⟨cs, h1, h2⟩ := h; exact ⟨cs, h1, VRels.mono hx hF hle vs cs h2⟩
theorem VRels.mono [Adr] {w w' : World} {F F' : Nat → Prop} (hx : Ext0 F w w') (hF : ∀ b, F b → F' b) : ∀ {φ φ' : Emb}, φ.le φ' → ∀ (as : List AV) (vs : List Value), VRels w F φ as vs → VRels w' F' φ' as vs
  | φ, φ', hle, [], vs => by intro h; simpa [VRels] using h
  | φ, φ', hle, a :: as, vs => by
    intro h; simp only [VRels] at h ⊢; obtain ⟨v, vs', h1, h2, h3⟩ := h
    exact ⟨v, vs', h1, VRel.mono hx hF hle a v h2, VRels.mono hx hF hle as vs' h3⟩
theorem CRel.mono [Adr] {w w' : World} {F F' : Nat → Prop} (hx : Ext0 F w w') (hF : ∀ b, F b → F' b) : ∀ {φ φ' : Emb}, φ.le φ' → ∀ (as : List AV) (b o : Nat), w'.heap[b]? = w.heap[b]? → CRel w F φ as b o → CRel w' F' φ' as b o
  | φ, φ', hle, [], b, o => by intro _ _; simp [CRel]
  | φ, φ', hle, a :: as, b, o => by
    intro hb h; simp only [CRel] at h ⊢; obtain ⟨⟨v, h1, h0, h2⟩, h3⟩ := h
    exact ⟨⟨v, (cell_same hb).trans h1, h0, VRel.mono hx hF hle a v h2⟩, CRel.mono hx hF hle as b (o + 1) hb h3⟩
theorem ERel.mono [Adr] {w w' : World} {F F' : Nat → Prop} (hx : Ext0 F w w') (hF : ∀ b, F b → F' b) : ∀ {φ φ' : Emb}, φ.le φ' → ∀ (es : List (List AV)) (b o : Nat), w'.heap[b]? = w.heap[b]? → ERel w F φ es b o → ERel w' F' φ' es b o
  | φ, φ', hle, [], b, o => by intro _ _; simp [ERel]
  | φ, φ', hle, e :: es, b, o => by
    intro hb h; simp only [ERel] at h ⊢; exact ⟨CRel.mono hx hF hle e b o hb h.1, ERel.mono hx hF hle es b _ hb h.2⟩
end
theorem GOk.mono [Adr] {w w' : World} {F F' : Nat → Prop} (h : GOk w F) (hx : Ext0 F w w') (hF : ∀ b, F b → F' b) : GOk w' F' := fun g => VRel.mono hx hF (Emb.le_refl _) _ _ (h g)
theorem slk_sl [Adr] {w : World} {F : Nat → Prop} {φ : Emb} {b g sz off len lo : Nat} {ex : Bool} {v : Value} (h : VRel w F φ (.slk b g sz off len lo ex) v) : VRel w F φ (.sl b g sz off len) v := by
  simp only [VRel] at h ⊢
  obtain ⟨cb, cap, h1, h2, h3, h6, -, h4⟩ := h
  exact .inr ⟨cb, cap, h1, h2, Nat.le_trans h3 h6, h4⟩
theorem VRels_iff [Adr] {w : World} {F : Nat → Prop} {φ : Emb} : ∀ (as : List AV) (vs : List Value), VRels w F φ as vs ↔ as.length = vs.length ∧ ∀ (k : Nat) (a : AV) (v : Value), as[k]? = some a → vs[k]? = some v → VRel w F φ a v
  | [], vs => by
    simp only [VRels]; constructor
    · rintro rfl; simp
    · rintro ⟨h, _⟩; cases vs <;> simp_all
  | a :: as, vs => by
    simp only [VRels]; constructor
    · rintro ⟨v, vs', rfl, h1, h2⟩
      obtain ⟨hl, hk⟩ := (VRels_iff as vs').1 h2
      refine ⟨by simp [hl], fun k x y hx hy => ?_⟩
      cases k with
      | zero => simp at hx hy; subst hx; subst hy; exact h1
      | succ k => exact hk k x y (by simpa using hx) (by simpa using hy)
    · rintro ⟨hl, hk⟩
      cases vs with
      | nil => simp at hl
      | cons v vs' =>
        exact ⟨v, vs', rfl, hk 0 a v rfl rfl, (VRels_iff as vs').2 ⟨by simpa using hl, fun k x y hx hy => hk (k + 1) x y (by simpa using hx) (by simpa using hy)⟩⟩
theorem VRels.length [Adr] {w : World} {F : Nat → Prop} {φ : Emb} {as : List AV} {vs : List Value} (h : VRels w F φ as vs) : as.length = vs.length := ((VRels_iff as vs).1 h).1
theorem VRels.get [Adr] {w : World} {F : Nat → Prop} {φ : Emb} {as : List AV} {vs : List Value} (h : VRels w F φ as vs) {k : Nat} {a : AV} (ha : as[k]? = some a) : ∃ v, vs[k]? = some v ∧ VRel w F φ a v := by
  obtain ⟨hl, hk⟩ := (VRels_iff as vs).1 h
  have : k < vs.length := by rw [← hl]; exact (List.getElem?_eq_some_iff.1 ha).1
  exact ⟨vs[k], by simp [this], hk k a _ ha (by simp [this])⟩
theorem VRels.take [Adr] {w : World} {F : Nat → Prop} {φ : Emb} {as : List AV} {vs : List Value} (h : VRels w F φ as vs) (n : Nat) : VRels w F φ (as.take n) (vs.take n) := by
  obtain ⟨hl, hk⟩ := (VRels_iff as vs).1 h
  refine (VRels_iff _ _).2 ⟨by simp [hl], fun k a v ha hv => ?_⟩
  rw [List.getElem?_take] at ha hv
  split at ha
  · rename_i h1; rw [if_pos h1] at hv; exact hk k a v ha hv
  · cases ha
theorem VRels.drop [Adr] {w : World} {F : Nat → Prop} {φ : Emb} {as : List AV} {vs : List Value} (h : VRels w F φ as vs) (n : Nat) : VRels w F φ (as.drop n) (vs.drop n) := by
  obtain ⟨hl, hk⟩ := (VRels_iff as vs).1 h
  refine (VRels_iff _ _).2 ⟨by simp [hl], fun k a v ha hv => ?_⟩
  rw [List.getElem?_drop] at ha hv
  exact hk _ a v ha hv
theorem VRels.append [Adr] {w : World} {F : Nat → Prop} {φ : Emb} {as bs : List AV} {vs us : List Value} (h : VRels w F φ as vs) (k : VRels w F φ bs us) : VRels w F φ (as ++ bs) (vs ++ us) := by
  obtain ⟨hl, hk⟩ := (VRels_iff as vs).1 h
  obtain ⟨ml, mk⟩ := (VRels_iff bs us).1 k
  refine (VRels_iff _ _).2 ⟨by simp [hl, ml], fun j a v ha hv => ?_⟩
  rw [List.getElem?_append] at ha hv
  split at ha
  · rename_i h1; rw [if_pos (by omega)] at hv; exact hk j a v ha hv
  · rename_i h1; rw [if_neg (by omega)] at hv; rw [hl] at ha; exact mk _ a v ha hv
def RowAt (w : World) (b o : Nat) (vs : List Value) : Prop := ∀ (k : Nat) (v : Value), vs[k]? = some v → w.cell? ⟨b, o + k, none⟩ = some v
theorem CRel_iff [Adr] {w : World} {F : Nat → Prop} {φ : Emb} {b : Nat} : ∀ (as : List AV) (o : Nat), CRel w F φ as b o ↔ ∃ vs, VRels w F φ as vs ∧ RowAt w b o vs ∧ ∀ v ∈ vs, v.oneCell' = true
  | [], o => by simp only [CRel, VRels, true_iff]; exact ⟨[], rfl, fun k v h => by simp at h, by simp⟩
  | a :: as, o => by
    simp only [CRel, VRels]; rw [CRel_iff as (o + 1)]
    constructor
    · rintro ⟨⟨v, h1, h0, h2⟩, vs, h3, h4, h5⟩
      refine ⟨v :: vs, ⟨v, vs, rfl, h2, h3⟩, fun k u hu => ?_, ?_⟩
      · cases k with
        | zero => simp at hu; subst hu; exact h1
        | succ k => have := h4 k u (by simpa using hu); rwa [Nat.add_assoc, Nat.add_comm 1 k] at this
      · intro u hu; rcases List.mem_cons.1 hu with rfl | hu
        · exact h0
        · exact h5 u hu
    · rintro ⟨vs0, ⟨v, vs, rfl, h2, h3⟩, h4, h5⟩
      refine ⟨⟨v, h4 0 v rfl, h5 v (by simp), h2⟩, vs, h3, fun k u hu => ?_, fun u hu => h5 u (by simp [hu])⟩
      have := h4 (k + 1) u (by simpa using hu)
      rwa [Nat.add_assoc, Nat.add_comm 1 k]
theorem CRel_append [Adr] {w : World} {F : Nat → Prop} {φ : Emb} {b : Nat} : ∀ (as bs : List AV) (o : Nat), CRel w F φ (as ++ bs) b o ↔ CRel w F φ as b o ∧ CRel w F φ bs b (o + as.length)
  | [], bs, o => by simp [CRel]
  | a :: as, bs, o => by
    simp only [List.cons_append, CRel, CRel_append as bs (o + 1), List.length_cons]
    rw [show o + 1 + as.length = o + (as.length + 1) by omega, and_assoc]
theorem ERel_flat [Adr] {w : World} {F : Nat → Prop} {φ : Emb} {b : Nat} : ∀ (es : List (List AV)) (o : Nat), ERel w F φ es b o ↔ CRel w F φ es.flatten b o
  | [], o => by simp [ERel, CRel]
  | e :: es, o => by simp only [ERel, List.flatten_cons, CRel_append, ERel_flat es]
theorem flatten_len (sz : Nat) : ∀ (es : List (List AV)), (∀ e ∈ es, e.length = sz) → es.flatten.length = es.length * sz
  | [], _ => by simp
  | e :: es, h => by
    rw [List.flatten_cons, List.length_append, flatten_len sz es (fun x hx => h x (by simp [hx])), h e (by simp), List.length_cons, Nat.add_mul]; omega
theorem ERel_get [Adr] {w : World} {F : Nat → Prop} {φ : Emb} {b sz : Nat} : ∀ (es : List (List AV)) (o i : Nat) (e : List AV), (∀ e ∈ es, e.length = sz) → ERel w F φ es b o → es[i]? = some e → CRel w F φ e b (o + i * sz)
  | [], o, i, e => by intro _ _ h; simp at h
  | x :: es, o, i, e => by
    intro hl h hi; simp only [ERel] at h
    cases i with
    | zero => simp at hi; subst hi; simpa using h.1
    | succ i =>
      have := ERel_get es (o + x.length) i e (fun y hy => hl y (by simp [hy])) h.2 (by simpa using hi)
      rw [hl x (by simp)] at this
      rwa [Nat.succ_mul, Nat.add_comm (i * sz) sz, ← Nat.add_assoc]
theorem CRel_drop [Adr] {w : World} {F : Nat → Prop} {φ : Emb} {b : Nat} (as : List AV) (o n : Nat) (h : CRel w F φ as b o) (hn : n ≤ as.length) : CRel w F φ (as.drop n) b (o + n) := by
  have := (CRel_append (w := w) (F := F) (φ := φ) (b := b) (as.take n) (as.drop n) o).1 (by rw [List.take_append_drop]; exact h)
  rw [List.length_take, Nat.min_eq_left hn] at this
  exact this.2
theorem CRel_take [Adr] {w : World} {F : Nat → Prop} {φ : Emb} {b : Nat} (as : List AV) (o n : Nat) (h : CRel w F φ as b o) : CRel w F φ (as.take n) b o :=
  ((CRel_append (w := w) (F := F) (φ := φ) (b := b) (as.take n) (as.drop n) o).1 (by rw [List.take_append_drop]; exact h)).1
theorem ERel_drop [Adr] {w : World} {F : Nat → Prop} {φ : Emb} {b sz : Nat} (es : List (List AV)) (o n : Nat) (hl : ∀ e ∈ es, e.length = sz) (h : ERel w F φ es b o) (hn : n ≤ es.length) : ERel w F φ (es.drop n) b (o + n * sz) := by
  rw [ERel_flat] at h ⊢
  have e : es.flatten = (es.take n).flatten ++ (es.drop n).flatten := by rw [← List.flatten_append, List.take_append_drop]
  rw [e, CRel_append] at h
  have := h.2
  rwa [flatten_len sz _ (fun x hx => hl x (List.mem_of_mem_take hx)), List.length_take, Nat.min_eq_left hn] at this
theorem ERel_take [Adr] {w : World} {F : Nat → Prop} {φ : Emb} {b : Nat} (es : List (List AV)) (o n : Nat) (h : ERel w F φ es b o) : ERel w F φ (es.take n) b o := by
  rw [ERel_flat] at h ⊢
  have e : es.flatten = (es.take n).flatten ++ (es.drop n).flatten := by rw [← List.flatten_append, List.take_append_drop]
  rw [e, CRel_append] at h
  exact h.1
end Go.AM
