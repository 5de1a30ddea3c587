/- A text of the proof. -/
import Derived.Test.YtdompcjalogoaaaGreatDoorKAmY
set_option linter.unusedSimpArgs false
set_option linter.unusedVariables false
namespace Go.AM
open Go Go.RowKit
abbrev NilB := List (Nat × Nat)
def NilB.ok (N : NilB) (φ : Emb) : Prop := ∀ n sz, alg N n = some sz → φ.blk n 0 = some (none, sz)
def AV.LeN [Adr] (N : NilB) (a b : AV) : Prop := ∀ (w : World) (F : Nat → Prop) (φ : Emb) (v : Value), N.ok φ → VRel w F φ a v → VRel w F φ b v
theorem AV.LeN.refl [Adr] {N : NilB} (a : AV) : a.LeN N a := fun _ _ _ _ _ h => h
theorem AV.Le.toN [Adr] {N : NilB} {a b : AV} (h : a.Le b) : a.LeN N b := fun _ _ _ _ _ hr => h _ _ _ _ hr
theorem AV.LeN.top [Adr] {N : NilB} (a : AV) : a.LeN N .top := (AV.Le.top a).toN
theorem AV.LeN.nils [Adr] {N : NilB} (sz : Nat) : AV.nils.LeN N (.psl sz []) := (AV.Le.nils sz).toN
theorem AV.LeN.bool [Adr] {N : NilB} (b : Bool) : (AV.bool b).LeN N .anyb := (AV.Le.bool b).toN
def ALesN [Adr] (N : NilB) : List AV → List AV → Prop
  | [], [] => True
  | a :: as, b :: bs => a.LeN N b ∧ ALesN N as bs
  | _, _ => False
theorem ALesN.refl [Adr] {N : NilB} : ∀ as : List AV, ALesN N as as
  | [] => trivial
  | a :: as => ⟨AV.LeN.refl a, ALesN.refl as⟩
theorem ALesN.rel [Adr] {N : NilB} {w : World} {F : Nat → Prop} {φ : Emb} (hN : N.ok φ) : ∀ {as bs : List AV} {vs : List Value}, ALesN N as bs → VRels w F φ as vs → VRels w F φ bs vs
  | [], [], _, _, h => h
  | a :: as, b :: bs, vs, hl, h => by
    simp only [VRels] at h ⊢
    obtain ⟨v, vs', h1, h2, h3⟩ := h
    exact ⟨v, vs', h1, hl.1 _ _ _ _ hN h2, ALesN.rel hN hl.2 h3⟩
  | [], _ :: _, _, hl, _ => hl.elim
  | _ :: _, [], _, hl, _ => hl.elim
theorem ALesN.length [Adr] {N : NilB} : ∀ {as bs : List AV}, ALesN N as bs → as.length = bs.length
  | [], [], _ => rfl
  | _ :: as, _ :: bs, h => by simp [ALesN.length h.2]
  | [], _ :: _, h => h.elim
  | _ :: _, [], h => h.elim
theorem AV.LeN.agg [Adr] {N : NilB} {as bs : List AV} (h : ALesN N as bs) : (AV.agg as).LeN N (.agg bs) := fun w F φ v hN hv => by
  simp only [VRel] at hv ⊢; obtain ⟨cs, h1, h2, h3⟩ := hv; exact ⟨cs, h1, h.rel hN h2, h3⟩
theorem AV.LeN.tup [Adr] {N : NilB} {as bs : List AV} (h : ALesN N as bs) : (AV.tup as).LeN N (.tup bs) := fun w F φ v hN hv => by
  simp only [VRel] at hv ⊢; obtain ⟨cs, h1, h2⟩ := hv; exact ⟨cs, h1, h.rel hN h2⟩
def EsLe [Adr] (N : NilB) : List (List AV) → List (List AV) → Prop
  | [], [] => True
  | a :: as, b :: bs => ALesN N a b ∧ EsLe N as bs
  | _, _ => False
theorem EsLe.refl [Adr] {N : NilB} : ∀ as : List (List AV), EsLe N as as
  | [] => trivial
  | a :: as => ⟨ALesN.refl a, EsLe.refl as⟩
theorem EsLe.map [Adr] {α : Type} {N : NilB} {f g : α → List AV} (h : ∀ x, ALesN N (f x) (g x)) : ∀ l : List α, EsLe N (l.map f) (l.map g)
  | [] => trivial
  | a :: as => ⟨h a, EsLe.map h as⟩
theorem EsLe.append [Adr] {N : NilB} : ∀ {a b c d : List (List AV)}, EsLe N a b → EsLe N c d → EsLe N (a ++ c) (b ++ d)
  | [], [], _, _, _, h => h
  | _ :: _, _ :: _, _, _, h, k => ⟨h.1, EsLe.append h.2 k⟩
  | [], _ :: _, _, _, h, _ => h.elim
  | _ :: _, [], _, _, h, _ => h.elim
theorem EsLe.rel [Adr] {N : NilB} {w : World} {F : Nat → Prop} {φ : Emb} {b : Nat} (hN : N.ok φ) : ∀ {as bs : List (List AV)} {o : Nat}, EsLe N as bs → ERel w F φ as b o → ERel w F φ bs b o
  | [], [], _, _, h => h
  | a :: as, c :: bs, o, hl, h => by
    simp only [ERel] at h ⊢
    refine ⟨?_, ?_⟩
    · have := h.1
      rw [CRel_iff] at this ⊢
      obtain ⟨vs, h1, h2, h3⟩ := this
      exact ⟨vs, hl.1.rel hN h1, h2, h3⟩
    · rw [← hl.1.length]; exact EsLe.rel hN hl.2 h.2
  | [], _ :: _, _, hl, _ => hl.elim
  | _ :: _, [], _, hl, _ => hl.elim
theorem EsLe.length [Adr] {N : NilB} : ∀ {as bs : List (List AV)}, EsLe N as bs → as.length = bs.length
  | [], [], _ => rfl
  | _ :: as, _ :: bs, h => by simp [EsLe.length h.2]
  | [], _ :: _, h => h.elim
  | _ :: _, [], h => h.elim
theorem EsLe.sized [Adr] {N : NilB} {n : Nat} : ∀ {as bs : List (List AV)}, EsLe N as bs → (∀ e ∈ as, e.length = n) → ∀ e ∈ bs, e.length = n
  | [], [], _, _, e, he => by simp at he
  | a :: as, b :: bs, h, hs, e, he => by
    rcases List.mem_cons.1 he with q | q
    · subst q; rw [← h.1.length]; exact hs a (by simp)
    · exact EsLe.sized h.2 (fun x hx => hs x (by simp [hx])) e q
  | [], _ :: _, h, _, _, _ => h.elim
  | _ :: _, [], h, _, _, _ => h.elim
def FrLeN [Adr] (N : NilB) (fr : List (Nat × AV)) : List (Nat × AV) → Prop
  | [] => True
  | (t, v) :: l => (frGet fr t).LeN N v ∧ FrLeN N fr l
theorem FrLeN.get [Adr] {N : NilB} {fr : List (Nat × AV)} : ∀ {l : List (Nat × AV)}, FrLeN N fr l → ∀ t, (frGet fr t).LeN N (frGet l t)
  | [], _, t => by rw [frGet_nil]; exact AV.LeN.top _
  | (k, v) :: l, h, t => by
    rw [frGet_cons]
    split
    · rename_i q; subst q; exact h.1
    · exact h.2.get t
def nilBlk (sz : Nat) : ABlk := { g := 0, own := true, pure := true, sz := sz, es := [] }
def BLeN [Adr] (N : NilB) (y x : ABlk) : Prop := y.g = x.g ∧ y.sz = x.sz ∧ EsLe (if x.pure then [] else N) y.es x.es ∧ (x.own = true → y.own = true) ∧ (x.pure = true → y.pure = true) ∧ (x.ty.isSome = true → y.ty = x.ty)
theorem BLeN.refl [Adr] {N : NilB} (x : ABlk) : BLeN N x x := ⟨rfl, rfl, EsLe.refl _, fun h => h, fun h => h, fun _ => rfl⟩
def HpLeN [Adr] (N : NilB) (hp : List (Nat × ABlk)) : List (Nat × ABlk) → Prop
  | [] => True
  | (b, x) :: l => (match alg hp b with | some y => BLeN N y x | none => ∃ sz, alg N b = some sz ∧ x = nilBlk sz) ∧ HpLeN N hp l
theorem HpLeN.get [Adr] {N : NilB} {hp : List (Nat × ABlk)} : ∀ {l : List (Nat × ABlk)}, HpLeN N hp l → ∀ b x, alg l b = some x → (∃ y, alg hp b = some y ∧ BLeN N y x) ∨ (alg hp b = none ∧ ∃ sz, alg N b = some sz ∧ x = nilBlk sz)
  | [], _, b, x, hx => by simp [alg] at hx
  | (k, z) :: l, h, b, x, hx => by
    simp only [alg] at hx
    split at hx
    · rename_i e; subst e; cases hx
      have := h.1
      cases hy : alg hp b with
      | none => rw [hy] at this; exact .inr ⟨rfl, this⟩
      | some y => rw [hy] at this; exact .inl ⟨y, rfl, this⟩
    · exact h.2.get b x hx
def NilIn (lo hi : Nat) : NilB → Prop
  | [] => True
  | (n, _) :: l => lo ≤ n ∧ n < hi ∧ NilIn lo hi l
theorem NilIn.get {lo hi : Nat} : ∀ {N : NilB}, NilIn lo hi N → ∀ n sz, alg N n = some sz → lo ≤ n ∧ n < hi
  | [], _, n, sz, h => by simp [alg] at h
  | (k, z) :: l, hN, n, sz, h => by
    simp only [alg] at h
    split at h
    · rename_i e; subst e; exact ⟨hN.1, hN.2.1⟩
    · exact hN.2.2.get n sz h
structure LeN [Adr] (N : NilB) (s' s : St) : Prop where
  fr : FrLeN N s'.fr s.fr
  hp : HpLeN N s'.hp s.hp
  frB : frBelow s.nx s.fr = true
  hpB : hpBelow s.nx s.hp = true
  lp : LpLe s.nx s'.lp s.lp
  nin : NilIn s'.nx s.nx N
def Emb.addN (φ : Emb) (N : NilB) : Emb := { φ with blk := fun b g => match alg N b with | some sz => if g = 0 then some (none, sz) else none | none => φ.blk b g }
section
variable {w0 w : World} {F : Nat → Prop} {φ : Emb} {s s' : St} {N : NilB}
theorem LeN.mem [Adr] (h : LeN N s' s) (hm : Mem w0 w F φ s') : Mem w0 w F ((φ.addN N).cut s.nx) s ∧ φ.le (φ.addN N) ∧ N.ok (φ.addN N) := by
  have hno : ∀ n sz, alg N n = some sz → ∀ g, φ.blk n g = none := fun n sz e g => by
    cases hb : φ.blk n g with
    | none => rfl
    | some x => have := hm.heap.used _ _ _ hb; have := (h.nin.get n sz e).1; omega
  have hle : φ.le (φ.addN N) := by
    refine ⟨fun b g x hx => ?_, fun _ _ h => h⟩
    simp only [Emb.addN]
    cases e : alg N b with
    | none => exact hx
    | some sz => rw [hno b sz e g] at hx; cases hx
  have hok : N.ok (φ.addN N) := fun n sz e => by simp only [Emb.addN, e, if_true]
  have back : ∀ b g x, (φ.addN N).blk b g = some x → φ.blk b g = some x ∨ ∃ sz, alg N b = some sz ∧ g = 0 ∧ x = (none, sz) := fun b g x hx => by
    simp only [Emb.addN] at hx
    split at hx
    · rename_i sz e
      split at hx
      · rename_i e0; cases hx; exact .inr ⟨sz, e, e0, rfl⟩
      · cases hx
    · exact .inl hx
  have cutSome : ∀ b g x, ((φ.addN N).cut s.nx).blk b g = some x → b < s.nx ∧ (φ.addN N).blk b g = some x := fun b g x hx => by
    simp only [Emb.cut] at hx; split at hx
    · rename_i hb; exact ⟨hb, hx⟩
    · cases hx
  have oldB : ∀ b y, alg s'.hp b = some y → alg N b = none := fun b y hy => by
    cases e : alg N b with
    | none => rfl
    | some sz =>
      obtain ⟨pl, p1, -⟩ := hm.heap.blk b y hy
      rw [hno b sz e] at p1; cases p1
  refine ⟨⟨⟨hm.heap.below, hm.heap.fb, fun b g x hx => (cutSome b g x hx).1, fun b g cb sz hx => ?_, fun b x hx => ?_, fun b x hx g hg => ?_, fun b b' x y cb sz sz' hx hy e1 e2 => ?_, hm.heap.fwk⟩, fun l x hx => ?_, fun l k hk => ⟨(Emb.cut_loop hk).1, (hm.lused l k (Emb.cut_loop hk).2).2⟩, fun l l' k e1 e2 => hm.linj l l' k (Emb.cut_loop e1).2 (Emb.cut_loop e2).2⟩, hle, hok⟩
  · rcases back _ _ _ (cutSome _ _ _ hx).2 with q | ⟨sz', _, _, q⟩
    · exact hm.heap.inb b g cb sz q
    · cases q
  · obtain ⟨hb, hpe⟩ := hpBelow_get h.hpB b x hx
    rcases h.hp.get b x hx with ⟨y, hy, g1, g2, g3, g4, g5, g6⟩ | ⟨hy, sz, e, rfl⟩
    · obtain ⟨pl, p1, p2, p3⟩ := hm.heap.blk b y hy
      have hnn := oldB b y hy
      refine ⟨pl, ?_, by rw [← g2]; exact g3.sized p2, ?_⟩
      · simp only [Emb.cut]; rw [if_pos hb, ← g1, ← g2]; exact hle.1 _ _ _ p1
      · cases pl with
        | none => simp only [LRel] at p3 ⊢; exact List.eq_nil_of_length_eq_zero (by rw [← g3.length, p3]; rfl)
        | some cb =>
          obtain ⟨f1, f2, f3, f4⟩ := p3
          refine ⟨f1, fun ho => f2 (g4 ho), by rw [← g3.length, ← g2]; obtain ⟨c, el, fz, q1, q2, q3⟩ := f3; exact ⟨c, el, fz, q1, ⟨fun ho => q2.1 (g4 ho), fun t ht => q2.2 t (by rw [g6 (by rw [ht]; rfl)]; exact ht)⟩, q3⟩, ?_⟩
          unfold ABlk.emb at f4 ⊢
          by_cases hp : x.pure = true
          · rw [if_pos hp]; rw [if_pos (g5 hp)] at f4
            rw [if_pos hp] at g3
            exact g3.rel (fun n sz e => by simp [alg] at e) f4
          · rw [if_neg hp]
            rw [if_neg hp] at g3
            have f5 : ERel w F (φ.addN N) y.es cb 0 := by
              refine ERel.mono (Ext0.refl F w) (fun _ h => h) ?_ _ _ _ rfl f4
              split
              · exact Emb.zero_le _
              · exact hle
            refine belowE_rel ?_ (g3.rel hok f5)
            rcases hpe with q | q
            · exact absurd q hp
            · exact q
    · refine ⟨none, ?_, by simp [nilBlk], rfl⟩
      simp only [Emb.cut]; rw [if_pos hb]; exact hok b sz e
  · have hb := (hpBelow_get h.hpB b x hx).1
    simp only [Emb.cut]; rw [if_pos hb]
    rcases h.hp.get b x hx with ⟨y, hy, g1, -⟩ | ⟨hy, sz, e, rfl⟩
    · have := hm.heap.gen b y hy g (by rw [g1]; exact hg)
      simp only [Emb.addN, oldB b y hy]; exact this
    · simp only [Emb.addN, e]; rw [if_neg (by simp [nilBlk] at hg; omega)]
  · rcases back _ _ _ (cutSome _ _ _ e1).2 with q | ⟨z, _, _, q⟩
    · rcases back _ _ _ (cutSome _ _ _ e2).2 with q' | ⟨z, _, _, q'⟩
      · have pick : ∀ b x cb sz, alg s.hp b = some x → φ.blk b x.g = some (some cb, sz) → ∃ x', alg s'.hp b = some x' ∧ x'.g = x.g := fun b x cb sz hx e => by
          rcases h.hp.get b x hx with ⟨y, hy, g1, -⟩ | ⟨hy, z, e', rfl⟩
          · exact ⟨y, hy, g1⟩
          · rw [hno b z e'] at e; cases e
        obtain ⟨x', hx', g1⟩ := pick b x cb sz hx q
        obtain ⟨y', hy', g1'⟩ := pick b' y cb sz' hy q'
        exact hm.heap.inj b b' x' y' cb sz sz' hx' hy' (by rw [g1]; exact q) (by rw [g1']; exact q')
      · cases q'
    · cases q
  · obtain ⟨hln, y, hy, e1, e2, e3, e4, e5, e6, em, e7, e8, e9⟩ := h.lp.get l x hx
    refine ⟨fun hm0 => ?_, fun m hm1 => ?_⟩
    rotate_left
    · have hob := (hm.lps l y hy).2 m (em.trans hm1)
      cases m with
      | map m =>
        obtain ⟨k, es, c, h1, h2, h3, h4⟩ := hob
        exact ⟨k, es, c, by simp only [Emb.cut]; rw [if_pos hln]; exact h1, h2, h3, h4⟩
      | sit u p =>
        obtain ⟨k, h1, h2, h3⟩ := hob
        exact ⟨k, by simp only [Emb.cut]; rw [if_pos hln]; exact h1, h2, h3⟩
      | mit l0 left cur =>
        obtain ⟨k, bm, es, c, si, se, la, h1, h2, h3, h4, h5⟩ := hob
        have e9 : l0 < s.nx := by rw [hm1] at e9; exact e9
        exact ⟨k, bm, es, c, si, se, la, by simp only [Emb.cut]; rw [if_pos hln]; exact h1, h2, h3, by simp only [Emb.cut]; rw [if_pos e9]; exact h4, h5⟩
    obtain ⟨k, rec, h1, h2, h3, h4, h5, h6, h7, h8, h9, h10⟩ := (hm.lps l y hy).1 (em.trans hm0)
    refine ⟨k, rec, by simp only [Emb.cut]; rw [if_pos hln]; exact h1, h2, h3, h4.trans e5, h5.trans e6, h6.trans e2, h7.trans e3, h8.trans e4, ⟨by rw [h9.size, e1], fun t => ?_, h9.glob⟩, h10⟩
    exact below_rel _ _ (frBelow_get e8 t) (VRel.mono (Ext0.refl F w) (fun _ h => h) hle _ _ (e7.get t _ _ _ _ (h9.val t)))
theorem LeN.fits [Adr] {cx : Cx} {nt : Nat} {a : Act} (h : LeN N s' s) (hf : Fits cx w0 w F φ nt a s') : Fits cx w0 w F ((φ.addN N).cut s.nx) nt a s := by
  obtain ⟨m1, m2, m3⟩ := h.mem hf.mem
  exact ⟨m1, ⟨hf.tmps.size, fun t => below_rel _ _ (frBelow_get h.frB t) (h.fr.get t _ _ _ _ m3 (VRel.mono (Ext0.refl F w) (fun _ h => h) m2 _ _ (hf.tmps.val t))), hf.tmps.glob⟩, hf.env⟩
end
end Go.AM
