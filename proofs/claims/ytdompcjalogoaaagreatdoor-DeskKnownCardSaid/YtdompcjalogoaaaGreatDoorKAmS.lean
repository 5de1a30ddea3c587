/- A text of the proof. -/
import Derived.Test.YtdompcjalogoaaaGreatDoorKAmR
set_option linter.unusedSimpArgs false
set_option linter.unusedVariables false
namespace Go.AM
open Go Go.RowKit
def AV.under (n : Nat) : AV → Bool
  | .ref b .. => b < n
  | .sl b .. => b < n
  | .slk b .. => b < n
  | .fn _ a c => belows n a && belows n c
  | .iface _ v => v.under n
  | .agg cs => belows n cs
  | .tup cs => belows n cs
  | .yld l => l < n
  | .mp l => l < n
  | .itr l => l < n
  | _ => true
where belows (n : Nat) : List AV → Bool
  | [] => true
  | v :: vs => v.under n && belows n vs
def Emb.cut (φ : Emb) (n : Nat) : Emb := { blk := fun b g => if b < n then φ.blk b g else none, loop := fun l => if l < n then φ.loop l else none }
theorem Emb.cut_loop {φ : Emb} {n l k : Nat} (h : (φ.cut n).loop l = some k) : l < n ∧ φ.loop l = some k := by
  simp only [Emb.cut] at h
  split at h
  · rename_i q; exact ⟨q, h⟩
  · cases h
mutual
theorem below_rel [Adr] {w : World} {F : Nat → Prop} {φ : Emb} {n : Nat} : ∀ (a : AV) (v : Value), a.under n = true → VRel w F φ a v → VRel w F (φ.cut n) a v
  | a, v => by
    cases a with
    | ref b g i j => intro h hr; simp only [AV.under, decide_eq_true_eq] at h; simp only [VRel] at hr ⊢; obtain ⟨cb, sz, h1, h2⟩ := hr; exact ⟨cb, sz, by simp only [Emb.cut]; rw [if_pos h]; exact h1, h2⟩
    | sl b g z o l =>
      intro h hr; simp only [AV.under, decide_eq_true_eq] at h; simp only [VRel] at hr ⊢
      rcases hr with ⟨h1, h2⟩ | ⟨cb, cap, h1, h2⟩
      · exact .inl ⟨by simp only [Emb.cut]; rw [if_pos h]; exact h1, h2⟩
      · exact .inr ⟨cb, cap, by simp only [Emb.cut]; rw [if_pos h]; exact h1, h2⟩
    | fn f x c =>
      intro h hr; simp only [AV.under, Bool.and_eq_true] at h; simp only [VRel] at hr ⊢
      obtain ⟨fs, cs, h1, h2, h3⟩ := hr
      exact ⟨fs, cs, h1, belows_rel x fs h.1 h2, belows_rel c cs h.2 h3⟩
    | iface t x => intro h hr; simp only [AV.under] at h; simp only [VRel] at hr ⊢; obtain ⟨y, h1, h2⟩ := hr; exact ⟨y, h1, below_rel x y h h2⟩
    | agg cs => intro h hr; simp only [AV.under] at h; simp only [VRel] at hr ⊢; obtain ⟨y, h1, h2, h3⟩ := hr; exact ⟨y, h1, belows_rel cs y h h2, h3⟩
    | tup cs => intro h hr; simp only [AV.under] at h; simp only [VRel] at hr ⊢; obtain ⟨y, h1, h2⟩ := hr; exact ⟨y, h1, belows_rel cs y h h2⟩
    | yld l => intro h hr; simp only [AV.under, decide_eq_true_eq] at h; simp only [VRel] at hr ⊢; obtain ⟨lc, h1, h2⟩ := hr; exact ⟨lc, by simp only [Emb.cut]; rw [if_pos h]; exact h1, h2⟩
    | mp l => intro h hr; simp only [AV.under, decide_eq_true_eq] at h; simp only [VRel] at hr ⊢; obtain ⟨lc, h1, h2⟩ := hr; exact ⟨lc, by simp only [Emb.cut]; rw [if_pos h]; exact h1, h2⟩
    | itr l => intro h hr; simp only [AV.under, decide_eq_true_eq] at h; simp only [VRel] at hr ⊢; obtain ⟨lc, h1, h2⟩ := hr; exact ⟨lc, by simp only [Emb.cut]; rw [if_pos h]; exact h1, h2⟩
    | top => intro _ _; simp [VRel]
    | anyb => intro _ hr; simpa [VRel] using hr
    | bool b => intro _ hr; simpa [VRel] using hr
    | int k n => intro _ hr; simpa [VRel] using hr
    | str s => intro _ hr; simpa [VRel] using hr
    | nilp => intro _ hr; simpa [VRel] using hr
    | pp cs => intro _ hr; simpa [VRel] using hr
    | psl sz es => intro _ hr; simpa [VRel] using hr
    | psx sz es => intro _ hr; simpa [VRel] using hr
    | nils => intro _ hr; simpa [VRel] using hr
    | nilf => intro _ hr; simpa [VRel] using hr
    | nili => intro _ hr; simpa [VRel] using hr
    | emp => intro _ hr; simpa [VRel] using hr
    | nilm => intro _ hr; simpa [VRel] using hr
    | strb n s => intro _ hr; simpa [VRel] using hr
    | inty k => intro _ hr; simpa [VRel] using hr
    | gp k o cs => intro _ hr; simpa only [VRel] using hr
    | slk b g z o l c e => intro h hr; simp only [AV.under, decide_eq_true_eq] at h; simp only [VRel] at hr ⊢; obtain ⟨cb, cap, h1, h2⟩ := hr; exact ⟨cb, cap, by simp only [Emb.cut]; rw [if_pos h]; exact h1, h2⟩
theorem belows_rel [Adr] {w : World} {F : Nat → Prop} {φ : Emb} {n : Nat} : ∀ (as : List AV) (vs : List Value), AV.under.belows n as = true → VRels w F φ as vs → VRels w F (φ.cut n) as vs
  | [], vs => by intro _ h; simpa [VRels] using h
  | a :: as, vs => by
    intro h hr; simp only [AV.under.belows, Bool.and_eq_true] at h; simp only [VRels] at hr ⊢
    obtain ⟨v, vs', h1, h2, h3⟩ := hr
    exact ⟨v, vs', h1, below_rel a v h.1 h2, belows_rel as vs' h.2 h3⟩
end
theorem belowE_rel [Adr] {w : World} {F : Nat → Prop} {φ : Emb} {n b : Nat} : ∀ {es : List (List AV)} {o : Nat}, es.all (AV.under.belows n) = true → ERel w F φ es b o → ERel w F (φ.cut n) es b o
  | [], o, _, _ => by simp [ERel]
  | e :: es, o, h, hr => by
    simp only [List.all_cons, Bool.and_eq_true] at h
    simp only [ERel] at hr ⊢
    refine ⟨?_, belowE_rel h.2 hr.2⟩
    have := hr.1
    rw [CRel_iff] at this ⊢
    obtain ⟨vs, h1, h2, h3⟩ := this
    exact ⟨vs, belows_rel e vs h.1 h1, h2, h3⟩
def frBelow (n : Nat) : List (Nat × AV) → Bool
  | [] => true
  | (_, v) :: l => v.under n && frBelow n l
theorem frBelow_get [Adr] {n : Nat} : ∀ {l : List (Nat × AV)}, frBelow n l = true → ∀ t, (frGet l t).under n = true
  | [], _, t => by rw [frGet_nil]; rfl
  | (k, v) :: l, h, t => by
    simp only [frBelow, Bool.and_eq_true] at h
    rw [frGet_cons]
    split
    · exact h.1
    · exact frBelow_get h.2 t
def hpBelow (n : Nat) : List (Nat × ABlk) → Bool
  | [] => true
  | (b, x) :: l => decide (b < n) && (x.pure || x.es.all (AV.under.belows n)) && hpBelow n l
theorem hpBelow_get {n : Nat} : ∀ {l : List (Nat × ABlk)}, hpBelow n l = true → ∀ b x, alg l b = some x → b < n ∧ (x.pure = true ∨ x.es.all (AV.under.belows n) = true)
  | [], _, b, x, hx => by simp [alg] at hx
  | (k, y) :: l, h, b, x, hx => by
    simp only [hpBelow, Bool.and_eq_true, Bool.or_eq_true, decide_eq_true_eq] at h
    simp only [alg] at hx
    split at hx
    · rename_i e; subst e; cases hx; exact ⟨h.1.1, h.1.2⟩
    · exact hpBelow_get h.2 b x hx
def BLe (y x : ABlk) : Prop := y.g = x.g ∧ y.sz = x.sz ∧ y.es = x.es ∧ (x.own = true → y.own = true) ∧ (x.pure = true → y.pure = true) ∧ (x.ty.isSome = true → y.ty = x.ty)
theorem BLe.refl (x : ABlk) : BLe x x := ⟨rfl, rfl, rfl, fun h => h, fun h => h, fun _ => rfl⟩
def HpLe (hp : List (Nat × ABlk)) : List (Nat × ABlk) → Prop
  | [] => True
  | (b, x) :: l => (match alg hp b with | some y => BLe y x | none => False) ∧ HpLe hp l
theorem HpLe.get {hp : List (Nat × ABlk)} : ∀ {l : List (Nat × ABlk)}, HpLe hp l → ∀ b x, alg l b = some x → ∃ y, alg hp b = some y ∧ BLe y x
  | [], _, b, x, hx => by simp [alg] at hx
  | (k, z) :: l, h, b, x, hx => by
    simp only [alg] at hx
    split at hx
    · rename_i e; subst e; cases hx
      have := h.1
      cases hy : alg hp b with
      | none => rw [hy] at this; exact this.elim
      | some y => rw [hy] at this; exact ⟨y, rfl, this⟩
    · exact h.2.get b x hx
def mitB (n : Nat) : Option Ob → Prop
  | some (.mit l0 _ _) => l0 < n
  | _ => True
def LpLe [Adr] (n : Nat) (lp' : List (Nat × LBlk)) : List (Nat × LBlk) → Prop
  | [] => True
  | (l, x) :: rest => l < n ∧ (∃ y, alg lp' l = some y ∧ y.nt = x.nt ∧ y.ps = x.ps ∧ y.assign = x.assign ∧ y.body = x.body ∧ y.st = x.st ∧ y.pend = x.pend ∧ y.mp = x.mp ∧ FrLe y.fr x.fr ∧ frBelow n x.fr = true ∧ mitB n x.mp) ∧ LpLe n lp' rest
theorem LpLe.get [Adr] {n : Nat} {lp' : List (Nat × LBlk)} : ∀ {lp : List (Nat × LBlk)}, LpLe n lp' lp → ∀ l x, alg lp l = some x → l < n ∧ ∃ y, alg lp' l = some y ∧ y.nt = x.nt ∧ y.ps = x.ps ∧ y.assign = x.assign ∧ y.body = x.body ∧ y.st = x.st ∧ y.pend = x.pend ∧ y.mp = x.mp ∧ FrLe y.fr x.fr ∧ frBelow n x.fr = true ∧ mitB n x.mp
  | [], _, l, x, hx => by simp [alg] at hx
  | (k, z) :: rest, h, l, x, hx => by
    simp only [alg] at hx
    split at hx
    · rename_i e; subst e; cases hx; exact ⟨h.1, h.2.1⟩
    · exact h.2.2.get l x hx
structure LeS [Adr] (s' s : St) : Prop where
  fr : FrLe s'.fr s.fr
  hp : HpLe s'.hp s.hp
  frB : frBelow s.nx s.fr = true
  hpB : hpBelow s.nx s.hp = true
  lp : LpLe s.nx s'.lp s.lp
theorem LeS.mem [Adr] {w0 w : World} {F : Nat → Prop} {φ : Emb} {s' s : St} (h : LeS s' s) (hm : Mem w0 w F φ s') : Mem w0 w F (φ.cut s.nx) s := by
  have cutSome : ∀ b g x, (φ.cut s.nx).blk b g = some x → b < s.nx ∧ φ.blk b g = some x := fun b g x hx => by
    simp only [Emb.cut] at hx; split at hx
    · rename_i hb; exact ⟨hb, hx⟩
    · cases hx
  refine ⟨⟨hm.heap.below, hm.heap.fb, fun b g x hx => (cutSome b g x hx).1, fun b g cb sz hx => hm.heap.inb b g cb sz (cutSome _ _ _ hx).2, fun b x hx => ?_, fun b x hx g hg => ?_, fun b b' x y cb sz sz' hx hy e1 e2 => ?_, hm.heap.fwk⟩, fun l x hx => ?_, fun l k hk => ⟨(Emb.cut_loop hk).1, (hm.lused l k (Emb.cut_loop hk).2).2⟩, fun l l' k e1 e2 => hm.linj l l' k (Emb.cut_loop e1).2 (Emb.cut_loop e2).2⟩
  · obtain ⟨y, hy, g1, g2, g3, g4, g5, g6⟩ := h.hp.get b x hx
    obtain ⟨hb, hpe⟩ := hpBelow_get h.hpB b x hx
    obtain ⟨pl, p1, p2, p3⟩ := hm.heap.blk b y hy
    refine ⟨pl, ?_, by rw [← g3, ← g2]; exact p2, ?_⟩
    · simp only [Emb.cut]; rw [if_pos hb, ← g1, ← g2]; exact p1
    · cases pl with
      | none => simp only [LRel] at p3 ⊢; rw [← g3]; exact p3
      | some cb =>
        obtain ⟨f1, f2, f3, f4⟩ := p3
        refine ⟨f1, fun ho => f2 (g4 ho), by rw [← g3, ← g2]; obtain ⟨c, el, fz, q1, q2, q3⟩ := f3; exact ⟨c, el, fz, q1, ⟨fun ho => q2.1 (g4 ho), fun t ht => q2.2 t (by rw [g6 (by rw [ht]; rfl)]; exact ht)⟩, q3⟩, ?_⟩
        rw [← g3]
        unfold ABlk.emb at f4 ⊢
        by_cases hp : x.pure = true
        · rw [if_pos hp]; rw [if_pos (g5 hp)] at f4; exact f4
        · rw [if_neg hp]
          have hbe : y.es.all (AV.under.belows s.nx) = true := by
            rw [g3]; rcases hpe with q | q
            · exact absurd q hp
            · exact q
          refine belowE_rel hbe (ERel.mono (Ext0.refl F w) (fun _ h => h) ?_ _ _ _ rfl f4)
          split
          · exact Emb.zero_le φ
          · exact Emb.le_refl φ
  · obtain ⟨y, hy, g1, -⟩ := h.hp.get b x hx
    have := hm.heap.gen b y hy g (by rw [g1]; exact hg)
    simp only [Emb.cut]; split
    · exact this
    · rfl
  · obtain ⟨x', hx', g1, -⟩ := h.hp.get b x hx
    obtain ⟨y', hy', g1', -⟩ := h.hp.get b' y hy
    exact hm.heap.inj b b' x' y' cb sz sz' hx' hy' (by rw [g1]; exact (cutSome _ _ _ e1).2) (by rw [g1']; exact (cutSome _ _ _ e2).2)
  · obtain ⟨hln, y, hy, e1, e2, e3, e4, e5, e6, em, e7, e8, e9⟩ := h.lp.get l x hx
    refine ⟨fun hm0 => ?_, fun m hm1 => ?_⟩
    · obtain ⟨k, rec, h1, h2, h3, h4, h5, h6, h7, h8, h9, h10⟩ := (hm.lps l y hy).1 (em.trans hm0)
      refine ⟨k, rec, by simp only [Emb.cut]; rw [if_pos hln]; exact h1, h2, h3, h4.trans e5, h5.trans e6, h6.trans e2, h7.trans e3, h8.trans e4, ⟨by rw [h9.size, e1], fun t => ?_, h9.glob⟩, h10⟩
      exact below_rel _ _ (frBelow_get e8 t) (e7.get t _ _ _ _ (h9.val t))
    · have hob := (hm.lps l y hy).2 m (em.trans hm1)
      cases m with
      | map m =>
        obtain ⟨k, es, c, h1, h2, h3, h4⟩ := hob
        exact ⟨k, es, c, by simp only [Emb.cut]; rw [if_pos hln]; exact h1, h2, h3, h4⟩
      | mit l0 left cur =>
        obtain ⟨k, bm, es, c, si, se, la, h1, h2, h3, h4, h5⟩ := hob
        have e9 : l0 < s.nx := by rw [hm1] at e9; exact e9
        exact ⟨k, bm, es, c, si, se, la, by simp only [Emb.cut]; rw [if_pos hln]; exact h1, h2, h3, by simp only [Emb.cut]; rw [if_pos e9]; exact h4, h5⟩
      | sit u p =>
        obtain ⟨k, h1, h2, h3⟩ := hob
        exact ⟨k, by simp only [Emb.cut]; rw [if_pos hln]; exact h1, h2, h3⟩
theorem LeS.fits [Adr] {cx : Cx} {w0 w : World} {F : Nat → Prop} {φ : Emb} {nt : Nat} {a : Act} {s' s : St} (h : LeS s' s) (hf : Fits cx w0 w F φ nt a s') : Fits cx w0 w F (φ.cut s.nx) nt a s :=
  ⟨h.mem hf.mem, ⟨hf.tmps.size, fun t => below_rel _ _ (frBelow_get h.frB t) (h.fr.get t _ _ _ _ (hf.tmps.val t)), hf.tmps.glob⟩, hf.env⟩
theorem GrowW.cut {w0 w w' : World} {F F' : Nat → Prop} {φ φ' : Emb} (h : GrowW w0 w F φ w' F' φ') {n : Nat} (hn : ∀ b g x, φ.blk b g = some x → b < n) (hl : ∀ l k, φ.loop l = some k → l < n) : GrowW w0 w F φ w' F' (φ'.cut n) :=
  ⟨⟨fun b g x hx => by simp only [Emb.cut]; rw [if_pos (hn b g x hx)]; exact h.le.1 _ _ _ hx, fun l k hk => by simp only [Emb.cut]; rw [if_pos (hl l k hk)]; exact h.le.2 _ _ hk⟩, h.sub, h.new, h.ext, h.opn, h.lps, h.mps⟩
section
variable {P : Program} {nt : Nat} {K : Exit → St → Prop} {s : St}
end
end Go.AM
