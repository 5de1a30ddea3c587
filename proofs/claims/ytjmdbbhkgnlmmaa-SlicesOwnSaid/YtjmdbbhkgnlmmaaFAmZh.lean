/- A text of the proof. -/
import Derived.Test.YtjmdbbhkgnlmmaaFAmZd
set_option linter.unusedSimpArgs false
set_option linter.unusedVariables false
namespace Go.AM
open Go Go.RowKit
def AV.ren (k g k' g' : Nat) : AV → AV
  | .ref b h i j => if b = k ∧ h = g then .ref k' g' i j else .ref b h i j
  | .sl b h sz off len => if b = k ∧ h = g then .sl k' g' sz off len else .sl b h sz off len
  | .fn f a b => .fn f (rens k g k' g' a) (rens k g k' g' b)
  | .iface t v => .iface t (v.ren k g k' g')
  | .agg cs => .agg (rens k g k' g' cs)
  | .tup cs => .tup (rens k g k' g' cs)
  | v => v
where rens (k g k' g' : Nat) : List AV → List AV
  | [] => []
  | v :: vs => v.ren k g k' g' :: rens k g k' g' vs
def ABlk.ren (k g k' g' : Nat) (x : ABlk) : ABlk := if x.pure then x else { x with es := x.es.map (AV.ren.rens k g k' g') }
def renHp (k g k' g' : Nat) : List (Nat × ABlk) → List (Nat × ABlk)
  | [] => []
  | (b, x) :: l => if b = k then renHp k g k' g' l else (b, x.ren k g k' g') :: renHp k g k' g' l
def renFr (k g k' g' : Nat) : List (Nat × AV) → List (Nat × AV)
  | [] => []
  | (t, v) :: l => (t, v.ren k g k' g') :: renFr k g k' g' l
def St.ren (k k' : Nat) (x x' : ABlk) (s : St) : St := ⟨renFr k x.g k' (x'.g + 1) s.fr, hset (renHp k x.g k' (x'.g + 1) s.hp) k' { x with g := x'.g + 1 }, s.nx, s.lp⟩
section
variable {w : World} {F : Nat → Prop} {φ ψ : Emb} {k g k' g' : Nat}
mutual
theorem ren_rel (hl : φ.le ψ) (hs : ∀ x, φ.blk k g = some x → ψ.blk k' g' = some x) : ∀ (a : AV) (v : Value), VRel w F φ a v → VRel w F ψ (a.ren k g k' g') v
  | a, v => by
    cases a with
    | fn f x c =>
      intro hr; simp only [AV.ren, VRel] at hr ⊢
      obtain ⟨fs, cs, h1, h2, h3⟩ := hr
      exact ⟨fs, cs, h1, rens_rel hl hs x fs h2, rens_rel hl hs c cs h3⟩
    | iface t x => intro hr; simp only [AV.ren, VRel] at hr ⊢; obtain ⟨y, h1, h2⟩ := hr; exact ⟨y, h1, ren_rel hl hs x y h2⟩
    | agg cs => intro hr; simp only [AV.ren, VRel] at hr ⊢; obtain ⟨y, h1, h2, h3⟩ := hr; exact ⟨y, h1, rens_rel hl hs cs y h2, h3⟩
    | tup cs => intro hr; simp only [AV.ren, VRel] at hr ⊢; obtain ⟨y, h1, h2⟩ := hr; exact ⟨y, h1, rens_rel hl hs cs y h2⟩
    | ref b h i j =>
      intro hr; simp only [AV.ren]
      split
      · rename_i e
        simp only [VRel] at hr ⊢; obtain ⟨cb, sz, h1, h2⟩ := hr
        rw [e.1, e.2] at h1
        exact ⟨cb, sz, hs _ h1, h2⟩
      · exact VRel.mono (Ext0.refl F w) (fun _ h => h) hl _ _ hr
    | sl b h z o l =>
      intro hr; simp only [AV.ren]
      split
      · rename_i e
        simp only [VRel] at hr ⊢
        rw [e.1, e.2] at hr
        rcases hr with ⟨h1, h2⟩ | ⟨cb, cap, h1, h2⟩
        · exact .inl ⟨hs _ h1, h2⟩
        · exact .inr ⟨cb, cap, hs _ h1, h2⟩
      · exact VRel.mono (Ext0.refl F w) (fun _ h => h) hl _ _ hr
    | yld l => intro hr; exact VRel.mono (Ext0.refl F w) (fun _ h => h) hl _ _ hr
    | top => intro _; simp [AV.ren, VRel]
    | anyb => intro hr; simpa [AV.ren, VRel] using hr
    | bool b => intro hr; simpa [AV.ren, VRel] using hr
    | int k n => intro hr; simpa [AV.ren, VRel] using hr
    | str s => intro hr; simpa [AV.ren, VRel] using hr
    | nilp => intro hr; simpa [AV.ren, VRel] using hr
    | pp cs => intro hr; simpa [AV.ren, VRel] using hr
    | psl sz es => intro hr; simpa [AV.ren, VRel] using hr
    | nils => intro hr; simpa [AV.ren, VRel] using hr
    | nilf => intro hr; simpa [AV.ren, VRel] using hr
    | nili => intro hr; simpa [AV.ren, VRel] using hr
    | emp => intro hr; simpa [AV.ren, VRel] using hr
theorem rens_rel (hl : φ.le ψ) (hs : ∀ x, φ.blk k g = some x → ψ.blk k' g' = some x) : ∀ (as : List AV) (vs : List Value), VRels w F φ as vs → VRels w F ψ (AV.ren.rens k g k' g' as) vs
  | [], vs => by intro h; simpa [AV.ren.rens, VRels] using h
  | a :: as, vs => by
    intro hr; simp only [AV.ren.rens, VRels] at hr ⊢
    obtain ⟨v, vs', h1, h2, h3⟩ := hr
    exact ⟨v, vs', h1, ren_rel hl hs a v h2, rens_rel hl hs as vs' h3⟩
end
theorem rens_length : ∀ (as : List AV), (AV.ren.rens k g k' g' as).length = as.length
  | [] => rfl
  | a :: as => by simp [AV.ren.rens, rens_length as]
theorem renE_rel (hl : φ.le ψ) (hs : ∀ x, φ.blk k g = some x → ψ.blk k' g' = some x) {b : Nat} : ∀ (es : List (List AV)) (o : Nat), ERel w F φ es b o → ERel w F ψ (es.map (AV.ren.rens k g k' g')) b o
  | [], o, _ => by simp [ERel]
  | e :: es, o, hr => by
    simp only [List.map_cons, ERel, rens_length] at hr ⊢
    refine ⟨?_, renE_rel hl hs es _ hr.2⟩
    have := hr.1
    rw [CRel_iff] at this ⊢
    obtain ⟨vs, h1, h2, h3⟩ := this
    exact ⟨vs, rens_rel hl hs e vs h1, h2, h3⟩
theorem alg_renHp (b : Nat) : ∀ hp : List (Nat × ABlk), alg (renHp k g k' g' hp) b = if b = k then none else (alg hp b).map (fun x => x.ren k g k' g')
  | [] => by simp [renHp, alg]
  | (c, y) :: hp => by
    simp only [renHp]
    by_cases hc : c = k
    · rw [if_pos hc, alg_renHp b hp]
      by_cases hb : b = k
      · simp [hb]
      · rw [if_neg hb, if_neg hb]; simp only [alg]; rw [if_neg (by omega)]
    · rw [if_neg hc]
      simp only [alg, alg_renHp b hp]
      by_cases hb : b = c
      · subst hb; simp [hc]
      · simp [hb]
theorem frGet_ren (t : Nat) : ∀ fr : List (Nat × AV), frGet (renFr k g k' g' fr) t = (frGet fr t).ren k g k' g'
  | [] => rfl
  | (c, y) :: fr => by
    simp only [renFr, frGet_cons]
    split
    · rfl
    · exact frGet_ren t fr
theorem ABlk.ren_eq (x : ABlk) : (x.ren k g k' g').g = x.g ∧ (x.ren k g k' g').sz = x.sz ∧ (x.ren k g k' g').own = x.own ∧ (x.ren k g k' g').pure = x.pure ∧ (x.ren k g k' g').es.length = x.es.length := by
  unfold ABlk.ren; split <;> simp
theorem awp_ren {P : Program} {nt : Nat} {K : Exit → St → Prop} {c : Code} {s : St} (k k' : Nat) {x x' : ABlk} (e1 : alg s.hp k = some x) (e2 : alg s.hp k' = some x') (hne : k' ≠ k) (hp : x.pure = true) (h : AWP P nt c K (s.ren k k' x x')) : AWP P nt c K s := by
  intro cx w0 w F φ a hf
  have hh := hf.mem.heap
  obtain ⟨pl, p1, p2, p3⟩ := hh.blk k x e1
  have hnone : φ.blk k' (x'.g + 1) = none := hh.gen k' x' e2 _ (by omega)
  have hle := φ.le_add k' (x'.g + 1) (pl, x.sz) hnone
  have hs : ∀ y, φ.blk k x.g = some y → (φ.add k' (x'.g + 1) (pl, x.sz)).blk k' (x'.g + 1) = some y := fun y hy => by
    rw [p1] at hy; cases hy; exact Emb.add_same _ _ _ _
  have hoth : ∀ b g, b ≠ k' → (φ.add k' (x'.g + 1) (pl, x.sz)).blk b g = φ.blk b g := fun b g hb => by simp [Emb.add, hb]
  have hg : GrowW w0 w F φ w F (φ.add k' (x'.g + 1) (pl, x.sz)) := ⟨hle, fun _ h => h, fun _ h => .inl h, Ext0.refl F w, fun _ h => h, fun _ rec h => ⟨rec, h, rfl⟩⟩
  have get : ∀ b y, alg (s.ren k k' x x').hp b = some y → (b = k' ∧ y = { x with g := x'.g + 1 }) ∨ (b ≠ k' ∧ b ≠ k ∧ ∃ z, alg s.hp b = some z ∧ y = z.ren k x.g k' (x'.g + 1)) := by
    intro b y hy
    simp only [St.ren, alg_hset, fupd] at hy
    split at hy
    · rename_i e; exact .inl ⟨e, by simpa using hy.symm⟩
    · rename_i e
      rw [alg_renHp] at hy
      split at hy
      · cases hy
      · rename_i e'
        obtain ⟨z, hz, rfl⟩ := Option.map_eq_some_iff.1 hy
        exact .inr ⟨e, e', z, hz, rfl⟩
  have hmem : Mem w0 w F (φ.add k' (x'.g + 1) (pl, x.sz)) (s.ren k k' x x') := by
    refine ⟨⟨hh.below, hh.fb, fun b g y hy => ?_, fun b g cb sz hy => ?_, fun b y hy => ?_, fun b y hy g hg => ?_, fun b b' y y' cb sz sz' hy hy' q1 q2 => ?_, hh.fwk⟩, fun l y hy => (hf.mem.lps l y hy).mono hg fun _ _ _ h => h, hf.mem.lused, hf.mem.linj⟩
    · rcases Emb.add_cases _ _ _ _ hy with hy | ⟨rfl, -, -⟩
      · exact hh.used b g y hy
      · obtain ⟨pl', q, -⟩ := hh.blk b x' e2
        exact hh.used _ _ _ q
    · rcases Emb.add_cases _ _ _ _ hy with hy | ⟨-, -, hy⟩
      · exact hh.inb b g cb sz hy
      · cases hy; exact hh.inb _ _ _ _ p1
    · rcases get b y hy with ⟨rfl, rfl⟩ | ⟨hb, hb2, z, hz, rfl⟩
      · refine ⟨pl, Emb.add_same _ _ _ _, p2, ?_⟩
        cases pl with
        | none => exact p3
        | some cb =>
          obtain ⟨f1, f2, f3, f4⟩ := p3
          refine ⟨f1, f2, f3, ?_⟩
          simp only [ABlk.emb, hp, if_true] at f4 ⊢
          exact f4
      · obtain ⟨zl, z1, z2, z3⟩ := hh.blk b z hz
        have re := ABlk.ren_eq (k := k) (g := x.g) (k' := k') (g' := x'.g + 1) z
        refine ⟨zl, ?_, ?_, ?_⟩
        · rw [hoth b _ hb, re.1, re.2.1]; exact z1
        · rw [re.2.1]
          unfold ABlk.ren; split
          · exact z2
          · intro e he
            obtain ⟨e', he', rfl⟩ := List.mem_map.1 he
            rw [rens_length]; exact z2 e' he'
        · cases zl with
          | none =>
            simp only [LRel] at z3 ⊢
            unfold ABlk.ren; split
            · exact z3
            · simp [z3]
          | some cb =>
            obtain ⟨f1, f2, f3, f4⟩ := z3
            refine ⟨f1, fun ho => f2 (by rw [re.2.2.1] at ho; exact ho), by rw [re.2.2.2.2, re.2.1]; exact f3, ?_⟩
            unfold ABlk.emb at f4 ⊢
            rw [re.2.2.2.1]
            by_cases hpz : z.pure = true
            · rw [if_pos hpz] at f4 ⊢
              unfold ABlk.ren; rw [if_pos hpz]; exact f4
            · rw [if_neg hpz] at f4 ⊢
              unfold ABlk.ren; rw [if_neg hpz]
              exact renE_rel hle hs z.es 0 f4
    · rcases get b y hy with ⟨rfl, rfl⟩ | ⟨hb, hb2, z, hz, rfl⟩
      · have : φ.blk b g = none := hh.gen b x' e2 g (by simp only at hg; omega)
        simp only [Emb.add]; rw [if_neg (by simp only at hg; omega)]; exact this
      · rw [hoth b _ hb]
        rw [(ABlk.ren_eq z).1] at hg
        exact hh.gen b z hz g hg
    · have key : ∀ b b' z z' , alg (s.ren k k' x x').hp b = some z → alg (s.ren k k' x x').hp b' = some z' → b = k' → b' ≠ k' → ∀ sz sz', (φ.add k' (x'.g + 1) (pl, x.sz)).blk b z.g = some (some cb, sz) → (φ.add k' (x'.g + 1) (pl, x.sz)).blk b' z'.g = some (some cb, sz') → False := by
        intro b b' z z' hz hz' hb hb' sz sz' r1 r2
        rcases get b z hz with ⟨-, rfl⟩ | ⟨h, -⟩
        · rcases get b' z' hz' with ⟨h, -⟩ | ⟨-, hb2, y1, hy1, rfl⟩
          · exact hb' h
          · subst hb
            rw [Emb.add_same] at r1
            rw [hoth b' _ hb', (ABlk.ren_eq y1).1] at r2
            cases r1
            exact hb2 (hh.inj k b' x y1 cb _ _ e1 hy1 p1 r2).symm
        · exact h hb
      by_cases hb : b = k' <;> by_cases hb' : b' = k'
      · rw [hb, hb']
      · exact (key b b' y y' hy hy' hb hb' _ _ q1 q2).elim
      · exact (key b' b y' y hy' hy hb' hb _ _ q2 q1).elim
      · rcases get b y hy with ⟨h, -⟩ | ⟨-, -, z, hz, rfl⟩
        · exact (hb h).elim
        · rcases get b' y' hy' with ⟨h, -⟩ | ⟨-, -, z', hz', rfl⟩
          · exact (hb' h).elim
          · rw [hoth b _ hb, (ABlk.ren_eq z).1] at q1
            rw [hoth b' _ hb', (ABlk.ren_eq z').1] at q2
            exact hh.inj b b' z z' cb _ _ hz hz' q1 q2
  have hfits : Fits cx w0 w F (φ.add k' (x'.g + 1) (pl, x.sz)) nt a (s.ren k k' x x') :=
    ⟨hmem, ⟨hf.tmps.size, fun t => by
      change VRel _ _ _ (frGet (renFr k x.g k' (x'.g + 1) s.fr) t) _
      rw [frGet_ren]; exact ren_rel hle hs _ _ (hf.tmps.val t)⟩, hf.env.mono hg rfl⟩
  refine wpIn_mono (h cx w0 w _ _ a hfits) ?_
  rintro e a' w' ⟨s', φ', F', h1, h2, h3⟩
  exact ⟨s', φ', F', h1, hg.trans h2, h3⟩
theorem awp_ren2 {P : Program} {nt : Nat} {K : Exit → St → Prop} {c : Code} {s s2 : St} (k k' : Nat) {x x' : ABlk} (e1 : alg s.hp k = some x) (e2 : alg s.hp k' = some x') (hne : k' ≠ k) (hp : x.pure = true) (h1 : ∀ Kt : St → Prop, Kt s2 → Kt (s.ren k k' x x')) (h2 : AWP P nt c K s2) : AWP P nt c K s := awp_ren k k' e1 e2 hne hp (h1 _ h2)
end
end Go.AM
