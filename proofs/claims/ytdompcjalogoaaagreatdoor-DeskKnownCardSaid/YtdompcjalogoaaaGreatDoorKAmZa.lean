/- A text of the proof. -/
import Derived.Test.YtdompcjalogoaaaGreatDoorKAmZ
set_option linter.unusedSimpArgs false
set_option linter.unusedVariables false
namespace Go.AM
open Go Go.RowKit
def AV.regen (gs : List Nat) : AV → AV
  | .ref b g i j => if gs[b]? = some g then .ref b 0 i j else .top
  | .sl b g z o l => if gs[b]? = some g then .sl b 0 z o l else .top
  | .fn f a c => .fn f (regens gs a) (regens gs c)
  | .iface t v => .iface t (v.regen gs)
  | .agg cs => .agg (regens gs cs)
  | .tup cs => .tup (regens gs cs)
  | .yld _ => .top
  | .mp _ => .top
  | .itr _ => .top
  | .slk b g z o l c e => if gs[b]? = some g then .slk b 0 z o l c e else .top
  | v => v
where regens (gs : List Nat) : List AV → List AV
  | [] => []
  | v :: vs => v.regen gs :: regens gs vs
def ABlk.regen (gs : List Nat) (b : ABlk) : ABlk := { b with g := 0, es := if b.pure then b.es else b.es.map (AV.regen.regens gs) }
def Emb.regen (φ : Emb) (gs : List Nat) : Emb := { blk := fun m g => if g = 0 then (match gs[m]? with | some g' => φ.blk m g' | none => none) else none, loop := fun _ => none }
mutual
theorem regen_rel [Adr] {w : World} {F : Nat → Prop} {φ : Emb} {gs : List Nat} : ∀ (a : AV) (v : Value), VRel w F φ a v → VRel w F (φ.regen gs) (a.regen gs) v
  | a, v => by
    cases a with
    | yld l => intro _; simp [AV.regen, VRel]
    | mp l => intro _; simp [AV.regen, VRel]
    | itr l => intro _; simp [AV.regen, VRel]
    | fn f x c =>
      intro hr; simp only [AV.regen, VRel] at hr ⊢
      obtain ⟨fs, cs, h1, h2, h3⟩ := hr
      exact ⟨fs, cs, h1, regens_rel x fs h2, regens_rel c cs h3⟩
    | iface t x => intro hr; simp only [AV.regen, VRel] at hr ⊢; obtain ⟨y, h1, h2⟩ := hr; exact ⟨y, h1, regen_rel x y h2⟩
    | agg cs => intro hr; simp only [AV.regen, VRel] at hr ⊢; obtain ⟨y, h1, h2, h3⟩ := hr; exact ⟨y, h1, regens_rel cs y h2, h3⟩
    | tup cs => intro hr; simp only [AV.regen, VRel] at hr ⊢; obtain ⟨y, h1, h2⟩ := hr; exact ⟨y, h1, regens_rel cs y h2⟩
    | ref b g i j =>
      intro hr; simp only [AV.regen]
      split
      · rename_i e
        simp only [VRel] at hr ⊢; obtain ⟨cb, sz, h1, h2⟩ := hr
        exact ⟨cb, sz, by simp only [Emb.regen, if_true, e]; exact h1, h2⟩
      · simp [VRel]
    | sl b g z o l =>
      intro hr; simp only [AV.regen]
      split
      · rename_i e
        simp only [VRel] at hr ⊢
        rcases hr with ⟨h1, h2⟩ | ⟨cb, cap, h1, h2⟩
        · exact .inl ⟨by simp only [Emb.regen, if_true, e]; exact h1, h2⟩
        · exact .inr ⟨cb, cap, by simp only [Emb.regen, if_true, e]; exact h1, h2⟩
      · simp [VRel]
    | top => intro _; simp [AV.regen, VRel]
    | anyb => intro hr; simpa [AV.regen, VRel] using hr
    | bool b => intro hr; simpa [AV.regen, VRel] using hr
    | int k n => intro hr; simpa [AV.regen, VRel] using hr
    | str s => intro hr; simpa [AV.regen, VRel] using hr
    | nilp => intro hr; simpa [AV.regen, VRel] using hr
    | pp cs => intro hr; simpa [AV.regen, VRel] using hr
    | psl sz es => intro hr; simpa [AV.regen, VRel] using hr
    | psx sz es => intro hr; simpa [AV.regen, VRel] using hr
    | nils => intro hr; simpa [AV.regen, VRel] using hr
    | nilf => intro hr; simpa [AV.regen, VRel] using hr
    | nili => intro hr; simpa [AV.regen, VRel] using hr
    | emp => intro hr; simpa [AV.regen, VRel] using hr
    | nilm => intro hr; simpa [AV.regen, VRel] using hr
    | strb n s => intro hr; simpa [AV.regen, VRel] using hr
    | inty k => intro hr; simpa [AV.regen, VRel] using hr
    | gp k o cs => intro hr; simpa only [AV.regen, VRel] using hr
    | slk b g z o l c ex =>
      intro hr; simp only [AV.regen]
      split
      · rename_i e
        simp only [VRel] at hr ⊢; obtain ⟨cb, cap, h1, h2⟩ := hr
        exact ⟨cb, cap, by simp only [Emb.regen, if_true, e]; exact h1, h2⟩
      · simp [VRel]
theorem regens_rel [Adr] {w : World} {F : Nat → Prop} {φ : Emb} {gs : List Nat} : ∀ (as : List AV) (vs : List Value), VRels w F φ as vs → VRels w F (φ.regen gs) (AV.regen.regens gs as) vs
  | [], vs => by intro h; simpa [AV.regen.regens, VRels] using h
  | a :: as, vs => by
    intro hr; simp only [AV.regen.regens, VRels] at hr ⊢
    obtain ⟨v, vs', h1, h2, h3⟩ := hr
    exact ⟨v, vs', h1, regen_rel a v h2, regens_rel as vs' h3⟩
end
theorem regens_length (gs : List Nat) : ∀ (as : List AV), (AV.regen.regens gs as).length = as.length
  | [] => rfl
  | a :: as => by simp [AV.regen.regens, regens_length gs as]
theorem regenE_rel [Adr] {w : World} {F : Nat → Prop} {φ : Emb} {gs : List Nat} {b : Nat} : ∀ (es : List (List AV)) (o : Nat), ERel w F φ es b o → ERel w F (φ.regen gs) (es.map (AV.regen.regens gs)) b o
  | [], o, _ => by simp [ERel]
  | e :: es, o, h => by
    simp only [List.map_cons, ERel, regens_length] at h ⊢
    refine ⟨?_, regenE_rel es _ h.2⟩
    have := h.1
    rw [CRel_iff] at this ⊢
    obtain ⟨vs, h1, h2, h3⟩ := this
    exact ⟨vs, regens_rel e vs h1, h2, h3⟩
theorem HRel.regen [Adr] {w0 w : World} {F : Nat → Prop} {φ : Emb} {blks : List ABlk} (h : HRel w0 w F φ (fun m => m < blks.length) (fun m => blks[m]?)) :
    HRel w0 w F (φ.regen (blks.map (·.g))) (fun m => m < (blks.map (ABlk.regen (blks.map (·.g)))).length) (fun m => (blks.map (ABlk.regen (blks.map (·.g))))[m]?) := by
  have old : ∀ b g x, (φ.regen (blks.map (·.g))).blk b g = some x → g = 0 ∧ ∃ y, blks[b]? = some y ∧ φ.blk b y.g = some x := fun b g x hx => by
    simp only [Emb.regen] at hx
    split at hx
    · rename_i e
      split at hx
      · rename_i g' e'
        simp only [List.getElem?_map, Option.map_eq_some_iff] at e'
        obtain ⟨y, hy, rfl⟩ := e'
        exact ⟨e, y, hy, hx⟩
      · cases hx
    · cases hx
  have new : ∀ b y, blks[b]? = some y → (φ.regen (blks.map (·.g))).blk b 0 = φ.blk b y.g := fun b y hy => by
    simp only [Emb.regen, if_true, List.getElem?_map, hy, Option.map_some]
  have get : ∀ (b : Nat) (x : ABlk), (blks.map (ABlk.regen (blks.map (·.g))))[b]? = some x → ∃ y : ABlk, blks[b]? = some y ∧ x = y.regen (blks.map (·.g)) := fun b x hx => by
    simp only [List.getElem?_map, Option.map_eq_some_iff] at hx
    obtain ⟨y, hy, rfl⟩ := hx
    exact ⟨y, hy, rfl⟩
  refine ⟨h.below, h.fb, fun b g x hx => ?_, fun b g cb sz hx => ?_, fun b x hx => ?_, fun b x hx g hg => ?_, fun b b' x y cb sz sz' hx hy e1 e2 => ?_, h.fwk⟩
  · obtain ⟨-, y, hy, -⟩ := old b g x hx
    simpa using (List.getElem?_eq_some_iff.1 hy).1
  · obtain ⟨-, y, hy, e⟩ := old _ _ _ hx
    exact h.inb _ _ _ _ e
  · obtain ⟨y, hy, rfl⟩ := get b x hx
    obtain ⟨pl, p1, p2, p3⟩ := h.blk b y hy
    refine ⟨pl, (new b y hy).trans p1, ?_, ?_⟩
    · intro e he
      simp only [ABlk.regen] at he
      split at he
      · exact p2 e he
      · obtain ⟨e', he', rfl⟩ := List.mem_map.1 he
        rw [regens_length]; exact p2 e' he'
    · cases pl with
      | none => simp only [LRel] at p3 ⊢; simp only [ABlk.regen]; split <;> simp [p3]
      | some cb =>
        obtain ⟨f1, f2, f3, f4⟩ := p3
        refine ⟨f1, f2, ?_, ?_⟩
        · obtain ⟨c, el, fz, q1, q0, q2⟩ := f3
          refine ⟨c, el, fz, q1, q0, ?_⟩
          · simp only [ABlk.regen]; split
            · exact q2
            · simpa using q2
        · unfold ABlk.emb at f4 ⊢
          simp only [ABlk.regen]
          by_cases hp : y.pure = true
          · simp only [hp, if_true] at f4 ⊢; exact f4
          · simp only [hp] at f4 ⊢; exact regenE_rel _ _ f4
  · simp only [Emb.regen]
    split
    · rename_i e; subst e; omega
    · rfl
  · obtain ⟨x', hx', rfl⟩ := get b x hx
    obtain ⟨y', hy', rfl⟩ := get b' y hy
    have q1 := (new b x' hx').symm.trans e1
    have q2 := (new b' y' hy').symm.trans e2
    exact h.inj b b' x' y' cb sz sz' hx' hy' q1 q2
theorem PCall.regen [Adr] {P : Program} {f : FuncId} {args : List AV} {r : AV} {blks : List ABlk} (h : PCall P f args r blks) : PCall P f args (r.regen (blks.map (·.g))) (blks.map (ABlk.regen (blks.map (·.g)))) := by
  refine ⟨h.1, fun w F vs hF hgl hvs => (h.2 w F vs hF hgl hvs).mono ?_⟩
  rintro e w' ⟨v, φ', F', rfl, k1, k2, k3, k4⟩
  exact ⟨v, _, F', rfl, k1, k2, k3.regen, regen_rel _ _ k4⟩
theorem PCall.le [Adr] {P : Program} {f : FuncId} {args : List AV} {r r' : AV} {blks : List ABlk} (h : PCall P f args r blks) (hl : r.Le r') : PCall P f args r' blks := by
  refine ⟨h.1, fun w F vs hF hgl hvs => (h.2 w F vs hF hgl hvs).mono ?_⟩
  rintro e w' ⟨v, φ', F', rfl, k1, k2, k3, k4⟩
  exact ⟨v, φ', F', rfl, k1, k2, k3, hl _ _ _ _ k4⟩
def AV.frz (η : Heap) (rd : List Nat) : AV → AV
  | .sl c g z off len => if c ∈ rd then (match pur η 1 (.sl c g z off len) with | some (v, _) => v | none => .sl c g z off len) else .sl c g z off len
  | .fn f a c => .fn f (frzs η rd a) (frzs η rd c)
  | .iface t v => .iface t (v.frz η rd)
  | .agg cs => .agg (frzs η rd cs)
  | .tup cs => .tup (frzs η rd cs)
  | v => v
where frzs (η : Heap) (rd : List Nat) : List AV → List AV
  | [] => []
  | v :: vs => v.frz η rd :: frzs η rd vs
def ABlk.frz (η : Heap) (rd : List Nat) (b : Nat) (x : ABlk) : ABlk :=
  if x.pure then { x with own := x.own && !(rd.contains b) } else
  { x with own := x.own && !(rd.contains b), es := x.es.map (AV.frz.frzs η rd), pure := (x.es.map (AV.frz.frzs η rd)).all AV.isP.isPs }
def frzFr (η : Heap) (rd : List Nat) : List (Nat × AV) → List (Nat × AV)
  | [] => []
  | (t, v) :: l => (t, v.frz η rd) :: frzFr η rd l
def frzHp (η : Heap) (rd : List Nat) : List (Nat × ABlk) → List (Nat × ABlk)
  | [] => []
  | (b, x) :: l => (b, x.frz η rd b) :: frzHp η rd l
def St.frz (s : St) (rd : List Nat) : St := ⟨frzFr (alg s.hp) rd s.fr, frzHp (alg s.hp) rd s.hp, s.nx, s.lp⟩
section
variable {w0 w : World} {F : Nat → Prop} {φ : Emb} {U : Nat → Prop} {η : Heap} {rd : List Nat}
end
end Go.AM
