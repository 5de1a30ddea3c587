/- A text of the proof. -/
import Derived.Test.YtnlggkiekcpahaaGreatCAmS
import Derived.RangeFuncLeaves
import Derived.RangeFuncNested
set_option linter.unusedSimpArgs false
set_option linter.unusedVariables false
namespace Go.AM
open Go Go.RowKit
def oN : List Nat → Nat → Option Nat
  | [], _ => none
  | k :: l, b => if b = k then some 0 else (oN l b).map (· + 1)
theorem qW : ∀ (l : List Nat) (b m : Nat), oN l b = some m → l[m]? = some b
  | [], b, m, h => by simp [oN] at h
  | k :: l, b, m, h => by
    simp only [oN] at h
    split at h
    · rename_i e; cases h; simp [e]
    · simp only [Option.map_eq_some_iff] at h
      obtain ⟨m', h1, rfl⟩ := h
      simpa using qW l b m' h1
def fC (ns : List Nat) (η : fB) : Nat → AV → Option (AV × List Nat)
  | 0, _ => none
  | d + 1, v =>
    match v with
    | .ref b g i j => match oN ns b with | some m => some (.ref m g i j, []) | none => yB η (d + 1) (.ref b g i j)
    | .sl b g z off len => match oN ns b with | some m => some (.sl m g z off len, []) | none => yB η (d + 1) (.sl b g z off len)
    | .fn f a c => match exps ns η d a, exps ns η d c with
      | some (a', r), some (c', r') => some (.fn f a' c', r ++ r')
      | _, _ => none
    | .iface t v => match fC ns η d v with | some (v', r) => some (.iface t v', r) | none => none
    | .agg cs => match exps ns η d cs with | some (cs', r) => some (.agg cs', r) | none => none
    | .tup cs => match exps ns η d cs with | some (cs', r) => some (.tup cs', r) | none => none
    | .yld _ => none
    | .mp _ => none
    | v => some (v, [])
where exps (ns : List Nat) (η : fB) : Nat → List AV → Option (List AV × List Nat)
  | 0, _ => none
  | _ + 1, [] => some ([], [])
  | d + 1, v :: vs =>
    match fC ns η d v, exps ns η d vs with
    | some (v', r), some (vs', r') => some (v' :: vs', r ++ r')
    | _, _ => none
def lH (ns : List Nat) (η : fB) : List (List AV) → Option (List (List AV) × List Nat)
  | [] => some ([], [])
  | e :: es => match fC.exps ns η 60 e, lH ns η es with
    | some (e', r), some (es', r') => some (e' :: es', r ++ r')
    | _, _ => none
def yJ (ns : List Nat) (η : fB) : List Nat → Option (List oA × List Nat)
  | [] => some ([], [])
  | b :: bs => match η b, yJ ns η bs with
    | some x, some (xs, rd) => if x.pure then some (x :: xs, rd) else
      match lH ns η x.es with
      | some (es, rd') => some ({ x with es := es } :: xs, rd' ++ rd)
      | none => none
    | _, _ => none
def iA.pick (φ : iA) (ns : List Nat) : iA := { blk := fun m g => match ns[m]? with | some b => φ.blk b g | none => none, loop := fun _ => none }
section
variable {w0 w : World} {F : Nat → Prop} {φ : iA} {U : Nat → Prop} {η : fB}
mutual
theorem zac (h : qB w0 w F φ U η) (ns : List Nat) : ∀ (d : Nat) (v v' : AV) (rd : List Nat) (x : Value), fC ns η d v = some (v', rd) → fA w F φ v x → fA w (sC F φ η rd) (φ.pick ns) v' x
  | 0, v, v', rd, x => by intro hp; simp [fC] at hp
  | d + 1, v, v', rd, x => by
    intro hp hx
    have hz : ∀ ψ : iA, iA.zero.le ψ := iA.zero_le
    have hF : ∀ rd' b, F b → sC F φ η rd' b := fun _ b hb => .inl hb
    have same : ∀ (u : AV), u.isP = true → fA w F φ u x → fA w (sC F φ η []) (φ.pick ns) u x := fun u hu hr => fA.mono (Ext0.refl F w) (hF []) (iA.le_refl _) _ _ (cO u x hu hr)
    cases v with
    | ref b g i j =>
      simp only [fC] at hp
      split at hp
      · rename_i m hm
        cases hp
        simp only [fA] at hx ⊢
        obtain ⟨cb, sz, h1, h2⟩ := hx
        exact ⟨cb, sz, by simp only [iA.pick, qW _ _ _ hm]; exact h1, h2⟩
      · exact fA.mono (Ext0.refl _ w) (fun _ h => h) (hz _) _ _ (zT h _ _ _ _ _ hp hx)
    | sl b g z off len =>
      simp only [fC] at hp
      split at hp
      · rename_i m hm
        cases hp
        simp only [fA] at hx ⊢
        rcases hx with ⟨h1, h2⟩ | ⟨cb, cap, h1, h2⟩
        · exact .inl ⟨by simp only [iA.pick, qW _ _ _ hm]; exact h1, h2⟩
        · exact .inr ⟨cb, cap, by simp only [iA.pick, qW _ _ _ hm]; exact h1, h2⟩
      · exact fA.mono (Ext0.refl _ w) (fun _ h => h) (hz _) _ _ (zT h _ _ _ _ _ hp hx)
    | fn f a c =>
      simp only [fC] at hp
      split at hp
      · rename_i a' r c' r' h1 h2
        cases hp
        simp only [fA] at hx ⊢
        obtain ⟨fs, cs, rfl, k1, k2⟩ := hx
        exact ⟨fs, cs, rfl, tA.mono (Ext0.refl _ w) (sC.mono (fun _ hm => List.mem_append_left _ hm)) (iA.le_refl _) _ _ (uQ h ns d _ _ _ _ h1 k1), tA.mono (Ext0.refl _ w) (sC.mono (fun _ hm => List.mem_append_right _ hm)) (iA.le_refl _) _ _ (uQ h ns d _ _ _ _ h2 k2)⟩
      · cases hp
    | iface t u =>
      simp only [fC] at hp
      split at hp
      · rename_i u' r h1
        cases hp
        simp only [fA] at hx ⊢
        obtain ⟨y, rfl, k1⟩ := hx
        exact ⟨y, rfl, zac h ns d _ _ _ _ h1 k1⟩
      · cases hp
    | agg cs =>
      simp only [fC] at hp
      split at hp
      · rename_i u' r h1
        cases hp
        simp only [fA] at hx ⊢
        obtain ⟨y, rfl, k1, k2⟩ := hx
        exact ⟨y, rfl, uQ h ns d _ _ _ _ h1 k1, k2⟩
      · cases hp
    | tup cs =>
      simp only [fC] at hp
      split at hp
      · rename_i u' r h1
        cases hp
        simp only [fA] at hx ⊢
        obtain ⟨y, rfl, k1⟩ := hx
        exact ⟨y, rfl, uQ h ns d _ _ _ _ h1 k1⟩
      · cases hp
    | yld l => simp only [fC] at hp; cases hp
    | mp l => simp only [fC] at hp; cases hp
    | top => simp only [fC, Option.some.injEq, Prod.mk.injEq] at hp; obtain ⟨rfl, rfl⟩ := hp; exact same _ rfl hx
    | anyb => simp only [fC, Option.some.injEq, Prod.mk.injEq] at hp; obtain ⟨rfl, rfl⟩ := hp; exact same _ rfl hx
    | bool b => simp only [fC, Option.some.injEq, Prod.mk.injEq] at hp; obtain ⟨rfl, rfl⟩ := hp; exact same _ rfl hx
    | int k n => simp only [fC, Option.some.injEq, Prod.mk.injEq] at hp; obtain ⟨rfl, rfl⟩ := hp; exact same _ rfl hx
    | str s => simp only [fC, Option.some.injEq, Prod.mk.injEq] at hp; obtain ⟨rfl, rfl⟩ := hp; exact same _ rfl hx
    | nilp => simp only [fC, Option.some.injEq, Prod.mk.injEq] at hp; obtain ⟨rfl, rfl⟩ := hp; exact same _ rfl hx
    | pp cs => simp only [fC, Option.some.injEq, Prod.mk.injEq] at hp; obtain ⟨rfl, rfl⟩ := hp; exact same _ rfl hx
    | nils => simp only [fC, Option.some.injEq, Prod.mk.injEq] at hp; obtain ⟨rfl, rfl⟩ := hp; exact same _ rfl hx
    | psl sz es => simp only [fC, Option.some.injEq, Prod.mk.injEq] at hp; obtain ⟨rfl, rfl⟩ := hp; exact same _ rfl hx
    | nilf => simp only [fC, Option.some.injEq, Prod.mk.injEq] at hp; obtain ⟨rfl, rfl⟩ := hp; exact same _ rfl hx
    | nili => simp only [fC, Option.some.injEq, Prod.mk.injEq] at hp; obtain ⟨rfl, rfl⟩ := hp; exact same _ rfl hx
    | emp => simp only [fC, Option.some.injEq, Prod.mk.injEq] at hp; obtain ⟨rfl, rfl⟩ := hp; exact same _ rfl hx
theorem uQ (h : qB w0 w F φ U η) (ns : List Nat) : ∀ (d : Nat) (vs vs' : List AV) (rd : List Nat) (xs : List Value), fC.exps ns η d vs = some (vs', rd) → tA w F φ vs xs → tA w (sC F φ η rd) (φ.pick ns) vs' xs
  | 0, vs, vs', rd, xs => by intro hp; simp [fC.exps] at hp
  | d + 1, [], vs', rd, xs => by intro hp hx; simp [fC.exps] at hp; obtain ⟨rfl, rfl⟩ := hp; simpa [tA] using hx
  | d + 1, v :: vs, vs', rd, xs => by
    intro hp hx
    simp only [fC.exps] at hp
    split at hp
    · rename_i v' r vs'' r' h1 h2
      cases hp
      simp only [tA] at hx ⊢
      obtain ⟨y, ys, rfl, k1, k2⟩ := hx
      exact ⟨y, ys, rfl, fA.mono (Ext0.refl _ w) (sC.mono (fun _ hm => List.mem_append_left _ hm)) (iA.le_refl _) _ _ (zac h ns d _ _ _ _ h1 k1), tA.mono (Ext0.refl _ w) (sC.mono (fun _ hm => List.mem_append_right _ hm)) (iA.le_refl _) _ _ (uQ h ns d _ _ _ _ h2 k2)⟩
    · cases hp
end
theorem zdv (ns : List Nat) : ∀ (d : Nat) (vs vs' : List AV) (rd : List Nat), fC.exps ns η d vs = some (vs', rd) → vs'.length = vs.length
  | 0, vs, vs', rd, h => by simp [fC.exps] at h
  | d + 1, [], vs', rd, h => by simp [fC.exps] at h; rw [h.1]
  | d + 1, v :: vs, vs', rd, h => by
    simp only [fC.exps] at h
    split at h
    · rename_i v' r vs'' r' h1 h2
      cases h
      simp [zdv ns d _ _ _ h2]
    · cases h
theorem zbC (h : qB w0 w F φ U η) (ns : List Nat) {b sz : Nat} : ∀ (es es' : List (List AV)) (rd : List Nat) (o : Nat), lH ns η es = some (es', rd) → (∀ e ∈ es, e.length = sz) → cC w F φ es b o →
    cC w (sC F φ η rd) (φ.pick ns) es' b o ∧ (∀ e ∈ es', e.length = sz) ∧ es'.length = es.length
  | [], es', rd, o, hp, _, _ => by simp [lH] at hp; obtain ⟨rfl, rfl⟩ := hp; simp [cC]
  | e :: es, es', rd, o, hp, hl, hr => by
    simp only [lH] at hp
    split at hp
    · rename_i e' r es'' r' h1 h2
      cases hp
      simp only [cC] at hr ⊢
      have hlen := zdv ns 60 _ _ _ h1
      obtain ⟨i1, i2, i3⟩ := zbC h ns es es'' r' (o + e.length) h2 (fun x hx => hl x (by simp [hx])) hr.2
      refine ⟨⟨?_, ?_⟩, ?_, by simp [i3]⟩
      · have := hr.1
        rw [iF] at this ⊢
        obtain ⟨vs, c1, c2, c3⟩ := this
        exact ⟨vs, tA.mono (Ext0.refl _ w) (sC.mono (fun _ hm => List.mem_append_left _ hm)) (iA.le_refl _) _ _ (uQ h ns 60 _ _ _ _ h1 c1), c2, c3⟩
      · rw [hlen]
        exact cC.mono (Ext0.refl _ w) (sC.mono (fun _ hm => List.mem_append_right _ hm)) (iA.le_refl _) _ _ _ rfl i1
      · intro x hx
        rcases List.mem_cons.1 hx with q | q
        · rw [q, hlen]; exact hl e (by simp)
        · exact i2 x q
    · cases hp
theorem zcg (ns : List Nat) : ∀ (bs : List Nat) (xs : List oA) (rd : List Nat), yJ ns η bs = some (xs, rd) → xs.length = bs.length ∧ ∀ (m b : Nat), bs[m]? = some b → ∃ x y, η b = some x ∧ xs[m]? = some y ∧ y.g = x.g ∧ y.sz = x.sz ∧ y.own = x.own ∧ y.pure = x.pure ∧
      ((x.pure = true ∧ y.es = x.es) ∨ (x.pure = false ∧ ∃ rd', lH ns η x.es = some (y.es, rd') ∧ ∀ c, c ∈ rd' → c ∈ rd))
  | [], xs, rd, h => by simp [yJ] at h; obtain ⟨rfl, rfl⟩ := h; simp
  | b :: bs, xs, rd, h => by
    simp only [yJ] at h
    split at h
    · rename_i x xs' rd' hx hr
      obtain ⟨i1, i2⟩ := zcg ns bs xs' rd' hr
      split at h
      · rename_i hp
        cases h
        refine ⟨by simp [i1], fun m c hm => ?_⟩
        cases m with
        | zero => simp at hm; subst hm; exact ⟨x, x, hx, rfl, rfl, rfl, rfl, rfl, .inl ⟨hp, rfl⟩⟩
        | succ m => exact i2 m c (by simpa using hm)
      · rename_i hp
        split at h
        · rename_i es rd2 he
          cases h
          refine ⟨by simp [i1], fun m c hm => ?_⟩
          cases m with
          | zero => simp at hm; subst hm; exact ⟨x, { x with es := es }, hx, rfl, rfl, rfl, rfl, rfl, .inr ⟨by simpa using hp, rd2, he, fun c hc => List.mem_append_left _ hc⟩⟩
          | succ m =>
            obtain ⟨y, z, g1, g2, g3, g4, g5, g6, g7⟩ := i2 m c (by simpa using hm)
            refine ⟨y, z, g1, by simpa using g2, g3, g4, g5, g6, ?_⟩
            rcases g7 with q | ⟨q1, q2, q3, q4⟩
            · exact .inl q
            · exact .inr ⟨q1, q2, q3, fun c hc => List.mem_append_right _ (q4 c hc)⟩
        · cases h
    · cases h
theorem qB.pick (h : qB w0 w F φ U η) {ns : List Nat} {blks : List oA} {rd0 rd : List Nat} (hb : yJ ns η ns = some (blks, rd0)) (hsub : ∀ c, c ∈ rd0 → c ∈ rd) (hn : ns.Nodup) (hdis : ∀ b, b ∈ ns → b ∉ rd) :
    qB w0 w (sC F φ η rd) (φ.pick ns) (fun m => m < blks.length) (fun m => blks[m]?) := by
  obtain ⟨hl, hget⟩ := zcg ns ns blks rd0 hb
  have get : ∀ (m : Nat) (y : oA), blks[m]? = some y → ∃ b x, ns[m]? = some b ∧ η b = some x ∧ y.g = x.g ∧ y.sz = x.sz ∧ y.own = x.own ∧ y.pure = x.pure ∧
      ((x.pure = true ∧ y.es = x.es) ∨ (x.pure = false ∧ ∃ rd', lH ns η x.es = some (y.es, rd') ∧ ∀ c, c ∈ rd' → c ∈ rd0)) := by
    intro m y hy
    have hm : m < ns.length := by rw [← hl]; exact (List.getElem?_eq_some_iff.1 hy).1
    obtain ⟨x, y', g1, g2, g3, g4, g5, g6, g7⟩ := hget m ns[m] (List.getElem?_eq_getElem hm)
    rw [hy] at g2; cases g2
    exact ⟨ns[m], x, List.getElem?_eq_getElem hm, g1, g3, g4, g5, g6, g7⟩
  have pk : ∀ (m b g : Nat), ns[m]? = some b → (φ.pick ns).blk m g = φ.blk b g := fun m b g hm => by simp only [iA.pick, hm]
  refine ⟨h.below, (h.freeze rd).fb, fun m g x hx => ?_, fun m g cb sz hx => ?_, fun m y hy => ?_, fun m y hy g hg => ?_, fun m m' y y' cb sz sz' hy hy' e1 e2 => ?_, (h.freeze rd).fwk⟩
  · simp only [iA.pick] at hx
    split at hx
    · rename_i b hm; rw [hl]; exact (List.getElem?_eq_some_iff.1 hm).1
    · cases hx
  · simp only [iA.pick] at hx
    split at hx
    · exact h.inb _ _ _ _ hx
    · cases hx
  · obtain ⟨b, x, g1, g2, g3, g4, g5, g6, g7⟩ := get m y hy
    obtain ⟨pl, p1, p2, p3⟩ := h.blk b x g2
    have hes : (∀ cb, pl = some cb → cC w (sC F φ η rd) (y.emb (φ.pick ns)) y.es cb 0) ∧ (∀ e ∈ y.es, e.length = y.sz) ∧ y.es.length = x.es.length := by
      rcases g7 with ⟨q1, q2⟩ | ⟨q1, rd', q2, q3⟩
      · refine ⟨fun cb hcb => ?_, by rw [q2, g4]; exact p2, by rw [q2]⟩
        subst hcb
        have := p3.2.2.2
        rw [oA.emb, if_pos q1] at this
        rw [oA.emb, if_pos (by rw [g6]; exact q1), q2]
        exact cC.mono (Ext0.refl _ w) (fun _ hb => .inl hb) (iA.le_refl _) _ _ _ rfl this
      · cases pl with
        | none =>
          simp only [yH] at p3
          rw [p3] at q2
          simp only [lH, Option.some.injEq, Prod.mk.injEq] at q2
          exact ⟨fun cb hcb => (by cases hcb), fun e he => (by rw [← q2.1] at he; cases he), (by rw [← q2.1, p3])⟩
        | some cb =>
          have := p3.2.2.2
          rw [oA.emb, if_neg (by simp [q1])] at this
          obtain ⟨i1, i2, i3⟩ := zbC h ns x.es y.es rd' 0 q2 p2 this
          refine ⟨fun cb' hcb => ?_, by rw [g4]; exact i2, i3⟩
          cases hcb
          rw [oA.emb, if_neg (by rw [g6]; simp [q1])]
          exact cC.mono (Ext0.refl _ w) (sC.mono (fun c hc => hsub c (q3 c hc))) (iA.le_refl _) _ _ _ rfl i1
    refine ⟨pl, by rw [pk m b _ g1, g3, g4]; exact p1, hes.2.1, ?_⟩
    cases pl with
    | none => simp only [yH] at p3 ⊢; exact List.eq_nil_of_length_eq_zero (by rw [hes.2.2, p3]; rfl)
    | some cb =>
      obtain ⟨f1, f2, f3, f4⟩ := p3
      refine ⟨f1, fun ho hL => ?_, by rw [hes.2.2, g4]; exact f3, hes.1 cb rfl⟩
      rcases hL with q | ⟨n, hn', z, hz, sz, e⟩
      · exact f2 (by rw [← g5]; exact ho) q
      · have := h.inj n b z x cb _ _ hz g2 e p1
        exact hdis b (List.mem_of_getElem? g1) (this ▸ hn')
  · obtain ⟨b, x, g1, g2, g3, -⟩ := get m y hy
    rw [pk m b _ g1]
    exact h.gen b x g2 g (by rw [← g3]; exact hg)
  · obtain ⟨b, x, g1, g2, g3, -⟩ := get m y hy
    obtain ⟨b', x', g1', g2', g3', -⟩ := get m' y' hy'
    rw [pk m b _ g1, g3] at e1
    rw [pk m' b' _ g1', g3'] at e2
    have := h.inj b b' x x' cb sz sz' g2 g2' e1 e2
    subst this
    have hm := (List.getElem?_eq_some_iff.1 g1).1
    have hm' := (List.getElem?_eq_some_iff.1 g1').1
    have e3 := (List.getElem?_eq_some_iff.1 g1).2
    have e4 := (List.getElem?_eq_some_iff.1 g1').2
    exact (List.getElem_inj hn).1 (e3.trans e4.symm)
end
def qD (P : Program) (s : St) : List ResultVar → Option (List AV)
  | [] => some []
  | .tmp t :: rs => match qD P s rs with | some vs => some (mB s.fr t :: vs) | none => none
  | .cell a t :: rs => match aM P t (mB s.fr a) (xA s.hp), qD P s rs with
    | some (v, _), some vs => some (v :: vs)
    | _, _ => none
def mG : List AV → AV
  | [v] => v
  | vs => .tup vs
def rV (tmps : Array Value) : ResultVar → Sem Value
  | .tmp t => pure (tmps.getD t undef)
  | .cell c t => do loadVar t (← asAddr (tmps.getD c undef))
theorem zfC (fn : Func) (tmps : Array Value) : results fn tmps = (do let vs ← fn.results.mapM (rV tmps); pure (if h : vs.size = 1 then vs[0] else .tuple vs)) := by
  unfold results
  congr 1
theorem qZ {P : Program} {w0 w : World} {F : Nat → Prop} {φ : iA} {nt : Nat} {tmps : Array Value} {s : St} (hm : dD w0 w F φ s) (ht : zD w F φ (mB s.fr) nt tmps) : ∀ (rs : List ResultVar) (vs : List AV), qD P s rs = some vs →
    ∃ xs, (rs.mapM (rV tmps)).run P w = .ok xs w ∧ tA w F φ vs xs
  | [], vs, h => by simp [qD] at h; subst h; exact ⟨[], by simp, by simp [tA]⟩
  | .tmp t :: rs, vs, h => by
    simp only [qD] at h
    split at h
    · rename_i vs' hr; cases h
      obtain ⟨xs, h1, h2⟩ := qZ hm ht rs vs' hr
      exact ⟨tmps.getD t undef :: xs, by simp only [List.mapM_cons, Sem.run_bind, Sem.run_pure, Result.andThen_ok, rV, h1], by simp only [tA]; exact ⟨_, _, rfl, ht.val t, h2⟩⟩
    · cases h
  | .cell c t :: rs, vs, h => by
    simp only [qD] at h
    split at h
    · rename_i v _ vs' hl hr; cases h
      obtain ⟨xs, h1, h2⟩ := qZ hm ht rs vs' hr
      obtain ⟨y, k1, k2⟩ := zcR (P := P) hm.heap hl (ht.val c)
      refine ⟨y :: xs, ?_, by simp only [tA]; exact ⟨_, _, rfl, k2, h2⟩⟩
      have hp : ∃ ad, tmps.getD c undef = .pointer (some ad) := by
        have hv := ht.val c
        unfold aM at hl
        split at hl
        · split at hl
          · rename_i b g i j he; rw [he] at hv; simp only [fA] at hv; obtain ⟨cb, sz, -, e⟩ := hv; exact ⟨_, e⟩
          · rename_i cs he; rw [he] at hv; simp only [fA] at hv; obtain ⟨b, o, e, -⟩ := hv; exact ⟨_, e⟩
          · cases hl
        · cases hl
      obtain ⟨ad, hp⟩ := hp
      rw [hp] at k1
      simp only [Instr.loadAt, Instr.sureAddr, Sem.run_bind, Sem.run_pure, Result.andThen_ok] at k1
      simp only [List.mapM_cons, Sem.run_bind, Sem.run_pure, Result.andThen_ok, rV, hp, show asAddr (.pointer (some ad)) = pure ad from rfl, k1, h1]
    · cases h
theorem wZ {P : Program} {w0 w : World} {F : Nat → Prop} {φ : iA} {nt : Nat} {tmps : Array Value} {s : St} (hm : dD w0 w F φ s) (ht : zD w F φ (mB s.fr) nt tmps) {fn : Func} {vs : List AV} (h : qD P s fn.results.toList = some vs) :
    ∃ x, (results fn tmps).run P w = .ok x w ∧ fA w F φ (mG vs) x := by
  obtain ⟨xs, h1, h2⟩ := qZ (P := P) hm ht _ _ h
  rw [zfC, Array.mapM_eq_mapM_toList]
  simp only [Sem.run_bind, Sem.run_map, h1, Result.andThen_ok, Sem.run_pure]
  refine ⟨_, rfl, ?_⟩
  have hl := h2.length
  unfold mG
  split
  · rename_i v
    simp only [List.length_cons, List.length_nil] at hl
    simp only [tA] at h2
    obtain ⟨y, _, rfl, hy, rfl⟩ := h2
    simpa using hy
  · rename_i vs hne
    have : ¬ xs.length = 1 := by
      intro e
      rw [← hl] at e
      obtain ⟨v, rfl⟩ := List.length_eq_one_iff.1 e
      exact hne v rfl
    simp only [List.size_toArray, this, dite_false]
    simp only [fA]
    exact ⟨xs, rfl, h2⟩
def aB : Nat → List AV → List (Nat × AV)
  | _, [] => []
  | i, v :: vs => (i, v) :: aB (i + 1) vs
theorem zk8 (vs : List AV) : ∀ (i t : Nat), mB (aB i vs) t = if i ≤ t then (match vs[t - i]? with | some v => v | none => .top) else .top := by
  induction vs with
  | nil => intro i t; simp [aB, mT]
  | cons v vs ih =>
    intro i t
    simp only [aB, sO, ih]
    by_cases e : t = i
    · subst e; simp
    · rw [if_neg e]
      by_cases h : i ≤ t
      · rw [if_pos (show i + 1 ≤ t by omega), if_pos h, show t - i = (t - (i + 1)) + 1 by omega]; simp
      · rw [if_neg (by omega), if_neg h]
section
variable {w0 w : World} {F : Nat → Prop} {φ : iA} {U : Nat → Prop} {η : fB}
theorem Ext0.put {k : Nat} {o o' : Obj} (hF : ∀ b o, F b → w.heap[b]? = some o → xN o = false) (ho : w.heap[k]? = some o) (hr : xN o = true) : Ext0 F w (w.putObj k o') := by
  refine ⟨by simp, fun b hb => World.putObj_heap_other fun e => ?_, fun b x hx => ?_⟩
  · subst e; have := hF b o hb ho; rw [this] at hr; cases hr
  · by_cases e : b = k
    · subst e
      simp only [World.shape?, ho] at hx
      cases o <;> simp_all [xN]
    · rw [wU (World.putObj_heap_other e)]; exact hx
theorem qB.put {k : Nat} {o o' : Obj} (h : qB w0 w F φ U η) (ho : w.heap[k]? = some o) (hr : xN o = true) (h0 : w0.heap.size ≤ k) : qB w0 (w.putObj k o') F φ U η := by
  have hx := Ext0.put (o' := o') h.fwk ho hr
  refine ⟨⟨h.below.os, h.below.tape, h.below.output, by simp [h.below.size], fun b hb => (World.putObj_heap_other (by omega)).trans (h.below.block b hb)⟩, fun b hb => by rw [World.putObj_size]; exact h.fb b hb, h.used, fun b g cb sz e => by rw [World.putObj_size]; exact h.inb b g cb sz e, fun b x hx' => ?_, h.gen, h.inj, fun b o2 hb ho2 => h.fwk b o2 hb (by rw [← hx.same b hb]; exact ho2)⟩
  obtain ⟨pl, p1, p2, p3⟩ := h.blk b x hx'
  refine ⟨pl, p1, p2, p3.mono hx (iA.le_refl _) fun cb e => World.putObj_heap_other fun e2 => ?_⟩
  subst e; subst e2
  obtain ⟨-, -, ⟨c, el, q, -⟩, -⟩ := p3
  rw [q] at ho; cases ho; cases hr
theorem dD.put {k : Nat} {s : St} (h : dD w0 w F φ s) (ho : nE w k) (h0 : w0.heap.size ≤ k) (hd : ∀ l x k' rec, xA s.lp l = some x → φ.loop l = some k' → w.heap[k']? = some (.loop rec) → rec.defers ≠ k) : dD w0 (w.putObj k (.deferred none)) F φ s := by
  have hx := Ext0.put (o' := .deferred none) h.heap.fwk ho rfl
  refine ⟨h.heap.put ho rfl h0, fun l x hl => ?_, fun l k' hk => ?_, h.linj⟩
  · refine ⟨fun hm0 => ?_, fun m hm1 => ?_⟩
    · obtain ⟨k', rec, h1, h2, h3, h4, h5, h6, h7, h8, h9, h10⟩ := (h.lps l x hl).1 hm0
      refine ⟨k', rec, h1, h2, ?_, h4, h5, h6, h7, h8, ⟨h9.size, fun t => fA.mono hx (fun _ h => h) (iA.le_refl _) _ _ (h9.val t)⟩, ?_⟩
      · rw [World.putObj_heap_other fun e => ?_]; exact h3
        subst e; rw [ho] at h3; cases h3
      · unfold nE
        rw [World.putObj_heap_other (hd l x k' rec hl h1 h3)]; exact h10
    · obtain ⟨k', es, c, h1, h2, h3, h4⟩ := (h.lps l x hl).2 m hm1
      refine ⟨k', es, c, h1, h2, ?_, h4.mono hx (fun _ h => h)⟩
      rw [World.putObj_heap_other fun e => ?_]; exact h3
      subst e; rw [ho] at h3; cases h3
  · rw [World.putObj_size]; exact h.lused l k' hk
end
def EWP (P : Program) (f : FuncId) (args : List AV) (K : AV → St → Prop) (s : St) : Prop :=
  Ent P f ∧ ∀ (w0 w : World) (F : Nat → Prop) (φ : iA) (vs : List Value), dD w0 w F φ s → tA w F φ args vs →
    Calls P f ⟨vs⟩ w fun e w' => ∃ v r s' φ' F', e = .returned v ∧ dD w0 w' F' φ' s' ∧ uC w0 w F φ w' F' φ' ∧ fA w' F' φ' r v ∧ K r s'
theorem pU (P : Program) (s : St) (lp : List (Nat × kD)) : ∀ rs : List ResultVar, qD P { s with lp := lp } rs = qD P s rs
  | [] => rfl
  | .tmp t :: rs => by simp only [qD, pU P s lp rs]
  | .cell a t :: rs => by simp only [qD, pU P s lp rs]
def yM (P : Program) (rs : List ResultVar) (N : List Nat) (K : AV → St → Prop) : Exit → St → Prop
  | .normal, s => ∃ vs, qD P s rs = some vs ∧ K (mG vs) { s with lp := tD N s.lp }
  | .ret, s => ∃ vs, qD P s rs = some vs ∧ K (mG vs) { s with lp := tD N s.lp }
  | _, _ => False
theorem zbN {P : Program} {w0 w : World} {F : Nat → Prop} {φ : iA} {fn : Func} {nt : Nat} {tmps : Array Value} {K : AV → St → Prop} {s : St} {F' : Nat → Prop} {φ' : iA} (hF : ∀ b o, F b → w.heap[b]? = some o → xN o = false) (h0 : w0.heap.size ≤ w.heap.size)
    (hlp : ∀ l x, xA s.lp l = some x → ∃ k : Nat, φ.loop l = some k ∧ ((∃ rec : Loop, w.heap[k]? = some (.loop rec) ∧ nE w rec.defers) ∨ ∃ es c, w.heap[k]? = some (.map es c))) {vs : List AV} (hres : qD P s fn.results.toList = some vs) (hK : K (mG vs) s) : ∀ (Ds : List Nat) (w1 : World), dD w0 w1 F' φ' s → zD w1 F' φ' (mB s.fr) nt tmps → uC w0 w F φ w1 F' φ' → Ds.Nodup → (∀ D, D ∈ Ds → w.heap.size ≤ D ∧ nE w1 D) →
      LeavesInM Fence.wide 0 P fn tmps (fun e w' => ∃ v r s' φ' F', e = .returned v ∧ dD w0 w' F' φ' s' ∧ uC w0 w F φ w' F' φ' ∧ fA w' F' φ' r v ∧ K r s') (Ds.map eP) .returning w1
  | [], w1, hm, ht, hg, _, _ => by
    obtain ⟨x, h1, h2⟩ := wZ hm ht hres
    exact ⟨x, h1, x, mG vs, s, φ', F', rfl, hm, hg, h2, hK⟩
  | D :: Ds, w1, hm, ht, hg, hn, hD => by
    obtain ⟨d1, d2⟩ := hD D (by simp)
    have hx := Ext0.put (o' := .deferred none) hm.heap.fwk d2 rfl
    refine ⟨by simp, .inl ⟨D, w1.putObj D (.deferred none), rfl, run_takeDeferred d2, ?_⟩⟩
    have hn' := List.nodup_cons.1 hn
    refine zbN hF h0 hlp hres hK Ds _ (hm.put d2 (by omega) fun l x k' rec hl hk' hr => ?_) ⟨ht.size, fun t => fA.mono hx (fun _ h => h) (iA.le_refl _) _ _ (ht.val t)⟩ ?_ hn'.2 fun D' hD' => ?_
    · obtain ⟨k, q1, q23⟩ := hlp l x hl
      have e := hg.le.2 _ _ q1
      rw [hk'] at e; cases e
      rcases q23 with ⟨rec0, q2, q3⟩ | ⟨es, c, q2⟩
      rotate_left
      · obtain ⟨es', c', p1⟩ := hg.mps k' es c q2
        rw [hr] at p1; cases p1
      obtain ⟨rec', p1, p2⟩ := hg.lps k' rec0 q2
      rw [hr] at p1; cases p1
      have : rec0.defers < w.heap.size := (Array.getElem?_eq_some_iff.1 q3).1
      omega
    · refine ⟨hg.le, hg.sub, hg.new, hg.ext.trans hx hg.sub, fun k hk => ?_, fun k rec hk => ?_, fun k es c hk => ?_⟩
      · have : k < w.heap.size := (Array.getElem?_eq_some_iff.1 hk).1
        unfold nE
        rw [World.putObj_heap_other (by omega)]; exact hg.opn k hk
      · have : k < w.heap.size := (Array.getElem?_eq_some_iff.1 hk).1
        rw [World.putObj_heap_other (by omega)]; exact hg.lps k rec hk
      · have : k < w.heap.size := (Array.getElem?_eq_some_iff.1 hk).1
        rw [World.putObj_heap_other (by omega)]; exact hg.mps k es c hk
    · obtain ⟨q1, q2⟩ := hD D' (by simp [hD'])
      refine ⟨q1, ?_⟩
      unfold nE
      rw [World.putObj_heap_other (fun e => by subst e; exact hn'.1 hD')]; exact q2
theorem zdh {w : World} {F : Nat → Prop} {φ : iA} {args : List AV} {vs : List Value} (hvs : tA w F φ args vs) {nt : Nat} (hl : args.length ≤ nt) : zD w F φ (mB (aB 0 args)) nt (⟨vs⟩ ++ Array.replicate (nt - (⟨vs⟩ : Array Value).size) undef) := by
  have hlen := hvs.length
  refine ⟨by simp; omega, fun t => ?_⟩
  rw [zk8]
  simp only [Nat.zero_le, if_true, Nat.sub_zero]
  cases ha : args[t]? with
  | none => simp [fA]
  | some v =>
    obtain ⟨x, hx, hr⟩ := hvs.get ha
    have hlt := (List.getElem?_eq_some_iff.1 hx).1
    have : ((⟨vs⟩ : Array Value) ++ Array.replicate (nt - (⟨vs⟩ : Array Value).size) undef).getD t undef = x := by
      rw [Array.getD_eq_getD_getElem?, Array.getElem?_append_left (by simpa using hlt)]
      simp [hx]
    simp only [this]; exact hr
theorem zai {P : Program} {f : FuncId} {fn : Func} {c : Code} {args : List AV} {K : AV → St → Prop} {s : St} (hf : P.funcs[f]? = some fn) (hb : fn.body = some c) (hn : fn.name ≠ "runtime.NumGoroutine") (hl : args.length ≤ fn.ntmps)
    (h : pA P fn.ntmps c (yM P fn.results.toList (s.lp.map (·.1)) K) ⟨aB 0 args, s.hp, s.nx, s.lp⟩) : EWP P f args K s := by
  refine ⟨fun as w => by simp [callFunc, hf, hn, hb], fun w0 w F φ vs hm hvs => ?_⟩
  refine (callsIn_wide (n := 0)).1 (callsIn_of_wp_marks hf hb trivial ?_)
  have hfits : jE ⟨none, w.heap.size, []⟩ w0 w F φ fn.ntmps { tmps := ⟨vs⟩ ++ Array.replicate (fn.ntmps - (⟨vs⟩ : Array Value).size) undef, defers := [] } ⟨aB 0 args, s.hp, s.nx, s.lp⟩ :=
    ⟨⟨hm.heap, hm.lps, hm.lused, hm.linj⟩, zdh hvs hl, ⟨⟨[], rfl, List.nodup_nil, fun D hD => by simp at hD⟩, fun l0 hl0 => by simp at hl0, hm.heap.below.size, Nat.le_refl _⟩⟩
  refine wpIn_mono (h _ w0 w F φ _ hfits) ?_
  rintro e a' w' ⟨s', φ', F', k1, k2, k3⟩
  obtain ⟨Ds, d1, d2, d3⟩ := k1.env.dfr
  simp only [List.append_nil] at d1
  have fin : (∃ vs, qD P s' fn.results.toList = some vs ∧ K (mG vs) { s' with lp := tD (s.lp.map (·.1)) s'.lp }) → LeavesInM Fence.wide 0 P fn a'.tmps (fun e w' => ∃ v r s' φ' F', e = .returned v ∧ dD w0 w' F' φ' s' ∧ uC w0 w F φ w' F' φ' ∧ fA w' F' φ' r v ∧ K r s') a'.defers .returning w' := by
    rintro ⟨vs', g1, g2⟩
    rw [d1]
    refine zbN (s := { s' with lp := tD (s.lp.map (·.1)) s'.lp }) hm.heap.fwk hm.heap.below.size (fun l x hx => ?_) (by rw [pU]; exact g1) g2 Ds w' ⟨k1.mem.heap, fun l x hx => k1.mem.lps l x (uR _ _ _ _ hx), k1.mem.lused, k1.mem.linj⟩ k1.tmps k2 d2 d3
    obtain ⟨x0, hx0⟩ := yY l _ (eW _ _ _ _ hx)
    cases hm0 : x0.mp with
    | none =>
      obtain ⟨k, rec, q1, -, q3, -, -, -, -, -, -, q4⟩ := (hm.lps l x0 hx0).1 hm0
      exact ⟨k, q1, .inl ⟨rec, q3, q4⟩⟩
    | some m =>
      obtain ⟨k, es, c, q1, -, q3, -⟩ := (hm.lps l x0 hx0).2 m hm0
      exact ⟨k, q1, .inr ⟨es, c, q3⟩⟩
  cases e with
  | normal => exact fin k3
  | ret => exact fin k3
  | exit id => exact k3.elim
  | goto l => exact k3.elim
  | panic ch => exact k3.elim
  | outgrown => exact k3.elim
end Go.AM
