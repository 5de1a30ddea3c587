/- A text of the proof. -/
import Derived.Test.YtnlggkiekcpahaaGreatBAmZa
set_option linter.unusedSimpArgs false
set_option linter.unusedVariables false
namespace Go.AM
open Go Go.RowKit
def ix {α : Type} (l : List α) (i : Int) : Option α := if 0 ≤ i then l[i.toNat]? else none
theorem wA {α : Type} {l : List α} {i : Int} {x : α} (h : ix l i = some x) : 0 ≤ i ∧ i < (l.length : Int) ∧ l[i.toNat]? = some x := by
  unfold ix at h
  split at h
  · rename_i h0
    refine ⟨h0, ?_, h⟩
    have := (List.getElem?_eq_some_iff.1 h).1
    omega
  · cases h
theorem cG {α : Type} {l : List α} {i : Int} {x : α} (n : Nat) (h : ix l i = some x) (e : i = (n : Int)) : l[n]? = some x ∧ n < l.length := by
  subst e
  have := wA h
  simp only [Int.toNat_natCast] at this
  exact ⟨this.2.2, by omega⟩
theorem bA {α β : Type} {x : Option α} {f : α → Option β} {r : β} (h : x.bind f = some r) : ∃ a, x = some a ∧ f a = some r := by
  cases x with
  | none => cases h
  | some a => exact ⟨a, rfl, h⟩
theorem aB {α : Type} {c : Bool} {a b r : α} (h : (if c = true then a else b) = r) (hc : c = true) : a = r := by rwa [if_pos hc] at h
theorem qA {α : Type} {c : Bool} {a b r : α} (h : (if c = true then a else b) = r) (hc : c = false) : b = r := by rwa [if_neg (by simp [hc])] at h
theorem pD {α : Type} {c : Prop} [Decidable c] {a : Option α} {r : α} (h : (if c then a else none) = some r) : c ∧ a = some r := by
  split at h
  · rename_i hc; exact ⟨hc, h⟩
  · cases h
section
variable {P : Program} {nt : Nat} {K : Exit → St → Prop} {fr fr' : List (Nat × AV)} {hp hp' : List (Nat × pA)} {nx : Nat} {lp : List (Nat × vD)}
theorem nB {id : Nat} {l : List Oper} (nx2 : Nat) (L : List Nat) (ans : Nat → Option (AV × List pA)) (hnx : nx + 8 * l.length = nx2)
    (h1 : ∀ Kt : List (Nat × AV) → List (Nat × pA) → Prop, Kt fr' hp' → @WL P nt ⟨l⟩ ans (Xa nx) (pE 0 l) fr hp ⟨[], []⟩ fun fr hp _ => Kt (tE L fr) hp)
    (h2 : K .normal ⟨fr', hp', nx2, lp⟩) : vB P nt (.region id (List.toArray l) false) K ⟨fr, hp, nx, lp⟩ := by subst hnx; exact awp_r (s := ⟨fr, hp, nx, lp⟩) L ans h1 h2
theorem qG {id : Nat} {l : List Oper} (nx2 : Nat) (L : List Nat) (ans : Nat → Option (AV × List pA)) (hnx : nx + 8 * l.length = nx2) (hmix : P.follows .mixedOrders = true) (hback : gL 0 l = true)
    (h1 : ∀ Kt : List (Nat × AV) → List (Nat × pA) → Prop, Kt fr' hp' → @WL P nt ⟨l⟩ ans (Xa nx) (pE 0 l) fr hp ⟨l, []⟩ fun fr hp acc => @sR acc ∧ Kt (tE L fr) hp)
    (h2 : K .normal ⟨fr', hp', nx2, lp⟩) : vB P nt (.region id (List.toArray l) true) K ⟨fr, hp, nx, lp⟩ := by subst hnx; exact awp_d (s := ⟨fr, hp, nx, lp⟩) L ans hmix hback h1 h2
theorem nA {id : Nat} {l : List Oper} {y : Code} (nx2 : Nat) (L : List Nat) (ans : Nat → Option (AV × List pA)) (hnx : nx + 8 * l.length = nx2)
    (h1 : ∀ Kt : List (Nat × AV) → List (Nat × pA) → Prop, Kt fr' hp' → @WL P nt ⟨l⟩ ans (Xa nx) (pE 0 l) fr hp ⟨[], []⟩ fun fr hp _ => Kt (tE L fr) hp)
    (h2 : vB P nt y K ⟨fr', hp', nx2, lp⟩) : vB P nt (.seq (.region id (List.toArray l) false) y) K ⟨fr, hp, nx, lp⟩ := iA (nB nx2 L ans hnx h1 h2)
theorem pC {id : Nat} {l : List Oper} {y : Code} (nx2 : Nat) (L : List Nat) (ans : Nat → Option (AV × List pA)) (hnx : nx + 8 * l.length = nx2) (hmix : P.follows .mixedOrders = true) (hback : gL 0 l = true)
    (h1 : ∀ Kt : List (Nat × AV) → List (Nat × pA) → Prop, Kt fr' hp' → @WL P nt ⟨l⟩ ans (Xa nx) (pE 0 l) fr hp ⟨l, []⟩ fun fr hp acc => @sR acc ∧ Kt (tE L fr) hp)
    (h2 : vB P nt y K ⟨fr', hp', nx2, lp⟩) : vB P nt (.seq (.region id (List.toArray l) true) y) K ⟨fr, hp, nx, lp⟩ := iA (qG nx2 L ans hnx hmix hback h1 h2)
variable {s : St}
theorem kK {c : Operand} {x y : Code} (hc : yB (pB s.fr) c = .bool true) (h : vB P nt x K s) : vB P nt (.cond c x y) K s := zbN hc h
theorem qF {c : Operand} {x y : Code} (hc : yB (pB s.fr) c = .bool false) (h : vB P nt y K s) : vB P nt (.cond c x y) K s := zbN hc h
theorem jV {b : Frame} {a : Act} {k : List Item} {cs : List Frame} {w : World} {c : Code} : step P (lone (b.atR a (.code (.scope c) :: k)) cs w) = .next (lone (b.atR a (.code c :: .inScope c :: k)) cs w) :=
  step_lone_go (by simp [stepG, stepG.exec, Frame.atR])
theorem zf0 {b : Frame} {a : Act} {k : List Item} {cs : List Frame} {w : World} {c : Code} : step P (lone (b.atR a (.inScope c :: k)) cs w) = .next (lone (b.atR a k) cs w) :=
  step_lone_go (by simp [stepG, stepG.exec, Frame.atR])
def noGo (Q : Exit → Act → World → Prop) : Exit → Act → World → Prop
  | .goto _, _, _ => False
  | e, a, w => Q e a w
theorem zcY {F : Fence} {n : Nat} {Q : Exit → Act → World → Prop} {c : Code} {a : Act} {w : World} (h : c.wpIn F n P (noGo Q) a w) : (Code.scope c).wpIn F n P Q a w := by
  intro b k cs hro hb hr
  obtain ⟨e, a1, w1, hq, harr⟩ := h b (.inScope c :: k) cs hro hb hr
  have h0 : (lone (b.atR a (.code (.scope c) :: k)) cs w).fenced P F := fenced_calm hb hr rfl
  cases e with
  | normal => exact ⟨.normal, a1, w1, hq, .head h0 jV (StepsIn.trans harr (.one (fenced_calm hb hr rfl) zf0))⟩
  | exit id =>
    have hx : exitTo id (.inScope c :: k) = exitTo id k := by simp [exitTo]
    exact ⟨.exit id, a1, w1, hq, fun k' hk => .head h0 jV (harr.1 k' (by rw [hx]; exact hk)),
      fun hr' hk => let ⟨k₁, h1, h2⟩ := harr.2 hr' (by rw [hx]; exact hk); ⟨k₁, h1, .head h0 jV h2⟩⟩
  | goto l => exact hq.elim
  | ret => exact ⟨_, a1, w1, hq, .of_steps (.one h0 jV) harr⟩
  | panic ch => exact ⟨_, a1, w1, hq, .of_steps (.one h0 jV) harr⟩
  | outgrown => exact ⟨_, a1, w1, hq, .of_steps (.one h0 jV) harr⟩
def zdg (K : Exit → St → Prop) : Exit → St → Prop
  | .goto _, _ => False
  | e, s => K e s
theorem zm9 {c : Code} (h : vB P nt c (zdg K) s) : vB P nt (.scope c) K s := by
  intro cx w0 w F φ a hf
  refine zcY (wpIn_mono (h cx w0 w F φ a hf) ?_)
  rintro e a' w' ⟨s', φ', F', h1, h2, h3⟩
  cases e with
  | goto l => exact h3.elim
  | normal => exact ⟨s', φ', F', h1, h2, h3⟩
  | exit id => exact ⟨s', φ', F', h1, h2, h3⟩
  | ret => exact ⟨s', φ', F', h1, h2, h3⟩
  | panic ch => exact ⟨s', φ', F', h1, h2, h3⟩
  | outgrown => exact ⟨s', φ', F', h1, h2, h3⟩
theorem wZ (h : K .ret s) : zdg K .ret s := h
theorem xA {n : St → Prop} {i : Nat} (h : K (.exit i) s) : qN n K (.exit i) s := h
theorem zbb {i : Nat} (h : K .normal s) : jM i K (.exit i) s := by simp only [jM, if_true]; exact h
theorem xP {i j : Nat} (e : i ≠ j) (h : K (.exit i) s) : jM j K (.exit i) s := by simp only [jM, if_neg e]; exact h
theorem dA {n : St → Prop} (h : n s) : qN n K .normal s := h
theorem qB {i : Nat} (h : K .normal s) : jM i K .normal s := h
theorem mA {n : St → Prop} (h : K .ret s) : qN n K .ret s := h
theorem cC {i : Nat} (h : K .ret s) : jM i K .ret s := h
def wO (i : Nat) (D : St → Prop) (K : Exit → St → Prop) : Exit → St → Prop
  | .normal, _ => False
  | .exit j, s => if j = i then D s else K (.exit j) s
  | e, s => K e s
theorem iC {i : Nat} {D : St → Prop} (h : D s) : wO i D K (.exit i) s := by simp only [wO, if_true]; exact h
theorem zbf {i j : Nat} {D : St → Prop} (e : j ≠ i) (h : K (.exit j) s) : wO i D K (.exit j) s := by simp only [wO, if_neg e]; exact h
theorem wC {i : Nat} {D : St → Prop} (h : K .ret s) : wO i D K .ret s := h
theorem zdI {i : Nat} {c y : Code} (D : St → Prop) (hD : ∀ s', D s' → vB P nt y K s') (hl : vB P nt (.loop c) (wO i D K) s) : vB P nt (.seq (.block i (.loop c)) y) K s := by
  refine zkf (zev hl ?_)
  intro e s' h
  cases e with
  | exit j =>
    simp only [wO, jM] at h ⊢
    split
    · rename_i e; rw [if_pos e] at h; exact hD _ h
    · rename_i e; rw [if_neg e] at h; exact h
  | normal => exact h.elim
  | goto l => exact h
  | ret => exact h
  | panic c => exact h
  | outgrown => exact h
theorem oC {i : Nat} {c : Code} (D : St → Prop) (hD : ∀ s', D s' → K .normal s') (hl : vB P nt (.loop c) (wO i D K) s) : vB P nt (.block i (.loop c)) K s := by
  refine xB (zev hl ?_)
  intro e s' h
  cases e with
  | exit j =>
    simp only [wO, jM] at h ⊢
    split
    · rename_i e; rw [if_pos e] at h; exact hD _ h
    · rename_i e; rw [if_neg e] at h; exact h
  | normal => exact h.elim
  | goto l => exact h
  | ret => exact h
  | panic c => exact h
  | outgrown => exact h
theorem znJ : fE P s [] = some [] := rfl
theorem zha {t : Nat} {rs : List ResultVar} : fE P s (.tmp t :: rs) = Bd (Xa (fE P s rs)) fun vs => some (pB s.fr t :: vs) := by
  simp only [fE]; cases fE P s rs <;> rfl
theorem zm3 {a : Nat} {t : TypeId} {rs : List ResultVar} : fE P s (.cell a t :: rs) = Bd (Xa (tD P t)) fun ag => Bd (Xa (tB P t)) fun n => Bd (Xa (mN ag n (pB s.fr a) (vA s.hp))) fun r => Bd (Xa (fE P s rs)) fun vs => some (r.1 :: vs) := by
  simp only [fE, iO]
  cases tD P t with
  | none => rfl
  | some ag => cases tB P t with
    | none => rfl
    | some n =>
      show (match mN ag n (pB s.fr a) (vA s.hp), fE P s rs with | some (v, _), some vs => some (v :: vs) | _, _ => none) = _
      simp only [Bd, Xa]
      cases mN ag n (pB s.fr a) (vA s.hp) with
      | none => cases fE P s rs <;> rfl
      | some r => cases fE P s rs <;> rfl
theorem lA {rs : List ResultVar} {r : AV} {blks : List pA} {N : List Nat} (ns : List Nat) (h : zB (fE P s rs) fun vs => eT ns r blks (kH vs) { s with lp := gE N s.lp }) : qP P rs N (fun v s => ∃ ns, eT ns r blks v s) .ret s := by
  obtain ⟨vs, h1, h2⟩ := h.get
  exact ⟨vs, h1, ns, h2⟩
end
theorem resV_1 {v : AV} : kH [v] = v := rfl
theorem resV_0 : kH [] = .tup [] := rfl
theorem resV_2 {v w : AV} {vs : List AV} : kH (v :: w :: vs) = .tup (v :: w :: vs) := rfl
section
variable {η : gB} {d : Nat} {ns : List Nat}
theorem zhW {k : IntKind} {n : Int} : kC ns η (d + 1) (.int k n) = some (.int k n, []) := rfl
theorem zko {s : List UInt8} : kC ns η (d + 1) (.str s) = some (.str s, []) := rfl
theorem zgK {b : Bool} : kC ns η (d + 1) (.bool b) = some (.bool b, []) := rfl
theorem exp_pp {cs : List AV} : kC ns η (d + 1) (.pp cs) = some (.pp cs, []) := rfl
theorem zhd {z : Nat} {es : List (List AV)} : kC ns η (d + 1) (.psl z es) = some (.psl z es, []) := rfl
theorem zg5 : kC ns η (d + 1) .nils = some (.nils, []) := rfl
theorem zlB : kC ns η (d + 1) .nilp = some (.nilp, []) := rfl
theorem zk7 : kC ns η (d + 1) .nilf = some (.nilf, []) := rfl
theorem zoL {cs : List AV} : kC ns η (d + 1) (.agg cs) = Bd (Xa (kC.exps ns η d cs)) fun p => some (.agg p.1, p.2) := by
  simp only [kC]; cases kC.exps ns η d cs <;> rfl
theorem zoJ {cs : List AV} : kC ns η (d + 1) (.tup cs) = Bd (Xa (kC.exps ns η d cs)) fun p => some (.tup p.1, p.2) := by
  simp only [kC]; cases kC.exps ns η d cs <;> rfl
theorem exp_fn {f : FuncId} {a c : List AV} : kC ns η (d + 1) (.fn f a c) = Bd (Xa (kC.exps ns η d a)) fun p => Bd (Xa (kC.exps ns η d c)) fun q => some (.fn f p.1 q.1, p.2 ++ q.2) := by
  simp only [kC]; cases kC.exps ns η d a <;> cases kC.exps ns η d c <;> rfl
theorem exp_sl {b g z off len : Nat} : kC ns η (d + 1) (.sl b g z off len) = match nO ns b with | some m => some (.sl m g z off len, []) | none => aC η (d + 1) (.sl b g z off len) := rfl
theorem znm {b g i j : Nat} : kC ns η (d + 1) (.ref b g i j) = match nO ns b with | some m => some (.ref m g i j, []) | none => aC η (d + 1) (.ref b g i j) := rfl
theorem zfM : kC.exps ns η (d + 1) [] = some ([], []) := rfl
theorem zmo {v : AV} {vs : List AV} : kC.exps ns η (d + 1) (v :: vs) = Bd (Xa (kC ns η d v)) fun p => Bd (Xa (kC.exps ns η d vs)) fun q => some (p.1 :: q.1, p.2 ++ q.2) := by
  simp only [kC.exps]; cases kC ns η d v <;> cases kC.exps ns η d vs <;> rfl
theorem zmI {b g i j : Nat} : aC η (d + 1) (.ref b g i j) = Bd (Xa (gH η b g i)) fun e => Bd (Xa (η b)) fun blk => if e.length < j then none else if blk.pure then some (.pp (e.drop j), [b]) else Bd (Xa (aC.purs η d (e.drop j))) fun p => some (.pp p.1, b :: p.2) := by
  simp only [aC]
  cases gH η b g i with
  | none => rfl
  | some e => cases η b with
    | none => rfl
    | some blk => simp only [Bd, Xa]; split
                  · rfl
                  · split
                    · rfl
                    · cases aC.purs η d (e.drop j) <;> rfl
theorem zgh : aM ns η [] = some ([], []) := rfl
theorem zgV {b : Nat} {bs : List Nat} : aM ns η (b :: bs) = Bd (Xa (η b)) fun x => Bd (Xa (aM ns η bs)) fun p => if x.pure then some (x :: p.1, p.2) else Bd (Xa (jI ns η x.es)) fun q => some ({ x with es := q.1 } :: p.1, q.2 ++ p.2) := by
  simp only [aM]
  cases η b with
  | none => rfl
  | some x => cases aM ns η bs with
    | none => rfl
    | some p => simp only [Bd, Xa]; split
                · rfl
                · cases jI ns η x.es <;> rfl
theorem zky : jI ns η [] = some ([], []) := rfl
theorem zoo {e : List AV} {es : List (List AV)} : jI ns η (e :: es) = Bd (Xa (kC.exps ns η 60 e)) fun p => Bd (Xa (jI ns η es)) fun q => some (p.1 :: q.1, p.2 ++ q.2) := by
  simp only [jI]; cases kC.exps ns η 60 e <;> cases jI ns η es <;> rfl
end
theorem N_eql {P : Program} {t : TypeId} {z : Nat} {es : List (List AV)} : eD P .eql t (.psl z es) .nils = Bd (Xa (iD P t)) fun _ => some (yO (if es.isEmpty then none else some false)) := by
  simp only [eD, nP, iD]
  cases P.underlying t with
  | none => rfl
  | some u => cases u <;> rfl
theorem N_neq {P : Program} {t : TypeId} {z : Nat} {es : List (List AV)} : eD P .neq t (.psl z es) .nils = Bd (Xa (iD P t)) fun _ => some (yO (if es.isEmpty then none else some true)) := by
  simp only [eD, nP, iD]
  cases P.underlying t with
  | none => rfl
  | some u => cases u <;> first | rfl | (cases es <;> rfl)
theorem N_eqlN {P : Program} {t : TypeId} : eD P .eql t .nils .nils = Bd (Xa (iD P t)) fun _ => some (.bool true) := by
  simp only [eD, nP, iD]
  cases P.underlying t with
  | none => rfl
  | some u => cases u <;> rfl
theorem Sl_emp {P : Program} {t : TypeId} {z : Nat} {es : List (List AV)} {k k' : IntKind} : wL P t (.psl z es) none (some (.int k 0)) (some (.int k' 0)) = Bd (Xa (iD P t)) fun e => Bd (Xa (tB P e)) fun _ => some .emp := by
  simp only [wL, iD]
  cases P.underlying t with
  | none => rfl
  | some u =>
    cases u with
    | slice e => simp only [Bd, Xa]; cases tB P e <;> simp [iE]
    | _ => rfl
theorem Sl_hi {P : Program} {t : TypeId} {z : Nat} {es : List (List AV)} {k : IntKind} {n : Int} : wL P t (.psl z es) none (some (.int k n)) none = Bd (Xa (iD P t)) fun e => Bd (Xa (tB P e)) fun sz => vC (0 ≤ n ∧ sz = z ∧ n.toNat ≤ es.length) (some (.psl z (es.take n.toNat))) := by
  simp only [wL, iD]
  cases P.underlying t with
  | none => rfl
  | some u =>
    cases u with
    | slice e =>
      simp only [Bd, Xa, vC]
      cases tB P e with
      | none => rfl
      | some sz =>
        by_cases h1 : 0 ≤ n <;> by_cases h2 : sz = z <;> by_cases h3 : n.toNat ≤ es.length <;> simp [iE, h1, h2, h3]
    | _ => rfl
def tStr (P : Program) (t : TypeId) : Option Unit := match P.underlying t with | some .string => some () | _ => none
theorem Sl_str {P : Program} {t : TypeId} {s : List UInt8} {k k' : IntKind} {n m : Int} : wL P t (.str s) (some (.int k n)) (some (.int k' m)) none = Bd (Xa (tStr P t)) fun _ => vC (0 ≤ n ∧ n ≤ m ∧ m ≤ s.length) (some (.str ((s.drop n.toNat).take (m.toNat - n.toNat)))) := by
  simp only [wL, tStr]
  cases P.underlying t with
  | none => rfl
  | some u =>
    cases u with
    | string =>
      simp only [Bd, Xa, vC, iE, Option.isSome_none, Bool.false_eq_true, if_false]
      by_cases h1 : 0 ≤ n
      · by_cases h2 : 0 ≤ m
        · rw [if_pos h1, if_pos h2]
          by_cases h3 : n ≤ m ∧ m ≤ s.length
          · rw [if_pos (show 0 ≤ n ∧ n ≤ m ∧ m ≤ s.length from ⟨h1, h3⟩)]; simp only; rw [if_pos (by omega)]
          · rw [if_neg (show ¬ (0 ≤ n ∧ n ≤ m ∧ m ≤ s.length) by omega)]; simp only; rw [if_neg (by omega)]
        · rw [if_pos h1, if_neg h2, if_neg (show ¬ (0 ≤ n ∧ n ≤ m ∧ m ≤ s.length) by omega)]
      · rw [if_neg h1, if_neg (show ¬ (0 ≤ n ∧ n ≤ m ∧ m ≤ s.length) by omega)]
    | _ => rfl
theorem takeM {α β : Type} {f : α → β} {l : List α} {n : Nat} : (List.map f l).take n = List.map f (l.take n) := List.map_take.symm
theorem ziC : AV.emp.cells = some [.emp] := rfl
theorem zh5 {η : gB} {d : Nat} : aC η (d + 1) .emp = some (.emp, []) := rfl
theorem zoT {ns : List Nat} {η : gB} {d : Nat} : kC ns η (d + 1) .emp = some (.emp, []) := rfl
theorem zet {P : Program} {nt : Nat} {K : Exit → St → Prop} {c : Code} {s s2 : St} (rd : List Nat) (h1 : ∀ Kt : St → Prop, Kt s2 → Kt (s.frz rd)) (h2 : vB P nt c K s2) : vB P nt c K s := zno rd (h1 _ h2)
def fA (k : IntKind) (n : Int) : List AV := [.int k n]
def jO (b : Bool) : List AV := [.bool b]
def zL (s : List UInt8) : List AV := [.str s]
def sA {α : Type} (z : Nat) (f : α → List AV) (l : List α) : List AV := [.psl z (l.map f)]
theorem zdy {α β : Type} {f : α → β} {l : List α} : (List.map f l).take l.length = List.map f l := by rw [← List.length_map (f := f)]; exact List.take_length
theorem wG {α : Type} {f : α → List AV} (h : ∀ x, AV.isP.isPs (f x) = true) (l : List α) : (l.map f).all AV.isP.isPs = true := by simp [h]
theorem gQ {α : Type} {f : α → List AV} (h : ∀ x, AV.flatR.flatRs (f x) = true) (l : List α) : (l.map f).all AV.flatR.flatRs = true := by simp [h]
theorem AV.LeN.of_eq {N : uD} {a b : AV} (h : a = b) : a.LeN N b := h ▸ AV.LeN.refl a
theorem qE.of_eq {N : uD} {a b : List (List AV)} (h : a = b) : qE N a b := h ▸ qE.refl a
theorem AV.Le.of_eq {a b : AV} (h : a = b) : a.Le b := h ▸ AV.Le.refl a
end Go.AM
