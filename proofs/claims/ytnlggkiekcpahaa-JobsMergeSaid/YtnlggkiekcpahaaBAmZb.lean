/- A text of the proof. -/
import Derived.Test.YtnlggkiekcpahaaBAmZa
set_option linter.unusedSimpArgs false
set_option linter.unusedVariables false
namespace Go.AM
open Go Go.RowKit
def ix {α : Type} (l : List α) (i : Int) : Option α := if 0 ≤ i then l[i.toNat]? else none
theorem dB {α : Type} {l : List α} {i : Int} {x : α} (h : ix l i = some x) : 0 ≤ i ∧ i < (l.length : Int) ∧ l[i.toNat]? = some x := by
  unfold ix at h
  split at h
  · rename_i h0
    refine ⟨h0, ?_, h⟩
    have := (List.getElem?_eq_some_iff.1 h).1
    omega
  · cases h
theorem kG {α : Type} {l : List α} {i : Int} {x : α} (n : Nat) (h : ix l i = some x) (e : i = (n : Int)) : l[n]? = some x ∧ n < l.length := by
  subst e
  have := dB h
  simp only [Int.toNat_natCast] at this
  exact ⟨this.2.2, by omega⟩
theorem fA {α β : Type} {x : Option α} {f : α → Option β} {r : β} (h : x.bind f = some r) : ∃ a, x = some a ∧ f a = some r := by
  cases x with
  | none => cases h
  | some a => exact ⟨a, rfl, h⟩
theorem lB {α : Type} {c : Bool} {a b r : α} (h : (if c = true then a else b) = r) (hc : c = true) : a = r := by rwa [if_pos hc] at h
theorem vA {α : Type} {c : Bool} {a b r : α} (h : (if c = true then a else b) = r) (hc : c = false) : b = r := by rwa [if_neg (by simp [hc])] at h
theorem pE {α : Type} {c : Prop} [Decidable c] {a : Option α} {r : α} (h : (if c then a else none) = some r) : c ∧ a = some r := by
  split at h
  · rename_i hc; exact ⟨hc, h⟩
  · cases h
section
variable {P : Program} {nt : Nat} {K : Exit → St → Prop} {fr fr' : List (Nat × AV)} {hp hp' : List (Nat × lA)} {nx : Nat} {lp : List (Nat × uD)}
theorem eC {id : Nat} {l : List Oper} (nx2 : Nat) (L : List Nat) (ans : Nat → Option (AV × List lA)) (hnx : nx + 8 * l.length = nx2)
    (h1 : ∀ Kt : List (Nat × AV) → List (Nat × lA) → Prop, Kt fr' hp' → @WL P nt ⟨l⟩ ans (Xa nx) (oE 0 l) fr hp ⟨[], []⟩ fun fr hp _ => Kt (uE L fr) hp)
    (h2 : K .normal ⟨fr', hp', nx2, lp⟩) : pA P nt (.region id (List.toArray l) false) K ⟨fr, hp, nx, lp⟩ := by subst hnx; exact awp_r (s := ⟨fr, hp, nx, lp⟩) L ans h1 h2
theorem zI {id : Nat} {l : List Oper} (nx2 : Nat) (L : List Nat) (ans : Nat → Option (AV × List lA)) (hnx : nx + 8 * l.length = nx2) (hmix : P.follows .mixedOrders = true) (hback : jK 0 l = true)
    (h1 : ∀ Kt : List (Nat × AV) → List (Nat × lA) → Prop, Kt fr' hp' → @WL P nt ⟨l⟩ ans (Xa nx) (oE 0 l) fr hp ⟨l, []⟩ fun fr hp acc => @bR acc ∧ Kt (uE L fr) hp)
    (h2 : K .normal ⟨fr', hp', nx2, lp⟩) : pA P nt (.region id (List.toArray l) true) K ⟨fr, hp, nx, lp⟩ := by subst hnx; exact awp_d (s := ⟨fr, hp, nx, lp⟩) L ans hmix hback h1 h2
theorem nA {id : Nat} {l : List Oper} {y : Code} (nx2 : Nat) (L : List Nat) (ans : Nat → Option (AV × List lA)) (hnx : nx + 8 * l.length = nx2)
    (h1 : ∀ Kt : List (Nat × AV) → List (Nat × lA) → Prop, Kt fr' hp' → @WL P nt ⟨l⟩ ans (Xa nx) (oE 0 l) fr hp ⟨[], []⟩ fun fr hp _ => Kt (uE L fr) hp)
    (h2 : pA P nt y K ⟨fr', hp', nx2, lp⟩) : pA P nt (.seq (.region id (List.toArray l) false) y) K ⟨fr, hp, nx, lp⟩ := kA (eC nx2 L ans hnx h1 h2)
theorem nD {id : Nat} {l : List Oper} {y : Code} (nx2 : Nat) (L : List Nat) (ans : Nat → Option (AV × List lA)) (hnx : nx + 8 * l.length = nx2) (hmix : P.follows .mixedOrders = true) (hback : jK 0 l = true)
    (h1 : ∀ Kt : List (Nat × AV) → List (Nat × lA) → Prop, Kt fr' hp' → @WL P nt ⟨l⟩ ans (Xa nx) (oE 0 l) fr hp ⟨l, []⟩ fun fr hp acc => @bR acc ∧ Kt (uE L fr) hp)
    (h2 : pA P nt y K ⟨fr', hp', nx2, lp⟩) : pA P nt (.seq (.region id (List.toArray l) true) y) K ⟨fr, hp, nx, lp⟩ := kA (zI nx2 L ans hnx hmix hback h1 h2)
variable {s : St}
theorem aM {c : Operand} {x y : Code} (hc : xB (mB s.fr) c = .bool true) (h : pA P nt x K s) : pA P nt (.cond c x y) K s := za9 hc h
theorem bG {c : Operand} {x y : Code} (hc : xB (mB s.fr) c = .bool false) (h : pA P nt y K s) : pA P nt (.cond c x y) K s := za9 hc h
theorem bT {b : Frame} {a : Act} {k : List Item} {cs : List Frame} {w : World} {c : Code} : step P (lone (b.atR a (.code (.scope c) :: k)) cs w) = .next (lone (b.atR a (.code c :: .inScope c :: k)) cs w) :=
  step_lone_go (by simp [stepG, stepG.exec, Frame.atR])
theorem zhC {b : Frame} {a : Act} {k : List Item} {cs : List Frame} {w : World} {c : Code} : step P (lone (b.atR a (.inScope c :: k)) cs w) = .next (lone (b.atR a k) cs w) :=
  step_lone_go (by simp [stepG, stepG.exec, Frame.atR])
def noGo (Q : Exit → Act → World → Prop) : Exit → Act → World → Prop
  | .goto _, _, _ => False
  | e, a, w => Q e a w
theorem zej {F : Fence} {n : Nat} {Q : Exit → Act → World → Prop} {c : Code} {a : Act} {w : World} (h : c.wpIn F n P (noGo Q) a w) : (Code.scope c).wpIn F n P Q a w := by
  intro b k cs hro hb hr
  obtain ⟨e, a1, w1, hq, harr⟩ := h b (.inScope c :: k) cs hro hb hr
  have h0 : (lone (b.atR a (.code (.scope c) :: k)) cs w).fenced P F := fenced_calm hb hr rfl
  cases e with
  | normal => exact ⟨.normal, a1, w1, hq, .head h0 bT (StepsIn.trans harr (.one (fenced_calm hb hr rfl) zhC))⟩
  | exit id =>
    have hx : exitTo id (.inScope c :: k) = exitTo id k := by simp [exitTo]
    exact ⟨.exit id, a1, w1, hq, fun k' hk => .head h0 bT (harr.1 k' (by rw [hx]; exact hk)),
      fun hr' hk => let ⟨k₁, h1, h2⟩ := harr.2 hr' (by rw [hx]; exact hk); ⟨k₁, h1, .head h0 bT h2⟩⟩
  | goto l => exact hq.elim
  | ret => exact ⟨_, a1, w1, hq, .of_steps (.one h0 bT) harr⟩
  | panic ch => exact ⟨_, a1, w1, hq, .of_steps (.one h0 bT) harr⟩
  | outgrown => exact ⟨_, a1, w1, hq, .of_steps (.one h0 bT) harr⟩
def zc8 (K : Exit → St → Prop) : Exit → St → Prop
  | .goto _, _ => False
  | e, s => K e s
theorem zgF {c : Code} (h : pA P nt c (zc8 K) s) : pA P nt (.scope c) K s := by
  intro cx w0 w F φ a hf
  refine zej (wpIn_mono (h cx w0 w F φ a hf) ?_)
  rintro e a' w' ⟨s', φ', F', h1, h2, h3⟩
  cases e with
  | goto l => exact h3.elim
  | normal => exact ⟨s', φ', F', h1, h2, h3⟩
  | exit id => exact ⟨s', φ', F', h1, h2, h3⟩
  | ret => exact ⟨s', φ', F', h1, h2, h3⟩
  | panic ch => exact ⟨s', φ', F', h1, h2, h3⟩
  | outgrown => exact ⟨s', φ', F', h1, h2, h3⟩
theorem iX (h : K .ret s) : zc8 K .ret s := h
theorem kB {n : St → Prop} {i : Nat} (h : K (.exit i) s) : lM n K (.exit i) s := h
theorem zdV {i : Nat} (h : K .normal s) : lL i K (.exit i) s := by simp only [lL, if_true]; exact h
theorem eQ {i j : Nat} (e : i ≠ j) (h : K (.exit i) s) : lL j K (.exit i) s := by simp only [lL, if_neg e]; exact h
theorem iA {n : St → Prop} (h : n s) : lM n K .normal s := h
theorem fC {i : Nat} (h : K .normal s) : lL i K .normal s := h
theorem oA {n : St → Prop} (h : K .ret s) : lM n K .ret s := h
theorem oC {i : Nat} (h : K .ret s) : lL i K .ret s := h
def pO (i : Nat) (D : St → Prop) (K : Exit → St → Prop) : Exit → St → Prop
  | .normal, _ => False
  | .exit j, s => if j = i then D s else K (.exit j) s
  | e, s => K e s
theorem kD {i : Nat} {D : St → Prop} (h : D s) : pO i D K (.exit i) s := by simp only [pO, if_true]; exact h
theorem wZ {i j : Nat} {D : St → Prop} (e : j ≠ i) (h : K (.exit j) s) : pO i D K (.exit j) s := by simp only [pO, if_neg e]; exact h
theorem zD {i : Nat} {D : St → Prop} (h : K .ret s) : pO i D K .ret s := h
theorem zd4 {i : Nat} {c y : Code} (D : St → Prop) (hD : ∀ s', D s' → pA P nt y K s') (hl : pA P nt (.loop c) (pO i D K) s) : pA P nt (.seq (.block i (.loop c)) y) K s := by
  refine zeT (zdc hl ?_)
  intro e s' h
  cases e with
  | exit j =>
    simp only [pO, lL] at h ⊢
    split
    · rename_i e; rw [if_pos e] at h; exact hD _ h
    · rename_i e; rw [if_neg e] at h; exact h
  | normal => exact h.elim
  | goto l => exact h
  | ret => exact h
  | panic c => exact h
  | outgrown => exact h
theorem sD {i : Nat} {c : Code} (D : St → Prop) (hD : ∀ s', D s' → K .normal s') (hl : pA P nt (.loop c) (pO i D K) s) : pA P nt (.block i (.loop c)) K s := by
  refine nC (zdc hl ?_)
  intro e s' h
  cases e with
  | exit j =>
    simp only [pO, lL] at h ⊢
    split
    · rename_i e; rw [if_pos e] at h; exact hD _ h
    · rename_i e; rw [if_neg e] at h; exact h
  | normal => exact h.elim
  | goto l => exact h
  | ret => exact h
  | panic c => exact h
  | outgrown => exact h
theorem znv : iE P s [] = some [] := rfl
theorem zla {t : Nat} {rs : List ResultVar} : iE P s (.tmp t :: rs) = Bd (Xa (iE P s rs)) fun vs => some (mB s.fr t :: vs) := by
  simp only [iE]; cases iE P s rs <;> rfl
theorem zhH {a : Nat} {t : TypeId} {rs : List ResultVar} : iE P s (.cell a t :: rs) = Bd (Xa (rD P t)) fun ag => Bd (Xa (nB P t)) fun n => Bd (Xa (jM ag n (mB s.fr a) (wA s.hp))) fun r => Bd (Xa (iE P s rs)) fun vs => some (r.1 :: vs) := by
  simp only [iE, fM]
  cases rD P t with
  | none => rfl
  | some ag => cases nB P t with
    | none => rfl
    | some n =>
      show (match jM ag n (mB s.fr a) (wA s.hp), iE P s rs with | some (v, _), some vs => some (v :: vs) | _, _ => none) = _
      simp only [Bd, Xa]
      cases jM ag n (mB s.fr a) (wA s.hp) with
      | none => cases iE P s rs <;> rfl
      | some r => cases iE P s rs <;> rfl
theorem mA {rs : List ResultVar} {r : AV} {blks : List lA} {N : List Nat} (ns : List Nat) (h : aC (iE P s rs) fun vs => mC ns r blks (gH vs) { s with lp := jE N s.lp }) : nO P rs N (fun v s => ∃ ns, mC ns r blks v s) .ret s := by
  obtain ⟨vs, h1, h2⟩ := h.get
  exact ⟨vs, h1, ns, h2⟩
end
theorem resV_1 {v : AV} : gH [v] = v := rfl
theorem resV_0 : gH [] = .tup [] := rfl
theorem resV_2 {v w : AV} {vs : List AV} : gH (v :: w :: vs) = .tup (v :: w :: vs) := rfl
section
variable {η : aB} {d : Nat} {ns : List Nat}
theorem znk {k : IntKind} {n : Int} : iC ns η (d + 1) (.int k n) = some (.int k n, []) := rfl
theorem zmu {s : List UInt8} : iC ns η (d + 1) (.str s) = some (.str s, []) := rfl
theorem znL {b : Bool} : iC ns η (d + 1) (.bool b) = some (.bool b, []) := rfl
theorem exp_pp {cs : List AV} : iC ns η (d + 1) (.pp cs) = some (.pp cs, []) := rfl
theorem zjm {z : Nat} {es : List (List AV)} : iC ns η (d + 1) (.psl z es) = some (.psl z es, []) := rfl
theorem zgP : iC ns η (d + 1) .nils = some (.nils, []) := rfl
theorem zlx : iC ns η (d + 1) .nilp = some (.nilp, []) := rfl
theorem zjH : iC ns η (d + 1) .nilf = some (.nilf, []) := rfl
theorem zgd {cs : List AV} : iC ns η (d + 1) (.agg cs) = Bd (Xa (iC.exps ns η d cs)) fun p => some (.agg p.1, p.2) := by
  simp only [iC]; cases iC.exps ns η d cs <;> rfl
theorem znG {cs : List AV} : iC ns η (d + 1) (.tup cs) = Bd (Xa (iC.exps ns η d cs)) fun p => some (.tup p.1, p.2) := by
  simp only [iC]; cases iC.exps ns η d cs <;> rfl
theorem exp_fn {f : FuncId} {a c : List AV} : iC ns η (d + 1) (.fn f a c) = Bd (Xa (iC.exps ns η d a)) fun p => Bd (Xa (iC.exps ns η d c)) fun q => some (.fn f p.1 q.1, p.2 ++ q.2) := by
  simp only [iC]; cases iC.exps ns η d a <;> cases iC.exps ns η d c <;> rfl
theorem exp_sl {b g z off len : Nat} : iC ns η (d + 1) (.sl b g z off len) = match lO ns b with | some m => some (.sl m g z off len, []) | none => zB η (d + 1) (.sl b g z off len) := rfl
theorem zm2 {b g i j : Nat} : iC ns η (d + 1) (.ref b g i j) = match lO ns b with | some m => some (.ref m g i j, []) | none => zB η (d + 1) (.ref b g i j) := rfl
theorem zfp : iC.exps ns η (d + 1) [] = some ([], []) := rfl
theorem zhl {v : AV} {vs : List AV} : iC.exps ns η (d + 1) (v :: vs) = Bd (Xa (iC ns η d v)) fun p => Bd (Xa (iC.exps ns η d vs)) fun q => some (p.1 :: q.1, p.2 ++ q.2) := by
  simp only [iC.exps]; cases iC ns η d v <;> cases iC.exps ns η d vs <;> rfl
theorem zjQ {b g i j : Nat} : zB η (d + 1) (.ref b g i j) = Bd (Xa (eH η b g i)) fun e => Bd (Xa (η b)) fun blk => if e.length < j then none else if blk.pure then some (.pp (e.drop j), [b]) else Bd (Xa (zB.purs η d (e.drop j))) fun p => some (.pp p.1, b :: p.2) := by
  simp only [zB]
  cases eH η b g i with
  | none => rfl
  | some e => cases η b with
    | none => rfl
    | some blk => simp only [Bd, Xa]; split
                  · rfl
                  · split
                    · rfl
                    · cases zB.purs η d (e.drop j) <;> rfl
theorem zni : zK ns η [] = some ([], []) := rfl
theorem zkt {b : Nat} {bs : List Nat} : zK ns η (b :: bs) = Bd (Xa (η b)) fun x => Bd (Xa (zK ns η bs)) fun p => if x.pure then some (x :: p.1, p.2) else Bd (Xa (iI ns η x.es)) fun q => some ({ x with es := q.1 } :: p.1, q.2 ++ p.2) := by
  simp only [zK]
  cases η b with
  | none => rfl
  | some x => cases zK ns η bs with
    | none => rfl
    | some p => simp only [Bd, Xa]; split
                · rfl
                · cases iI ns η x.es <;> rfl
theorem zop : iI ns η [] = some ([], []) := rfl
theorem zke {e : List AV} {es : List (List AV)} : iI ns η (e :: es) = Bd (Xa (iC.exps ns η 60 e)) fun p => Bd (Xa (iI ns η es)) fun q => some (p.1 :: q.1, p.2 ++ q.2) := by
  simp only [iI]; cases iC.exps ns η 60 e <;> cases iI ns η es <;> rfl
end
theorem N_eql {P : Program} {t : TypeId} {z : Nat} {es : List (List AV)} : zC P .eql t (.psl z es) .nils = Bd (Xa (dD P t)) fun _ => some (oN (if es.isEmpty then none else some false)) := by
  simp only [zC, kO, dD]
  cases P.underlying t with
  | none => rfl
  | some u => cases u <;> rfl
theorem N_neq {P : Program} {t : TypeId} {z : Nat} {es : List (List AV)} : zC P .neq t (.psl z es) .nils = Bd (Xa (dD P t)) fun _ => some (oN (if es.isEmpty then none else some true)) := by
  simp only [zC, kO, dD]
  cases P.underlying t with
  | none => rfl
  | some u => cases u <;> first | rfl | (cases es <;> rfl)
theorem N_eqlN {P : Program} {t : TypeId} : zC P .eql t .nils .nils = Bd (Xa (dD P t)) fun _ => some (.bool true) := by
  simp only [zC, kO, dD]
  cases P.underlying t with
  | none => rfl
  | some u => cases u <;> rfl
theorem Sl_emp {P : Program} {t : TypeId} {z : Nat} {es : List (List AV)} {k k' : IntKind} : fL P t (.psl z es) none (some (.int k 0)) (some (.int k' 0)) = Bd (Xa (dD P t)) fun e => Bd (Xa (nB P e)) fun _ => some .emp := by
  simp only [fL, dD]
  cases P.underlying t with
  | none => rfl
  | some u =>
    cases u with
    | slice e => simp only [Bd, Xa]; cases nB P e <;> simp [gE]
    | _ => rfl
theorem Sl_hi {P : Program} {t : TypeId} {z : Nat} {es : List (List AV)} {k : IntKind} {n : Int} : fL P t (.psl z es) none (some (.int k n)) none = Bd (Xa (dD P t)) fun e => Bd (Xa (nB P e)) fun sz => sC (0 ≤ n ∧ sz = z ∧ n.toNat ≤ es.length) (some (.psl z (es.take n.toNat))) := by
  simp only [fL, dD]
  cases P.underlying t with
  | none => rfl
  | some u =>
    cases u with
    | slice e =>
      simp only [Bd, Xa, sC]
      cases nB P e with
      | none => rfl
      | some sz =>
        by_cases h1 : 0 ≤ n <;> by_cases h2 : sz = z <;> by_cases h3 : n.toNat ≤ es.length <;> simp [gE, h1, h2, h3]
    | _ => rfl
def tStr (P : Program) (t : TypeId) : Option Unit := match P.underlying t with | some .string => some () | _ => none
theorem Sl_str {P : Program} {t : TypeId} {s : List UInt8} {k k' : IntKind} {n m : Int} : fL P t (.str s) (some (.int k n)) (some (.int k' m)) none = Bd (Xa (tStr P t)) fun _ => sC (0 ≤ n ∧ n ≤ m ∧ m ≤ s.length) (some (.str ((s.drop n.toNat).take (m.toNat - n.toNat)))) := by
  simp only [fL, tStr]
  cases P.underlying t with
  | none => rfl
  | some u =>
    cases u with
    | string =>
      simp only [Bd, Xa, sC, gE, Option.isSome_none, Bool.false_eq_true, if_false]
      by_cases h1 : 0 ≤ n
      · by_cases h2 : 0 ≤ m
        · rw [if_pos h1, if_pos h2]
          by_cases h3 : n ≤ m ∧ m ≤ s.length
          · rw [if_pos (show 0 ≤ n ∧ n ≤ m ∧ m ≤ s.length from ⟨h1, h3⟩)]; simp only; rw [if_pos (by omega)]
          · rw [if_neg (show ¬ (0 ≤ n ∧ n ≤ m ∧ m ≤ s.length) by omega)]; simp only; rw [if_neg (by omega)]
        · rw [if_pos h1, if_neg h2, if_neg (show ¬ (0 ≤ n ∧ n ≤ m ∧ m ≤ s.length) by omega)]
      · rw [if_neg h1, if_neg (show ¬ (0 ≤ n ∧ n ≤ m ∧ m ≤ s.length) by omega)]
    | _ => rfl
theorem takeM {α β : Type} {f : α → β} {l : List α} {n : Nat} : (List.map f l).take n = List.map f (l.take n) := List.map_take.symm
theorem zmT : AV.emp.cells = some [.emp] := rfl
theorem zgz {η : aB} {d : Nat} : zB η (d + 1) .emp = some (.emp, []) := rfl
theorem zjW {ns : List Nat} {η : aB} {d : Nat} : iC ns η (d + 1) .emp = some (.emp, []) := rfl
theorem zeo {P : Program} {nt : Nat} {K : Exit → St → Prop} {c : Code} {s s2 : St} (rd : List Nat) (h1 : ∀ Kt : St → Prop, Kt s2 → Kt (s.frz rd)) (h2 : pA P nt c K s2) : pA P nt c K s := zmM rd (h1 _ h2)
def dA (k : IntKind) (n : Int) : List AV := [.int k n]
def mM (b : Bool) : List AV := [.bool b]
def nL (s : List UInt8) : List AV := [.str s]
def sA {α : Type} (z : Nat) (f : α → List AV) (l : List α) : List AV := [.psl z (l.map f)]
theorem zb0 {α β : Type} {f : α → β} {l : List α} : (List.map f l).take l.length = List.map f l := by rw [← List.length_map (f := f)]; exact List.take_length
theorem sG {α : Type} {f : α → List AV} (h : ∀ x, AV.isP.isPs (f x) = true) (l : List α) : (l.map f).all AV.isP.isPs = true := by simp [h]
theorem cO {α : Type} {f : α → List AV} (h : ∀ x, AV.flatR.flatRs (f x) = true) (l : List α) : (l.map f).all AV.flatR.flatRs = true := by simp [h]
theorem AV.LeN.of_eq {N : tD} {a b : AV} (h : a = b) : a.LeN N b := h ▸ AV.LeN.refl a
theorem sE.of_eq {N : tD} {a b : List (List AV)} (h : a = b) : sE N a b := h ▸ sE.refl a
theorem AV.Le.of_eq {a b : AV} (h : a = b) : a.Le b := h ▸ AV.Le.refl a
end Go.AM
