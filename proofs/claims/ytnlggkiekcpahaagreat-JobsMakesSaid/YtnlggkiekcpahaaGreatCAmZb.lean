/- A text of the proof. -/
import Derived.Test.YtnlggkiekcpahaaGreatCAmZa
set_option linter.unusedSimpArgs false
set_option linter.unusedVariables false
namespace Go.AM
open Go Go.RowKit
def ix {α : Type} (l : List α) (i : Int) : Option α := if 0 ≤ i then l[i.toNat]? else none
theorem cB {α : Type} {l : List α} {i : Int} {x : α} (h : ix l i = some x) : 0 ≤ i ∧ i < (l.length : Int) ∧ l[i.toNat]? = some x := by
  unfold ix at h
  split at h
  · rename_i h0
    refine ⟨h0, ?_, h⟩
    have := (List.getElem?_eq_some_iff.1 h).1
    omega
  · cases h
theorem oF {α : Type} {l : List α} {i : Int} {x : α} (n : Nat) (h : ix l i = some x) (e : i = (n : Int)) : l[n]? = some x ∧ n < l.length := by
  subst e
  have := cB h
  simp only [Int.toNat_natCast] at this
  exact ⟨this.2.2, by omega⟩
theorem cA {α β : Type} {x : Option α} {f : α → Option β} {r : β} (h : x.bind f = some r) : ∃ a, x = some a ∧ f a = some r := by
  cases x with
  | none => cases h
  | some a => exact ⟨a, rfl, h⟩
theorem jB {α : Type} {c : Bool} {a b r : α} (h : (if c = true then a else b) = r) (hc : c = true) : a = r := by rwa [if_pos hc] at h
theorem wA {α : Type} {c : Bool} {a b r : α} (h : (if c = true then a else b) = r) (hc : c = false) : b = r := by rwa [if_neg (by simp [hc])] at h
theorem mD {α : Type} {c : Prop} [Decidable c] {a : Option α} {r : α} (h : (if c then a else none) = some r) : c ∧ a = some r := by
  split at h
  · rename_i hc; exact ⟨hc, h⟩
  · cases h
section
variable {P : Program} {nt : Nat} {K : Exit → St → Prop} {fr fr' : List (Nat × AV)} {hp hp' : List (Nat × oA)} {nx : Nat} {lp : List (Nat × kD)}
theorem uB {id : Nat} {l : List Oper} (nx2 : Nat) (L : List Nat) (ans : Nat → Option (AV × List oA)) (hnx : nx + 8 * l.length = nx2)
    (h1 : ∀ Kt : List (Nat × AV) → List (Nat × oA) → Prop, Kt fr' hp' → @WL P nt ⟨l⟩ ans (Xa nx) (dE 0 l) fr hp ⟨[], []⟩ fun fr hp _ => Kt (iE L fr) hp)
    (h2 : K .normal ⟨fr', hp', nx2, lp⟩) : pA P nt (.region id (List.toArray l) false) K ⟨fr, hp, nx, lp⟩ := by subst hnx; exact awp_r (s := ⟨fr, hp, nx, lp⟩) L ans h1 h2
theorem fG {id : Nat} {l : List Oper} (nx2 : Nat) (L : List Nat) (ans : Nat → Option (AV × List oA)) (hnx : nx + 8 * l.length = nx2) (hmix : P.follows .mixedOrders = true) (hback : nJ 0 l = true)
    (h1 : ∀ Kt : List (Nat × AV) → List (Nat × oA) → Prop, Kt fr' hp' → @WL P nt ⟨l⟩ ans (Xa nx) (dE 0 l) fr hp ⟨l, []⟩ fun fr hp acc => @uP acc ∧ Kt (iE L fr) hp)
    (h2 : K .normal ⟨fr', hp', nx2, lp⟩) : pA P nt (.region id (List.toArray l) true) K ⟨fr, hp, nx, lp⟩ := by subst hnx; exact awp_d (s := ⟨fr, hp, nx, lp⟩) L ans hmix hback h1 h2
theorem nA {id : Nat} {l : List Oper} {y : Code} (nx2 : Nat) (L : List Nat) (ans : Nat → Option (AV × List oA)) (hnx : nx + 8 * l.length = nx2)
    (h1 : ∀ Kt : List (Nat × AV) → List (Nat × oA) → Prop, Kt fr' hp' → @WL P nt ⟨l⟩ ans (Xa nx) (dE 0 l) fr hp ⟨[], []⟩ fun fr hp _ => Kt (iE L fr) hp)
    (h2 : pA P nt y K ⟨fr', hp', nx2, lp⟩) : pA P nt (.seq (.region id (List.toArray l) false) y) K ⟨fr, hp, nx, lp⟩ := kA (uB nx2 L ans hnx h1 h2)
theorem oC {id : Nat} {l : List Oper} {y : Code} (nx2 : Nat) (L : List Nat) (ans : Nat → Option (AV × List oA)) (hnx : nx + 8 * l.length = nx2) (hmix : P.follows .mixedOrders = true) (hback : nJ 0 l = true)
    (h1 : ∀ Kt : List (Nat × AV) → List (Nat × oA) → Prop, Kt fr' hp' → @WL P nt ⟨l⟩ ans (Xa nx) (dE 0 l) fr hp ⟨l, []⟩ fun fr hp acc => @uP acc ∧ Kt (iE L fr) hp)
    (h2 : pA P nt y K ⟨fr', hp', nx2, lp⟩) : pA P nt (.seq (.region id (List.toArray l) true) y) K ⟨fr, hp, nx, lp⟩ := kA (fG nx2 L ans hnx hmix hback h1 h2)
variable {s : St}
theorem zK {c : Operand} {x y : Code} (hc : vB (mB s.fr) c = .bool true) (h : pA P nt x K s) : pA P nt (.cond c x y) K s := zaJ hc h
theorem eF {c : Operand} {x y : Code} (hc : vB (mB s.fr) c = .bool false) (h : pA P nt y K s) : pA P nt (.cond c x y) K s := zaJ hc h
theorem yQ {b : Frame} {a : Act} {k : List Item} {cs : List Frame} {w : World} {c : Code} : step P (lone (b.atR a (.code (.scope c) :: k)) cs w) = .next (lone (b.atR a (.code c :: .inScope c :: k)) cs w) :=
  step_lone_go (by simp [stepG, stepG.exec, Frame.atR])
theorem zh8 {b : Frame} {a : Act} {k : List Item} {cs : List Frame} {w : World} {c : Code} : step P (lone (b.atR a (.inScope c :: k)) cs w) = .next (lone (b.atR a k) cs w) :=
  step_lone_go (by simp [stepG, stepG.exec, Frame.atR])
def noGo (Q : Exit → Act → World → Prop) : Exit → Act → World → Prop
  | .goto _, _, _ => False
  | e, a, w => Q e a w
theorem zcG {F : Fence} {n : Nat} {Q : Exit → Act → World → Prop} {c : Code} {a : Act} {w : World} (h : c.wpIn F n P (noGo Q) a w) : (Code.scope c).wpIn F n P Q a w := by
  intro b k cs hro hb hr
  obtain ⟨e, a1, w1, hq, harr⟩ := h b (.inScope c :: k) cs hro hb hr
  have h0 : (lone (b.atR a (.code (.scope c) :: k)) cs w).fenced P F := fenced_calm hb hr rfl
  cases e with
  | normal => exact ⟨.normal, a1, w1, hq, .head h0 yQ (StepsIn.trans harr (.one (fenced_calm hb hr rfl) zh8))⟩
  | exit id =>
    have hx : exitTo id (.inScope c :: k) = exitTo id k := by simp [exitTo]
    exact ⟨.exit id, a1, w1, hq, fun k' hk => .head h0 yQ (harr.1 k' (by rw [hx]; exact hk)),
      fun hr' hk => let ⟨k₁, h1, h2⟩ := harr.2 hr' (by rw [hx]; exact hk); ⟨k₁, h1, .head h0 yQ h2⟩⟩
  | goto l => exact hq.elim
  | ret => exact ⟨_, a1, w1, hq, .of_steps (.one h0 yQ) harr⟩
  | panic ch => exact ⟨_, a1, w1, hq, .of_steps (.one h0 yQ) harr⟩
  | outgrown => exact ⟨_, a1, w1, hq, .of_steps (.one h0 yQ) harr⟩
def za3 (K : Exit → St → Prop) : Exit → St → Prop
  | .goto _, _ => False
  | e, s => K e s
theorem zg9 {c : Code} (h : pA P nt c (za3 K) s) : pA P nt (.scope c) K s := by
  intro cx w0 w F φ a hf
  refine zcG (wpIn_mono (h cx w0 w F φ a hf) ?_)
  rintro e a' w' ⟨s', φ', F', h1, h2, h3⟩
  cases e with
  | goto l => exact h3.elim
  | normal => exact ⟨s', φ', F', h1, h2, h3⟩
  | exit id => exact ⟨s', φ', F', h1, h2, h3⟩
  | ret => exact ⟨s', φ', F', h1, h2, h3⟩
  | panic ch => exact ⟨s', φ', F', h1, h2, h3⟩
  | outgrown => exact ⟨s', φ', F', h1, h2, h3⟩
theorem dW (h : K .ret s) : za3 K .ret s := h
theorem dB {n : St → Prop} {i : Nat} (h : K (.exit i) s) : bM n K (.exit i) s := h
theorem zbE {i : Nat} (h : K .normal s) : rK i K (.exit i) s := by simp only [rK, if_true]; exact h
theorem vO {i j : Nat} (e : i ≠ j) (h : K (.exit i) s) : rK j K (.exit i) s := by simp only [rK, if_neg e]; exact h
theorem dA {n : St → Prop} (h : n s) : bM n K .normal s := h
theorem sB {i : Nat} (h : K .normal s) : rK i K .normal s := h
theorem mA {n : St → Prop} (h : K .ret s) : bM n K .ret s := h
theorem eC {i : Nat} (h : K .ret s) : rK i K .ret s := h
def lM (i : Nat) (D : St → Prop) (K : Exit → St → Prop) : Exit → St → Prop
  | .normal, _ => False
  | .exit j, s => if j = i then D s else K (.exit j) s
  | e, s => K e s
theorem jC {i : Nat} {D : St → Prop} (h : D s) : lM i D K (.exit i) s := by simp only [lM, if_true]; exact h
theorem zaC {i j : Nat} {D : St → Prop} (e : j ≠ i) (h : K (.exit j) s) : lM i D K (.exit j) s := by simp only [lM, if_neg e]; exact h
theorem aD {i : Nat} {D : St → Prop} (h : K .ret s) : lM i D K .ret s := h
theorem zcO {i : Nat} {c y : Code} (D : St → Prop) (hD : ∀ s', D s' → pA P nt y K s') (hl : pA P nt (.loop c) (lM i D K) s) : pA P nt (.seq (.block i (.loop c)) y) K s := by
  refine zlw (zbf hl ?_)
  intro e s' h
  cases e with
  | exit j =>
    simp only [lM, rK] at h ⊢
    split
    · rename_i e; rw [if_pos e] at h; exact hD _ h
    · rename_i e; rw [if_neg e] at h; exact h
  | normal => exact h.elim
  | goto l => exact h
  | ret => exact h
  | panic c => exact h
  | outgrown => exact h
theorem pC {i : Nat} {c : Code} (D : St → Prop) (hD : ∀ s', D s' → K .normal s') (hl : pA P nt (.loop c) (lM i D K) s) : pA P nt (.block i (.loop c)) K s := by
  refine aC (zbf hl ?_)
  intro e s' h
  cases e with
  | exit j =>
    simp only [lM, rK] at h ⊢
    split
    · rename_i e; rw [if_pos e] at h; exact hD _ h
    · rename_i e; rw [if_neg e] at h; exact h
  | normal => exact h.elim
  | goto l => exact h
  | ret => exact h
  | panic c => exact h
  | outgrown => exact h
theorem zmf : qD P s [] = some [] := rfl
theorem zmC {t : Nat} {rs : List ResultVar} : qD P s (.tmp t :: rs) = Bd (Xa (qD P s rs)) fun vs => some (mB s.fr t :: vs) := by
  simp only [qD]; cases qD P s rs <;> rfl
theorem zgH {a : Nat} {t : TypeId} {rs : List ResultVar} : qD P s (.cell a t :: rs) = Bd (Xa (iD P t)) fun ag => Bd (Xa (nB P t)) fun n => Bd (Xa (yK ag n (mB s.fr a) (xA s.hp))) fun r => Bd (Xa (qD P s rs)) fun vs => some (r.1 :: vs) := by
  simp only [qD, aM]
  cases iD P t with
  | none => rfl
  | some ag => cases nB P t with
    | none => rfl
    | some n =>
      show (match yK ag n (mB s.fr a) (xA s.hp), qD P s rs with | some (v, _), some vs => some (v :: vs) | _, _ => none) = _
      simp only [Bd, Xa]
      cases yK ag n (mB s.fr a) (xA s.hp) with
      | none => cases qD P s rs <;> rfl
      | some r => cases qD P s rs <;> rfl
theorem lA {rs : List ResultVar} {r : AV} {blks : List oA} {N : List Nat} (ns : List Nat) (h : xB (qD P s rs) fun vs => bC ns r blks (mG vs) { s with lp := tD N s.lp }) : yM P rs N (fun v s => ∃ ns, bC ns r blks v s) .ret s := by
  obtain ⟨vs, h1, h2⟩ := h.get
  exact ⟨vs, h1, ns, h2⟩
end
theorem resV_1 {v : AV} : mG [v] = v := rfl
theorem resV_0 : mG [] = .tup [] := rfl
theorem resV_2 {v w : AV} {vs : List AV} : mG (v :: w :: vs) = .tup (v :: w :: vs) := rfl
section
variable {η : fB} {d : Nat} {ns : List Nat}
theorem zeQ {k : IntKind} {n : Int} : fC ns η (d + 1) (.int k n) = some (.int k n, []) := rfl
theorem zhg {s : List UInt8} : fC ns η (d + 1) (.str s) = some (.str s, []) := rfl
theorem zjZ {b : Bool} : fC ns η (d + 1) (.bool b) = some (.bool b, []) := rfl
theorem exp_pp {cs : List AV} : fC ns η (d + 1) (.pp cs) = some (.pp cs, []) := rfl
theorem zhM {z : Nat} {es : List (List AV)} : fC ns η (d + 1) (.psl z es) = some (.psl z es, []) := rfl
theorem zdG : fC ns η (d + 1) .nils = some (.nils, []) := rfl
theorem zjl : fC ns η (d + 1) .nilp = some (.nilp, []) := rfl
theorem ziZ : fC ns η (d + 1) .nilf = some (.nilf, []) := rfl
theorem zij {cs : List AV} : fC ns η (d + 1) (.agg cs) = Bd (Xa (fC.exps ns η d cs)) fun p => some (.agg p.1, p.2) := by
  simp only [fC]; cases fC.exps ns η d cs <;> rfl
theorem zkU {cs : List AV} : fC ns η (d + 1) (.tup cs) = Bd (Xa (fC.exps ns η d cs)) fun p => some (.tup p.1, p.2) := by
  simp only [fC]; cases fC.exps ns η d cs <;> rfl
theorem exp_fn {f : FuncId} {a c : List AV} : fC ns η (d + 1) (.fn f a c) = Bd (Xa (fC.exps ns η d a)) fun p => Bd (Xa (fC.exps ns η d c)) fun q => some (.fn f p.1 q.1, p.2 ++ q.2) := by
  simp only [fC]; cases fC.exps ns η d a <;> cases fC.exps ns η d c <;> rfl
theorem exp_sl {b g z off len : Nat} : fC ns η (d + 1) (.sl b g z off len) = match oN ns b with | some m => some (.sl m g z off len, []) | none => yB η (d + 1) (.sl b g z off len) := rfl
theorem zgM {b g i j : Nat} : fC ns η (d + 1) (.ref b g i j) = match oN ns b with | some m => some (.ref m g i j, []) | none => yB η (d + 1) (.ref b g i j) := rfl
theorem zhk : fC.exps ns η (d + 1) [] = some ([], []) := rfl
theorem zjH {v : AV} {vs : List AV} : fC.exps ns η (d + 1) (v :: vs) = Bd (Xa (fC ns η d v)) fun p => Bd (Xa (fC.exps ns η d vs)) fun q => some (p.1 :: q.1, p.2 ++ q.2) := by
  simp only [fC.exps]; cases fC ns η d v <;> cases fC.exps ns η d vs <;> rfl
theorem zkr {b g i j : Nat} : yB η (d + 1) (.ref b g i j) = Bd (Xa (qG η b g i)) fun e => Bd (Xa (η b)) fun blk => if e.length < j then none else if blk.pure then some (.pp (e.drop j), [b]) else Bd (Xa (yB.purs η d (e.drop j))) fun p => some (.pp p.1, b :: p.2) := by
  simp only [yB]
  cases qG η b g i with
  | none => rfl
  | some e => cases η b with
    | none => rfl
    | some blk => simp only [Bd, Xa]; split
                  · rfl
                  · split
                    · rfl
                    · cases yB.purs η d (e.drop j) <;> rfl
theorem zkP : yJ ns η [] = some ([], []) := rfl
theorem zl4 {b : Nat} {bs : List Nat} : yJ ns η (b :: bs) = Bd (Xa (η b)) fun x => Bd (Xa (yJ ns η bs)) fun p => if x.pure then some (x :: p.1, p.2) else Bd (Xa (lH ns η x.es)) fun q => some ({ x with es := q.1 } :: p.1, q.2 ++ p.2) := by
  simp only [yJ]
  cases η b with
  | none => rfl
  | some x => cases yJ ns η bs with
    | none => rfl
    | some p => simp only [Bd, Xa]; split
                · rfl
                · cases lH ns η x.es <;> rfl
theorem zl3 : lH ns η [] = some ([], []) := rfl
theorem zfX {e : List AV} {es : List (List AV)} : lH ns η (e :: es) = Bd (Xa (fC.exps ns η 60 e)) fun p => Bd (Xa (lH ns η es)) fun q => some (p.1 :: q.1, p.2 ++ q.2) := by
  simp only [lH]; cases fC.exps ns η 60 e <;> cases lH ns η es <;> rfl
end
theorem N_eql {P : Program} {t : TypeId} {z : Nat} {es : List (List AV)} : vC P .eql t (.psl z es) .nils = Bd (Xa (wC P t)) fun _ => some (fN (if es.isEmpty then none else some false)) := by
  simp only [vC, iM, wC]
  cases P.underlying t with
  | none => rfl
  | some u => cases u <;> rfl
theorem N_neq {P : Program} {t : TypeId} {z : Nat} {es : List (List AV)} : vC P .neq t (.psl z es) .nils = Bd (Xa (wC P t)) fun _ => some (fN (if es.isEmpty then none else some true)) := by
  simp only [vC, iM, wC]
  cases P.underlying t with
  | none => rfl
  | some u => cases u <;> first | rfl | (cases es <;> rfl)
theorem N_eqlN {P : Program} {t : TypeId} : vC P .eql t .nils .nils = Bd (Xa (wC P t)) fun _ => some (.bool true) := by
  simp only [vC, iM, wC]
  cases P.underlying t with
  | none => rfl
  | some u => cases u <;> rfl
theorem Sl_emp {P : Program} {t : TypeId} {z : Nat} {es : List (List AV)} {k k' : IntKind} : eK P t (.psl z es) none (some (.int k 0)) (some (.int k' 0)) = Bd (Xa (wC P t)) fun e => Bd (Xa (nB P e)) fun _ => some .emp := by
  simp only [eK, wC]
  cases P.underlying t with
  | none => rfl
  | some u =>
    cases u with
    | slice e => simp only [Bd, Xa]; cases nB P e <;> simp [uD]
    | _ => rfl
theorem Sl_hi {P : Program} {t : TypeId} {z : Nat} {es : List (List AV)} {k : IntKind} {n : Int} : eK P t (.psl z es) none (some (.int k n)) none = Bd (Xa (wC P t)) fun e => Bd (Xa (nB P e)) fun sz => lC (0 ≤ n ∧ sz = z ∧ n.toNat ≤ es.length) (some (.psl z (es.take n.toNat))) := by
  simp only [eK, wC]
  cases P.underlying t with
  | none => rfl
  | some u =>
    cases u with
    | slice e =>
      simp only [Bd, Xa, lC]
      cases nB P e with
      | none => rfl
      | some sz =>
        by_cases h1 : 0 ≤ n <;> by_cases h2 : sz = z <;> by_cases h3 : n.toNat ≤ es.length <;> simp [uD, h1, h2, h3]
    | _ => rfl
def tStr (P : Program) (t : TypeId) : Option Unit := match P.underlying t with | some .string => some () | _ => none
theorem Sl_str {P : Program} {t : TypeId} {s : List UInt8} {k k' : IntKind} {n m : Int} : eK P t (.str s) (some (.int k n)) (some (.int k' m)) none = Bd (Xa (tStr P t)) fun _ => lC (0 ≤ n ∧ n ≤ m ∧ m ≤ s.length) (some (.str ((s.drop n.toNat).take (m.toNat - n.toNat)))) := by
  simp only [eK, tStr]
  cases P.underlying t with
  | none => rfl
  | some u =>
    cases u with
    | string =>
      simp only [Bd, Xa, lC, uD, Option.isSome_none, Bool.false_eq_true, if_false]
      by_cases h1 : 0 ≤ n
      · by_cases h2 : 0 ≤ m
        · rw [if_pos h1, if_pos h2]
          by_cases h3 : n ≤ m ∧ m ≤ s.length
          · rw [if_pos (show 0 ≤ n ∧ n ≤ m ∧ m ≤ s.length from ⟨h1, h3⟩)]; simp only; rw [if_pos (by omega)]
          · rw [if_neg (show ¬ (0 ≤ n ∧ n ≤ m ∧ m ≤ s.length) by omega)]; simp only; rw [if_neg (by omega)]
        · rw [if_pos h1, if_neg h2, if_neg (show ¬ (0 ≤ n ∧ n ≤ m ∧ m ≤ s.length) by omega)]
      · rw [if_neg h1, if_neg (show ¬ (0 ≤ n ∧ n ≤ m ∧ m ≤ s.length) by omega)]
    | _ => rfl
theorem takeM {α β : Type} {f : α → β} {l : List α} {n : Nat} : (List.map f l).take n = List.map f (l.take n) := List.map_take.symm
theorem zib : AV.emp.cells = some [.emp] := rfl
theorem zk9 {η : fB} {d : Nat} : yB η (d + 1) .emp = some (.emp, []) := rfl
theorem zmy {ns : List Nat} {η : fB} {d : Nat} : fC ns η (d + 1) .emp = some (.emp, []) := rfl
theorem zdg {P : Program} {nt : Nat} {K : Exit → St → Prop} {c : Code} {s s2 : St} (rd : List Nat) (h1 : ∀ Kt : St → Prop, Kt s2 → Kt (s.frz rd)) (h2 : pA P nt c K s2) : pA P nt c K s := zeh rd (h1 _ h2)
def gA (k : IntKind) (n : Int) : List AV := [.int k n]
def cL (b : Bool) : List AV := [.bool b]
def zJ (s : List UInt8) : List AV := [.str s]
def vA {α : Type} (z : Nat) (f : α → List AV) (l : List α) : List AV := [.psl z (l.map f)]
theorem zdl {α β : Type} {f : α → β} {l : List α} : (List.map f l).take l.length = List.map f l := by rw [← List.length_map (f := f)]; exact List.take_length
theorem zF {α : Type} {f : α → List AV} (h : ∀ x, AV.isP.isPs (f x) = true) (l : List α) : (l.map f).all AV.isP.isPs = true := by simp [h]
theorem vN {α : Type} {f : α → List AV} (h : ∀ x, AV.flatR.flatRs (f x) = true) (l : List α) : (l.map f).all AV.flatR.flatRs = true := by simp [h]
theorem AV.LeN.of_eq {N : jD} {a b : AV} (h : a = b) : a.LeN N b := h ▸ AV.LeN.refl a
theorem eE.of_eq {N : jD} {a b : List (List AV)} (h : a = b) : eE N a b := h ▸ eE.refl a
theorem AV.Le.of_eq {a b : AV} (h : a = b) : a.Le b := h ▸ AV.Le.refl a
end Go.AM
