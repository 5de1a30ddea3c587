/- A text of the proof. -/
import Derived.Test.YtdompcjalogoaaaGreatDoorKAmZa
set_option linter.unusedSimpArgs false
set_option linter.unusedVariables false
namespace Go.AM
open Go Go.RowKit
def ix {α : Type} (l : List α) (i : Int) : Option α := if 0 ≤ i then l[i.toNat]? else none
section
variable {P : Program} {nt : Nat} {K : Exit → St → Prop} {fr fr' : List (Nat × AV)} {hp hp' : List (Nat × ABlk)} {nx : Nat} {lp : List (Nat × LBlk)}
variable {s : St}
theorem stepR_scope {b : Frame} {a : Act} {k : List Item} {cs : List Frame} {w : World} {c : Code} : step P (lone (b.atR a (.code (.scope c) :: k)) cs w) = .next (lone (b.atR a (.code c :: .inScope c :: k)) cs w) :=
  step_lone_go (by simp [stepG, stepG.exec, Frame.atR])
theorem stepR_inScope {b : Frame} {a : Act} {k : List Item} {cs : List Frame} {w : World} {c : Code} : step P (lone (b.atR a (.inScope c :: k)) cs w) = .next (lone (b.atR a k) cs w) :=
  step_lone_go (by simp [stepG, stepG.exec, Frame.atR])
def noGo (Q : Exit → Act → World → Prop) : Exit → Act → World → Prop
  | .goto _, _, _ => False
  | e, a, w => Q e a w
theorem wpIn_scope [Adr] {F : Fence} {n : Nat} {Q : Exit → Act → World → Prop} {c : Code} {a : Act} {w : World} (h : c.wpIn F n P (noGo Q) a w) : (Code.scope c).wpIn F n P Q a w := by
  intro b k cs hro hb hr
  obtain ⟨e, a1, w1, hq, harr⟩ := h b (.inScope c :: k) cs hro hb hr
  have h0 : (lone (b.atR a (.code (.scope c) :: k)) cs w).fenced P F := fenced_calm hb hr rfl
  cases e with
  | normal => exact ⟨.normal, a1, w1, hq, .head h0 stepR_scope (StepsIn.trans harr (.one (fenced_calm hb hr rfl) stepR_inScope))⟩
  | exit id =>
    have hx : exitTo id (.inScope c :: k) = exitTo id k := by simp [exitTo]
    exact ⟨.exit id, a1, w1, hq, fun k' hk => .head h0 stepR_scope (harr.1 k' (by rw [hx]; exact hk)),
      fun hr' hk => let ⟨k₁, h1, h2⟩ := harr.2 hr' (by rw [hx]; exact hk); ⟨k₁, h1, .head h0 stepR_scope h2⟩⟩
  | goto l => exact hq.elim
  | ret => exact ⟨_, a1, w1, hq, .of_steps (.one h0 stepR_scope) harr⟩
  | panic ch => exact ⟨_, a1, w1, hq, .of_steps (.one h0 stepR_scope) harr⟩
  | outgrown => exact ⟨_, a1, w1, hq, .of_steps (.one h0 stepR_scope) harr⟩
theorem resS_nil : resS P s [] = some [] := rfl
theorem resS_tmp {t : Nat} {rs : List ResultVar} : resS P s (.tmp t :: rs) = Bd (Xa (resS P s rs)) fun vs => some (frGet s.fr t :: vs) := by
  simp only [resS]; cases resS P s rs <;> rfl
theorem resS_cell {a : Nat} {t : TypeId} {rs : List ResultVar} : resS P s (.cell a t :: rs) = Bd (Xa (tAgg P t)) fun ag => Bd (Xa (tSize P t)) fun n => Bd (Xa (loadV ag n (frGet s.fr a) (alg s.hp))) fun r => Bd (Xa (resS P s rs)) fun vs => some (r.1 :: vs) := by
  simp only [resS, aLoad]
  cases tAgg P t with
  | none => rfl
  | some ag => cases tSize P t with
    | none => rfl
    | some n =>
      show (match loadV ag n (frGet s.fr a) (alg s.hp), resS P s rs with | some (v, _), some vs => some (v :: vs) | _, _ => none) = _
      simp only [Bd, Xa]
      cases loadV ag n (frGet s.fr a) (alg s.hp) with
      | none => cases resS P s rs <;> rfl
      | some r => cases resS P s rs <;> rfl
end
theorem resV_1 {v : AV} : resV [v] = v := rfl
theorem resV_0 : resV [] = .tup [] := rfl
theorem resV_2 {v w : AV} {vs : List AV} : resV (v :: w :: vs) = .tup (v :: w :: vs) := rfl
section
variable {η : Heap} {d : Nat} {ns : List Nat}
theorem exp_int {k : IntKind} {n : Int} : exp ns η (d + 1) (.int k n) = some (.int k n, []) := rfl
theorem exp_str {s : List UInt8} : exp ns η (d + 1) (.str s) = some (.str s, []) := rfl
theorem exp_bool {b : Bool} : exp ns η (d + 1) (.bool b) = some (.bool b, []) := rfl
theorem exp_pp {cs : List AV} : exp ns η (d + 1) (.pp cs) = some (.pp cs, []) := rfl
theorem exp_psl {z : Nat} {es : List (List AV)} : exp ns η (d + 1) (.psl z es) = some (.psl z es, []) := rfl
theorem exp_nils : exp ns η (d + 1) .nils = some (.nils, []) := rfl
theorem exp_nilp : exp ns η (d + 1) .nilp = some (.nilp, []) := rfl
theorem exp_nilf : exp ns η (d + 1) .nilf = some (.nilf, []) := rfl
theorem exp_agg {cs : List AV} : exp ns η (d + 1) (.agg cs) = Bd (Xa (exp.exps ns η d cs)) fun p => some (.agg p.1, p.2) := by
  simp only [exp]; cases exp.exps ns η d cs <;> rfl
theorem exp_tup {cs : List AV} : exp ns η (d + 1) (.tup cs) = Bd (Xa (exp.exps ns η d cs)) fun p => some (.tup p.1, p.2) := by
  simp only [exp]; cases exp.exps ns η d cs <;> rfl
theorem exp_fn {f : FuncId} {a c : List AV} : exp ns η (d + 1) (.fn f a c) = Bd (Xa (exp.exps ns η d a)) fun p => Bd (Xa (exp.exps ns η d c)) fun q => some (.fn f p.1 q.1, p.2 ++ q.2) := by
  simp only [exp]; cases exp.exps ns η d a <;> cases exp.exps ns η d c <;> rfl
theorem exp_sl {b g z off len : Nat} : exp ns η (d + 1) (.sl b g z off len) = match idx ns b with | some m => some (.sl m g z off len, []) | none => pur η (d + 1) (.sl b g z off len) := rfl
theorem exp_ref {b g i j : Nat} : exp ns η (d + 1) (.ref b g i j) = match idx ns b with | some m => some (.ref m g i j, []) | none => pur η (d + 1) (.ref b g i j) := rfl
theorem exps_nil : exp.exps ns η (d + 1) [] = some ([], []) := rfl
theorem exps_cons {v : AV} {vs : List AV} : exp.exps ns η (d + 1) (v :: vs) = Bd (Xa (exp ns η d v)) fun p => Bd (Xa (exp.exps ns η d vs)) fun q => some (p.1 :: q.1, p.2 ++ q.2) := by
  simp only [exp.exps]; cases exp ns η d v <;> cases exp.exps ns η d vs <;> rfl
theorem pur_ref {b g i j : Nat} : pur η (d + 1) (.ref b g i j) = Bd (Xa (rdElem η b g i)) fun e => Bd (Xa (η b)) fun blk => if e.length < j then none else if blk.pure then some (.pp (e.drop j), [b]) else Bd (Xa (pur.purs η d (e.drop j))) fun p => some (.pp p.1, b :: p.2) := by
  simp only [pur]
  cases rdElem η b g i with
  | none => rfl
  | some e => cases η b with
    | none => rfl
    | some blk => simp only [Bd, Xa]; split
                  · rfl
                  · split
                    · rfl
                    · cases pur.purs η d (e.drop j) <;> rfl
theorem expB_nil : expB ns η [] = some ([], []) := rfl
theorem expB_cons {b : Nat} {bs : List Nat} : expB ns η (b :: bs) = Bd (Xa (η b)) fun x => Bd (Xa (expB ns η bs)) fun p => if x.pure then some (x :: p.1, p.2) else Bd (Xa (expEs ns η x.es)) fun q => some ({ x with es := q.1 } :: p.1, q.2 ++ p.2) := by
  simp only [expB]
  cases η b with
  | none => rfl
  | some x => cases expB ns η bs with
    | none => rfl
    | some p => simp only [Bd, Xa]; split
                · rfl
                · cases expEs ns η x.es <;> rfl
theorem expEs_nil : expEs ns η [] = some ([], []) := rfl
theorem expEs_cons {e : List AV} {es : List (List AV)} : expEs ns η (e :: es) = Bd (Xa (exp.exps ns η 60 e)) fun p => Bd (Xa (expEs ns η es)) fun q => some (p.1 :: q.1, p.2 ++ q.2) := by
  simp only [expEs]; cases exp.exps ns η 60 e <;> cases expEs ns η es <;> rfl
end
theorem N_eql {P : Program} {t : TypeId} {z : Nat} {es : List (List AV)} : aBin P .eql t (.psl z es) .nils = Bd (Xa (tSlice P t)) fun _ => some (ubool (if es.isEmpty then none else some false)) := by
  simp only [aBin, aNilCmp, tSlice]
  cases P.underlying t with
  | none => rfl
  | some u => cases u <;> rfl
theorem N_neq {P : Program} {t : TypeId} {z : Nat} {es : List (List AV)} : aBin P .neq t (.psl z es) .nils = Bd (Xa (tSlice P t)) fun _ => some (ubool (if es.isEmpty then none else some true)) := by
  simp only [aBin, aNilCmp, tSlice]
  cases P.underlying t with
  | none => rfl
  | some u => cases u <;> first | rfl | (cases es <;> rfl)
theorem N_eqlN {P : Program} {t : TypeId} : aBin P .eql t .nils .nils = Bd (Xa (tSlice P t)) fun _ => some (.bool true) := by
  simp only [aBin, aNilCmp, tSlice]
  cases P.underlying t with
  | none => rfl
  | some u => cases u <;> rfl
theorem Sl_emp {P : Program} {t : TypeId} {z : Nat} {es : List (List AV)} {k k' : IntKind} : aSlice P t (.psl z es) none (some (.int k 0)) (some (.int k' 0)) = Bd (Xa (tSlice P t)) fun e => Bd (Xa (tSize P e)) fun _ => some .emp := by
  simp only [aSlice, tSlice]
  cases P.underlying t with
  | none => rfl
  | some u =>
    cases u with
    | slice e => simp only [Bd, Xa]; cases tSize P e <;> simp [sliceBd]
    | _ => rfl
theorem Sl_hi {P : Program} {t : TypeId} {z : Nat} {es : List (List AV)} {k : IntKind} {n : Int} : aSlice P t (.psl z es) none (some (.int k n)) none = Bd (Xa (tSlice P t)) fun e => Bd (Xa (tSize P e)) fun sz => IfO (0 ≤ n ∧ sz = z ∧ n.toNat ≤ es.length) (some (.psl z (es.take n.toNat))) := by
  simp only [aSlice, tSlice]
  cases P.underlying t with
  | none => rfl
  | some u =>
    cases u with
    | slice e =>
      simp only [Bd, Xa, IfO]
      cases tSize P e with
      | none => rfl
      | some sz =>
        by_cases h1 : 0 ≤ n <;> by_cases h2 : sz = z <;> by_cases h3 : n.toNat ≤ es.length <;> simp [sliceBd, h1, h2, h3]
    | _ => rfl
def tStr (P : Program) (t : TypeId) : Option Unit := match P.underlying t with | some .string => some () | _ => none
theorem Sl_str {P : Program} {t : TypeId} {s : List UInt8} {k k' : IntKind} {n m : Int} : aSlice P t (.str s) (some (.int k n)) (some (.int k' m)) none = Bd (Xa (tStr P t)) fun _ => IfO (0 ≤ n ∧ n ≤ m ∧ m ≤ s.length) (some (.str ((s.drop n.toNat).take (m.toNat - n.toNat)))) := by
  simp only [aSlice, tStr]
  cases P.underlying t with
  | none => rfl
  | some u =>
    cases u with
    | string =>
      simp only [Bd, Xa, IfO, sliceBd, Option.isSome_none, Bool.false_eq_true, if_false]
      by_cases h1 : 0 ≤ n
      · by_cases h2 : 0 ≤ m
        · rw [if_pos h1, if_pos h2]
          by_cases h3 : n ≤ m ∧ m ≤ s.length
          · rw [if_pos (show 0 ≤ n ∧ n ≤ m ∧ m ≤ s.length from ⟨h1, h3⟩)]; simp only; rw [if_pos (by omega)]
          · rw [if_neg (show ¬ (0 ≤ n ∧ n ≤ m ∧ m ≤ s.length) by omega)]; simp only; rw [if_neg (by omega)]
        · rw [if_pos h1, if_neg h2, if_neg (show ¬ (0 ≤ n ∧ n ≤ m ∧ m ≤ s.length) by omega)]
      · rw [if_neg h1, if_neg (show ¬ (0 ≤ n ∧ n ≤ m ∧ m ≤ s.length) by omega)]
    | _ => rfl
theorem takeM {α β : Type} {f : α → β} {l : List α} {n : Nat} : (List.map f l).take n = List.map f (l.take n) := List.map_take.symm
theorem cells_emp : AV.emp.cells = some [.emp] := rfl
theorem pur_emp {η : Heap} {d : Nat} : pur η (d + 1) .emp = some (.emp, []) := rfl
theorem exp_emp {ns : List Nat} {η : Heap} {d : Nat} : exp ns η (d + 1) .emp = some (.emp, []) := rfl
def encInt (k : IntKind) (n : Int) : List AV := [.int k n]
def encBool (b : Bool) : List AV := [.bool b]
def encStr (s : List UInt8) : List AV := [.str s]
def encSl {α : Type} (z : Nat) (f : α → List AV) (l : List α) : List AV := [.psl z (l.map f)]
theorem take_allM {α β : Type} {f : α → β} {l : List α} : (List.map f l).take l.length = List.map f l := by rw [← List.length_map (f := f)]; exact List.take_length
end Go.AM
