/- A text of the proof. -/
import Derived.Test.YtnlggkiekcpahaaGreatCGp
namespace Go.T
open Go Go.AM
set_option maxHeartbeats 4000000
def bA {α : Type} (a b : Option α) : Prop := ∀ r, a = some r → b = some r
theorem bA.refl {α : Type} (a : Option α) : bA a a := fun _ h => h
theorem bA.bind {α β : Type} {a b : Option α} {f g : α → Option β} (h : bA a b) (k : ∀ x, bA (f x) (g x)) : bA (a.bind f) (b.bind g) := by
  intro r hr
  cases a with
  | none => cases hr
  | some x => rw [h x rfl]; exact k x r hr
theorem bA.bindSum {α γ β : Type} {a b : Option (Sum α γ)} {f g : Sum α γ → Option β} (h : bA a b) (k : ∀ x, bA (f (.inl x)) (g (.inl x))) (l : ∀ x, bA (f (.inr x)) (g (.inr x))) : bA (a.bind f) (b.bind g) :=
  bA.bind h fun x => by cases x; exact k _; exact l _
theorem bA.ite {α : Type} {c : Prop} [Decidable c] {a b a' b' : Option α} (h : bA a a') (k : bA b b') : bA (if c then a else b) (if c then a' else b') := by
  by_cases hc : c
  · rw [if_pos hc, if_pos hc]; exact h
  · rw [if_neg hc, if_neg hc]; exact k
set_option linter.unusedVariables false
theorem zht (keys3 : List UInt8) (dead2 : Bool) (id1 : Int) : ∀ fu i15 v16, bA (rJ keys3 dead2 id1 fu i15 v16) (rJ keys3 dead2 id1 (fu + 1) i15 v16) := by
  intro fu
  induction fu with
  | zero => intro i15 v16 r h; rw [rJ] at h; cases h
  | succ fu ih =>
    intro i15 v16
    conv => arg 1; rw [rJ]
    conv => arg 2; rw [rJ]
    repeat' (first | exact bA.refl _ | exact ih _ _ | apply bA.ite | apply bA.bindSum | apply bA.bind | (intro _; try dsimp only) | (rename_i x; cases x <;> dsimp only))
theorem zj2 (fu : Nat) (id1 : Int) (dead2 : Bool) (keys3 : List UInt8) : bA (mP fu id1 dead2 keys3) (mP (fu + 1) id1 dead2 keys3) := by
  unfold mP
  repeat' (first | exact bA.refl _ |  apply zht | apply bA.ite | apply bA.bindSum | apply bA.bind | (intro _; try dsimp only) | (rename_i x; cases x <;> dsimp only))
theorem zep (fu : Nat) : bA (zS fu ) (zS (fu + 1) ) := by
  unfold zS
  repeat' (first | exact bA.refl _ |  apply zj2 | apply bA.ite | apply bA.bindSum | apply bA.bind | (intro _; try dsimp only) | (rename_i x; cases x <;> dsimp only))
theorem zc8 (fu : Nat) (k1 : List UInt8) : bA (wN fu k1) (wN (fu + 1) k1) := by
  unfold wN
  repeat' (first | exact bA.refl _ |  apply bA.ite | apply bA.bindSum | apply bA.bind | (intro _; try dsimp only) | (rename_i x; cases x <;> dsimp only))
theorem zZ (fu : Nat) (vx1 : aA) : bA (iL fu vx1) (iL (fu + 1) vx1) := by
  unfold iL
  repeat' (first | exact bA.refl _ |  apply zc8 | apply bA.ite | apply bA.bindSum | apply bA.bind | (intro _; try dsimp only) | (rename_i x; cases x <;> dsimp only))
theorem ziS (l1 : List aA) : ∀ fu v17, bA (dF l1 fu v17) (dF l1 (fu + 1) v17) := by
  intro fu
  induction fu with
  | zero => intro v17 r h; rw [dF] at h; cases h
  | succ fu ih =>
    intro v17
    conv => arg 1; rw [dF]
    conv => arg 2; rw [dF]
    repeat' (first | exact bA.refl _ | exact ih _ | apply zZ | apply bA.ite | apply bA.bindSum | apply bA.bind | (intro _; try dsimp only) | (rename_i x; cases x <;> dsimp only))
theorem zcz (fu : Nat) (l1 : List aA) : bA (rI fu l1) (rI (fu + 1) l1) := by
  unfold rI
  repeat' (first | exact bA.refl _ |  apply ziS | apply bA.ite | apply bA.bindSum | apply bA.bind | (intro _; try dsimp only) | (rename_i x; cases x <;> dsimp only))
theorem zdU (fu : Nat) (vr1 : zA) : bA (fP fu vr1) (fP (fu + 1) vr1) := by
  unfold fP
  repeat' (first | exact bA.refl _ |  apply zcz | apply bA.ite | apply bA.bindSum | apply bA.bind | (intro _; try dsimp only) | (rename_i x; cases x <;> dsimp only))
theorem ziV (fu : Nat) (vr1 : zA) (most2 : Int) : bA (zN fu vr1 most2) (zN (fu + 1) vr1 most2) := by
  unfold zN
  repeat' (first | exact bA.refl _ |  apply zdU | apply bA.ite | apply bA.bindSum | apply bA.bind | (intro _; try dsimp only) | (rename_i x; cases x <;> dsimp only))
theorem zjg (e169 : sA) (v165 : Int) (l1 : uA) : ∀ fu e203 v204 v205 run206, bA (fF e169 v165 l1 fu e203 v204 v205 run206) (fF e169 v165 l1 (fu + 1) e203 v204 v205 run206) := by
  intro fu
  induction fu with
  | zero => intro e203 v204 v205 run206 r h; rw [fF] at h; cases h
  | succ fu ih =>
    intro e203 v204 v205 run206
    conv => arg 1; rw [fF]
    conv => arg 2; rw [fF]
    repeat' (first | exact bA.refl _ | exact ih _ _ _ _ | apply ziV | apply bA.ite | apply bA.bindSum | apply bA.bind | (intro _; try dsimp only) | (rename_i x; cases x <;> dsimp only))
theorem zk0 (l1 : uA) : ∀ fu run163 e164 v165 v166 level167, bA (pF l1 fu run163 e164 v165 v166 level167) (pF l1 (fu + 1) run163 e164 v165 v166 level167) := by
  intro fu
  induction fu with
  | zero => intro run163 e164 v165 v166 level167 r h; rw [pF] at h; cases h
  | succ fu ih =>
    intro run163 e164 v165 v166 level167
    conv => arg 1; rw [pF]
    conv => arg 2; rw [pF]
    repeat' (first | exact bA.refl _ | exact ih _ _ _ _ _ | apply zjg | apply bA.ite | apply bA.bindSum | apply bA.bind | (intro _; try dsimp only) | (rename_i x; cases x <;> dsimp only))
theorem zcu (fu : Nat) (l1 : uA) : bA (uH fu l1) (uH (fu + 1) l1) := by
  unfold uH
  repeat' (first | exact bA.refl _ |  apply zk0 | apply bA.ite | apply bA.bindSum | apply bA.bind | (intro _; try dsimp only) | (rename_i x; cases x <;> dsimp only))
theorem zeH (e34 : sA) : ∀ fu best42 v43, bA (zG e34 fu best42 v43) (zG e34 (fu + 1) best42 v43) := by
  intro fu
  induction fu with
  | zero => intro best42 v43 r h; rw [zG] at h; cases h
  | succ fu ih =>
    intro best42 v43
    conv => arg 1; rw [zG]
    conv => arg 2; rw [zG]
    repeat' (first | exact bA.refl _ | exact ih _ _ | apply bA.ite | apply bA.bindSum | apply bA.bind | (intro _; try dsimp only) | (rename_i x; cases x <;> dsimp only))
theorem zg4 (l1 : uA) : ∀ fu best31 v32, bA (mH l1 fu best31 v32) (mH l1 (fu + 1) best31 v32) := by
  intro fu
  induction fu with
  | zero => intro best31 v32 r h; rw [mH] at h; cases h
  | succ fu ih =>
    intro best31 v32
    conv => arg 1; rw [mH]
    conv => arg 2; rw [mH]
    repeat' (first | exact bA.refl _ | exact ih _ _ | apply zeH | apply bA.ite | apply bA.bindSum | apply bA.bind | (intro _; try dsimp only) | (rename_i x; cases x <;> dsimp only))
theorem za4 (fu : Nat) (l1 : uA) : bA (zM fu l1) (zM (fu + 1) l1) := by
  unfold zM
  repeat' (first | exact bA.refl _ |  apply zg4 | apply bA.ite | apply bA.bindSum | apply bA.bind | (intro _; try dsimp only) | (rename_i x; cases x <;> dsimp only))
theorem zcN (fu : Nat) (l1 : uA) : bA (pO fu l1) (pO (fu + 1) l1) := by
  unfold pO
  repeat' (first | exact bA.refl _ |  apply bA.ite | apply bA.bindSum | apply bA.bind | (intro _; try dsimp only) | (rename_i x; cases x <;> dsimp only))
theorem zc6 (fu : Nat) (l1 : uA) (level2 : Int) : bA (lK fu l1 level2) (lK (fu + 1) l1 level2) := by
  unfold lK
  repeat' (first | exact bA.refl _ |  apply bA.ite | apply bA.bindSum | apply bA.bind | (intro _; try dsimp only) | (rename_i x; cases x <;> dsimp only))
theorem zhe (runs1 : List (List aA)) : ∀ fu v14, bA (bF runs1 fu v14) (bF runs1 (fu + 1) v14) := by
  intro fu
  induction fu with
  | zero => intro v14 r h; rw [bF] at h; cases h
  | succ fu ih =>
    intro v14
    conv => arg 1; rw [bF]
    conv => arg 2; rw [bF]
    repeat' (first | exact bA.refl _ | exact ih _ | apply zcz | apply bA.ite | apply bA.bindSum | apply bA.bind | (intro _; try dsimp only) | (rename_i x; cases x <;> dsimp only))
theorem zaR (fu : Nat) (runs1 : List (List aA)) : bA (wI fu runs1) (wI (fu + 1) runs1) := by
  unfold wI
  repeat' (first | exact bA.refl _ |  apply zhe | apply bA.ite | apply bA.bindSum | apply bA.bind | (intro _; try dsimp only) | (rename_i x; cases x <;> dsimp only))
theorem cY (fu : Nat) (vs1 : List (List aA)) : bA (cN fu vs1) (cN (fu + 1) vs1) := by
  unfold cN
  repeat' (first | exact bA.refl _ |  apply bA.ite | apply bA.bindSum | apply bA.bind | (intro _; try dsimp only) | (rename_i x; cases x <;> dsimp only))
theorem nX (fu : Nat) (l1 : List aA) (vat2 : Int) : bA (jK fu l1 vat2) (jK (fu + 1) l1 vat2) := by
  unfold jK
  repeat' (first | exact bA.refl _ |  apply bA.ite | apply bA.bindSum | apply bA.bind | (intro _; try dsimp only) | (rename_i x; cases x <;> dsimp only))
theorem zkJ (fu : Nat) (k1 : eA) : bA (kQ fu k1) (kQ (fu + 1) k1) := by
  unfold kQ
  repeat' (first | exact bA.refl _ |  apply bA.ite | apply bA.bindSum | apply bA.bind | (intro _; try dsimp only) | (rename_i x; cases x <;> dsimp only))
theorem zm4 (vs1 : List eA) : ∀ fu v12, bA (aH vs1 fu v12) (aH vs1 (fu + 1) v12) := by
  intro fu
  induction fu with
  | zero => intro v12 r h; rw [aH] at h; cases h
  | succ fu ih =>
    intro v12
    conv => arg 1; rw [aH]
    conv => arg 2; rw [aH]
    repeat' (first | exact bA.refl _ | exact ih _ | apply zkJ | apply bA.ite | apply bA.bindSum | apply bA.bind | (intro _; try dsimp only) | (rename_i x; cases x <;> dsimp only))
theorem zm1 (fu : Nat) (vs1 : List eA) : bA (wP fu vs1) (wP (fu + 1) vs1) := by
  unfold wP
  repeat' (first | exact bA.refl _ |  apply zm4 | apply bA.ite | apply bA.bindSum | apply bA.bind | (intro _; try dsimp only) | (rename_i x; cases x <;> dsimp only))
theorem zh3 (fu : Nat) (vs1 : List eA) : bA (iQ fu vs1) (iQ (fu + 1) vs1) := by
  unfold iQ
  repeat' (first | exact bA.refl _ |  apply zm1 | apply bA.ite | apply bA.bindSum | apply bA.bind | (intro _; try dsimp only) | (rename_i x; cases x <;> dsimp only))
theorem oW (fu : Nat) (keys1 : List eA) : bA (tK fu keys1) (tK (fu + 1) keys1) := by
  unfold tK
  repeat' (first | exact bA.refl _ |  apply zh3 | apply bA.ite | apply bA.bindSum | apply bA.bind | (intro _; try dsimp only) | (rename_i x; cases x <;> dsimp only))
theorem zar (fu : Nat) (keys1 : List eA) : bA (kM fu keys1) (kM (fu + 1) keys1) := by
  unfold kM
  repeat' (first | exact bA.refl _ |  apply bA.ite | apply bA.bindSum | apply bA.bind | (intro _; try dsimp only) | (rename_i x; cases x <;> dsimp only))
theorem zdS (fu : Nat) (vs1 : List eA) : bA (jQ fu vs1) (jQ (fu + 1) vs1) := by
  unfold jQ
  repeat' (first | exact bA.refl _ |  apply bA.ite | apply bA.bindSum | apply bA.bind | (intro _; try dsimp only) | (rename_i x; cases x <;> dsimp only))
theorem wY (fu : Nat) (p1 : Int) (q2 : Int) (p3 : List eA) : bA (fM fu p1 q2 p3) (fM (fu + 1) p1 q2 p3) := by
  unfold fM
  repeat' (first | exact bA.refl _ |  apply bA.ite | apply bA.bindSum | apply bA.bind | (intro _; try dsimp only) | (rename_i x; cases x <;> dsimp only))
theorem zgK (keys1 : List eA) (vr2 : List eA) : ∀ fu i34 players35 v36, bA (oG keys1 vr2 fu i34 players35 v36) (oG keys1 vr2 (fu + 1) i34 players35 v36) := by
  intro fu
  induction fu with
  | zero => intro i34 players35 v36 r h; rw [oG] at h; cases h
  | succ fu ih =>
    intro i34 players35 v36
    conv => arg 1; rw [oG]
    conv => arg 2; rw [oG]
    repeat' (first | exact bA.refl _ | exact ih _ _ _ | apply wY | apply bA.ite | apply bA.bindSum | apply bA.bind | (intro _; try dsimp only) | (rename_i x; cases x <;> dsimp only))
theorem zcx (fu : Nat) (keys1 : List eA) : bA (lN fu keys1) (lN (fu + 1) keys1) := by
  unfold lN
  repeat' (first | exact bA.refl _ |  apply zar | apply zdS | apply zgK | apply bA.ite | apply bA.bindSum | apply bA.bind | (intro _; try dsimp only) | (rename_i x; cases x <;> dsimp only))
theorem zi1 (fu : Nat) (keys1 : List eA) : bA (fO fu keys1) (fO (fu + 1) keys1) := by
  unfold fO
  repeat' (first | exact bA.refl _ |  apply oW | apply zcx | apply bA.ite | apply bA.bindSum | apply bA.bind | (intro _; try dsimp only) | (rename_i x; cases x <;> dsimp only))
theorem zez (runs1 : List (List aA)) (vat2 : List Int) : ∀ fu v18 keys19, bA (qH runs1 vat2 fu v18 keys19) (qH runs1 vat2 (fu + 1) v18 keys19) := by
  intro fu
  induction fu with
  | zero => intro v18 keys19 r h; rw [qH] at h; cases h
  | succ fu ih =>
    intro v18 keys19
    conv => arg 1; rw [qH]
    conv => arg 2; rw [qH]
    repeat' (first | exact bA.refl _ | exact ih _ _ | apply nX | apply bA.ite | apply bA.bindSum | apply bA.bind | (intro _; try dsimp only) | (rename_i x; cases x <;> dsimp only))
theorem zch (fu : Nat) (runs1 : List (List aA)) (vat2 : List Int) : bA (xM fu runs1 vat2) (xM (fu + 1) runs1 vat2) := by
  unfold xM
  repeat' (first | exact bA.refl _ |  apply zez | apply zi1 | apply bA.ite | apply bA.bindSum | apply bA.bind | (intro _; try dsimp only) | (rename_i x; cases x <;> dsimp only))
theorem zkj (fu : Nat) (runs1 : List (List aA)) : bA (jL fu runs1) (jL (fu + 1) runs1) := by
  unfold jL
  repeat' (first | exact bA.refl _ |  apply zaR | apply cY | apply zch | apply bA.ite | apply bA.bindSum | apply bA.bind | (intro _; try dsimp only) | (rename_i x; cases x <;> dsimp only))
theorem aZ (fu : Nat) (bottom1 : Bool) : bA (kN fu bottom1) (kN (fu + 1) bottom1) := by
  unfold kN
  repeat' (first | exact bA.refl _ |  apply bA.ite | apply bA.bindSum | apply bA.bind | (intro _; try dsimp only) | (rename_i x; cases x <;> dsimp only))
theorem zj3 (fu : Nat) (runs1 : List (List aA)) (bottom2 : Bool) : bA (sN fu runs1 bottom2) (sN (fu + 1) runs1 bottom2) := by
  unfold sN
  repeat' (first | exact bA.refl _ |  apply zkj | apply aZ | apply bA.ite | apply bA.bindSum | apply bA.bind | (intro _; try dsimp only) | (rename_i x; cases x <;> dsimp only))
theorem zbs (fu : Nat) (l1 : uA) (level2 : Int) (bottom3 : Bool) : bA (zL fu l1 level2 bottom3) (zL (fu + 1) l1 level2 bottom3) := by
  unfold zL
  repeat' (first | exact bA.refl _ |  apply zj3 | apply bA.ite | apply bA.bindSum | apply bA.bind | (intro _; try dsimp only) | (rename_i x; cases x <;> dsimp only))
theorem zlY (vr5 : Int × List sA) (l1 : uA) : ∀ fu level27 v28, bA (dG vr5 l1 fu level27 v28) (dG vr5 l1 (fu + 1) level27 v28) := by
  intro fu
  induction fu with
  | zero => intro level27 v28 r h; rw [dG] at h; cases h
  | succ fu ih =>
    intro level27 v28
    conv => arg 1; rw [dG]
    conv => arg 2; rw [dG]
    repeat' (first | exact bA.refl _ | exact ih _ _ | apply zc6 | apply zbs | apply bA.ite | apply bA.bindSum | apply bA.bind | (intro _; try dsimp only) | (rename_i x; cases x <;> dsimp only))
theorem zi4 (fu : Nat) (l1 : uA) : bA (wJ fu l1) (wJ (fu + 1) l1) := by
  unfold wJ
  repeat' (first | exact bA.refl _ |  apply zcu | apply za4 | apply zcN | apply zlY | apply bA.ite | apply bA.bindSum | apply bA.bind | (intro _; try dsimp only) | (rename_i x; cases x <;> dsimp only))
theorem zfz (seq2 : List sA) : ∀ fu v18 v19, bA (gG seq2 fu v18 v19) (gG seq2 (fu + 1) v18 v19) := by
  intro fu
  induction fu with
  | zero => intro v18 v19 r h; rw [gG] at h; cases h
  | succ fu ih =>
    intro v18 v19
    conv => arg 1; rw [gG]
    conv => arg 2; rw [gG]
    repeat' (first | exact bA.refl _ | exact ih _ _ | apply bA.ite | apply bA.bindSum | apply bA.bind | (intro _; try dsimp only) | (rename_i x; cases x <;> dsimp only))
theorem zlz (fu : Nat) (seq1 : Int) (seq2 : List sA) : bA (uN fu seq1 seq2) (uN (fu + 1) seq1 seq2) := by
  unfold uN
  repeat' (first | exact bA.refl _ |  apply zfz | apply bA.ite | apply bA.bindSum | apply bA.bind | (intro _; try dsimp only) | (rename_i x; cases x <;> dsimp only))
theorem zfl (s11 : List eA) (s22 : List eA) : ∀ fu v14, bA (gH s11 s22 fu v14) (gH s11 s22 (fu + 1) v14) := by
  intro fu
  induction fu with
  | zero => intro v14 r h; rw [gH] at h; cases h
  | succ fu ih =>
    intro v14
    conv => arg 1; rw [gH]
    conv => arg 2; rw [gH]
    repeat' (first | exact bA.refl _ | exact ih _ | apply bA.ite | apply bA.bindSum | apply bA.bind | (intro _; try dsimp only) | (rename_i x; cases x <;> dsimp only))
theorem zby (fu : Nat) (s11 : List eA) (s22 : List eA) : bA (fK fu s11 s22) (fK (fu + 1) s11 s22) := by
  unfold fK
  repeat' (first | exact bA.refl _ |  apply zfl | apply bA.ite | apply bA.bindSum | apply bA.bind | (intro _; try dsimp only) | (rename_i x; cases x <;> dsimp only))
theorem zjD (s11 : List Int) (s22 : List Int) : ∀ fu v14, bA (dH s11 s22 fu v14) (dH s11 s22 (fu + 1) v14) := by
  intro fu
  induction fu with
  | zero => intro v14 r h; rw [dH] at h; cases h
  | succ fu ih =>
    intro v14
    conv => arg 1; rw [dH]
    conv => arg 2; rw [dH]
    repeat' (first | exact bA.refl _ | exact ih _ | apply bA.ite | apply bA.bindSum | apply bA.bind | (intro _; try dsimp only) | (rename_i x; cases x <;> dsimp only))
theorem zb5 (fu : Nat) (s11 : List Int) (s22 : List Int) : bA (yI fu s11 s22) (yI (fu + 1) s11 s22) := by
  unfold yI
  repeat' (first | exact bA.refl _ |  apply zjD | apply bA.ite | apply bA.bindSum | apply bA.bind | (intro _; try dsimp only) | (rename_i x; cases x <;> dsimp only))
theorem zl8 (fu : Nat) (a1 : eB) (b2 : eB) : bA (tO fu a1 b2) (tO (fu + 1) a1 b2) := by
  unfold tO
  repeat' (first | exact bA.refl _ |  apply zby | apply zb5 | apply bA.ite | apply bA.bindSum | apply bA.bind | (intro _; try dsimp only) | (rename_i x; cases x <;> dsimp only))
theorem zkp (vr5 : eB) (t1 : eB) : ∀ fu v16, bA (jH vr5 t1 fu v16) (jH vr5 t1 (fu + 1) v16) := by
  intro fu
  induction fu with
  | zero => intro v16 r h; rw [jH] at h; cases h
  | succ fu ih =>
    intro v16
    conv => arg 1; rw [jH]
    conv => arg 2; rw [jH]
    repeat' (first | exact bA.refl _ | exact ih _ | apply bA.ite | apply bA.bindSum | apply bA.bind | (intro _; try dsimp only) | (rename_i x; cases x <;> dsimp only))
theorem zgw (fu : Nat) (t1 : eB) : bA (uO fu t1) (uO (fu + 1) t1) := by
  unfold uO
  repeat' (first | exact bA.refl _ |  apply oW | apply zcx | apply zkp | apply bA.ite | apply bA.bindSum | apply bA.bind | (intro _; try dsimp only) | (rename_i x; cases x <;> dsimp only))
theorem zbv (fu : Nat) (t1 : eB) : bA (nM fu t1) (nM (fu + 1) t1) := by
  unfold nM
  repeat' (first | exact bA.refl _ |  apply zgw | apply bA.ite | apply bA.bindSum | apply bA.bind | (intro _; try dsimp only) | (rename_i x; cases x <;> dsimp only))
theorem zcH (fu : Nat) (t1 : eB) : bA (tM fu t1) (tM (fu + 1) t1) := by
  unfold tM
  repeat' (first | exact bA.refl _ |  apply zbv | apply bA.ite | apply bA.bindSum | apply bA.bind | (intro _; try dsimp only) | (rename_i x; cases x <;> dsimp only))
theorem ziF (fu : Nat) (vx1 : List UInt8) : bA (jO fu vx1) (jO (fu + 1) vx1) := by
  unfold jO
  repeat' (first | exact bA.refl _ |  apply bA.ite | apply bA.bindSum | apply bA.bind | (intro _; try dsimp only) | (rename_i x; cases x <;> dsimp only))
theorem zdB (fu : Nat) (vx1 : List UInt8) (y2 : List UInt8) : bA (iK fu vx1 y2) (iK (fu + 1) vx1 y2) := by
  unfold iK
  repeat' (first | exact bA.refl _ |  apply ziF | apply bA.ite | apply bA.bindSum | apply bA.bind | (intro _; try dsimp only) | (rename_i x; cases x <;> dsimp only))
theorem zgx (fu : Nat) (vx1 : Int) : bA (qN fu vx1) (qN (fu + 1) vx1) := by
  unfold qN
  repeat' (first | exact bA.refl _ |  apply bA.ite | apply bA.bindSum | apply bA.bind | (intro _; try dsimp only) | (rename_i x; cases x <;> dsimp only))
theorem ziA (fu : Nat) (vx1 : Int) (y2 : Int) : bA (cM fu vx1 y2) (cM (fu + 1) vx1 y2) := by
  unfold cM
  repeat' (first | exact bA.refl _ |  apply zgx | apply bA.ite | apply bA.bindSum | apply bA.bind | (intro _; try dsimp only) | (rename_i x; cases x <;> dsimp only))
theorem zlb (vals1 : List Int) : ∀ fu v10, bA (iH vals1 fu v10) (iH vals1 (fu + 1) v10) := by
  intro fu
  induction fu with
  | zero => intro v10 r h; rw [iH] at h; cases h
  | succ fu ih =>
    intro v10
    conv => arg 1; rw [iH]
    conv => arg 2; rw [iH]
    repeat' (first | exact bA.refl _ | exact ih _ | apply bA.ite | apply bA.bindSum | apply bA.bind | (intro _; try dsimp only) | (rename_i x; cases x <;> dsimp only))
theorem zgD (fu : Nat) (vals1 : List Int) : bA (wK fu vals1) (wK (fu + 1) vals1) := by
  unfold wK
  repeat' (first | exact bA.refl _ |  apply zlb | apply bA.ite | apply bA.bindSum | apply bA.bind | (intro _; try dsimp only) | (rename_i x; cases x <;> dsimp only))
theorem zfw (vs1 : kB) : ∀ fu v19, bA (vF vs1 fu v19) (vF vs1 (fu + 1) v19) := by
  intro fu
  induction fu with
  | zero => intro v19 r h; rw [vF] at h; cases h
  | succ fu ih =>
    intro v19
    conv => arg 1; rw [vF]
    conv => arg 2; rw [vF]
    repeat' (first | exact bA.refl _ | exact ih _ | apply bA.ite | apply bA.bindSum | apply bA.bind | (intro _; try dsimp only) | (rename_i x; cases x <;> dsimp only))
theorem zen (vs1 : kB) (vr30 : Int × List UInt8 × Int) : ∀ fu v54, bA (gF vs1 vr30 fu v54) (gF vs1 vr30 (fu + 1) v54) := by
  intro fu
  induction fu with
  | zero => intro v54 r h; rw [gF] at h; cases h
  | succ fu ih =>
    intro v54
    conv => arg 1; rw [gF]
    conv => arg 2; rw [gF]
    repeat' (first | exact bA.refl _ | exact ih _ | apply zdB | apply ziA | apply zgD | apply bA.ite | apply bA.bindSum | apply bA.bind | (intro _; try dsimp only) | (rename_i x; cases x <;> dsimp only))
theorem zaH (fu : Nat) (vs1 : kB) : bA (pH fu vs1) (pH (fu + 1) vs1) := by
  unfold pH
  repeat' (first | exact bA.refl _ |  apply zaR | apply zfw | apply zch | apply zl8 | apply zcH | apply zen | apply bA.ite | apply bA.bindSum | apply bA.bind | (intro _; try dsimp only) | (rename_i x; cases x <;> dsimp only))
theorem zcM (fu : Nat) (vr1 : List (List aA)) (vr2 : List Int) (vr3 : List eA) (vr4 : List Int) (vr5 : Int) : bA (tP fu vr1 vr2 vr3 vr4 vr5) (tP (fu + 1) vr1 vr2 vr3 vr4 vr5) := by
  unfold tP
  repeat' (first | exact bA.refl _ |  apply zcH | apply bA.ite | apply bA.bindSum | apply bA.bind | (intro _; try dsimp only) | (rename_i x; cases x <;> dsimp only))
theorem zcv (fu : Nat) (vs1 : List eA) : bA (kP fu vs1) (kP (fu + 1) vs1) := by
  unfold kP
  repeat' (first | exact bA.refl _ |  apply bA.ite | apply bA.bindSum | apply bA.bind | (intro _; try dsimp only) | (rename_i x; cases x <;> dsimp only))
theorem zhZ (keys1 : List eA) (vr2 : List eA) : ∀ fu i34 players35 v36, bA (fI keys1 vr2 fu i34 players35 v36) (fI keys1 vr2 (fu + 1) i34 players35 v36) := by
  intro fu
  induction fu with
  | zero => intro i34 players35 v36 r h; rw [fI] at h; cases h
  | succ fu ih =>
    intro i34 players35 v36
    conv => arg 1; rw [fI]
    conv => arg 2; rw [fI]
    repeat' (first | exact bA.refl _ | exact ih _ _ _ | apply wY | apply bA.ite | apply bA.bindSum | apply bA.bind | (intro _; try dsimp only) | (rename_i x; cases x <;> dsimp only))
theorem zkw (fu : Nat) (keys1 : List eA) : bA (eS fu keys1) (eS (fu + 1) keys1) := by
  unfold eS
  repeat' (first | exact bA.refl _ |  apply zar | apply zcv | apply zhZ | apply bA.ite | apply bA.bindSum | apply bA.bind | (intro _; try dsimp only) | (rename_i x; cases x <;> dsimp only))
theorem zhW (fu : Nat) (keys1 : List eA) : bA (zR fu keys1) (zR (fu + 1) keys1) := by
  unfold zR
  repeat' (first | exact bA.refl _ |  apply oW | apply zkw | apply bA.ite | apply bA.bindSum | apply bA.bind | (intro _; try dsimp only) | (rename_i x; cases x <;> dsimp only))
theorem zh0 (runs1 : List (List aA)) (vat2 : List Int) : ∀ fu v18 keys19, bA (pJ runs1 vat2 fu v18 keys19) (pJ runs1 vat2 (fu + 1) v18 keys19) := by
  intro fu
  induction fu with
  | zero => intro v18 keys19 r h; rw [pJ] at h; cases h
  | succ fu ih =>
    intro v18 keys19
    conv => arg 1; rw [pJ]
    conv => arg 2; rw [pJ]
    repeat' (first | exact bA.refl _ | exact ih _ _ | apply nX | apply bA.ite | apply bA.bindSum | apply bA.bind | (intro _; try dsimp only) | (rename_i x; cases x <;> dsimp only))
theorem zgm (fu : Nat) (runs1 : List (List aA)) (vat2 : List Int) : bA (fR fu runs1 vat2) (fR (fu + 1) runs1 vat2) := by
  unfold fR
  repeat' (first | exact bA.refl _ |  apply zh0 | apply zhW | apply bA.ite | apply bA.bindSum | apply bA.bind | (intro _; try dsimp only) | (rename_i x; cases x <;> dsimp only))
theorem ziu (fu : Nat) (runs1 : List (List aA)) : bA (sR fu runs1) (sR (fu + 1) runs1) := by
  unfold sR
  repeat' (first | exact bA.refl _ |  apply zaR | apply cY | apply zgm | apply bA.ite | apply bA.bindSum | apply bA.bind | (intro _; try dsimp only) | (rename_i x; cases x <;> dsimp only))
theorem zdx (fu : Nat) (vs1 : List Int) : bA (aQ fu vs1) (aQ (fu + 1) vs1) := by
  unfold aQ
  repeat' (first | exact bA.refl _ |  apply bA.ite | apply bA.bindSum | apply bA.bind | (intro _; try dsimp only) | (rename_i x; cases x <;> dsimp only))
theorem zmh (vr14 : List eA) : ∀ fu games29 node30 u31 v32, bA (hI vr14 fu games29 node30 u31 v32) (hI vr14 (fu + 1) games29 node30 u31 v32) := by
  intro fu
  induction fu with
  | zero => intro games29 node30 u31 v32 r h; rw [hI] at h; cases h
  | succ fu ih =>
    intro games29 node30 u31 v32
    conv => arg 1; rw [hI]
    conv => arg 2; rw [hI]
    repeat' (first | exact bA.refl _ | exact ih _ _ _ _ | apply wY | apply bA.ite | apply bA.bindSum | apply bA.bind | (intro _; try dsimp only) | (rename_i x; cases x <;> dsimp only))
theorem zcB (fu : Nat) (t1 : eB) (k2 : eA) : bA (xP fu t1 k2) (xP (fu + 1) t1 k2) := by
  unfold xP
  repeat' (first | exact bA.refl _ |  apply zbv | apply oW | apply zcv | apply zdx | apply zar | apply zmh | apply bA.ite | apply bA.bindSum | apply bA.bind | (intro _; try dsimp only) | (rename_i x; cases x <;> dsimp only))
theorem zku (vr2 : kB × Int × Int) : ∀ fu v38 v39 v40 v41 v42 v43, bA (dJ vr2 fu v38 v39 v40 v41 v42 v43) (dJ vr2 (fu + 1) v38 v39 v40 v41 v42 v43) := by
  intro fu
  induction fu with
  | zero => intro v38 v39 v40 v41 v42 v43 r h; rw [dJ] at h; cases h
  | succ fu ih =>
    intro v38 v39 v40 v41 v42 v43
    conv => arg 1; rw [dJ]
    conv => arg 2; rw [dJ]
    repeat' (first | exact bA.refl _ | exact ih _ _ _ _ _ _ | apply zcM | apply nX | apply zcB | apply bA.ite | apply bA.bindSum | apply bA.bind | (intro _; try dsimp only) | (rename_i x; cases x <;> dsimp only))
theorem zmn (fu : Nat) (runs1 : List (List aA)) : bA (cR fu runs1) (cR (fu + 1) runs1) := by
  unfold cR
  repeat' (first | exact bA.refl _ |  apply ziu | apply zku | apply bA.ite | apply bA.bindSum | apply bA.bind | (intro _; try dsimp only) | (rename_i x; cases x <;> dsimp only))
theorem zcZ (fu : Nat) (vs1 : tB) : bA (jP fu vs1) (jP (fu + 1) vs1) := by
  unfold jP
  repeat' (first | exact bA.refl _ |  apply zc8 | apply bA.ite | apply bA.bindSum | apply bA.bind | (intro _; try dsimp only) | (rename_i x; cases x <;> dsimp only))
theorem zmY (fu : Nat) (vx1 : pE) : bA (uS fu vx1) (uS (fu + 1) vx1) := by
  unfold uS
  repeat' (first | exact bA.refl _ |  apply bA.ite | apply bA.bindSum | apply bA.bind | (intro _; try dsimp only) | (rename_i x; cases x <;> dsimp only))
theorem zks (l1 : List aA) (vr4 : tB) : ∀ fu v60 v61 v62 v63, bA (aI l1 vr4 fu v60 v61 v62 v63) (aI l1 vr4 (fu + 1) v60 v61 v62 v63) := by
  intro fu
  induction fu with
  | zero => intro v60 v61 v62 v63 r h; rw [aI] at h; cases h
  | succ fu ih =>
    intro v60 v61 v62 v63
    conv => arg 1; rw [aI]
    conv => arg 2; rw [aI]
    repeat' (first | exact bA.refl _ | exact ih _ _ _ _ | apply zcZ | apply zZ | apply zmY | apply bA.ite | apply bA.bindSum | apply bA.bind | (intro _; try dsimp only) | (rename_i x; cases x <;> dsimp only))
theorem zic (fu : Nat) (l1 : List aA) (bottom2 : Bool) : bA (pS fu l1 bottom2) (pS (fu + 1) l1 bottom2) := by
  unfold pS
  repeat' (first | exact bA.refl _ |  apply aZ | apply zks | apply bA.ite | apply bA.bindSum | apply bA.bind | (intro _; try dsimp only) | (rename_i x; cases x <;> dsimp only))
theorem zgC (a1 : List aA) (b2 : List aA) : ∀ fu v14, bA (jJ a1 b2 fu v14) (jJ a1 b2 (fu + 1) v14) := by
  intro fu
  induction fu with
  | zero => intro v14 r h; rw [jJ] at h; cases h
  | succ fu ih =>
    intro v14
    conv => arg 1; rw [jJ]
    conv => arg 2; rw [jJ]
    repeat' (first | exact bA.refl _ | exact ih _ | apply bA.ite | apply bA.bindSum | apply bA.bind | (intro _; try dsimp only) | (rename_i x; cases x <;> dsimp only))
theorem zdE (fu : Nat) (a1 : List aA) (b2 : List aA) : bA (sP fu a1 b2) (sP (fu + 1) a1 b2) := by
  unfold sP
  repeat' (first | exact bA.refl _ |  apply zgC | apply bA.ite | apply bA.bindSum | apply bA.bind | (intro _; try dsimp only) | (rename_i x; cases x <;> dsimp only))
theorem zfb (vs1 : wB) : ∀ fu n11 v12, bA (oJ vs1 fu n11 v12) (oJ vs1 (fu + 1) n11 v12) := by
  intro fu
  induction fu with
  | zero => intro n11 v12 r h; rw [oJ] at h; cases h
  | succ fu ih =>
    intro n11 v12
    conv => arg 1; rw [oJ]
    conv => arg 2; rw [oJ]
    repeat' (first | exact bA.refl _ | exact ih _ _ | apply bA.ite | apply bA.bindSum | apply bA.bind | (intro _; try dsimp only) | (rename_i x; cases x <;> dsimp only))
theorem zfv (fu : Nat) (vs1 : wB) : bA (hS fu vs1) (hS (fu + 1) vs1) := by
  unfold hS
  repeat' (first | exact bA.refl _ |  apply zaH | apply zfb | apply zmn | apply zic | apply aZ | apply zdE | apply bA.ite | apply bA.bindSum | apply bA.bind | (intro _; try dsimp only) | (rename_i x; cases x <;> dsimp only))
theorem ziz (vs1 : kB) : ∀ fu n13 v14, bA (eJ vs1 fu n13 v14) (eJ vs1 (fu + 1) n13 v14) := by
  intro fu
  induction fu with
  | zero => intro n13 v14 r h; rw [eJ] at h; cases h
  | succ fu ih =>
    intro n13 v14
    conv => arg 1; rw [eJ]
    conv => arg 2; rw [eJ]
    repeat' (first | exact bA.refl _ | exact ih _ _ | apply bA.ite | apply bA.bindSum | apply bA.bind | (intro _; try dsimp only) | (rename_i x; cases x <;> dsimp only))
theorem ze1 (fu : Nat) (vs1 : kB) : bA (bS fu vs1) (bS (fu + 1) vs1) := by
  unfold bS
  repeat' (first | exact bA.refl _ |  apply zaH | apply ziz | apply bA.ite | apply bA.bindSum | apply bA.bind | (intro _; try dsimp only) | (rename_i x; cases x <;> dsimp only))
theorem vW (fu : Nat) (vs1 : wB) : bA (eN fu vs1) (eN (fu + 1) vs1) := by
  unfold eN
  repeat' (first | exact bA.refl _ |  apply zfv | apply ze1 | apply bA.ite | apply bA.bindSum | apply bA.bind | (intro _; try dsimp only) | (rename_i x; cases x <;> dsimp only))
theorem zhx (fu : Nat) (vs1 : kB) : bA (vQ fu vs1) (vQ (fu + 1) vs1) := by
  unfold vQ
  repeat' (first | exact bA.refl _ |  apply zaH | apply cY | apply zdx | apply zcM | apply nX | apply zcB | apply bA.ite | apply bA.bindSum | apply bA.bind | (intro _; try dsimp only) | (rename_i x; cases x <;> dsimp only))
theorem zjx (fu : Nat) (vs1 : tB) (vx2 : aA) : bA (dS fu vs1 vx2) (dS (fu + 1) vs1 vx2) := by
  unfold dS
  repeat' (first | exact bA.refl _ |  apply zcZ | apply zZ | apply bA.ite | apply bA.bindSum | apply bA.bind | (intro _; try dsimp only) | (rename_i x; cases x <;> dsimp only))
theorem zjn (vr3 : Int × Int) (n2 : Int) : ∀ fu left43 v44 v45 v46 v47 v48 v49 v50 v51 v52 v53, bA (uI vr3 n2 fu left43 v44 v45 v46 v47 v48 v49 v50 v51 v52 v53) (uI vr3 n2 (fu + 1) left43 v44 v45 v46 v47 v48 v49 v50 v51 v52 v53) := by
  intro fu
  induction fu with
  | zero => intro left43 v44 v45 v46 v47 v48 v49 v50 v51 v52 v53 r h; rw [uI] at h; cases h
  | succ fu ih =>
    intro left43 v44 v45 v46 v47 v48 v49 v50 v51 v52 v53
    conv => arg 1; rw [uI]
    conv => arg 2; rw [uI]
    repeat' (first | exact bA.refl _ | exact ih _ _ _ _ _ _ _ _ _ _ _ | apply zhx | apply zjx | apply bA.ite | apply bA.bindSum | apply bA.bind | (intro _; try dsimp only) | (rename_i x; cases x <;> dsimp only))
theorem zaT (fu : Nat) (vs1 : wB) (n2 : Int) : bA (yO fu vs1 n2) (yO (fu + 1) vs1 n2) := by
  unfold yO
  repeat' (first | exact bA.refl _ |  apply vW | apply zjn | apply bA.ite | apply bA.bindSum | apply bA.bind | (intro _; try dsimp only) | (rename_i x; cases x <;> dsimp only))
theorem zhV (s11 : List aA) (s22 : List aA) : ∀ fu v14, bA (kJ s11 s22 fu v14) (kJ s11 s22 (fu + 1) v14) := by
  intro fu
  induction fu with
  | zero => intro v14 r h; rw [kJ] at h; cases h
  | succ fu ih =>
    intro v14
    conv => arg 1; rw [kJ]
    conv => arg 2; rw [kJ]
    repeat' (first | exact bA.refl _ | exact ih _ | apply bA.ite | apply bA.bindSum | apply bA.bind | (intro _; try dsimp only) | (rename_i x; cases x <;> dsimp only))
theorem zeU (fu : Nat) (s11 : List aA) (s22 : List aA) : bA (sS fu s11 s22) (sS (fu + 1) s11 s22) := by
  unfold sS
  repeat' (first | exact bA.refl _ |  apply zhV | apply bA.ite | apply bA.bindSum | apply bA.bind | (intro _; try dsimp only) | (rename_i x; cases x <;> dsimp only))
theorem zbB (fu : Nat) (a1 : List aA) (b2 : List aA) : bA (eO fu a1 b2) (eO (fu + 1) a1 b2) := by
  unfold eO
  repeat' (first | exact bA.refl _ |  apply zeU | apply bA.ite | apply bA.bindSum | apply bA.bind | (intro _; try dsimp only) | (rename_i x; cases x <;> dsimp only))
theorem zkl (s11 : List (List aA)) (s22 : List (List aA)) : ∀ fu v16, bA (vJ s11 s22 fu v16) (vJ s11 s22 (fu + 1) v16) := by
  intro fu
  induction fu with
  | zero => intro v16 r h; rw [vJ] at h; cases h
  | succ fu ih =>
    intro v16
    conv => arg 1; rw [vJ]
    conv => arg 2; rw [vJ]
    repeat' (first | exact bA.refl _ | exact ih _ | apply zbB | apply bA.ite | apply bA.bindSum | apply bA.bind | (intro _; try dsimp only) | (rename_i x; cases x <;> dsimp only))
theorem zdM (fu : Nat) (s11 : List (List aA)) (s22 : List (List aA)) : bA (pQ fu s11 s22) (pQ (fu + 1) s11 s22) := by
  unfold pQ
  repeat' (first | exact bA.refl _ |  apply zkl | apply bA.ite | apply bA.bindSum | apply bA.bind | (intro _; try dsimp only) | (rename_i x; cases x <;> dsimp only))
theorem ziq (fu : Nat) (a1 : wB) (b2 : wB) : bA (jS fu a1 b2) (jS (fu + 1) a1 b2) := by
  unfold jS
  repeat' (first | exact bA.refl _ |  apply zdM | apply zb5 | apply zby | apply zbB | apply bA.ite | apply bA.bindSum | apply bA.bind | (intro _; try dsimp only) | (rename_i x; cases x <;> dsimp only))
theorem zji (vs1 : oB) (vr10 : List Int) : ∀ fu v49, bA (uJ vs1 vr10 fu v49) (uJ vs1 vr10 (fu + 1) v49) := by
  intro fu
  induction fu with
  | zero => intro v49 r h; rw [uJ] at h; cases h
  | succ fu ih =>
    intro v49
    conv => arg 1; rw [uJ]
    conv => arg 2; rw [uJ]
    repeat' (first | exact bA.refl _ | exact ih _ | apply zc6 | apply zbs | apply vW | apply zaT | apply ziq | apply bA.ite | apply bA.bindSum | apply bA.bind | (intro _; try dsimp only) | (rename_i x; cases x <;> dsimp only))
theorem zbM (fu : Nat) (vs1 : oB) : bA (oP fu vs1) (oP (fu + 1) vs1) := by
  unfold oP
  repeat' (first | exact bA.refl _ |  apply zcu | apply za4 | apply zcN | apply zlz | apply zji | apply bA.ite | apply bA.bindSum | apply bA.bind | (intro _; try dsimp only) | (rename_i x; cases x <;> dsimp only))
theorem ziW (fu : Nat) (j1 : yA) (p2 : Int) : bA (mS fu j1 p2) (mS (fu + 1) j1 p2) := by
  unfold mS
  repeat' (first | exact bA.refl _ |  apply bA.ite | apply bA.bindSum | apply bA.bind | (intro _; try dsimp only) | (rename_i x; cases x <;> dsimp only))
theorem zdz (vs1 : List yA) (f2 : Int) : ∀ fu v13, bA (xJ vs1 f2 fu v13) (xJ vs1 f2 (fu + 1) v13) := by
  intro fu
  induction fu with
  | zero => intro v13 r h; rw [xJ] at h; cases h
  | succ fu ih =>
    intro v13
    conv => arg 1; rw [xJ]
    conv => arg 2; rw [xJ]
    repeat' (first | exact bA.refl _ | exact ih _ | apply ziW | apply bA.ite | apply bA.bindSum | apply bA.bind | (intro _; try dsimp only) | (rename_i x; cases x <;> dsimp only))
theorem zhn (fu : Nat) (vs1 : List yA) (f2 : Int) : bA (tS fu vs1 f2) (tS (fu + 1) vs1 f2) := by
  unfold tS
  repeat' (first | exact bA.refl _ |  apply zdz | apply bA.ite | apply bA.bindSum | apply bA.bind | (intro _; try dsimp only) | (rename_i x; cases x <;> dsimp only))
theorem zk5 (fu : Nat) (l1 : List yA) (is2 : Int) : bA (iR fu l1 is2) (iR (fu + 1) l1 is2) := by
  unfold iR
  repeat' (first | exact bA.refl _ |  apply zhn | apply bA.ite | apply bA.bindSum | apply bA.bind | (intro _; try dsimp only) | (rename_i x; cases x <;> dsimp only))
theorem zbc (fu : Nat) (vs1 : oB) (level2 : Int) : bA (lP fu vs1 level2) (lP (fu + 1) vs1 level2) := by
  unfold lP
  repeat' (first | exact bA.refl _ |  apply zbM | apply zk5 | apply bA.ite | apply bA.bindSum | apply bA.bind | (intro _; try dsimp only) | (rename_i x; cases x <;> dsimp only))
theorem zgi (fu : Nat) (vs1 : oB) (level2 : Int) : bA (gP fu vs1 level2) (gP (fu + 1) vs1 level2) := by
  unfold gP
  repeat' (first | exact bA.refl _ |  apply zbc | apply vW | apply bA.ite | apply bA.bindSum | apply bA.bind | (intro _; try dsimp only) | (rename_i x; cases x <;> dsimp only))
theorem zf1 (fu : Nat) (vs1 : List yA) : bA (bR fu vs1) (bR (fu + 1) vs1) := by
  unfold bR
  repeat' (first | exact bA.refl _ |  apply bA.ite | apply bA.bindSum | apply bA.bind | (intro _; try dsimp only) | (rename_i x; cases x <;> dsimp only))
theorem zfp (fu : Nat) (vs1 : oB) (level2 : Int) (most3 : Int) : bA (eQ fu vs1 level2 most3) (eQ (fu + 1) vs1 level2 most3) := by
  unfold eQ
  repeat' (first | exact bA.refl _ |  apply zbM | apply zbc | apply vW | apply zaT | apply zf1 | apply bA.ite | apply bA.bindSum | apply bA.bind | (intro _; try dsimp only) | (rename_i x; cases x <;> dsimp only))
theorem zma (fu : Nat) : bA (lL fu ) (lL (fu + 1) ) := by
  unfold lL
  repeat' (first | exact bA.refl _ |  apply zep | apply zi4 | apply zgi | apply zfp | apply bA.ite | apply bA.bindSum | apply bA.bind | (intro _; try dsimp only) | (rename_i x; cases x <;> dsimp only))
end Go.T
