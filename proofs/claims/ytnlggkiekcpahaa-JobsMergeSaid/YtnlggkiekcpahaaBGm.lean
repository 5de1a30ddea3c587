/- A text of the proof. -/
import Derived.Test.YtnlggkiekcpahaaBGp
namespace Go.T
open Go Go.AM
set_option maxHeartbeats 4000000
def bA {α : Type} (a b : Option α) : Prop := ∀ r, a = some r → b = some r
theorem bA.refl {α : Type} (a : Option α) : bA a a := fun _ h => h
theorem bA.bind {α β : Type} {a b : Option α} {f g : α → Option β} (h : bA a b) (k : ∀ x, bA (f x) (g x)) : bA (a.bind f) (b.bind g) := by
  intro r hr
  cases a with
  | none => cases hr
  | some x => rw [h x rfl]; exact k x r hr
theorem bA.bindSum {α γ β : Type} {a b : Option (Sum α γ)} {f g : Sum α γ → Option β} (h : bA a b) (k : ∀ x, bA (f (.inl x)) (g (.inl x))) (l : ∀ x, bA (f (.inr x)) (g (.inr x))) : bA (a.bind f) (b.bind g) :=
  bA.bind h fun x => by cases x; exact k _; exact l _
theorem bA.ite {α : Type} {c : Prop} [Decidable c] {a b a' b' : Option α} (h : bA a a') (k : bA b b') : bA (if c then a else b) (if c then a' else b') := by
  by_cases hc : c
  · rw [if_pos hc, if_pos hc]; exact h
  · rw [if_neg hc, if_neg hc]; exact k
set_option linter.unusedVariables false
theorem ziy (keys3 : List UInt8) (dead2 : Bool) (id1 : Int) : ∀ fu i15 v16, bA (gK keys3 dead2 id1 fu i15 v16) (gK keys3 dead2 id1 (fu + 1) i15 v16) := by
  intro fu
  induction fu with
  | zero => intro i15 v16 r h; rw [gK] at h; cases h
  | succ fu ih =>
    intro i15 v16
    conv => arg 1; rw [gK]
    conv => arg 2; rw [gK]
    repeat' (first | exact bA.refl _ | exact ih _ _ | apply bA.ite | apply bA.bindSum | apply bA.bind | (intro _; try dsimp only) | (rename_i x; cases x <;> dsimp only))
theorem zmB (fu : Nat) (id1 : Int) (dead2 : Bool) (keys3 : List UInt8) : bA (aR fu id1 dead2 keys3) (aR (fu + 1) id1 dead2 keys3) := by
  unfold aR
  repeat' (first | exact bA.refl _ |  apply ziy | apply bA.ite | apply bA.bindSum | apply bA.bind | (intro _; try dsimp only) | (rename_i x; cases x <;> dsimp only))
theorem ziJ (fu : Nat) : bA (cT fu ) (cT (fu + 1) ) := by
  unfold cT
  repeat' (first | exact bA.refl _ |  apply zmB | apply bA.ite | apply bA.bindSum | apply bA.bind | (intro _; try dsimp only) | (rename_i x; cases x <;> dsimp only))
theorem zcA (fu : Nat) (k1 : List UInt8) : bA (zL fu k1) (zL (fu + 1) k1) := by
  unfold zL
  repeat' (first | exact bA.refl _ |  apply bA.ite | apply bA.bindSum | apply bA.bind | (intro _; try dsimp only) | (rename_i x; cases x <;> dsimp only))
theorem bZ (fu : Nat) (vx1 : aA) : bA (iM fu vx1) (iM (fu + 1) vx1) := by
  unfold iM
  repeat' (first | exact bA.refl _ |  apply zcA | apply bA.ite | apply bA.bindSum | apply bA.bind | (intro _; try dsimp only) | (rename_i x; cases x <;> dsimp only))
theorem zhe (l1 : List aA) : ∀ fu v17, bA (pF l1 fu v17) (pF l1 (fu + 1) v17) := by
  intro fu
  induction fu with
  | zero => intro v17 r h; rw [pF] at h; cases h
  | succ fu ih =>
    intro v17
    conv => arg 1; rw [pF]
    conv => arg 2; rw [pF]
    repeat' (first | exact bA.refl _ | exact ih _ | apply bZ | apply bA.ite | apply bA.bindSum | apply bA.bind | (intro _; try dsimp only) | (rename_i x; cases x <;> dsimp only))
theorem zep (fu : Nat) (l1 : List aA) : bA (pJ fu l1) (pJ (fu + 1) l1) := by
  unfold pJ
  repeat' (first | exact bA.refl _ |  apply zhe | apply bA.ite | apply bA.bindSum | apply bA.bind | (intro _; try dsimp only) | (rename_i x; cases x <;> dsimp only))
theorem zkP (fu : Nat) (vr1 : eB) : bA (yQ fu vr1) (yQ (fu + 1) vr1) := by
  unfold yQ
  repeat' (first | exact bA.refl _ |  apply zep | apply bA.ite | apply bA.bindSum | apply bA.bind | (intro _; try dsimp only) | (rename_i x; cases x <;> dsimp only))
theorem zn8 (fu : Nat) (vr1 : eB) (most2 : Int) : bA (sP fu vr1 most2) (sP (fu + 1) vr1 most2) := by
  unfold sP
  repeat' (first | exact bA.refl _ |  apply zkP | apply bA.ite | apply bA.bindSum | apply bA.bind | (intro _; try dsimp only) | (rename_i x; cases x <;> dsimp only))
theorem znq (e169 : tA) (v165 : Int) (l1 : yA) : ∀ fu e203 v204 v205 run206, bA (aG e169 v165 l1 fu e203 v204 v205 run206) (aG e169 v165 l1 (fu + 1) e203 v204 v205 run206) := by
  intro fu
  induction fu with
  | zero => intro e203 v204 v205 run206 r h; rw [aG] at h; cases h
  | succ fu ih =>
    intro e203 v204 v205 run206
    conv => arg 1; rw [aG]
    conv => arg 2; rw [aG]
    repeat' (first | exact bA.refl _ | exact ih _ _ _ _ | apply zn8 | apply bA.ite | apply bA.bindSum | apply bA.bind | (intro _; try dsimp only) | (rename_i x; cases x <;> dsimp only))
theorem zeK (l1 : yA) : ∀ fu run163 e164 v165 v166 level167, bA (mG l1 fu run163 e164 v165 v166 level167) (mG l1 (fu + 1) run163 e164 v165 v166 level167) := by
  intro fu
  induction fu with
  | zero => intro run163 e164 v165 v166 level167 r h; rw [mG] at h; cases h
  | succ fu ih =>
    intro run163 e164 v165 v166 level167
    conv => arg 1; rw [mG]
    conv => arg 2; rw [mG]
    repeat' (first | exact bA.refl _ | exact ih _ _ _ _ _ | apply znq | apply bA.ite | apply bA.bindSum | apply bA.bind | (intro _; try dsimp only) | (rename_i x; cases x <;> dsimp only))
theorem zeb (fu : Nat) (l1 : yA) : bA (tH fu l1) (tH (fu + 1) l1) := by
  unfold tH
  repeat' (first | exact bA.refl _ |  apply zeK | apply bA.ite | apply bA.bindSum | apply bA.bind | (intro _; try dsimp only) | (rename_i x; cases x <;> dsimp only))
theorem zlH (e34 : tA) : ∀ fu best42 v43, bA (uI e34 fu best42 v43) (uI e34 (fu + 1) best42 v43) := by
  intro fu
  induction fu with
  | zero => intro best42 v43 r h; rw [uI] at h; cases h
  | succ fu ih =>
    intro best42 v43
    conv => arg 1; rw [uI]
    conv => arg 2; rw [uI]
    repeat' (first | exact bA.refl _ | exact ih _ _ | apply bA.ite | apply bA.bindSum | apply bA.bind | (intro _; try dsimp only) | (rename_i x; cases x <;> dsimp only))
theorem zeR (l1 : yA) : ∀ fu best31 v32, bA (cI l1 fu best31 v32) (cI l1 (fu + 1) best31 v32) := by
  intro fu
  induction fu with
  | zero => intro best31 v32 r h; rw [cI] at h; cases h
  | succ fu ih =>
    intro best31 v32
    conv => arg 1; rw [cI]
    conv => arg 2; rw [cI]
    repeat' (first | exact bA.refl _ | exact ih _ _ | apply zlH | apply bA.ite | apply bA.bindSum | apply bA.bind | (intro _; try dsimp only) | (rename_i x; cases x <;> dsimp only))
theorem zcg (fu : Nat) (l1 : yA) : bA (gN fu l1) (gN (fu + 1) l1) := by
  unfold gN
  repeat' (first | exact bA.refl _ |  apply zeR | apply bA.ite | apply bA.bindSum | apply bA.bind | (intro _; try dsimp only) | (rename_i x; cases x <;> dsimp only))
theorem zdX (fu : Nat) (l1 : yA) : bA (yK fu l1) (yK (fu + 1) l1) := by
  unfold yK
  repeat' (first | exact bA.refl _ |  apply bA.ite | apply bA.bindSum | apply bA.bind | (intro _; try dsimp only) | (rename_i x; cases x <;> dsimp only))
theorem zcs (fu : Nat) (l1 : yA) (level2 : Int) : bA (jL fu l1 level2) (jL (fu + 1) l1 level2) := by
  unfold jL
  repeat' (first | exact bA.refl _ |  apply bA.ite | apply bA.bindSum | apply bA.bind | (intro _; try dsimp only) | (rename_i x; cases x <;> dsimp only))
theorem zlu (runs1 : List (List aA)) : ∀ fu v14, bA (wF runs1 fu v14) (wF runs1 (fu + 1) v14) := by
  intro fu
  induction fu with
  | zero => intro v14 r h; rw [wF] at h; cases h
  | succ fu ih =>
    intro v14
    conv => arg 1; rw [wF]
    conv => arg 2; rw [wF]
    repeat' (first | exact bA.refl _ | exact ih _ | apply zep | apply bA.ite | apply bA.bindSum | apply bA.bind | (intro _; try dsimp only) | (rename_i x; cases x <;> dsimp only))
theorem zax (fu : Nat) (runs1 : List (List aA)) : bA (rJ fu runs1) (rJ (fu + 1) runs1) := by
  unfold rJ
  repeat' (first | exact bA.refl _ |  apply zlu | apply bA.ite | apply bA.bindSum | apply bA.bind | (intro _; try dsimp only) | (rename_i x; cases x <;> dsimp only))
theorem tY (fu : Nat) (vs1 : List (List aA)) : bA (tL fu vs1) (tL (fu + 1) vs1) := by
  unfold tL
  repeat' (first | exact bA.refl _ |  apply bA.ite | apply bA.bindSum | apply bA.bind | (intro _; try dsimp only) | (rename_i x; cases x <;> dsimp only))
theorem nW (fu : Nat) (l1 : List aA) (vat2 : Int) : bA (bK fu l1 vat2) (bK (fu + 1) l1 vat2) := by
  unfold bK
  repeat' (first | exact bA.refl _ |  apply bA.ite | apply bA.bindSum | apply bA.bind | (intro _; try dsimp only) | (rename_i x; cases x <;> dsimp only))
theorem zjE (fu : Nat) (k1 : cA) : bA (xQ fu k1) (xQ (fu + 1) k1) := by
  unfold xQ
  repeat' (first | exact bA.refl _ |  apply bA.ite | apply bA.bindSum | apply bA.bind | (intro _; try dsimp only) | (rename_i x; cases x <;> dsimp only))
theorem zi5 (vs1 : List cA) : ∀ fu v12, bA (nI vs1 fu v12) (nI vs1 (fu + 1) v12) := by
  intro fu
  induction fu with
  | zero => intro v12 r h; rw [nI] at h; cases h
  | succ fu ih =>
    intro v12
    conv => arg 1; rw [nI]
    conv => arg 2; rw [nI]
    repeat' (first | exact bA.refl _ | exact ih _ | apply zjE | apply bA.ite | apply bA.bindSum | apply bA.bind | (intro _; try dsimp only) | (rename_i x; cases x <;> dsimp only))
theorem zlF (fu : Nat) (vs1 : List cA) : bA (gR fu vs1) (gR (fu + 1) vs1) := by
  unfold gR
  repeat' (first | exact bA.refl _ |  apply zi5 | apply bA.ite | apply bA.bindSum | apply bA.bind | (intro _; try dsimp only) | (rename_i x; cases x <;> dsimp only))
theorem zfX (fu : Nat) (vs1 : List cA) : bA (iR fu vs1) (iR (fu + 1) vs1) := by
  unfold iR
  repeat' (first | exact bA.refl _ |  apply zlF | apply bA.ite | apply bA.bindSum | apply bA.bind | (intro _; try dsimp only) | (rename_i x; cases x <;> dsimp only))
theorem lX (fu : Nat) (keys1 : List cA) : bA (iL fu keys1) (iL (fu + 1) keys1) := by
  unfold iL
  repeat' (first | exact bA.refl _ |  apply zfX | apply bA.ite | apply bA.bindSum | apply bA.bind | (intro _; try dsimp only) | (rename_i x; cases x <;> dsimp only))
theorem zbC (fu : Nat) (keys1 : List cA) : bA (bM fu keys1) (bM (fu + 1) keys1) := by
  unfold bM
  repeat' (first | exact bA.refl _ |  apply bA.ite | apply bA.bindSum | apply bA.bind | (intro _; try dsimp only) | (rename_i x; cases x <;> dsimp only))
theorem znc (fu : Nat) (vs1 : List cA) : bA (uQ fu vs1) (uQ (fu + 1) vs1) := by
  unfold uQ
  repeat' (first | exact bA.refl _ |  apply bA.ite | apply bA.bindSum | apply bA.bind | (intro _; try dsimp only) | (rename_i x; cases x <;> dsimp only))
theorem zab (fu : Nat) (p1 : Int) (q2 : Int) (p3 : List cA) : bA (cN fu p1 q2 p3) (cN (fu + 1) p1 q2 p3) := by
  unfold cN
  repeat' (first | exact bA.refl _ |  apply bA.ite | apply bA.bindSum | apply bA.bind | (intro _; try dsimp only) | (rename_i x; cases x <;> dsimp only))
theorem zn0 (keys1 : List cA) (vr2 : List cA) : ∀ fu i34 players35 v36, bA (lH keys1 vr2 fu i34 players35 v36) (lH keys1 vr2 (fu + 1) i34 players35 v36) := by
  intro fu
  induction fu with
  | zero => intro i34 players35 v36 r h; rw [lH] at h; cases h
  | succ fu ih =>
    intro i34 players35 v36
    conv => arg 1; rw [lH]
    conv => arg 2; rw [lH]
    repeat' (first | exact bA.refl _ | exact ih _ _ _ | apply zab | apply bA.ite | apply bA.bindSum | apply bA.bind | (intro _; try dsimp only) | (rename_i x; cases x <;> dsimp only))
theorem zdF (fu : Nat) (keys1 : List cA) : bA (vN fu keys1) (vN (fu + 1) keys1) := by
  unfold vN
  repeat' (first | exact bA.refl _ |  apply zbC | apply znc | apply zn0 | apply bA.ite | apply bA.bindSum | apply bA.bind | (intro _; try dsimp only) | (rename_i x; cases x <;> dsimp only))
theorem zjX (fu : Nat) (keys1 : List cA) : bA (lP fu keys1) (lP (fu + 1) keys1) := by
  unfold lP
  repeat' (first | exact bA.refl _ |  apply lX | apply zdF | apply bA.ite | apply bA.bindSum | apply bA.bind | (intro _; try dsimp only) | (rename_i x; cases x <;> dsimp only))
theorem znS (runs1 : List (List aA)) (vat2 : List Int) : ∀ fu v18 keys19, bA (aI runs1 vat2 fu v18 keys19) (aI runs1 vat2 (fu + 1) v18 keys19) := by
  intro fu
  induction fu with
  | zero => intro v18 keys19 r h; rw [aI] at h; cases h
  | succ fu ih =>
    intro v18 keys19
    conv => arg 1; rw [aI]
    conv => arg 2; rw [aI]
    repeat' (first | exact bA.refl _ | exact ih _ _ | apply nW | apply bA.ite | apply bA.bindSum | apply bA.bind | (intro _; try dsimp only) | (rename_i x; cases x <;> dsimp only))
theorem zd2 (fu : Nat) (runs1 : List (List aA)) (vat2 : List Int) : bA (bO fu runs1 vat2) (bO (fu + 1) runs1 vat2) := by
  unfold bO
  repeat' (first | exact bA.refl _ |  apply znS | apply zjX | apply bA.ite | apply bA.bindSum | apply bA.bind | (intro _; try dsimp only) | (rename_i x; cases x <;> dsimp only))
theorem zjA (fu : Nat) (runs1 : List (List aA)) : bA (rI fu runs1) (rI (fu + 1) runs1) := by
  unfold rI
  repeat' (first | exact bA.refl _ |  apply zax | apply tY | apply zd2 | apply bA.ite | apply bA.bindSum | apply bA.bind | (intro _; try dsimp only) | (rename_i x; cases x <;> dsimp only))
theorem oZ (fu : Nat) (bottom1 : Bool) : bA (sK fu bottom1) (sK (fu + 1) bottom1) := by
  unfold sK
  repeat' (first | exact bA.refl _ |  apply bA.ite | apply bA.bindSum | apply bA.bind | (intro _; try dsimp only) | (rename_i x; cases x <;> dsimp only))
theorem zjo (fu : Nat) (runs1 : List (List aA)) (bottom2 : Bool) : bA (jP fu runs1 bottom2) (jP (fu + 1) runs1 bottom2) := by
  unfold jP
  repeat' (first | exact bA.refl _ |  apply zjA | apply oZ | apply bA.ite | apply bA.bindSum | apply bA.bind | (intro _; try dsimp only) | (rename_i x; cases x <;> dsimp only))
theorem zeF (fu : Nat) (l1 : yA) (level2 : Int) (bottom3 : Bool) : bA (uN fu l1 level2 bottom3) (uN (fu + 1) l1 level2 bottom3) := by
  unfold uN
  repeat' (first | exact bA.refl _ |  apply zjo | apply bA.ite | apply bA.bindSum | apply bA.bind | (intro _; try dsimp only) | (rename_i x; cases x <;> dsimp only))
theorem zi0 (vr5 : Int × List tA) (l1 : yA) : ∀ fu level27 v28, bA (kH vr5 l1 fu level27 v28) (kH vr5 l1 (fu + 1) level27 v28) := by
  intro fu
  induction fu with
  | zero => intro level27 v28 r h; rw [kH] at h; cases h
  | succ fu ih =>
    intro level27 v28
    conv => arg 1; rw [kH]
    conv => arg 2; rw [kH]
    repeat' (first | exact bA.refl _ | exact ih _ _ | apply zcs | apply zeF | apply bA.ite | apply bA.bindSum | apply bA.bind | (intro _; try dsimp only) | (rename_i x; cases x <;> dsimp only))
theorem zk5 (fu : Nat) (l1 : yA) : bA (wK fu l1) (wK (fu + 1) l1) := by
  unfold wK
  repeat' (first | exact bA.refl _ |  apply zeb | apply zcg | apply zdX | apply zi0 | apply bA.ite | apply bA.bindSum | apply bA.bind | (intro _; try dsimp only) | (rename_i x; cases x <;> dsimp only))
theorem zia (seq2 : List tA) : ∀ fu v18 v19, bA (jH seq2 fu v18 v19) (jH seq2 (fu + 1) v18 v19) := by
  intro fu
  induction fu with
  | zero => intro v18 v19 r h; rw [jH] at h; cases h
  | succ fu ih =>
    intro v18 v19
    conv => arg 1; rw [jH]
    conv => arg 2; rw [jH]
    repeat' (first | exact bA.refl _ | exact ih _ _ | apply bA.ite | apply bA.bindSum | apply bA.bind | (intro _; try dsimp only) | (rename_i x; cases x <;> dsimp only))
theorem znf (fu : Nat) (seq1 : Int) (seq2 : List tA) : bA (qM fu seq1 seq2) (qM (fu + 1) seq1 seq2) := by
  unfold qM
  repeat' (first | exact bA.refl _ |  apply zia | apply bA.ite | apply bA.bindSum | apply bA.bind | (intro _; try dsimp only) | (rename_i x; cases x <;> dsimp only))
theorem zjs (s11 : List cA) (s22 : List cA) : ∀ fu v14, bA (pI s11 s22 fu v14) (pI s11 s22 (fu + 1) v14) := by
  intro fu
  induction fu with
  | zero => intro v14 r h; rw [pI] at h; cases h
  | succ fu ih =>
    intro v14
    conv => arg 1; rw [pI]
    conv => arg 2; rw [pI]
    repeat' (first | exact bA.refl _ | exact ih _ | apply bA.ite | apply bA.bindSum | apply bA.bind | (intro _; try dsimp only) | (rename_i x; cases x <;> dsimp only))
theorem zc5 (fu : Nat) (s11 : List cA) (s22 : List cA) : bA (pL fu s11 s22) (pL (fu + 1) s11 s22) := by
  unfold pL
  repeat' (first | exact bA.refl _ |  apply zjs | apply bA.ite | apply bA.bindSum | apply bA.bind | (intro _; try dsimp only) | (rename_i x; cases x <;> dsimp only))
theorem zlD (s11 : List Int) (s22 : List Int) : ∀ fu v14, bA (oI s11 s22 fu v14) (oI s11 s22 (fu + 1) v14) := by
  intro fu
  induction fu with
  | zero => intro v14 r h; rw [oI] at h; cases h
  | succ fu ih =>
    intro v14
    conv => arg 1; rw [oI]
    conv => arg 2; rw [oI]
    repeat' (first | exact bA.refl _ | exact ih _ | apply bA.ite | apply bA.bindSum | apply bA.bind | (intro _; try dsimp only) | (rename_i x; cases x <;> dsimp only))
theorem zcN (fu : Nat) (s11 : List Int) (s22 : List Int) : bA (vJ fu s11 s22) (vJ (fu + 1) s11 s22) := by
  unfold vJ
  repeat' (first | exact bA.refl _ |  apply zlD | apply bA.ite | apply bA.bindSum | apply bA.bind | (intro _; try dsimp only) | (rename_i x; cases x <;> dsimp only))
theorem zfM (fu : Nat) (a1 : cB) (b2 : cB) : bA (pQ fu a1 b2) (pQ (fu + 1) a1 b2) := by
  unfold pQ
  repeat' (first | exact bA.refl _ |  apply zc5 | apply zcN | apply bA.ite | apply bA.bindSum | apply bA.bind | (intro _; try dsimp only) | (rename_i x; cases x <;> dsimp only))
theorem zha (vr5 : cB) (t1 : cB) : ∀ fu v16, bA (gI vr5 t1 fu v16) (gI vr5 t1 (fu + 1) v16) := by
  intro fu
  induction fu with
  | zero => intro v16 r h; rw [gI] at h; cases h
  | succ fu ih =>
    intro v16
    conv => arg 1; rw [gI]
    conv => arg 2; rw [gI]
    repeat' (first | exact bA.refl _ | exact ih _ | apply bA.ite | apply bA.bindSum | apply bA.bind | (intro _; try dsimp only) | (rename_i x; cases x <;> dsimp only))
theorem zjp (fu : Nat) (t1 : cB) : bA (kQ fu t1) (kQ (fu + 1) t1) := by
  unfold kQ
  repeat' (first | exact bA.refl _ |  apply lX | apply zdF | apply zha | apply bA.ite | apply bA.bindSum | apply bA.bind | (intro _; try dsimp only) | (rename_i x; cases x <;> dsimp only))
theorem zeG (fu : Nat) (t1 : cB) : bA (dO fu t1) (dO (fu + 1) t1) := by
  unfold dO
  repeat' (first | exact bA.refl _ |  apply zjp | apply bA.ite | apply bA.bindSum | apply bA.bind | (intro _; try dsimp only) | (rename_i x; cases x <;> dsimp only))
theorem zd5 (fu : Nat) (t1 : cB) : bA (tN fu t1) (tN (fu + 1) t1) := by
  unfold tN
  repeat' (first | exact bA.refl _ |  apply zeG | apply bA.ite | apply bA.bindSum | apply bA.bind | (intro _; try dsimp only) | (rename_i x; cases x <;> dsimp only))
theorem zgO (fu : Nat) (vx1 : List UInt8) : bA (lQ fu vx1) (lQ (fu + 1) vx1) := by
  unfold lQ
  repeat' (first | exact bA.refl _ |  apply bA.ite | apply bA.bindSum | apply bA.bind | (intro _; try dsimp only) | (rename_i x; cases x <;> dsimp only))
theorem zm1 (fu : Nat) (vx1 : List UInt8) (y2 : List UInt8) : bA (qK fu vx1 y2) (qK (fu + 1) vx1 y2) := by
  unfold qK
  repeat' (first | exact bA.refl _ |  apply zgO | apply bA.ite | apply bA.bindSum | apply bA.bind | (intro _; try dsimp only) | (rename_i x; cases x <;> dsimp only))
theorem zmd (fu : Nat) (vx1 : Int) : bA (xP fu vx1) (xP (fu + 1) vx1) := by
  unfold xP
  repeat' (first | exact bA.refl _ |  apply bA.ite | apply bA.bindSum | apply bA.bind | (intro _; try dsimp only) | (rename_i x; cases x <;> dsimp only))
theorem zmC (fu : Nat) (vx1 : Int) (y2 : Int) : bA (dN fu vx1 y2) (dN (fu + 1) vx1 y2) := by
  unfold dN
  repeat' (first | exact bA.refl _ |  apply zmd | apply bA.ite | apply bA.bindSum | apply bA.bind | (intro _; try dsimp only) | (rename_i x; cases x <;> dsimp only))
theorem zf2 (vals1 : List Int) : ∀ fu v10, bA (lI vals1 fu v10) (lI vals1 (fu + 1) v10) := by
  intro fu
  induction fu with
  | zero => intro v10 r h; rw [lI] at h; cases h
  | succ fu ih =>
    intro v10
    conv => arg 1; rw [lI]
    conv => arg 2; rw [lI]
    repeat' (first | exact bA.refl _ | exact ih _ | apply bA.ite | apply bA.bindSum | apply bA.bind | (intro _; try dsimp only) | (rename_i x; cases x <;> dsimp only))
theorem zh0 (fu : Nat) (vals1 : List Int) : bA (vM fu vals1) (vM (fu + 1) vals1) := by
  unfold vM
  repeat' (first | exact bA.refl _ |  apply zf2 | apply bA.ite | apply bA.bindSum | apply bA.bind | (intro _; try dsimp only) | (rename_i x; cases x <;> dsimp only))
theorem zeX (vs1 : gB) : ∀ fu v19, bA (tG vs1 fu v19) (tG vs1 (fu + 1) v19) := by
  intro fu
  induction fu with
  | zero => intro v19 r h; rw [tG] at h; cases h
  | succ fu ih =>
    intro v19
    conv => arg 1; rw [tG]
    conv => arg 2; rw [tG]
    repeat' (first | exact bA.refl _ | exact ih _ | apply bA.ite | apply bA.bindSum | apply bA.bind | (intro _; try dsimp only) | (rename_i x; cases x <;> dsimp only))
theorem ziA (vs1 : gB) (vr30 : Int × List UInt8 × Int) : ∀ fu v54, bA (zF vs1 vr30 fu v54) (zF vs1 vr30 (fu + 1) v54) := by
  intro fu
  induction fu with
  | zero => intro v54 r h; rw [zF] at h; cases h
  | succ fu ih =>
    intro v54
    conv => arg 1; rw [zF]
    conv => arg 2; rw [zF]
    repeat' (first | exact bA.refl _ | exact ih _ | apply zm1 | apply zmC | apply zh0 | apply bA.ite | apply bA.bindSum | apply bA.bind | (intro _; try dsimp only) | (rename_i x; cases x <;> dsimp only))
theorem zaK (fu : Nat) (vs1 : gB) : bA (cH fu vs1) (cH (fu + 1) vs1) := by
  unfold cH
  repeat' (first | exact bA.refl _ |  apply zax | apply zeX | apply zd2 | apply zfM | apply zd5 | apply ziA | apply bA.ite | apply bA.bindSum | apply bA.bind | (intro _; try dsimp only) | (rename_i x; cases x <;> dsimp only))
theorem zcr (fu : Nat) (vr1 : List (List aA)) (vr2 : List Int) (vr3 : List cA) (vr4 : List Int) (vr5 : Int) : bA (aL fu vr1 vr2 vr3 vr4 vr5) (aL (fu + 1) vr1 vr2 vr3 vr4 vr5) := by
  unfold aL
  repeat' (first | exact bA.refl _ |  apply zd5 | apply bA.ite | apply bA.bindSum | apply bA.bind | (intro _; try dsimp only) | (rename_i x; cases x <;> dsimp only))
theorem zdH (fu : Nat) (vs1 : List cA) : bA (nQ fu vs1) (nQ (fu + 1) vs1) := by
  unfold nQ
  repeat' (first | exact bA.refl _ |  apply bA.ite | apply bA.bindSum | apply bA.bind | (intro _; try dsimp only) | (rename_i x; cases x <;> dsimp only))
theorem zlP (keys1 : List cA) (vr2 : List cA) : ∀ fu i34 players35 v36, bA (dJ keys1 vr2 fu i34 players35 v36) (dJ keys1 vr2 (fu + 1) i34 players35 v36) := by
  intro fu
  induction fu with
  | zero => intro i34 players35 v36 r h; rw [dJ] at h; cases h
  | succ fu ih =>
    intro i34 players35 v36
    conv => arg 1; rw [dJ]
    conv => arg 2; rw [dJ]
    repeat' (first | exact bA.refl _ | exact ih _ _ _ | apply zab | apply bA.ite | apply bA.bindSum | apply bA.bind | (intro _; try dsimp only) | (rename_i x; cases x <;> dsimp only))
theorem zlT (fu : Nat) (keys1 : List cA) : bA (wT fu keys1) (wT (fu + 1) keys1) := by
  unfold wT
  repeat' (first | exact bA.refl _ |  apply zbC | apply zdH | apply zlP | apply bA.ite | apply bA.bindSum | apply bA.bind | (intro _; try dsimp only) | (rename_i x; cases x <;> dsimp only))
theorem zfk (fu : Nat) (keys1 : List cA) : bA (cS fu keys1) (cS (fu + 1) keys1) := by
  unfold cS
  repeat' (first | exact bA.refl _ |  apply lX | apply zlT | apply bA.ite | apply bA.bindSum | apply bA.bind | (intro _; try dsimp only) | (rename_i x; cases x <;> dsimp only))
theorem zjt (runs1 : List (List aA)) (vat2 : List Int) : ∀ fu v18 keys19, bA (kK runs1 vat2 fu v18 keys19) (kK runs1 vat2 (fu + 1) v18 keys19) := by
  intro fu
  induction fu with
  | zero => intro v18 keys19 r h; rw [kK] at h; cases h
  | succ fu ih =>
    intro v18 keys19
    conv => arg 1; rw [kK]
    conv => arg 2; rw [kK]
    repeat' (first | exact bA.refl _ | exact ih _ _ | apply nW | apply bA.ite | apply bA.bindSum | apply bA.bind | (intro _; try dsimp only) | (rename_i x; cases x <;> dsimp only))
theorem zkB (fu : Nat) (runs1 : List (List aA)) (vat2 : List Int) : bA (nT fu runs1 vat2) (nT (fu + 1) runs1 vat2) := by
  unfold nT
  repeat' (first | exact bA.refl _ |  apply zjt | apply zfk | apply bA.ite | apply bA.bindSum | apply bA.bind | (intro _; try dsimp only) | (rename_i x; cases x <;> dsimp only))
theorem zhd (fu : Nat) (runs1 : List (List aA)) : bA (nR fu runs1) (nR (fu + 1) runs1) := by
  unfold nR
  repeat' (first | exact bA.refl _ |  apply zax | apply tY | apply zkB | apply bA.ite | apply bA.bindSum | apply bA.bind | (intro _; try dsimp only) | (rename_i x; cases x <;> dsimp only))
theorem zc9 (fu : Nat) (vs1 : List Int) : bA (lN fu vs1) (lN (fu + 1) vs1) := by
  unfold lN
  repeat' (first | exact bA.refl _ |  apply bA.ite | apply bA.bindSum | apply bA.bind | (intro _; try dsimp only) | (rename_i x; cases x <;> dsimp only))
theorem zhr (vr14 : List cA) : ∀ fu games29 node30 u31 v32, bA (xH vr14 fu games29 node30 u31 v32) (xH vr14 (fu + 1) games29 node30 u31 v32) := by
  intro fu
  induction fu with
  | zero => intro games29 node30 u31 v32 r h; rw [xH] at h; cases h
  | succ fu ih =>
    intro games29 node30 u31 v32
    conv => arg 1; rw [xH]
    conv => arg 2; rw [xH]
    repeat' (first | exact bA.refl _ | exact ih _ _ _ _ | apply zab | apply bA.ite | apply bA.bindSum | apply bA.bind | (intro _; try dsimp only) | (rename_i x; cases x <;> dsimp only))
theorem zcC (fu : Nat) (t1 : cB) (k2 : cA) : bA (eM fu t1 k2) (eM (fu + 1) t1 k2) := by
  unfold eM
  repeat' (first | exact bA.refl _ |  apply zeG | apply lX | apply zdH | apply zc9 | apply zbC | apply zhr | apply bA.ite | apply bA.bindSum | apply bA.bind | (intro _; try dsimp only) | (rename_i x; cases x <;> dsimp only))
theorem zki (vr2 : gB × Int × Int) : ∀ fu v38 v39 v40 v41 v42 v43, bA (jI vr2 fu v38 v39 v40 v41 v42 v43) (jI vr2 (fu + 1) v38 v39 v40 v41 v42 v43) := by
  intro fu
  induction fu with
  | zero => intro v38 v39 v40 v41 v42 v43 r h; rw [jI] at h; cases h
  | succ fu ih =>
    intro v38 v39 v40 v41 v42 v43
    conv => arg 1; rw [jI]
    conv => arg 2; rw [jI]
    repeat' (first | exact bA.refl _ | exact ih _ _ _ _ _ _ | apply zcr | apply nW | apply zcC | apply bA.ite | apply bA.bindSum | apply bA.bind | (intro _; try dsimp only) | (rename_i x; cases x <;> dsimp only))
theorem zgr (fu : Nat) (runs1 : List (List aA)) : bA (qL fu runs1) (qL (fu + 1) runs1) := by
  unfold qL
  repeat' (first | exact bA.refl _ |  apply zhd | apply zki | apply bA.ite | apply bA.bindSum | apply bA.bind | (intro _; try dsimp only) | (rename_i x; cases x <;> dsimp only))
theorem zbM (fu : Nat) (vs1 : fB) : bA (oO fu vs1) (oO (fu + 1) vs1) := by
  unfold oO
  repeat' (first | exact bA.refl _ |  apply zcA | apply bA.ite | apply bA.bindSum | apply bA.bind | (intro _; try dsimp only) | (rename_i x; cases x <;> dsimp only))
theorem zm7 (fu : Nat) (vx1 : dF) : bA (dR fu vx1) (dR (fu + 1) vx1) := by
  unfold dR
  repeat' (first | exact bA.refl _ |  apply bA.ite | apply bA.bindSum | apply bA.bind | (intro _; try dsimp only) | (rename_i x; cases x <;> dsimp only))
theorem znw (l1 : List aA) (vr4 : fB) : ∀ fu v60 v61 v62 v63, bA (fH l1 vr4 fu v60 v61 v62 v63) (fH l1 vr4 (fu + 1) v60 v61 v62 v63) := by
  intro fu
  induction fu with
  | zero => intro v60 v61 v62 v63 r h; rw [fH] at h; cases h
  | succ fu ih =>
    intro v60 v61 v62 v63
    conv => arg 1; rw [fH]
    conv => arg 2; rw [fH]
    repeat' (first | exact bA.refl _ | exact ih _ _ _ _ | apply zbM | apply bZ | apply zm7 | apply bA.ite | apply bA.bindSum | apply bA.bind | (intro _; try dsimp only) | (rename_i x; cases x <;> dsimp only))
theorem zhw (fu : Nat) (l1 : List aA) (bottom2 : Bool) : bA (bQ fu l1 bottom2) (bQ (fu + 1) l1 bottom2) := by
  unfold bQ
  repeat' (first | exact bA.refl _ |  apply oZ | apply znw | apply bA.ite | apply bA.bindSum | apply bA.bind | (intro _; try dsimp only) | (rename_i x; cases x <;> dsimp only))
theorem zmb (a1 : List aA) (b2 : List aA) : ∀ fu v14, bA (bI a1 b2 fu v14) (bI a1 b2 (fu + 1) v14) := by
  intro fu
  induction fu with
  | zero => intro v14 r h; rw [bI] at h; cases h
  | succ fu ih =>
    intro v14
    conv => arg 1; rw [bI]
    conv => arg 2; rw [bI]
    repeat' (first | exact bA.refl _ | exact ih _ | apply bA.ite | apply bA.bindSum | apply bA.bind | (intro _; try dsimp only) | (rename_i x; cases x <;> dsimp only))
theorem zg1 (fu : Nat) (a1 : List aA) (b2 : List aA) : bA (zO fu a1 b2) (zO (fu + 1) a1 b2) := by
  unfold zO
  repeat' (first | exact bA.refl _ |  apply zmb | apply bA.ite | apply bA.bindSum | apply bA.bind | (intro _; try dsimp only) | (rename_i x; cases x <;> dsimp only))
theorem zoq (vs1 : vB) : ∀ fu n11 v12, bA (eI vs1 fu n11 v12) (eI vs1 (fu + 1) n11 v12) := by
  intro fu
  induction fu with
  | zero => intro n11 v12 r h; rw [eI] at h; cases h
  | succ fu ih =>
    intro n11 v12
    conv => arg 1; rw [eI]
    conv => arg 2; rw [eI]
    repeat' (first | exact bA.refl _ | exact ih _ _ | apply bA.ite | apply bA.bindSum | apply bA.bind | (intro _; try dsimp only) | (rename_i x; cases x <;> dsimp only))
theorem zjy (fu : Nat) (vs1 : vB) : bA (zN fu vs1) (zN (fu + 1) vs1) := by
  unfold zN
  repeat' (first | exact bA.refl _ |  apply zaK | apply zoq | apply zgr | apply zhw | apply oZ | apply zg1 | apply bA.ite | apply bA.bindSum | apply bA.bind | (intro _; try dsimp only) | (rename_i x; cases x <;> dsimp only))
theorem zfl (vs1 : gB) : ∀ fu n13 v14, bA (hI vs1 fu n13 v14) (hI vs1 (fu + 1) n13 v14) := by
  intro fu
  induction fu with
  | zero => intro n13 v14 r h; rw [hI] at h; cases h
  | succ fu ih =>
    intro n13 v14
    conv => arg 1; rw [hI]
    conv => arg 2; rw [hI]
    repeat' (first | exact bA.refl _ | exact ih _ _ | apply bA.ite | apply bA.bindSum | apply bA.bind | (intro _; try dsimp only) | (rename_i x; cases x <;> dsimp only))
theorem zig (fu : Nat) (vs1 : gB) : bA (kP fu vs1) (kP (fu + 1) vs1) := by
  unfold kP
  repeat' (first | exact bA.refl _ |  apply zaK | apply zfl | apply bA.ite | apply bA.bindSum | apply bA.bind | (intro _; try dsimp only) | (rename_i x; cases x <;> dsimp only))
theorem pW (fu : Nat) (vs1 : vB) : bA (oL fu vs1) (oL (fu + 1) vs1) := by
  unfold oL
  repeat' (first | exact bA.refl _ |  apply zjy | apply zig | apply bA.ite | apply bA.bindSum | apply bA.bind | (intro _; try dsimp only) | (rename_i x; cases x <;> dsimp only))
theorem zkj (fu : Nat) (vs1 : gB) : bA (sO fu vs1) (sO (fu + 1) vs1) := by
  unfold sO
  repeat' (first | exact bA.refl _ |  apply zaK | apply tY | apply zc9 | apply zcr | apply nW | apply zcC | apply bA.ite | apply bA.bindSum | apply bA.bind | (intro _; try dsimp only) | (rename_i x; cases x <;> dsimp only))
theorem zkF (fu : Nat) (vs1 : fB) (vx2 : aA) : bA (nM fu vs1 vx2) (nM (fu + 1) vs1 vx2) := by
  unfold nM
  repeat' (first | exact bA.refl _ |  apply zbM | apply bZ | apply bA.ite | apply bA.bindSum | apply bA.bind | (intro _; try dsimp only) | (rename_i x; cases x <;> dsimp only))
theorem znF (vr3 : Int × Int) (n2 : Int) : ∀ fu left43 v44 v45 v46 v47 v48 v49 v50 v51 v52 v53, bA (vH vr3 n2 fu left43 v44 v45 v46 v47 v48 v49 v50 v51 v52 v53) (vH vr3 n2 (fu + 1) left43 v44 v45 v46 v47 v48 v49 v50 v51 v52 v53) := by
  intro fu
  induction fu with
  | zero => intro left43 v44 v45 v46 v47 v48 v49 v50 v51 v52 v53 r h; rw [vH] at h; cases h
  | succ fu ih =>
    intro left43 v44 v45 v46 v47 v48 v49 v50 v51 v52 v53
    conv => arg 1; rw [vH]
    conv => arg 2; rw [vH]
    repeat' (first | exact bA.refl _ | exact ih _ _ _ _ _ _ _ _ _ _ _ | apply zkj | apply zkF | apply bA.ite | apply bA.bindSum | apply bA.bind | (intro _; try dsimp only) | (rename_i x; cases x <;> dsimp only))
theorem zdG (fu : Nat) (vs1 : vB) (n2 : Int) : bA (iO fu vs1 n2) (iO (fu + 1) vs1 n2) := by
  unfold iO
  repeat' (first | exact bA.refl _ |  apply pW | apply znF | apply bA.ite | apply bA.bindSum | apply bA.bind | (intro _; try dsimp only) | (rename_i x; cases x <;> dsimp only))
theorem zid (s11 : List aA) (s22 : List aA) : ∀ fu v14, bA (fI s11 s22 fu v14) (fI s11 s22 (fu + 1) v14) := by
  intro fu
  induction fu with
  | zero => intro v14 r h; rw [fI] at h; cases h
  | succ fu ih =>
    intro v14
    conv => arg 1; rw [fI]
    conv => arg 2; rw [fI]
    repeat' (first | exact bA.refl _ | exact ih _ | apply bA.ite | apply bA.bindSum | apply bA.bind | (intro _; try dsimp only) | (rename_i x; cases x <;> dsimp only))
theorem zi3 (fu : Nat) (s11 : List aA) (s22 : List aA) : bA (kR fu s11 s22) (kR (fu + 1) s11 s22) := by
  unfold kR
  repeat' (first | exact bA.refl _ |  apply zid | apply bA.ite | apply bA.bindSum | apply bA.bind | (intro _; try dsimp only) | (rename_i x; cases x <;> dsimp only))
theorem zd0 (fu : Nat) (a1 : List aA) (b2 : List aA) : bA (bN fu a1 b2) (bN (fu + 1) a1 b2) := by
  unfold bN
  repeat' (first | exact bA.refl _ |  apply zi3 | apply bA.ite | apply bA.bindSum | apply bA.bind | (intro _; try dsimp only) | (rename_i x; cases x <;> dsimp only))
theorem zmq (s11 : List (List aA)) (s22 : List (List aA)) : ∀ fu v16, bA (uH s11 s22 fu v16) (uH s11 s22 (fu + 1) v16) := by
  intro fu
  induction fu with
  | zero => intro v16 r h; rw [uH] at h; cases h
  | succ fu ih =>
    intro v16
    conv => arg 1; rw [uH]
    conv => arg 2; rw [uH]
    repeat' (first | exact bA.refl _ | exact ih _ | apply zd0 | apply bA.ite | apply bA.bindSum | apply bA.bind | (intro _; try dsimp only) | (rename_i x; cases x <;> dsimp only))
theorem zjw (fu : Nat) (s11 : List (List aA)) (s22 : List (List aA)) : bA (fQ fu s11 s22) (fQ (fu + 1) s11 s22) := by
  unfold fQ
  repeat' (first | exact bA.refl _ |  apply zmq | apply bA.ite | apply bA.bindSum | apply bA.bind | (intro _; try dsimp only) | (rename_i x; cases x <;> dsimp only))
theorem zlZ (fu : Nat) (a1 : vB) (b2 : vB) : bA (iP fu a1 b2) (iP (fu + 1) a1 b2) := by
  unfold iP
  repeat' (first | exact bA.refl _ |  apply zjw | apply zcN | apply zc5 | apply zd0 | apply bA.ite | apply bA.bindSum | apply bA.bind | (intro _; try dsimp only) | (rename_i x; cases x <;> dsimp only))
theorem zln (vs1 : oB) (vr10 : List Int) : ∀ fu v49, bA (kF vs1 vr10 fu v49) (kF vs1 vr10 (fu + 1) v49) := by
  intro fu
  induction fu with
  | zero => intro v49 r h; rw [kF] at h; cases h
  | succ fu ih =>
    intro v49
    conv => arg 1; rw [kF]
    conv => arg 2; rw [kF]
    repeat' (first | exact bA.refl _ | exact ih _ | apply zcs | apply zeF | apply pW | apply zdG | apply zlZ | apply bA.ite | apply bA.bindSum | apply bA.bind | (intro _; try dsimp only) | (rename_i x; cases x <;> dsimp only))
theorem zcn (fu : Nat) (vs1 : oB) : bA (xK fu vs1) (xK (fu + 1) vs1) := by
  unfold xK
  repeat' (first | exact bA.refl _ |  apply zeb | apply zcg | apply zdX | apply znf | apply zln | apply bA.ite | apply bA.bindSum | apply bA.bind | (intro _; try dsimp only) | (rename_i x; cases x <;> dsimp only))
theorem zjV (fu : Nat) (j1 : bB) (p2 : Int) : bA (zM fu j1 p2) (zM (fu + 1) j1 p2) := by
  unfold zM
  repeat' (first | exact bA.refl _ |  apply bA.ite | apply bA.bindSum | apply bA.bind | (intro _; try dsimp only) | (rename_i x; cases x <;> dsimp only))
theorem zhp (vs1 : List bB) (f2 : Int) : ∀ fu v13, bA (iG vs1 f2 fu v13) (iG vs1 f2 (fu + 1) v13) := by
  intro fu
  induction fu with
  | zero => intro v13 r h; rw [iG] at h; cases h
  | succ fu ih =>
    intro v13
    conv => arg 1; rw [iG]
    conv => arg 2; rw [iG]
    repeat' (first | exact bA.refl _ | exact ih _ | apply zjV | apply bA.ite | apply bA.bindSum | apply bA.bind | (intro _; try dsimp only) | (rename_i x; cases x <;> dsimp only))
theorem zlO (fu : Nat) (vs1 : List bB) (f2 : Int) : bA (kM fu vs1 f2) (kM (fu + 1) vs1 f2) := by
  unfold kM
  repeat' (first | exact bA.refl _ |  apply zhp | apply bA.ite | apply bA.bindSum | apply bA.bind | (intro _; try dsimp only) | (rename_i x; cases x <;> dsimp only))
theorem zm0 (fu : Nat) (l1 : List bB) (is2 : Int) : bA (qO fu l1 is2) (qO (fu + 1) l1 is2) := by
  unfold qO
  repeat' (first | exact bA.refl _ |  apply zlO | apply bA.ite | apply bA.bindSum | apply bA.bind | (intro _; try dsimp only) | (rename_i x; cases x <;> dsimp only))
theorem zdY (fu : Nat) (vs1 : oB) (level2 : Int) : bA (bH fu vs1 level2) (bH (fu + 1) vs1 level2) := by
  unfold bH
  repeat' (first | exact bA.refl _ |  apply zcn | apply zm0 | apply bA.ite | apply bA.bindSum | apply bA.bind | (intro _; try dsimp only) | (rename_i x; cases x <;> dsimp only))
theorem zf7 (fu : Nat) (vs1 : oB) (level2 : Int) : bA (mJ fu vs1 level2) (mJ (fu + 1) vs1 level2) := by
  unfold mJ
  repeat' (first | exact bA.refl _ |  apply zdY | apply pW | apply bA.ite | apply bA.bindSum | apply bA.bind | (intro _; try dsimp only) | (rename_i x; cases x <;> dsimp only))
theorem zny (fu : Nat) (vs1 : List bB) : bA (yR fu vs1) (yR (fu + 1) vs1) := by
  unfold yR
  repeat' (first | exact bA.refl _ |  apply bA.ite | apply bA.bindSum | apply bA.bind | (intro _; try dsimp only) | (rename_i x; cases x <;> dsimp only))
theorem zkQ (fu : Nat) (vs1 : oB) (level2 : Int) (most3 : Int) : bA (mL fu vs1 level2 most3) (mL (fu + 1) vs1 level2 most3) := by
  unfold mL
  repeat' (first | exact bA.refl _ |  apply zcn | apply zdY | apply pW | apply zdG | apply zny | apply bA.ite | apply bA.bindSum | apply bA.bind | (intro _; try dsimp only) | (rename_i x; cases x <;> dsimp only))
theorem ze1 (fu : Nat) : bA (zH fu ) (zH (fu + 1) ) := by
  unfold zH
  repeat' (first | exact bA.refl _ |  apply ziJ | apply zk5 | apply zf7 | apply zkQ | apply bA.ite | apply bA.bindSum | apply bA.bind | (intro _; try dsimp only) | (rename_i x; cases x <;> dsimp only))
end Go.T
