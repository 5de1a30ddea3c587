/- A text of the proof. -/
import Derived.Test.YtnlggkiekcpahaaCGp
namespace Go.T
open Go Go.AM
set_option maxHeartbeats 4000000
def bA {α : Type} (a b : Option α) : Prop := ∀ r, a = some r → b = some r
theorem bA.refl {α : Type} (a : Option α) : bA a a := fun _ h => h
theorem bA.bind {α β : Type} {a b : Option α} {f g : α → Option β} (h : bA a b) (k : ∀ x, bA (f x) (g x)) : bA (a.bind f) (b.bind g) := by
  intro r hr
  cases a with
  | none => cases hr
  | some x => rw [h x rfl]; exact k x r hr
theorem bA.bindSum {α γ β : Type} {a b : Option (Sum α γ)} {f g : Sum α γ → Option β} (h : bA a b) (k : ∀ x, bA (f (.inl x)) (g (.inl x))) (l : ∀ x, bA (f (.inr x)) (g (.inr x))) : bA (a.bind f) (b.bind g) :=
  bA.bind h fun x => by cases x; exact k _; exact l _
theorem bA.ite {α : Type} {c : Prop} [Decidable c] {a b a' b' : Option α} (h : bA a a') (k : bA b b') : bA (if c then a else b) (if c then a' else b') := by
  by_cases hc : c
  · rw [if_pos hc, if_pos hc]; exact h
  · rw [if_neg hc, if_neg hc]; exact k
set_option linter.unusedVariables false
theorem znU (keys3 : List UInt8) (dead2 : Bool) (id1 : Int) : ∀ fu i15 v16, bA (bK keys3 dead2 id1 fu i15 v16) (bK keys3 dead2 id1 (fu + 1) i15 v16) := by
  intro fu
  induction fu with
  | zero => intro i15 v16 r h; rw [bK] at h; cases h
  | succ fu ih =>
    intro i15 v16
    conv => arg 1; rw [bK]
    conv => arg 2; rw [bK]
    repeat' (first | exact bA.refl _ | exact ih _ _ | apply bA.ite | apply bA.bindSum | apply bA.bind | (intro _; try dsimp only) | (rename_i x; cases x <;> dsimp only))
theorem zfJ (fu : Nat) (id1 : Int) (dead2 : Bool) (keys3 : List UInt8) : bA (eR fu id1 dead2 keys3) (eR (fu + 1) id1 dead2 keys3) := by
  unfold eR
  repeat' (first | exact bA.refl _ |  apply znU | apply bA.ite | apply bA.bindSum | apply bA.bind | (intro _; try dsimp only) | (rename_i x; cases x <;> dsimp only))
theorem zf0 (fu : Nat) : bA (lS fu ) (lS (fu + 1) ) := by
  unfold lS
  repeat' (first | exact bA.refl _ |  apply zfJ | apply bA.ite | apply bA.bindSum | apply bA.bind | (intro _; try dsimp only) | (rename_i x; cases x <;> dsimp only))
theorem zeP (fu : Nat) (k1 : List UInt8) : bA (cN fu k1) (cN (fu + 1) k1) := by
  unfold cN
  repeat' (first | exact bA.refl _ |  apply bA.ite | apply bA.bindSum | apply bA.bind | (intro _; try dsimp only) | (rename_i x; cases x <;> dsimp only))
theorem zbU (fu : Nat) (vx1 : aA) : bA (cM fu vx1) (cM (fu + 1) vx1) := by
  unfold cM
  repeat' (first | exact bA.refl _ |  apply zeP | apply bA.ite | apply bA.bindSum | apply bA.bind | (intro _; try dsimp only) | (rename_i x; cases x <;> dsimp only))
theorem zjK (l1 : List aA) : ∀ fu v17, bA (qF l1 fu v17) (qF l1 (fu + 1) v17) := by
  intro fu
  induction fu with
  | zero => intro v17 r h; rw [qF] at h; cases h
  | succ fu ih =>
    intro v17
    conv => arg 1; rw [qF]
    conv => arg 2; rw [qF]
    repeat' (first | exact bA.refl _ | exact ih _ | apply zbU | apply bA.ite | apply bA.bindSum | apply bA.bind | (intro _; try dsimp only) | (rename_i x; cases x <;> dsimp only))
theorem zdS (fu : Nat) (l1 : List aA) : bA (pJ fu l1) (pJ (fu + 1) l1) := by
  unfold pJ
  repeat' (first | exact bA.refl _ |  apply zjK | apply bA.ite | apply bA.bindSum | apply bA.bind | (intro _; try dsimp only) | (rename_i x; cases x <;> dsimp only))
theorem zg6 (fu : Nat) (vr1 : eB) : bA (uR fu vr1) (uR (fu + 1) vr1) := by
  unfold uR
  repeat' (first | exact bA.refl _ |  apply zdS | apply bA.ite | apply bA.bindSum | apply bA.bind | (intro _; try dsimp only) | (rename_i x; cases x <;> dsimp only))
theorem zfA (fu : Nat) (vr1 : eB) (most2 : Int) : bA (qQ fu vr1 most2) (qQ (fu + 1) vr1 most2) := by
  unfold qQ
  repeat' (first | exact bA.refl _ |  apply zg6 | apply bA.ite | apply bA.bindSum | apply bA.bind | (intro _; try dsimp only) | (rename_i x; cases x <;> dsimp only))
theorem zj1 (e169 : sA) (v165 : Int) (l1 : dB) : ∀ fu e203 v204 v205 run206, bA (sF e169 v165 l1 fu e203 v204 v205 run206) (sF e169 v165 l1 (fu + 1) e203 v204 v205 run206) := by
  intro fu
  induction fu with
  | zero => intro e203 v204 v205 run206 r h; rw [sF] at h; cases h
  | succ fu ih =>
    intro e203 v204 v205 run206
    conv => arg 1; rw [sF]
    conv => arg 2; rw [sF]
    repeat' (first | exact bA.refl _ | exact ih _ _ _ _ | apply zfA | apply bA.ite | apply bA.bindSum | apply bA.bind | (intro _; try dsimp only) | (rename_i x; cases x <;> dsimp only))
theorem zk9 (l1 : dB) : ∀ fu run163 e164 v165 v166 level167, bA (dG l1 fu run163 e164 v165 v166 level167) (dG l1 (fu + 1) run163 e164 v165 v166 level167) := by
  intro fu
  induction fu with
  | zero => intro run163 e164 v165 v166 level167 r h; rw [dG] at h; cases h
  | succ fu ih =>
    intro run163 e164 v165 v166 level167
    conv => arg 1; rw [dG]
    conv => arg 2; rw [dG]
    repeat' (first | exact bA.refl _ | exact ih _ _ _ _ _ | apply zj1 | apply bA.ite | apply bA.bindSum | apply bA.bind | (intro _; try dsimp only) | (rename_i x; cases x <;> dsimp only))
theorem zej (fu : Nat) (l1 : dB) : bA (lJ fu l1) (lJ (fu + 1) l1) := by
  unfold lJ
  repeat' (first | exact bA.refl _ |  apply zk9 | apply bA.ite | apply bA.bindSum | apply bA.bind | (intro _; try dsimp only) | (rename_i x; cases x <;> dsimp only))
theorem ze5 (e34 : sA) : ∀ fu best42 v43, bA (aI e34 fu best42 v43) (aI e34 (fu + 1) best42 v43) := by
  intro fu
  induction fu with
  | zero => intro best42 v43 r h; rw [aI] at h; cases h
  | succ fu ih =>
    intro best42 v43
    conv => arg 1; rw [aI]
    conv => arg 2; rw [aI]
    repeat' (first | exact bA.refl _ | exact ih _ _ | apply bA.ite | apply bA.bindSum | apply bA.bind | (intro _; try dsimp only) | (rename_i x; cases x <;> dsimp only))
theorem znL (l1 : dB) : ∀ fu best31 v32, bA (wH l1 fu best31 v32) (wH l1 (fu + 1) best31 v32) := by
  intro fu
  induction fu with
  | zero => intro best31 v32 r h; rw [wH] at h; cases h
  | succ fu ih =>
    intro best31 v32
    conv => arg 1; rw [wH]
    conv => arg 2; rw [wH]
    repeat' (first | exact bA.refl _ | exact ih _ _ | apply ze5 | apply bA.ite | apply bA.bindSum | apply bA.bind | (intro _; try dsimp only) | (rename_i x; cases x <;> dsimp only))
theorem zdu (fu : Nat) (l1 : dB) : bA (mM fu l1) (mM (fu + 1) l1) := by
  unfold mM
  repeat' (first | exact bA.refl _ |  apply znL | apply bA.ite | apply bA.bindSum | apply bA.bind | (intro _; try dsimp only) | (rename_i x; cases x <;> dsimp only))
theorem zcP (fu : Nat) (l1 : dB) : bA (hM fu l1) (hM (fu + 1) l1) := by
  unfold hM
  repeat' (first | exact bA.refl _ |  apply bA.ite | apply bA.bindSum | apply bA.bind | (intro _; try dsimp only) | (rename_i x; cases x <;> dsimp only))
theorem zeX (fu : Nat) (l1 : dB) (level2 : Int) : bA (jL fu l1 level2) (jL (fu + 1) l1 level2) := by
  unfold jL
  repeat' (first | exact bA.refl _ |  apply bA.ite | apply bA.bindSum | apply bA.bind | (intro _; try dsimp only) | (rename_i x; cases x <;> dsimp only))
theorem zml (runs1 : List (List aA)) : ∀ fu v14, bA (nF runs1 fu v14) (nF runs1 (fu + 1) v14) := by
  intro fu
  induction fu with
  | zero => intro v14 r h; rw [nF] at h; cases h
  | succ fu ih =>
    intro v14
    conv => arg 1; rw [nF]
    conv => arg 2; rw [nF]
    repeat' (first | exact bA.refl _ | exact ih _ | apply zdS | apply bA.ite | apply bA.bindSum | apply bA.bind | (intro _; try dsimp only) | (rename_i x; cases x <;> dsimp only))
theorem zbr (fu : Nat) (runs1 : List (List aA)) : bA (zJ fu runs1) (zJ (fu + 1) runs1) := by
  unfold zJ
  repeat' (first | exact bA.refl _ |  apply zml | apply bA.ite | apply bA.bindSum | apply bA.bind | (intro _; try dsimp only) | (rename_i x; cases x <;> dsimp only))
theorem yZ (fu : Nat) (vs1 : List (List aA)) : bA (eL fu vs1) (eL (fu + 1) vs1) := by
  unfold eL
  repeat' (first | exact bA.refl _ |  apply bA.ite | apply bA.bindSum | apply bA.bind | (intro _; try dsimp only) | (rename_i x; cases x <;> dsimp only))
theorem dX (fu : Nat) (l1 : List aA) (vat2 : Int) : bA (dJ fu l1 vat2) (dJ (fu + 1) l1 vat2) := by
  unfold dJ
  repeat' (first | exact bA.refl _ |  apply bA.ite | apply bA.bindSum | apply bA.bind | (intro _; try dsimp only) | (rename_i x; cases x <;> dsimp only))
theorem zmS (fu : Nat) (k1 : cA) : bA (yR fu k1) (yR (fu + 1) k1) := by
  unfold yR
  repeat' (first | exact bA.refl _ |  apply bA.ite | apply bA.bindSum | apply bA.bind | (intro _; try dsimp only) | (rename_i x; cases x <;> dsimp only))
theorem zgY (vs1 : List cA) : ∀ fu v12, bA (eI vs1 fu v12) (eI vs1 (fu + 1) v12) := by
  intro fu
  induction fu with
  | zero => intro v12 r h; rw [eI] at h; cases h
  | succ fu ih =>
    intro v12
    conv => arg 1; rw [eI]
    conv => arg 2; rw [eI]
    repeat' (first | exact bA.refl _ | exact ih _ | apply zmS | apply bA.ite | apply bA.bindSum | apply bA.bind | (intro _; try dsimp only) | (rename_i x; cases x <;> dsimp only))
theorem zmO (fu : Nat) (vs1 : List cA) : bA (sR fu vs1) (sR (fu + 1) vs1) := by
  unfold sR
  repeat' (first | exact bA.refl _ |  apply zgY | apply bA.ite | apply bA.bindSum | apply bA.bind | (intro _; try dsimp only) | (rename_i x; cases x <;> dsimp only))
theorem zkJ (fu : Nat) (vs1 : List cA) : bA (dS fu vs1) (dS (fu + 1) vs1) := by
  unfold dS
  repeat' (first | exact bA.refl _ |  apply zmO | apply bA.ite | apply bA.bindSum | apply bA.bind | (intro _; try dsimp only) | (rename_i x; cases x <;> dsimp only))
theorem rX (fu : Nat) (keys1 : List cA) : bA (rK fu keys1) (rK (fu + 1) keys1) := by
  unfold rK
  repeat' (first | exact bA.refl _ |  apply zkJ | apply bA.ite | apply bA.bindSum | apply bA.bind | (intro _; try dsimp only) | (rename_i x; cases x <;> dsimp only))
theorem zbh (fu : Nat) (keys1 : List cA) : bA (zM fu keys1) (zM (fu + 1) keys1) := by
  unfold zM
  repeat' (first | exact bA.refl _ |  apply bA.ite | apply bA.bindSum | apply bA.bind | (intro _; try dsimp only) | (rename_i x; cases x <;> dsimp only))
theorem znF (fu : Nat) (vs1 : List cA) : bA (tR fu vs1) (tR (fu + 1) vs1) := by
  unfold tR
  repeat' (first | exact bA.refl _ |  apply bA.ite | apply bA.bindSum | apply bA.bind | (intro _; try dsimp only) | (rename_i x; cases x <;> dsimp only))
theorem zbA (fu : Nat) (p1 : Int) (q2 : Int) (p3 : List cA) : bA (lN fu p1 q2 p3) (lN (fu + 1) p1 q2 p3) := by
  unfold lN
  repeat' (first | exact bA.refl _ |  apply bA.ite | apply bA.bindSum | apply bA.bind | (intro _; try dsimp only) | (rename_i x; cases x <;> dsimp only))
theorem zhS (keys1 : List cA) (vr2 : List cA) : ∀ fu i34 players35 v36, bA (xG keys1 vr2 fu i34 players35 v36) (xG keys1 vr2 (fu + 1) i34 players35 v36) := by
  intro fu
  induction fu with
  | zero => intro i34 players35 v36 r h; rw [xG] at h; cases h
  | succ fu ih =>
    intro i34 players35 v36
    conv => arg 1; rw [xG]
    conv => arg 2; rw [xG]
    repeat' (first | exact bA.refl _ | exact ih _ _ _ | apply zbA | apply bA.ite | apply bA.bindSum | apply bA.bind | (intro _; try dsimp only) | (rename_i x; cases x <;> dsimp only))
theorem zee (fu : Nat) (keys1 : List cA) : bA (vO fu keys1) (vO (fu + 1) keys1) := by
  unfold vO
  repeat' (first | exact bA.refl _ |  apply zbh | apply znF | apply zhS | apply bA.ite | apply bA.bindSum | apply bA.bind | (intro _; try dsimp only) | (rename_i x; cases x <;> dsimp only))
theorem ziI (fu : Nat) (keys1 : List cA) : bA (gQ fu keys1) (gQ (fu + 1) keys1) := by
  unfold gQ
  repeat' (first | exact bA.refl _ |  apply rX | apply zee | apply bA.ite | apply bA.bindSum | apply bA.bind | (intro _; try dsimp only) | (rename_i x; cases x <;> dsimp only))
theorem zoo (runs1 : List (List aA)) (vat2 : List Int) : ∀ fu v18 keys19, bA (zH runs1 vat2 fu v18 keys19) (zH runs1 vat2 (fu + 1) v18 keys19) := by
  intro fu
  induction fu with
  | zero => intro v18 keys19 r h; rw [zH] at h; cases h
  | succ fu ih =>
    intro v18 keys19
    conv => arg 1; rw [zH]
    conv => arg 2; rw [zH]
    repeat' (first | exact bA.refl _ | exact ih _ _ | apply dX | apply bA.ite | apply bA.bindSum | apply bA.bind | (intro _; try dsimp only) | (rename_i x; cases x <;> dsimp only))
theorem zeN (fu : Nat) (runs1 : List (List aA)) (vat2 : List Int) : bA (tN fu runs1 vat2) (tN (fu + 1) runs1 vat2) := by
  unfold tN
  repeat' (first | exact bA.refl _ |  apply zoo | apply ziI | apply bA.ite | apply bA.bindSum | apply bA.bind | (intro _; try dsimp only) | (rename_i x; cases x <;> dsimp only))
theorem zgt (fu : Nat) (runs1 : List (List aA)) : bA (cI fu runs1) (cI (fu + 1) runs1) := by
  unfold cI
  repeat' (first | exact bA.refl _ |  apply zbr | apply yZ | apply zeN | apply bA.ite | apply bA.bindSum | apply bA.bind | (intro _; try dsimp only) | (rename_i x; cases x <;> dsimp only))
theorem zaX (fu : Nat) (bottom1 : Bool) : bA (kL fu bottom1) (kL (fu + 1) bottom1) := by
  unfold kL
  repeat' (first | exact bA.refl _ |  apply bA.ite | apply bA.bindSum | apply bA.bind | (intro _; try dsimp only) | (rename_i x; cases x <;> dsimp only))
theorem zmD (fu : Nat) (runs1 : List (List aA)) (bottom2 : Bool) : bA (iQ fu runs1 bottom2) (iQ (fu + 1) runs1 bottom2) := by
  unfold iQ
  repeat' (first | exact bA.refl _ |  apply zgt | apply zaX | apply bA.ite | apply bA.bindSum | apply bA.bind | (intro _; try dsimp only) | (rename_i x; cases x <;> dsimp only))
theorem zeZ (fu : Nat) (l1 : dB) (level2 : Int) (bottom3 : Bool) : bA (eO fu l1 level2 bottom3) (eO (fu + 1) l1 level2 bottom3) := by
  unfold eO
  repeat' (first | exact bA.refl _ |  apply zmD | apply bA.ite | apply bA.bindSum | apply bA.bind | (intro _; try dsimp only) | (rename_i x; cases x <;> dsimp only))
theorem znK (vr5 : Int × List sA) (l1 : dB) : ∀ fu level27 v28, bA (qJ vr5 l1 fu level27 v28) (qJ vr5 l1 (fu + 1) level27 v28) := by
  intro fu
  induction fu with
  | zero => intro level27 v28 r h; rw [qJ] at h; cases h
  | succ fu ih =>
    intro level27 v28
    conv => arg 1; rw [qJ]
    conv => arg 2; rw [qJ]
    repeat' (first | exact bA.refl _ | exact ih _ _ | apply zeX | apply zeZ | apply bA.ite | apply bA.bindSum | apply bA.bind | (intro _; try dsimp only) | (rename_i x; cases x <;> dsimp only))
theorem ziK (fu : Nat) (l1 : dB) : bA (qS fu l1) (qS (fu + 1) l1) := by
  unfold qS
  repeat' (first | exact bA.refl _ |  apply zej | apply zdu | apply zcP | apply znK | apply bA.ite | apply bA.bindSum | apply bA.bind | (intro _; try dsimp only) | (rename_i x; cases x <;> dsimp only))
theorem ziv (seq2 : List sA) : ∀ fu v18 v19, bA (jH seq2 fu v18 v19) (jH seq2 (fu + 1) v18 v19) := by
  intro fu
  induction fu with
  | zero => intro v18 v19 r h; rw [jH] at h; cases h
  | succ fu ih =>
    intro v18 v19
    conv => arg 1; rw [jH]
    conv => arg 2; rw [jH]
    repeat' (first | exact bA.refl _ | exact ih _ _ | apply bA.ite | apply bA.bindSum | apply bA.bind | (intro _; try dsimp only) | (rename_i x; cases x <;> dsimp only))
theorem zjb (fu : Nat) (seq1 : Int) (seq2 : List sA) : bA (iN fu seq1 seq2) (iN (fu + 1) seq1 seq2) := by
  unfold iN
  repeat' (first | exact bA.refl _ |  apply ziv | apply bA.ite | apply bA.bindSum | apply bA.bind | (intro _; try dsimp only) | (rename_i x; cases x <;> dsimp only))
theorem zm2 (s11 : List cA) (s22 : List cA) : ∀ fu v14, bA (yH s11 s22 fu v14) (yH s11 s22 (fu + 1) v14) := by
  intro fu
  induction fu with
  | zero => intro v14 r h; rw [yH] at h; cases h
  | succ fu ih =>
    intro v14
    conv => arg 1; rw [yH]
    conv => arg 2; rw [yH]
    repeat' (first | exact bA.refl _ | exact ih _ | apply bA.ite | apply bA.bindSum | apply bA.bind | (intro _; try dsimp only) | (rename_i x; cases x <;> dsimp only))
theorem zb0 (fu : Nat) (s11 : List cA) (s22 : List cA) : bA (uK fu s11 s22) (uK (fu + 1) s11 s22) := by
  unfold uK
  repeat' (first | exact bA.refl _ |  apply zm2 | apply bA.ite | apply bA.bindSum | apply bA.bind | (intro _; try dsimp only) | (rename_i x; cases x <;> dsimp only))
theorem zhp (s11 : List Int) (s22 : List Int) : ∀ fu v14, bA (oI s11 s22 fu v14) (oI s11 s22 (fu + 1) v14) := by
  intro fu
  induction fu with
  | zero => intro v14 r h; rw [oI] at h; cases h
  | succ fu ih =>
    intro v14
    conv => arg 1; rw [oI]
    conv => arg 2; rw [oI]
    repeat' (first | exact bA.refl _ | exact ih _ | apply bA.ite | apply bA.bindSum | apply bA.bind | (intro _; try dsimp only) | (rename_i x; cases x <;> dsimp only))
theorem zeG (fu : Nat) (s11 : List Int) (s22 : List Int) : bA (aK fu s11 s22) (aK (fu + 1) s11 s22) := by
  unfold aK
  repeat' (first | exact bA.refl _ |  apply zhp | apply bA.ite | apply bA.bindSum | apply bA.bind | (intro _; try dsimp only) | (rename_i x; cases x <;> dsimp only))
theorem zj8 (fu : Nat) (a1 : zA) (b2 : zA) : bA (kP fu a1 b2) (kP (fu + 1) a1 b2) := by
  unfold kP
  repeat' (first | exact bA.refl _ |  apply zb0 | apply zeG | apply bA.ite | apply bA.bindSum | apply bA.bind | (intro _; try dsimp only) | (rename_i x; cases x <;> dsimp only))
theorem zmc (vr5 : zA) (t1 : zA) : ∀ fu v16, bA (gI vr5 t1 fu v16) (gI vr5 t1 (fu + 1) v16) := by
  intro fu
  induction fu with
  | zero => intro v16 r h; rw [gI] at h; cases h
  | succ fu ih =>
    intro v16
    conv => arg 1; rw [gI]
    conv => arg 2; rw [gI]
    repeat' (first | exact bA.refl _ | exact ih _ | apply bA.ite | apply bA.bindSum | apply bA.bind | (intro _; try dsimp only) | (rename_i x; cases x <;> dsimp only))
theorem zh1 (fu : Nat) (t1 : zA) : bA (nP fu t1) (nP (fu + 1) t1) := by
  unfold nP
  repeat' (first | exact bA.refl _ |  apply rX | apply zee | apply zmc | apply bA.ite | apply bA.bindSum | apply bA.bind | (intro _; try dsimp only) | (rename_i x; cases x <;> dsimp only))
theorem zd3 (fu : Nat) (t1 : zA) : bA (qN fu t1) (qN (fu + 1) t1) := by
  unfold qN
  repeat' (first | exact bA.refl _ |  apply zh1 | apply bA.ite | apply bA.bindSum | apply bA.bind | (intro _; try dsimp only) | (rename_i x; cases x <;> dsimp only))
theorem zcX (fu : Nat) (t1 : zA) : bA (pN fu t1) (pN (fu + 1) t1) := by
  unfold pN
  repeat' (first | exact bA.refl _ |  apply zd3 | apply bA.ite | apply bA.bindSum | apply bA.bind | (intro _; try dsimp only) | (rename_i x; cases x <;> dsimp only))
theorem zhY (fu : Nat) (vx1 : List UInt8) : bA (vP fu vx1) (vP (fu + 1) vx1) := by
  unfold vP
  repeat' (first | exact bA.refl _ |  apply bA.ite | apply bA.bindSum | apply bA.bind | (intro _; try dsimp only) | (rename_i x; cases x <;> dsimp only))
theorem ze8 (fu : Nat) (vx1 : List UInt8) (y2 : List UInt8) : bA (cL fu vx1 y2) (cL (fu + 1) vx1 y2) := by
  unfold cL
  repeat' (first | exact bA.refl _ |  apply zhY | apply bA.ite | apply bA.bindSum | apply bA.bind | (intro _; try dsimp only) | (rename_i x; cases x <;> dsimp only))
theorem zhb (fu : Nat) (vx1 : Int) : bA (tQ fu vx1) (tQ (fu + 1) vx1) := by
  unfold tQ
  repeat' (first | exact bA.refl _ |  apply bA.ite | apply bA.bindSum | apply bA.bind | (intro _; try dsimp only) | (rename_i x; cases x <;> dsimp only))
theorem zhn (fu : Nat) (vx1 : Int) (y2 : Int) : bA (oM fu vx1 y2) (oM (fu + 1) vx1 y2) := by
  unfold oM
  repeat' (first | exact bA.refl _ |  apply zhb | apply bA.ite | apply bA.bindSum | apply bA.bind | (intro _; try dsimp only) | (rename_i x; cases x <;> dsimp only))
theorem ziJ (vals1 : List Int) : ∀ fu v10, bA (mI vals1 fu v10) (mI vals1 (fu + 1) v10) := by
  intro fu
  induction fu with
  | zero => intro v10 r h; rw [mI] at h; cases h
  | succ fu ih =>
    intro v10
    conv => arg 1; rw [mI]
    conv => arg 2; rw [mI]
    repeat' (first | exact bA.refl _ | exact ih _ | apply bA.ite | apply bA.bindSum | apply bA.bind | (intro _; try dsimp only) | (rename_i x; cases x <;> dsimp only))
theorem zkg (fu : Nat) (vals1 : List Int) : bA (fM fu vals1) (fM (fu + 1) vals1) := by
  unfold fM
  repeat' (first | exact bA.refl _ |  apply ziJ | apply bA.ite | apply bA.bindSum | apply bA.bind | (intro _; try dsimp only) | (rename_i x; cases x <;> dsimp only))
theorem zkr (vs1 : gB) : ∀ fu v19, bA (qG vs1 fu v19) (qG vs1 (fu + 1) v19) := by
  intro fu
  induction fu with
  | zero => intro v19 r h; rw [qG] at h; cases h
  | succ fu ih =>
    intro v19
    conv => arg 1; rw [qG]
    conv => arg 2; rw [qG]
    repeat' (first | exact bA.refl _ | exact ih _ | apply bA.ite | apply bA.bindSum | apply bA.bind | (intro _; try dsimp only) | (rename_i x; cases x <;> dsimp only))
theorem zhw (vs1 : gB) (vr30 : Int × List UInt8 × Int) : ∀ fu v54, bA (vF vs1 vr30 fu v54) (vF vs1 vr30 (fu + 1) v54) := by
  intro fu
  induction fu with
  | zero => intro v54 r h; rw [vF] at h; cases h
  | succ fu ih =>
    intro v54
    conv => arg 1; rw [vF]
    conv => arg 2; rw [vF]
    repeat' (first | exact bA.refl _ | exact ih _ | apply ze8 | apply zhn | apply zkg | apply bA.ite | apply bA.bindSum | apply bA.bind | (intro _; try dsimp only) | (rename_i x; cases x <;> dsimp only))
theorem za5 (fu : Nat) (vs1 : gB) : bA (wG fu vs1) (wG (fu + 1) vs1) := by
  unfold wG
  repeat' (first | exact bA.refl _ |  apply zbr | apply zkr | apply zeN | apply zj8 | apply zcX | apply zhw | apply bA.ite | apply bA.bindSum | apply bA.bind | (intro _; try dsimp only) | (rename_i x; cases x <;> dsimp only))
theorem zeS (fu : Nat) (vr1 : List (List aA)) (vr2 : List Int) (vr3 : List cA) (vr4 : List Int) (vr5 : Int) : bA (bL fu vr1 vr2 vr3 vr4 vr5) (bL (fu + 1) vr1 vr2 vr3 vr4 vr5) := by
  unfold bL
  repeat' (first | exact bA.refl _ |  apply zcX | apply bA.ite | apply bA.bindSum | apply bA.bind | (intro _; try dsimp only) | (rename_i x; cases x <;> dsimp only))
theorem zek (fu : Nat) (vs1 : List cA) : bA (gP fu vs1) (gP (fu + 1) vs1) := by
  unfold gP
  repeat' (first | exact bA.refl _ |  apply bA.ite | apply bA.bindSum | apply bA.bind | (intro _; try dsimp only) | (rename_i x; cases x <;> dsimp only))
theorem znj (keys1 : List cA) (vr2 : List cA) : ∀ fu i34 players35 v36, bA (yI keys1 vr2 fu i34 players35 v36) (yI keys1 vr2 (fu + 1) i34 players35 v36) := by
  intro fu
  induction fu with
  | zero => intro i34 players35 v36 r h; rw [yI] at h; cases h
  | succ fu ih =>
    intro i34 players35 v36
    conv => arg 1; rw [yI]
    conv => arg 2; rw [yI]
    repeat' (first | exact bA.refl _ | exact ih _ _ _ | apply zbA | apply bA.ite | apply bA.bindSum | apply bA.bind | (intro _; try dsimp only) | (rename_i x; cases x <;> dsimp only))
theorem zoz (fu : Nat) (keys1 : List cA) : bA (oS fu keys1) (oS (fu + 1) keys1) := by
  unfold oS
  repeat' (first | exact bA.refl _ |  apply zbh | apply zek | apply znj | apply bA.ite | apply bA.bindSum | apply bA.bind | (intro _; try dsimp only) | (rename_i x; cases x <;> dsimp only))
theorem zjo (fu : Nat) (keys1 : List cA) : bA (lU fu keys1) (lU (fu + 1) keys1) := by
  unfold lU
  repeat' (first | exact bA.refl _ |  apply rX | apply zoz | apply bA.ite | apply bA.bindSum | apply bA.bind | (intro _; try dsimp only) | (rename_i x; cases x <;> dsimp only))
theorem znX (runs1 : List (List aA)) (vat2 : List Int) : ∀ fu v18 keys19, bA (dK runs1 vat2 fu v18 keys19) (dK runs1 vat2 (fu + 1) v18 keys19) := by
  intro fu
  induction fu with
  | zero => intro v18 keys19 r h; rw [dK] at h; cases h
  | succ fu ih =>
    intro v18 keys19
    conv => arg 1; rw [dK]
    conv => arg 2; rw [dK]
    repeat' (first | exact bA.refl _ | exact ih _ _ | apply dX | apply bA.ite | apply bA.bindSum | apply bA.bind | (intro _; try dsimp only) | (rename_i x; cases x <;> dsimp only))
theorem ziB (fu : Nat) (runs1 : List (List aA)) (vat2 : List Int) : bA (gU fu runs1 vat2) (gU (fu + 1) runs1 vat2) := by
  unfold gU
  repeat' (first | exact bA.refl _ |  apply znX | apply zjo | apply bA.ite | apply bA.bindSum | apply bA.bind | (intro _; try dsimp only) | (rename_i x; cases x <;> dsimp only))
theorem zjU (fu : Nat) (runs1 : List (List aA)) : bA (fS fu runs1) (fS (fu + 1) runs1) := by
  unfold fS
  repeat' (first | exact bA.refl _ |  apply zbr | apply yZ | apply ziB | apply bA.ite | apply bA.bindSum | apply bA.bind | (intro _; try dsimp only) | (rename_i x; cases x <;> dsimp only))
theorem zcS (fu : Nat) (vs1 : List Int) : bA (vL fu vs1) (vL (fu + 1) vs1) := by
  unfold vL
  repeat' (first | exact bA.refl _ |  apply bA.ite | apply bA.bindSum | apply bA.bind | (intro _; try dsimp only) | (rename_i x; cases x <;> dsimp only))
theorem zg0 (vr14 : List cA) : ∀ fu games29 node30 u31 v32, bA (sH vr14 fu games29 node30 u31 v32) (sH vr14 (fu + 1) games29 node30 u31 v32) := by
  intro fu
  induction fu with
  | zero => intro games29 node30 u31 v32 r h; rw [sH] at h; cases h
  | succ fu ih =>
    intro games29 node30 u31 v32
    conv => arg 1; rw [sH]
    conv => arg 2; rw [sH]
    repeat' (first | exact bA.refl _ | exact ih _ _ _ _ | apply zbA | apply bA.ite | apply bA.bindSum | apply bA.bind | (intro _; try dsimp only) | (rename_i x; cases x <;> dsimp only))
theorem zdF (fu : Nat) (t1 : zA) (k2 : cA) : bA (aM fu t1 k2) (aM (fu + 1) t1 k2) := by
  unfold aM
  repeat' (first | exact bA.refl _ |  apply zd3 | apply rX | apply zek | apply zcS | apply zbh | apply zg0 | apply bA.ite | apply bA.bindSum | apply bA.bind | (intro _; try dsimp only) | (rename_i x; cases x <;> dsimp only))
theorem zf3 (vr2 : gB × Int × Int) : ∀ fu v38 v39 v40 v41 v42 v43, bA (hI vr2 fu v38 v39 v40 v41 v42 v43) (hI vr2 (fu + 1) v38 v39 v40 v41 v42 v43) := by
  intro fu
  induction fu with
  | zero => intro v38 v39 v40 v41 v42 v43 r h; rw [hI] at h; cases h
  | succ fu ih =>
    intro v38 v39 v40 v41 v42 v43
    conv => arg 1; rw [hI]
    conv => arg 2; rw [hI]
    repeat' (first | exact bA.refl _ | exact ih _ _ _ _ _ _ | apply zeS | apply dX | apply zdF | apply bA.ite | apply bA.bindSum | apply bA.bind | (intro _; try dsimp only) | (rename_i x; cases x <;> dsimp only))
theorem zlK (fu : Nat) (runs1 : List (List aA)) : bA (iL fu runs1) (iL (fu + 1) runs1) := by
  unfold iL
  repeat' (first | exact bA.refl _ |  apply zjU | apply zf3 | apply bA.ite | apply bA.bindSum | apply bA.bind | (intro _; try dsimp only) | (rename_i x; cases x <;> dsimp only))
theorem zeo (fu : Nat) (vs1 : mB) : bA (xN fu vs1) (xN (fu + 1) vs1) := by
  unfold xN
  repeat' (first | exact bA.refl _ |  apply zeP | apply bA.ite | apply bA.bindSum | apply bA.bind | (intro _; try dsimp only) | (rename_i x; cases x <;> dsimp only))
theorem zk4 (fu : Nat) (vx1 : vE) : bA (aR fu vx1) (aR (fu + 1) vx1) := by
  unfold aR
  repeat' (first | exact bA.refl _ |  apply bA.ite | apply bA.bindSum | apply bA.bind | (intro _; try dsimp only) | (rename_i x; cases x <;> dsimp only))
theorem zoT (l1 : List aA) (vr4 : mB) : ∀ fu v60 v61 v62 v63, bA (iH l1 vr4 fu v60 v61 v62 v63) (iH l1 vr4 (fu + 1) v60 v61 v62 v63) := by
  intro fu
  induction fu with
  | zero => intro v60 v61 v62 v63 r h; rw [iH] at h; cases h
  | succ fu ih =>
    intro v60 v61 v62 v63
    conv => arg 1; rw [iH]
    conv => arg 2; rw [iH]
    repeat' (first | exact bA.refl _ | exact ih _ _ _ _ | apply zeo | apply zbU | apply zk4 | apply bA.ite | apply bA.bindSum | apply bA.bind | (intro _; try dsimp only) | (rename_i x; cases x <;> dsimp only))
theorem zik (fu : Nat) (l1 : List aA) (bottom2 : Bool) : bA (kQ fu l1 bottom2) (kQ (fu + 1) l1 bottom2) := by
  unfold kQ
  repeat' (first | exact bA.refl _ |  apply zaX | apply zoT | apply bA.ite | apply bA.bindSum | apply bA.bind | (intro _; try dsimp only) | (rename_i x; cases x <;> dsimp only))
theorem zf2 (a1 : List aA) (b2 : List aA) : ∀ fu v14, bA (lI a1 b2 fu v14) (lI a1 b2 (fu + 1) v14) := by
  intro fu
  induction fu with
  | zero => intro v14 r h; rw [lI] at h; cases h
  | succ fu ih =>
    intro v14
    conv => arg 1; rw [lI]
    conv => arg 2; rw [lI]
    repeat' (first | exact bA.refl _ | exact ih _ | apply bA.ite | apply bA.bindSum | apply bA.bind | (intro _; try dsimp only) | (rename_i x; cases x <;> dsimp only))
theorem zgW (fu : Nat) (a1 : List aA) (b2 : List aA) : bA (nO fu a1 b2) (nO (fu + 1) a1 b2) := by
  unfold nO
  repeat' (first | exact bA.refl _ |  apply zf2 | apply bA.ite | apply bA.bindSum | apply bA.bind | (intro _; try dsimp only) | (rename_i x; cases x <;> dsimp only))
theorem znp (vs1 : pB) : ∀ fu n11 v12, bA (fI vs1 fu n11 v12) (fI vs1 (fu + 1) n11 v12) := by
  intro fu
  induction fu with
  | zero => intro n11 v12 r h; rw [fI] at h; cases h
  | succ fu ih =>
    intro n11 v12
    conv => arg 1; rw [fI]
    conv => arg 2; rw [fI]
    repeat' (first | exact bA.refl _ | exact ih _ _ | apply bA.ite | apply bA.bindSum | apply bA.bind | (intro _; try dsimp only) | (rename_i x; cases x <;> dsimp only))
theorem zis (fu : Nat) (vs1 : pB) : bA (uO fu vs1) (uO (fu + 1) vs1) := by
  unfold uO
  repeat' (first | exact bA.refl _ |  apply za5 | apply znp | apply zlK | apply zik | apply zaX | apply zgW | apply bA.ite | apply bA.bindSum | apply bA.bind | (intro _; try dsimp only) | (rename_i x; cases x <;> dsimp only))
theorem ze7 (vs1 : gB) : ∀ fu n13 v14, bA (pI vs1 fu n13 v14) (pI vs1 (fu + 1) n13 v14) := by
  intro fu
  induction fu with
  | zero => intro n13 v14 r h; rw [pI] at h; cases h
  | succ fu ih =>
    intro n13 v14
    conv => arg 1; rw [pI]
    conv => arg 2; rw [pI]
    repeat' (first | exact bA.refl _ | exact ih _ _ | apply bA.ite | apply bA.bindSum | apply bA.bind | (intro _; try dsimp only) | (rename_i x; cases x <;> dsimp only))
theorem zot (fu : Nat) (vs1 : gB) : bA (iP fu vs1) (iP (fu + 1) vs1) := by
  unfold iP
  repeat' (first | exact bA.refl _ |  apply za5 | apply ze7 | apply bA.ite | apply bA.bindSum | apply bA.bind | (intro _; try dsimp only) | (rename_i x; cases x <;> dsimp only))
theorem aX (fu : Nat) (vs1 : pB) : bA (zK fu vs1) (zK (fu + 1) vs1) := by
  unfold zK
  repeat' (first | exact bA.refl _ |  apply zis | apply zot | apply bA.ite | apply bA.bindSum | apply bA.bind | (intro _; try dsimp only) | (rename_i x; cases x <;> dsimp only))
theorem zle (fu : Nat) (vs1 : gB) : bA (oO fu vs1) (oO (fu + 1) vs1) := by
  unfold oO
  repeat' (first | exact bA.refl _ |  apply za5 | apply yZ | apply zcS | apply zeS | apply dX | apply zdF | apply bA.ite | apply bA.bindSum | apply bA.bind | (intro _; try dsimp only) | (rename_i x; cases x <;> dsimp only))
theorem zhX (fu : Nat) (vs1 : mB) (vx2 : aA) : bA (lM fu vs1 vx2) (lM (fu + 1) vs1 vx2) := by
  unfold lM
  repeat' (first | exact bA.refl _ |  apply zeo | apply zbU | apply bA.ite | apply bA.bindSum | apply bA.bind | (intro _; try dsimp only) | (rename_i x; cases x <;> dsimp only))
theorem zlT (vr3 : Int × Int) (n2 : Int) : ∀ fu left43 v44 v45 v46 v47 v48 v49 v50 v51 v52 v53, bA (kH vr3 n2 fu left43 v44 v45 v46 v47 v48 v49 v50 v51 v52 v53) (kH vr3 n2 (fu + 1) left43 v44 v45 v46 v47 v48 v49 v50 v51 v52 v53) := by
  intro fu
  induction fu with
  | zero => intro left43 v44 v45 v46 v47 v48 v49 v50 v51 v52 v53 r h; rw [kH] at h; cases h
  | succ fu ih =>
    intro left43 v44 v45 v46 v47 v48 v49 v50 v51 v52 v53
    conv => arg 1; rw [kH]
    conv => arg 2; rw [kH]
    repeat' (first | exact bA.refl _ | exact ih _ _ _ _ _ _ _ _ _ _ _ | apply zle | apply zhX | apply bA.ite | apply bA.bindSum | apply bA.bind | (intro _; try dsimp only) | (rename_i x; cases x <;> dsimp only))
theorem zcR (fu : Nat) (vs1 : pB) (n2 : Int) : bA (yN fu vs1 n2) (yN (fu + 1) vs1 n2) := by
  unfold yN
  repeat' (first | exact bA.refl _ |  apply aX | apply zlT | apply bA.ite | apply bA.bindSum | apply bA.bind | (intro _; try dsimp only) | (rename_i x; cases x <;> dsimp only))
theorem zjZ (s11 : List aA) (s22 : List aA) : ∀ fu v14, bA (bI s11 s22 fu v14) (bI s11 s22 (fu + 1) v14) := by
  intro fu
  induction fu with
  | zero => intro v14 r h; rw [bI] at h; cases h
  | succ fu ih =>
    intro v14
    conv => arg 1; rw [bI]
    conv => arg 2; rw [bI]
    repeat' (first | exact bA.refl _ | exact ih _ | apply bA.ite | apply bA.bindSum | apply bA.bind | (intro _; try dsimp only) | (rename_i x; cases x <;> dsimp only))
theorem zoG (fu : Nat) (s11 : List aA) (s22 : List aA) : bA (dR fu s11 s22) (dR (fu + 1) s11 s22) := by
  unfold dR
  repeat' (first | exact bA.refl _ |  apply zjZ | apply bA.ite | apply bA.bindSum | apply bA.bind | (intro _; try dsimp only) | (rename_i x; cases x <;> dsimp only))
theorem zeg (fu : Nat) (a1 : List aA) (b2 : List aA) : bA (jN fu a1 b2) (jN (fu + 1) a1 b2) := by
  unfold jN
  repeat' (first | exact bA.refl _ |  apply zoG | apply bA.ite | apply bA.bindSum | apply bA.bind | (intro _; try dsimp only) | (rename_i x; cases x <;> dsimp only))
theorem zmi (s11 : List (List aA)) (s22 : List (List aA)) : ∀ fu v16, bA (lH s11 s22 fu v16) (lH s11 s22 (fu + 1) v16) := by
  intro fu
  induction fu with
  | zero => intro v16 r h; rw [lH] at h; cases h
  | succ fu ih =>
    intro v16
    conv => arg 1; rw [lH]
    conv => arg 2; rw [lH]
    repeat' (first | exact bA.refl _ | exact ih _ | apply zeg | apply bA.ite | apply bA.bindSum | apply bA.bind | (intro _; try dsimp only) | (rename_i x; cases x <;> dsimp only))
theorem zjs (fu : Nat) (s11 : List (List aA)) (s22 : List (List aA)) : bA (oP fu s11 s22) (oP (fu + 1) s11 s22) := by
  unfold oP
  repeat' (first | exact bA.refl _ |  apply zmi | apply bA.ite | apply bA.bindSum | apply bA.bind | (intro _; try dsimp only) | (rename_i x; cases x <;> dsimp only))
theorem zkh (fu : Nat) (a1 : pB) (b2 : pB) : bA (uP fu a1 b2) (uP (fu + 1) a1 b2) := by
  unfold uP
  repeat' (first | exact bA.refl _ |  apply zjs | apply zeG | apply zb0 | apply zeg | apply bA.ite | apply bA.bindSum | apply bA.bind | (intro _; try dsimp only) | (rename_i x; cases x <;> dsimp only))
theorem zl2 (vs1 : bB) (vr10 : List Int) : ∀ fu v49, bA (eF vs1 vr10 fu v49) (eF vs1 vr10 (fu + 1) v49) := by
  intro fu
  induction fu with
  | zero => intro v49 r h; rw [eF] at h; cases h
  | succ fu ih =>
    intro v49
    conv => arg 1; rw [eF]
    conv => arg 2; rw [eF]
    repeat' (first | exact bA.refl _ | exact ih _ | apply zeX | apply zeZ | apply aX | apply zcR | apply zkh | apply bA.ite | apply bA.bindSum | apply bA.bind | (intro _; try dsimp only) | (rename_i x; cases x <;> dsimp only))
theorem zcu (fu : Nat) (vs1 : bB) : bA (eJ fu vs1) (eJ (fu + 1) vs1) := by
  unfold eJ
  repeat' (first | exact bA.refl _ |  apply zej | apply zdu | apply zcP | apply zjb | apply zl2 | apply bA.ite | apply bA.bindSum | apply bA.bind | (intro _; try dsimp only) | (rename_i x; cases x <;> dsimp only))
theorem zfX (fu : Nat) (j1 : xA) (p2 : Int) : bA (yM fu j1 p2) (yM (fu + 1) j1 p2) := by
  unfold yM
  repeat' (first | exact bA.refl _ |  apply bA.ite | apply bA.bindSum | apply bA.bind | (intro _; try dsimp only) | (rename_i x; cases x <;> dsimp only))
theorem ziM (vs1 : List xA) (f2 : Int) : ∀ fu v13, bA (bG vs1 f2 fu v13) (bG vs1 f2 (fu + 1) v13) := by
  intro fu
  induction fu with
  | zero => intro v13 r h; rw [bG] at h; cases h
  | succ fu ih =>
    intro v13
    conv => arg 1; rw [bG]
    conv => arg 2; rw [bG]
    repeat' (first | exact bA.refl _ | exact ih _ | apply zfX | apply bA.ite | apply bA.bindSum | apply bA.bind | (intro _; try dsimp only) | (rename_i x; cases x <;> dsimp only))
theorem zoQ (fu : Nat) (vs1 : List xA) (f2 : Int) : bA (dM fu vs1 f2) (dM (fu + 1) vs1 f2) := by
  unfold dM
  repeat' (first | exact bA.refl _ |  apply ziM | apply bA.ite | apply bA.bindSum | apply bA.bind | (intro _; try dsimp only) | (rename_i x; cases x <;> dsimp only))
theorem zmF (fu : Nat) (l1 : List xA) (is2 : Int) : bA (kO fu l1 is2) (kO (fu + 1) l1 is2) := by
  unfold kO
  repeat' (first | exact bA.refl _ |  apply zoQ | apply bA.ite | apply bA.bindSum | apply bA.bind | (intro _; try dsimp only) | (rename_i x; cases x <;> dsimp only))
theorem zdT (fu : Nat) (vs1 : bB) (level2 : Int) : bA (mG fu vs1 level2) (mG (fu + 1) vs1 level2) := by
  unfold mG
  repeat' (first | exact bA.refl _ |  apply zcu | apply zmF | apply bA.ite | apply bA.bindSum | apply bA.bind | (intro _; try dsimp only) | (rename_i x; cases x <;> dsimp only))
theorem zkZ (fu : Nat) (vs1 : bB) (level2 : Int) : bA (jI fu vs1 level2) (jI (fu + 1) vs1 level2) := by
  unfold jI
  repeat' (first | exact bA.refl _ |  apply zdT | apply aX | apply bA.ite | apply bA.bindSum | apply bA.bind | (intro _; try dsimp only) | (rename_i x; cases x <;> dsimp only))
theorem zfN (fu : Nat) (vs1 : List xA) : bA (qR fu vs1) (qR (fu + 1) vs1) := by
  unfold qR
  repeat' (first | exact bA.refl _ |  apply bA.ite | apply bA.bindSum | apply bA.bind | (intro _; try dsimp only) | (rename_i x; cases x <;> dsimp only))
theorem zil (fu : Nat) (vs1 : bB) (level2 : Int) (most3 : Int) : bA (jK fu vs1 level2 most3) (jK (fu + 1) vs1 level2 most3) := by
  unfold jK
  repeat' (first | exact bA.refl _ |  apply zcu | apply zdT | apply aX | apply zcR | apply zfN | apply bA.ite | apply bA.bindSum | apply bA.bind | (intro _; try dsimp only) | (rename_i x; cases x <;> dsimp only))
theorem zkN (fu : Nat) : bA (tI fu ) (tI (fu + 1) ) := by
  unfold tI
  repeat' (first | exact bA.refl _ |  apply zf0 | apply ziK | apply zkZ | apply zil | apply bA.ite | apply bA.bindSum | apply bA.bind | (intro _; try dsimp only) | (rename_i x; cases x <;> dsimp only))
end Go.T
