/- A text of the proof. -/
import Derived.Test.YtnlggkiekcpahaaGreatAGp
namespace Go.T
open Go Go.AM
set_option maxHeartbeats 4000000
def dA {α : Type} (a b : Option α) : Prop:=∀ r,a = some r → b = some r
theorem dA.refl {α : Type} (a : Option α) : dA a a:=fun _ h=>h
theorem dA.bind {α β : Type} {a b : Option α} {f g : α → Option β} (h : dA a b) (k : ∀ x,dA (f x) (g x)) : dA (a.bind f) (b.bind g):=by
  intro r hr
  cases a with
  | none=>cases hr
  | some x=>rw [h x rfl]; exact k x r hr
theorem dA.bindSum {α γ β : Type} {a b : Option (Sum α γ)} {f g : Sum α γ → Option β} (h : dA a b) (k : ∀ x,dA (f (.inl x)) (g (.inl x))) (l : ∀ x,dA (f (.inr x)) (g (.inr x))) : dA (a.bind f) (b.bind g) :=
  dA.bind h fun x=>by cases x; exact k _; exact l _
theorem dA.ite {α : Type} {c : Prop} [Decidable c] {a b a' b' : Option α} (h : dA a a') (k : dA b b') : dA (if c then a else b) (if c then a' else b'):=by
  by_cases hc : c
  · rw [if_pos hc,if_pos hc]; exact h
  · rw [if_neg hc,if_neg hc]; exact k
set_option linter.unusedVariables false
theorem zgt (keys3 : List UInt8) (dead2 : Bool) (id1 : Int) : ∀ fu i15 v16,dA (gL keys3 dead2 id1 fu i15 v16) (gL keys3 dead2 id1 (fu + 1) i15 v16):=by
  intro fu
  induction fu with
  | zero=>intro i15 v16 r h; rw [gL] at h; cases h
  | succ fu ih =>
    intro i15 v16
    conv=>arg 1; rw [gL]
    conv=>arg 2; rw [gL]
    repeat' (first | exact dA.refl _ | exact ih _ _ | apply dA.ite | apply dA.bindSum | apply dA.bind | (intro _; try dsimp only) | (rename_i x; cases x <;> dsimp only))
theorem zmz (fu : Nat) (id1 : Int) (dead2 : Bool) (keys3 : List UInt8) : dA (zS fu id1 dead2 keys3) (zS (fu + 1) id1 dead2 keys3):=by
  unfold zS
  repeat' (first | exact dA.refl _ |  apply zgt | apply dA.ite | apply dA.bindSum | apply dA.bind | (intro _; try dsimp only) | (rename_i x; cases x <;> dsimp only))
theorem ziH (fu : Nat) : dA (wT fu ) (wT (fu + 1) ):=by
  unfold wT
  repeat' (first | exact dA.refl _ |  apply zmz | apply dA.ite | apply dA.bindSum | apply dA.bind | (intro _; try dsimp only) | (rename_i x; cases x <;> dsimp only))
theorem zeE (fu : Nat) (k1 : List UInt8) : dA (wM fu k1) (wM (fu + 1) k1):=by
  unfold wM
  repeat' (first | exact dA.refl _ |  apply dA.ite | apply dA.bindSum | apply dA.bind | (intro _; try dsimp only) | (rename_i x; cases x <;> dsimp only))
theorem zaP (fu : Nat) (vx1 : aA) : dA (tO fu vx1) (tO (fu + 1) vx1):=by
  unfold tO
  repeat' (first | exact dA.refl _ |  apply zeE | apply dA.ite | apply dA.bindSum | apply dA.bind | (intro _; try dsimp only) | (rename_i x; cases x <;> dsimp only))
theorem zlT (l1 : List aA) : ∀ fu v17,dA (oF l1 fu v17) (oF l1 (fu + 1) v17):=by
  intro fu
  induction fu with
  | zero=>intro v17 r h; rw [oF] at h; cases h
  | succ fu ih =>
    intro v17
    conv=>arg 1; rw [oF]
    conv=>arg 2; rw [oF]
    repeat' (first | exact dA.refl _ | exact ih _ | apply zaP | apply dA.ite | apply dA.bindSum | apply dA.bind | (intro _; try dsimp only) | (rename_i x; cases x <;> dsimp only))
theorem zcy (fu : Nat) (l1 : List aA) : dA (pJ fu l1) (pJ (fu + 1) l1):=by
  unfold pJ
  repeat' (first | exact dA.refl _ |  apply zlT | apply dA.ite | apply dA.bindSum | apply dA.bind | (intro _; try dsimp only) | (rename_i x; cases x <;> dsimp only))
theorem zpw (fu : Nat) (vr1 : gB) : dA (oS fu vr1) (oS (fu + 1) vr1):=by
  unfold oS
  repeat' (first | exact dA.refl _ |  apply zcy | apply dA.ite | apply dA.bindSum | apply dA.bind | (intro _; try dsimp only) | (rename_i x; cases x <;> dsimp only))
theorem zk3 (fu : Nat) (vr1 : gB) (most2 : Int) : dA (fR fu vr1 most2) (fR (fu + 1) vr1 most2):=by
  unfold fR
  repeat' (first | exact dA.refl _ |  apply zpw | apply dA.ite | apply dA.bindSum | apply dA.bind | (intro _; try dsimp only) | (rename_i x; cases x <;> dsimp only))
theorem zfI (e169 : qA) (v165 : Int) (l1 : eB) : ∀ fu e203 v204 v205 run206,dA (yF e169 v165 l1 fu e203 v204 v205 run206) (yF e169 v165 l1 (fu + 1) e203 v204 v205 run206):=by
  intro fu
  induction fu with
  | zero=>intro e203 v204 v205 run206 r h; rw [yF] at h; cases h
  | succ fu ih =>
    intro e203 v204 v205 run206
    conv=>arg 1; rw [yF]
    conv=>arg 2; rw [yF]
    repeat' (first | exact dA.refl _ | exact ih _ _ _ _ | apply zk3 | apply dA.ite | apply dA.bindSum | apply dA.bind | (intro _; try dsimp only) | (rename_i x; cases x <;> dsimp only))
theorem zh9 (l1 : eB) : ∀ fu run163 e164 v165 v166 level167,dA (cG l1 fu run163 e164 v165 v166 level167) (cG l1 (fu + 1) run163 e164 v165 v166 level167):=by
  intro fu
  induction fu with
  | zero=>intro run163 e164 v165 v166 level167 r h; rw [cG] at h; cases h
  | succ fu ih =>
    intro run163 e164 v165 v166 level167
    conv=>arg 1; rw [cG]
    conv=>arg 2; rw [cG]
    repeat' (first | exact dA.refl _ | exact ih _ _ _ _ _ | apply zfI | apply dA.ite | apply dA.bindSum | apply dA.bind | (intro _; try dsimp only) | (rename_i x; cases x <;> dsimp only))
theorem zcQ (fu : Nat) (l1 : eB) : dA (aK fu l1) (aK (fu + 1) l1):=by
  unfold aK
  repeat' (first | exact dA.refl _ |  apply zh9 | apply dA.ite | apply dA.bindSum | apply dA.bind | (intro _; try dsimp only) | (rename_i x; cases x <;> dsimp only))
theorem zj5 (e34 : qA) : ∀ fu best42 v43,dA (mI e34 fu best42 v43) (mI e34 (fu + 1) best42 v43):=by
  intro fu
  induction fu with
  | zero=>intro best42 v43 r h; rw [mI] at h; cases h
  | succ fu ih =>
    intro best42 v43
    conv=>arg 1; rw [mI]
    conv=>arg 2; rw [mI]
    repeat' (first | exact dA.refl _ | exact ih _ _ | apply dA.ite | apply dA.bindSum | apply dA.bind | (intro _; try dsimp only) | (rename_i x; cases x <;> dsimp only))
theorem zkE (l1 : eB) : ∀ fu best31 v32,dA (qI l1 fu best31 v32) (qI l1 (fu + 1) best31 v32):=by
  intro fu
  induction fu with
  | zero=>intro best31 v32 r h; rw [qI] at h; cases h
  | succ fu ih =>
    intro best31 v32
    conv=>arg 1; rw [qI]
    conv=>arg 2; rw [qI]
    repeat' (first | exact dA.refl _ | exact ih _ _ | apply zj5 | apply dA.ite | apply dA.bindSum | apply dA.bind | (intro _; try dsimp only) | (rename_i x; cases x <;> dsimp only))
theorem zdS (fu : Nat) (l1 : eB) : dA (fO fu l1) (fO (fu + 1) l1):=by
  unfold fO
  repeat' (first | exact dA.refl _ |  apply zkE | apply dA.ite | apply dA.bindSum | apply dA.bind | (intro _; try dsimp only) | (rename_i x; cases x <;> dsimp only))
theorem zfl (fu : Nat) (l1 : eB) : dA (lO fu l1) (lO (fu + 1) l1):=by
  unfold lO
  repeat' (first | exact dA.refl _ |  apply dA.ite | apply dA.bindSum | apply dA.bind | (intro _; try dsimp only) | (rename_i x; cases x <;> dsimp only))
theorem zeZ (fu : Nat) (l1 : eB) (level2 : Int) : dA (mL fu l1 level2) (mL (fu + 1) l1 level2):=by
  unfold mL
  repeat' (first | exact dA.refl _ |  apply dA.ite | apply dA.bindSum | apply dA.bind | (intro _; try dsimp only) | (rename_i x; cases x <;> dsimp only))
theorem zg6 (runs1 : List (List aA)) : ∀ fu v14,dA (nF runs1 fu v14) (nF runs1 (fu + 1) v14):=by
  intro fu
  induction fu with
  | zero=>intro v14 r h; rw [nF] at h; cases h
  | succ fu ih =>
    intro v14
    conv=>arg 1; rw [nF]
    conv=>arg 2; rw [nF]
    repeat' (first | exact dA.refl _ | exact ih _ | apply zcy | apply dA.ite | apply dA.bindSum | apply dA.bind | (intro _; try dsimp only) | (rename_i x; cases x <;> dsimp only))
theorem zby (fu : Nat) (runs1 : List (List aA)) : dA (yJ fu runs1) (yJ (fu + 1) runs1):=by
  unfold yJ
  repeat' (first | exact dA.refl _ |  apply zg6 | apply dA.ite | apply dA.bindSum | apply dA.bind | (intro _; try dsimp only) | (rename_i x; cases x <;> dsimp only))
theorem zaz (fu : Nat) (vs1 : List (List aA)) : dA (nL fu vs1) (nL (fu + 1) vs1):=by
  unfold nL
  repeat' (first | exact dA.refl _ |  apply dA.ite | apply dA.bindSum | apply dA.bind | (intro _; try dsimp only) | (rename_i x; cases x <;> dsimp only))
theorem zad (fu : Nat) (l1 : List aA) (vat2 : Int) : dA (lK fu l1 vat2) (lK (fu + 1) l1 vat2):=by
  unfold lK
  repeat' (first | exact dA.refl _ |  apply dA.ite | apply dA.bindSum | apply dA.bind | (intro _; try dsimp only) | (rename_i x; cases x <;> dsimp only))
theorem zhU (fu : Nat) (k1 : eA) : dA (wS fu k1) (wS (fu + 1) k1):=by
  unfold wS
  repeat' (first | exact dA.refl _ |  apply dA.ite | apply dA.bindSum | apply dA.bind | (intro _; try dsimp only) | (rename_i x; cases x <;> dsimp only))
theorem zfY (vs1 : List eA) : ∀ fu v12,dA (pI vs1 fu v12) (pI vs1 (fu + 1) v12):=by
  intro fu
  induction fu with
  | zero=>intro v12 r h; rw [pI] at h; cases h
  | succ fu ih =>
    intro v12
    conv=>arg 1; rw [pI]
    conv=>arg 2; rw [pI]
    repeat' (first | exact dA.refl _ | exact ih _ | apply zhU | apply dA.ite | apply dA.bindSum | apply dA.bind | (intro _; try dsimp only) | (rename_i x; cases x <;> dsimp only))
theorem zfN (fu : Nat) (vs1 : List eA) : dA (gS fu vs1) (gS (fu + 1) vs1):=by
  unfold gS
  repeat' (first | exact dA.refl _ |  apply zfY | apply dA.ite | apply dA.bindSum | apply dA.bind | (intro _; try dsimp only) | (rename_i x; cases x <;> dsimp only))
theorem znu (fu : Nat) (vs1 : List eA) : dA (uS fu vs1) (uS (fu + 1) vs1):=by
  unfold uS
  repeat' (first | exact dA.refl _ |  apply zfN | apply dA.ite | apply dA.bindSum | apply dA.bind | (intro _; try dsimp only) | (rename_i x; cases x <;> dsimp only))
theorem zaa (fu : Nat) (keys1 : List eA) : dA (eM fu keys1) (eM (fu + 1) keys1):=by
  unfold eM
  repeat' (first | exact dA.refl _ |  apply znu | apply dA.ite | apply dA.bindSum | apply dA.bind | (intro _; try dsimp only) | (rename_i x; cases x <;> dsimp only))
theorem zce (fu : Nat) (keys1 : List eA) : dA (fN fu keys1) (fN (fu + 1) keys1):=by
  unfold fN
  repeat' (first | exact dA.refl _ |  apply dA.ite | apply dA.bindSum | apply dA.bind | (intro _; try dsimp only) | (rename_i x; cases x <;> dsimp only))
theorem zmZ (fu : Nat) (vs1 : List eA) : dA (nT fu vs1) (nT (fu + 1) vs1):=by
  unfold nT
  repeat' (first | exact dA.refl _ |  apply dA.ite | apply dA.bindSum | apply dA.bind | (intro _; try dsimp only) | (rename_i x; cases x <;> dsimp only))
theorem zb6 (fu : Nat) (p1 : Int) (q2 : Int) (p3 : List eA) : dA (eN fu p1 q2 p3) (eN (fu + 1) p1 q2 p3):=by
  unfold eN
  repeat' (first | exact dA.refl _ |  apply dA.ite | apply dA.bindSum | apply dA.bind | (intro _; try dsimp only) | (rename_i x; cases x <;> dsimp only))
theorem zjR (keys1 : List eA) (vr2 : List eA) : ∀ fu i34 players35 v36,dA (iH keys1 vr2 fu i34 players35 v36) (iH keys1 vr2 (fu + 1) i34 players35 v36):=by
  intro fu
  induction fu with
  | zero=>intro i34 players35 v36 r h; rw [iH] at h; cases h
  | succ fu ih =>
    intro i34 players35 v36
    conv=>arg 1; rw [iH]
    conv=>arg 2; rw [iH]
    repeat' (first | exact dA.refl _ | exact ih _ _ _ | apply zb6 | apply dA.ite | apply dA.bindSum | apply dA.bind | (intro _; try dsimp only) | (rename_i x; cases x <;> dsimp only))
theorem zcZ (fu : Nat) (keys1 : List eA) : dA (wP fu keys1) (wP (fu + 1) keys1):=by
  unfold wP
  repeat' (first | exact dA.refl _ |  apply zce | apply zmZ | apply zjR | apply dA.ite | apply dA.bindSum | apply dA.bind | (intro _; try dsimp only) | (rename_i x; cases x <;> dsimp only))
theorem zpk (fu : Nat) (keys1 : List eA) : dA (iQ fu keys1) (iQ (fu + 1) keys1):=by
  unfold iQ
  repeat' (first | exact dA.refl _ |  apply zaa | apply zcZ | apply dA.ite | apply dA.bindSum | apply dA.bind | (intro _; try dsimp only) | (rename_i x; cases x <;> dsimp only))
theorem zjP (runs1 : List (List aA)) (vat2 : List Int) : ∀ fu v18 keys19,dA (lI runs1 vat2 fu v18 keys19) (lI runs1 vat2 (fu + 1) v18 keys19):=by
  intro fu
  induction fu with
  | zero=>intro v18 keys19 r h; rw [lI] at h; cases h
  | succ fu ih =>
    intro v18 keys19
    conv=>arg 1; rw [lI]
    conv=>arg 2; rw [lI]
    repeat' (first | exact dA.refl _ | exact ih _ _ | apply zad | apply dA.ite | apply dA.bindSum | apply dA.bind | (intro _; try dsimp only) | (rename_i x; cases x <;> dsimp only))
theorem zdq (fu : Nat) (runs1 : List (List aA)) (vat2 : List Int) : dA (jP fu runs1 vat2) (jP (fu + 1) runs1 vat2):=by
  unfold jP
  repeat' (first | exact dA.refl _ |  apply zjP | apply zpk | apply dA.ite | apply dA.bindSum | apply dA.bind | (intro _; try dsimp only) | (rename_i x; cases x <;> dsimp only))
theorem zmY (fu : Nat) (runs1 : List (List aA)) : dA (cI fu runs1) (cI (fu + 1) runs1):=by
  unfold cI
  repeat' (first | exact dA.refl _ |  apply zby | apply zaz | apply zdq | apply dA.ite | apply dA.bindSum | apply dA.bind | (intro _; try dsimp only) | (rename_i x; cases x <;> dsimp only))
theorem zaK (fu : Nat) (bottom1 : Bool) : dA (sM fu bottom1) (sM (fu + 1) bottom1):=by
  unfold sM
  repeat' (first | exact dA.refl _ |  apply dA.ite | apply dA.bindSum | apply dA.bind | (intro _; try dsimp only) | (rename_i x; cases x <;> dsimp only))
theorem zgS (fu : Nat) (runs1 : List (List aA)) (bottom2 : Bool) : dA (eQ fu runs1 bottom2) (eQ (fu + 1) runs1 bottom2):=by
  unfold eQ
  repeat' (first | exact dA.refl _ |  apply zmY | apply zaK | apply dA.ite | apply dA.bindSum | apply dA.bind | (intro _; try dsimp only) | (rename_i x; cases x <;> dsimp only))
theorem zc7 (fu : Nat) (l1 : eB) (level2 : Int) (bottom3 : Bool) : dA (qP fu l1 level2 bottom3) (qP (fu + 1) l1 level2 bottom3):=by
  unfold qP
  repeat' (first | exact dA.refl _ |  apply zgS | apply dA.ite | apply dA.bindSum | apply dA.bind | (intro _; try dsimp only) | (rename_i x; cases x <;> dsimp only))
theorem zlg (vr5 : Int × List qA) (l1 : eB) : ∀ fu level27 v28,dA (oK vr5 l1 fu level27 v28) (oK vr5 l1 (fu + 1) level27 v28):=by
  intro fu
  induction fu with
  | zero=>intro level27 v28 r h; rw [oK] at h; cases h
  | succ fu ih =>
    intro level27 v28
    conv=>arg 1; rw [oK]
    conv=>arg 2; rw [oK]
    repeat' (first | exact dA.refl _ | exact ih _ _ | apply zeZ | apply zc7 | apply dA.ite | apply dA.bindSum | apply dA.bind | (intro _; try dsimp only) | (rename_i x; cases x <;> dsimp only))
theorem zio (fu : Nat) (l1 : eB) : dA (zU fu l1) (zU (fu + 1) l1):=by
  unfold zU
  repeat' (first | exact dA.refl _ |  apply zcQ | apply zdS | apply zfl | apply zlg | apply dA.ite | apply dA.bindSum | apply dA.bind | (intro _; try dsimp only) | (rename_i x; cases x <;> dsimp only))
theorem zfS (seq2 : List qA) : ∀ fu v18 v19,dA (nH seq2 fu v18 v19) (nH seq2 (fu + 1) v18 v19):=by
  intro fu
  induction fu with
  | zero=>intro v18 v19 r h; rw [nH] at h; cases h
  | succ fu ih =>
    intro v18 v19
    conv=>arg 1; rw [nH]
    conv=>arg 2; rw [nH]
    repeat' (first | exact dA.refl _ | exact ih _ _ | apply dA.ite | apply dA.bindSum | apply dA.bind | (intro _; try dsimp only) | (rename_i x; cases x <;> dsimp only))
theorem zin (fu : Nat) (seq1 : Int) (seq2 : List qA) : dA (qN fu seq1 seq2) (qN (fu + 1) seq1 seq2):=by
  unfold qN
  repeat' (first | exact dA.refl _ |  apply zfS | apply dA.ite | apply dA.bindSum | apply dA.bind | (intro _; try dsimp only) | (rename_i x; cases x <;> dsimp only))
theorem zny (s11 : List eA) (s22 : List eA) : ∀ fu v14,dA (zI s11 s22 fu v14) (zI s11 s22 (fu + 1) v14):=by
  intro fu
  induction fu with
  | zero=>intro v14 r h; rw [zI] at h; cases h
  | succ fu ih =>
    intro v14
    conv=>arg 1; rw [zI]
    conv=>arg 2; rw [zI]
    repeat' (first | exact dA.refl _ | exact ih _ | apply dA.ite | apply dA.bindSum | apply dA.bind | (intro _; try dsimp only) | (rename_i x; cases x <;> dsimp only))
theorem zdL (fu : Nat) (s11 : List eA) (s22 : List eA) : dA (oL fu s11 s22) (oL (fu + 1) s11 s22):=by
  unfold oL
  repeat' (first | exact dA.refl _ |  apply zny | apply dA.ite | apply dA.bindSum | apply dA.bind | (intro _; try dsimp only) | (rename_i x; cases x <;> dsimp only))
theorem zm8 (s11 : List Int) (s22 : List Int) : ∀ fu v14,dA (aJ s11 s22 fu v14) (aJ s11 s22 (fu + 1) v14):=by
  intro fu
  induction fu with
  | zero=>intro v14 r h; rw [aJ] at h; cases h
  | succ fu ih =>
    intro v14
    conv=>arg 1; rw [aJ]
    conv=>arg 2; rw [aJ]
    repeat' (first | exact dA.refl _ | exact ih _ | apply dA.ite | apply dA.bindSum | apply dA.bind | (intro _; try dsimp only) | (rename_i x; cases x <;> dsimp only))
theorem zfx (fu : Nat) (s11 : List Int) (s22 : List Int) : dA (qK fu s11 s22) (qK (fu + 1) s11 s22):=by
  unfold qK
  repeat' (first | exact dA.refl _ |  apply zm8 | apply dA.ite | apply dA.bindSum | apply dA.bind | (intro _; try dsimp only) | (rename_i x; cases x <;> dsimp only))
theorem zpC (fu : Nat) (a1 : fB) (b2 : fB) : dA (wQ fu a1 b2) (wQ (fu + 1) a1 b2):=by
  unfold wQ
  repeat' (first | exact dA.refl _ |  apply zdL | apply zfx | apply dA.ite | apply dA.bindSum | apply dA.bind | (intro _; try dsimp only) | (rename_i x; cases x <;> dsimp only))
theorem zf1 (vr5 : fB) (t1 : fB) : ∀ fu v16,dA (iI vr5 t1 fu v16) (iI vr5 t1 (fu + 1) v16):=by
  intro fu
  induction fu with
  | zero=>intro v16 r h; rw [iI] at h; cases h
  | succ fu ih =>
    intro v16
    conv=>arg 1; rw [iI]
    conv=>arg 2; rw [iI]
    repeat' (first | exact dA.refl _ | exact ih _ | apply dA.ite | apply dA.bindSum | apply dA.bind | (intro _; try dsimp only) | (rename_i x; cases x <;> dsimp only))
theorem zle (fu : Nat) (t1 : fB) : dA (sQ fu t1) (sQ (fu + 1) t1):=by
  unfold sQ
  repeat' (first | exact dA.refl _ |  apply zaa | apply zcZ | apply zf1 | apply dA.ite | apply dA.bindSum | apply dA.bind | (intro _; try dsimp only) | (rename_i x; cases x <;> dsimp only))
theorem zdt (fu : Nat) (t1 : fB) : dA (aP fu t1) (aP (fu + 1) t1):=by
  unfold aP
  repeat' (first | exact dA.refl _ |  apply zle | apply dA.ite | apply dA.bindSum | apply dA.bind | (intro _; try dsimp only) | (rename_i x; cases x <;> dsimp only))
theorem zd0 (fu : Nat) (t1 : fB) : dA (wO fu t1) (wO (fu + 1) t1):=by
  unfold wO
  repeat' (first | exact dA.refl _ |  apply zdt | apply dA.ite | apply dA.bindSum | apply dA.bind | (intro _; try dsimp only) | (rename_i x; cases x <;> dsimp only))
theorem zoI (fu : Nat) (vx1 : List UInt8) : dA (qQ fu vx1) (qQ (fu + 1) vx1):=by
  unfold qQ
  repeat' (first | exact dA.refl _ |  apply dA.ite | apply dA.bindSum | apply dA.bind | (intro _; try dsimp only) | (rename_i x; cases x <;> dsimp only))
theorem zgA (fu : Nat) (vx1 : List UInt8) (y2 : List UInt8) : dA (rM fu vx1 y2) (rM (fu + 1) vx1 y2):=by
  unfold rM
  repeat' (first | exact dA.refl _ |  apply zoI | apply dA.ite | apply dA.bindSum | apply dA.bind | (intro _; try dsimp only) | (rename_i x; cases x <;> dsimp only))
theorem zlD (fu : Nat) (vx1 : Int) : dA (aR fu vx1) (aR (fu + 1) vx1):=by
  unfold aR
  repeat' (first | exact dA.refl _ |  apply dA.ite | apply dA.bindSum | apply dA.bind | (intro _; try dsimp only) | (rename_i x; cases x <;> dsimp only))
theorem zks (fu : Nat) (vx1 : Int) (y2 : Int) : dA (dN fu vx1 y2) (dN (fu + 1) vx1 y2):=by
  unfold dN
  repeat' (first | exact dA.refl _ |  apply zlD | apply dA.ite | apply dA.bindSum | apply dA.bind | (intro _; try dsimp only) | (rename_i x; cases x <;> dsimp only))
theorem zgy (vals1 : List Int) : ∀ fu v10,dA (eI vals1 fu v10) (eI vals1 (fu + 1) v10):=by
  intro fu
  induction fu with
  | zero=>intro v10 r h; rw [eI] at h; cases h
  | succ fu ih =>
    intro v10
    conv=>arg 1; rw [eI]
    conv=>arg 2; rw [eI]
    repeat' (first | exact dA.refl _ | exact ih _ | apply dA.ite | apply dA.bindSum | apply dA.bind | (intro _; try dsimp only) | (rename_i x; cases x <;> dsimp only))
theorem zhh (fu : Nat) (vals1 : List Int) : dA (aO fu vals1) (aO (fu + 1) vals1):=by
  unfold aO
  repeat' (first | exact dA.refl _ |  apply zgy | apply dA.ite | apply dA.bindSum | apply dA.bind | (intro _; try dsimp only) | (rename_i x; cases x <;> dsimp only))
theorem ziy (vs1 : iB) : ∀ fu v19,dA (cH vs1 fu v19) (cH vs1 (fu + 1) v19):=by
  intro fu
  induction fu with
  | zero=>intro v19 r h; rw [cH] at h; cases h
  | succ fu ih =>
    intro v19
    conv=>arg 1; rw [cH]
    conv=>arg 2; rw [cH]
    repeat' (first | exact dA.refl _ | exact ih _ | apply dA.ite | apply dA.bindSum | apply dA.bind | (intro _; try dsimp only) | (rename_i x; cases x <;> dsimp only))
theorem zlz (vs1 : iB) (vr30 : Int × List UInt8 × Int) : ∀ fu v54,dA (uF vs1 vr30 fu v54) (uF vs1 vr30 (fu + 1) v54):=by
  intro fu
  induction fu with
  | zero=>intro v54 r h; rw [uF] at h; cases h
  | succ fu ih =>
    intro v54
    conv=>arg 1; rw [uF]
    conv=>arg 2; rw [uF]
    repeat' (first | exact dA.refl _ | exact ih _ | apply zgA | apply zks | apply zhh | apply dA.ite | apply dA.bindSum | apply dA.bind | (intro _; try dsimp only) | (rename_i x; cases x <;> dsimp only))
theorem zbi (fu : Nat) (vs1 : iB) : dA (eH fu vs1) (eH (fu + 1) vs1):=by
  unfold eH
  repeat' (first | exact dA.refl _ |  apply zby | apply ziy | apply zdq | apply zpC | apply zd0 | apply zlz | apply dA.ite | apply dA.bindSum | apply dA.bind | (intro _; try dsimp only) | (rename_i x; cases x <;> dsimp only))
theorem zdg (fu : Nat) (vr1 : List (List aA)) (vr2 : List Int) (vr3 : List eA) (vr4 : List Int) (vr5 : Int) : dA (hM fu vr1 vr2 vr3 vr4 vr5) (hM (fu + 1) vr1 vr2 vr3 vr4 vr5):=by
  unfold hM
  repeat' (first | exact dA.refl _ |  apply zd0 | apply dA.ite | apply dA.bindSum | apply dA.bind | (intro _; try dsimp only) | (rename_i x; cases x <;> dsimp only))
theorem zdb (fu : Nat) (vs1 : List eA) : dA (oQ fu vs1) (oQ (fu + 1) vs1):=by
  unfold oQ
  repeat' (first | exact dA.refl _ |  apply dA.ite | apply dA.bindSum | apply dA.bind | (intro _; try dsimp only) | (rename_i x; cases x <;> dsimp only))
theorem ziK (keys1 : List eA) (vr2 : List eA) : ∀ fu i34 players35 v36,dA (eJ keys1 vr2 fu i34 players35 v36) (eJ keys1 vr2 (fu + 1) i34 players35 v36):=by
  intro fu
  induction fu with
  | zero=>intro i34 players35 v36 r h; rw [eJ] at h; cases h
  | succ fu ih =>
    intro i34 players35 v36
    conv=>arg 1; rw [eJ]
    conv=>arg 2; rw [eJ]
    repeat' (first | exact dA.refl _ | exact ih _ _ _ | apply zb6 | apply dA.ite | apply dA.bindSum | apply dA.bind | (intro _; try dsimp only) | (rename_i x; cases x <;> dsimp only))
theorem zj6 (fu : Nat) (keys1 : List eA) : dA (pU fu keys1) (pU (fu + 1) keys1):=by
  unfold pU
  repeat' (first | exact dA.refl _ |  apply zce | apply zdb | apply ziK | apply dA.ite | apply dA.bindSum | apply dA.bind | (intro _; try dsimp only) | (rename_i x; cases x <;> dsimp only))
theorem zlp (fu : Nat) (keys1 : List eA) : dA (gV fu keys1) (gV (fu + 1) keys1):=by
  unfold gV
  repeat' (first | exact dA.refl _ |  apply zaa | apply zj6 | apply dA.ite | apply dA.bindSum | apply dA.bind | (intro _; try dsimp only) | (rename_i x; cases x <;> dsimp only))
theorem zhH (runs1 : List (List aA)) (vat2 : List Int) : ∀ fu v18 keys19,dA (uK runs1 vat2 fu v18 keys19) (uK runs1 vat2 (fu + 1) v18 keys19):=by
  intro fu
  induction fu with
  | zero=>intro v18 keys19 r h; rw [uK] at h; cases h
  | succ fu ih =>
    intro v18 keys19
    conv=>arg 1; rw [uK]
    conv=>arg 2; rw [uK]
    repeat' (first | exact dA.refl _ | exact ih _ _ | apply zad | apply dA.ite | apply dA.bindSum | apply dA.bind | (intro _; try dsimp only) | (rename_i x; cases x <;> dsimp only))
theorem zge (fu : Nat) (runs1 : List (List aA)) (vat2 : List Int) : dA (eU fu runs1 vat2) (eU (fu + 1) runs1 vat2):=by
  unfold eU
  repeat' (first | exact dA.refl _ |  apply zhH | apply zlp | apply dA.ite | apply dA.bindSum | apply dA.bind | (intro _; try dsimp only) | (rename_i x; cases x <;> dsimp only))
theorem zhy (fu : Nat) (runs1 : List (List aA)) : dA (yS fu runs1) (yS (fu + 1) runs1):=by
  unfold yS
  repeat' (first | exact dA.refl _ |  apply zby | apply zaz | apply zge | apply dA.ite | apply dA.bindSum | apply dA.bind | (intro _; try dsimp only) | (rename_i x; cases x <;> dsimp only))
theorem zct (fu : Nat) (vs1 : List Int) : dA (pO fu vs1) (pO (fu + 1) vs1):=by
  unfold pO
  repeat' (first | exact dA.refl _ |  apply dA.ite | apply dA.bindSum | apply dA.bind | (intro _; try dsimp only) | (rename_i x; cases x <;> dsimp only))
theorem zmV (vr14 : List eA) : ∀ fu games29 node30 u31 v32,dA (yH vr14 fu games29 node30 u31 v32) (yH vr14 (fu + 1) games29 node30 u31 v32):=by
  intro fu
  induction fu with
  | zero=>intro games29 node30 u31 v32 r h; rw [yH] at h; cases h
  | succ fu ih =>
    intro games29 node30 u31 v32
    conv=>arg 1; rw [yH]
    conv=>arg 2; rw [yH]
    repeat' (first | exact dA.refl _ | exact ih _ _ _ _ | apply zb6 | apply dA.ite | apply dA.bindSum | apply dA.bind | (intro _; try dsimp only) | (rename_i x; cases x <;> dsimp only))
theorem ze5 (fu : Nat) (t1 : fB) (k2 : eA) : dA (nN fu t1 k2) (nN (fu + 1) t1 k2):=by
  unfold nN
  repeat' (first | exact dA.refl _ |  apply zdt | apply zaa | apply zdb | apply zct | apply zce | apply zmV | apply dA.ite | apply dA.bindSum | apply dA.bind | (intro _; try dsimp only) | (rename_i x; cases x <;> dsimp only))
theorem zln (vr2 : iB × Int × Int) : ∀ fu v38 v39 v40 v41 v42 v43,dA (jI vr2 fu v38 v39 v40 v41 v42 v43) (jI vr2 (fu + 1) v38 v39 v40 v41 v42 v43):=by
  intro fu
  induction fu with
  | zero=>intro v38 v39 v40 v41 v42 v43 r h; rw [jI] at h; cases h
  | succ fu ih =>
    intro v38 v39 v40 v41 v42 v43
    conv=>arg 1; rw [jI]
    conv=>arg 2; rw [jI]
    repeat' (first | exact dA.refl _ | exact ih _ _ _ _ _ _ | apply zdg | apply zad | apply ze5 | apply dA.ite | apply dA.bindSum | apply dA.bind | (intro _; try dsimp only) | (rename_i x; cases x <;> dsimp only))
theorem zhf (fu : Nat) (runs1 : List (List aA)) : dA (uL fu runs1) (uL (fu + 1) runs1):=by
  unfold uL
  repeat' (first | exact dA.refl _ |  apply zhy | apply zln | apply dA.ite | apply dA.bindSum | apply dA.bind | (intro _; try dsimp only) | (rename_i x; cases x <;> dsimp only))
theorem zco (fu : Nat) (vs1 : lB) : dA (zP fu vs1) (zP (fu + 1) vs1):=by
  unfold zP
  repeat' (first | exact dA.refl _ |  apply zeE | apply dA.ite | apply dA.bindSum | apply dA.bind | (intro _; try dsimp only) | (rename_i x; cases x <;> dsimp only))
theorem zhc (fu : Nat) (vx1 : uE) : dA (iS fu vx1) (iS (fu + 1) vx1):=by
  unfold iS
  repeat' (first | exact dA.refl _ |  apply dA.ite | apply dA.bindSum | apply dA.bind | (intro _; try dsimp only) | (rename_i x; cases x <;> dsimp only))
theorem zlK (l1 : List aA) (vr4 : lB) : ∀ fu v60 v61 v62 v63,dA (sH l1 vr4 fu v60 v61 v62 v63) (sH l1 vr4 (fu + 1) v60 v61 v62 v63):=by
  intro fu
  induction fu with
  | zero=>intro v60 v61 v62 v63 r h; rw [sH] at h; cases h
  | succ fu ih =>
    intro v60 v61 v62 v63
    conv=>arg 1; rw [sH]
    conv=>arg 2; rw [sH]
    repeat' (first | exact dA.refl _ | exact ih _ _ _ _ | apply zco | apply zaP | apply zhc | apply dA.ite | apply dA.bindSum | apply dA.bind | (intro _; try dsimp only) | (rename_i x; cases x <;> dsimp only))
theorem zmL (fu : Nat) (l1 : List aA) (bottom2 : Bool) : dA (zR fu l1 bottom2) (zR (fu + 1) l1 bottom2):=by
  unfold zR
  repeat' (first | exact dA.refl _ |  apply zaK | apply zlK | apply dA.ite | apply dA.bindSum | apply dA.bind | (intro _; try dsimp only) | (rename_i x; cases x <;> dsimp only))
theorem zms (a1 : List aA) (b2 : List aA) : ∀ fu v14,dA (bI a1 b2 fu v14) (bI a1 b2 (fu + 1) v14):=by
  intro fu
  induction fu with
  | zero=>intro v14 r h; rw [bI] at h; cases h
  | succ fu ih =>
    intro v14
    conv=>arg 1; rw [bI]
    conv=>arg 2; rw [bI]
    repeat' (first | exact dA.refl _ | exact ih _ | apply dA.ite | apply dA.bindSum | apply dA.bind | (intro _; try dsimp only) | (rename_i x; cases x <;> dsimp only))
theorem ziz (fu : Nat) (a1 : List aA) (b2 : List aA) : dA (mP fu a1 b2) (mP (fu + 1) a1 b2):=by
  unfold mP
  repeat' (first | exact dA.refl _ |  apply zms | apply dA.ite | apply dA.bindSum | apply dA.bind | (intro _; try dsimp only) | (rename_i x; cases x <;> dsimp only))
theorem zlo (vs1 : mB) : ∀ fu n11 v12,dA (uI vs1 fu n11 v12) (uI vs1 (fu + 1) n11 v12):=by
  intro fu
  induction fu with
  | zero=>intro n11 v12 r h; rw [uI] at h; cases h
  | succ fu ih =>
    intro n11 v12
    conv=>arg 1; rw [uI]
    conv=>arg 2; rw [uI]
    repeat' (first | exact dA.refl _ | exact ih _ _ | apply dA.ite | apply dA.bindSum | apply dA.bind | (intro _; try dsimp only) | (rename_i x; cases x <;> dsimp only))
theorem zia (fu : Nat) (vs1 : mB) : dA (eP fu vs1) (eP (fu + 1) vs1):=by
  unfold eP
  repeat' (first | exact dA.refl _ |  apply zbi | apply zlo | apply zhf | apply zmL | apply zaK | apply ziz | apply dA.ite | apply dA.bindSum | apply dA.bind | (intro _; try dsimp only) | (rename_i x; cases x <;> dsimp only))
theorem ziJ (vs1 : iB) : ∀ fu n13 v14,dA (nI vs1 fu n13 v14) (nI vs1 (fu + 1) n13 v14):=by
  intro fu
  induction fu with
  | zero=>intro n13 v14 r h; rw [nI] at h; cases h
  | succ fu ih =>
    intro n13 v14
    conv=>arg 1; rw [nI]
    conv=>arg 2; rw [nI]
    repeat' (first | exact dA.refl _ | exact ih _ _ | apply dA.ite | apply dA.bindSum | apply dA.bind | (intro _; try dsimp only) | (rename_i x; cases x <;> dsimp only))
theorem zlB (fu : Nat) (vs1 : iB) : dA (gQ fu vs1) (gQ (fu + 1) vs1):=by
  unfold gQ
  repeat' (first | exact dA.refl _ |  apply zbi | apply ziJ | apply dA.ite | apply dA.bindSum | apply dA.bind | (intro _; try dsimp only) | (rename_i x; cases x <;> dsimp only))
theorem qY (fu : Nat) (vs1 : mB) : dA (kM fu vs1) (kM (fu + 1) vs1):=by
  unfold kM
  repeat' (first | exact dA.refl _ |  apply zia | apply zlB | apply dA.ite | apply dA.bindSum | apply dA.bind | (intro _; try dsimp only) | (rename_i x; cases x <;> dsimp only))
theorem zmJ (fu : Nat) (vs1 : iB) : dA (dP fu vs1) (dP (fu + 1) vs1):=by
  unfold dP
  repeat' (first | exact dA.refl _ |  apply zbi | apply zaz | apply zct | apply zdg | apply zad | apply ze5 | apply dA.ite | apply dA.bindSum | apply dA.bind | (intro _; try dsimp only) | (rename_i x; cases x <;> dsimp only))
theorem zoE (fu : Nat) (vs1 : lB) (vx2 : aA) : dA (bN fu vs1 vx2) (bN (fu + 1) vs1 vx2):=by
  unfold bN
  repeat' (first | exact dA.refl _ |  apply zco | apply zaP | apply dA.ite | apply dA.bindSum | apply dA.bind | (intro _; try dsimp only) | (rename_i x; cases x <;> dsimp only))
theorem zk7 (vr3 : Int × Int) (n2 : Int) : ∀ fu left43 v44 v45 v46 v47 v48 v49 v50 v51 v52 v53,dA (xH vr3 n2 fu left43 v44 v45 v46 v47 v48 v49 v50 v51 v52 v53) (xH vr3 n2 (fu + 1) left43 v44 v45 v46 v47 v48 v49 v50 v51 v52 v53):=by
  intro fu
  induction fu with
  | zero=>intro left43 v44 v45 v46 v47 v48 v49 v50 v51 v52 v53 r h; rw [xH] at h; cases h
  | succ fu ih =>
    intro left43 v44 v45 v46 v47 v48 v49 v50 v51 v52 v53
    conv=>arg 1; rw [xH]
    conv=>arg 2; rw [xH]
    repeat' (first | exact dA.refl _ | exact ih _ _ _ _ _ _ _ _ _ _ _ | apply zmJ | apply zoE | apply dA.ite | apply dA.bindSum | apply dA.bind | (intro _; try dsimp only) | (rename_i x; cases x <;> dsimp only))
theorem zdv (fu : Nat) (vs1 : mB) (n2 : Int) : dA (tP fu vs1 n2) (tP (fu + 1) vs1 n2):=by
  unfold tP
  repeat' (first | exact dA.refl _ |  apply qY | apply zk7 | apply dA.ite | apply dA.bindSum | apply dA.bind | (intro _; try dsimp only) | (rename_i x; cases x <;> dsimp only))
theorem zhD (s11 : List aA) (s22 : List aA) : ∀ fu v14,dA (fI s11 s22 fu v14) (fI s11 s22 (fu + 1) v14):=by
  intro fu
  induction fu with
  | zero=>intro v14 r h; rw [fI] at h; cases h
  | succ fu ih =>
    intro v14
    conv=>arg 1; rw [fI]
    conv=>arg 2; rw [fI]
    repeat' (first | exact dA.refl _ | exact ih _ | apply dA.ite | apply dA.bindSum | apply dA.bind | (intro _; try dsimp only) | (rename_i x; cases x <;> dsimp only))
theorem zmj (fu : Nat) (s11 : List aA) (s22 : List aA) : dA (qS fu s11 s22) (qS (fu + 1) s11 s22):=by
  unfold qS
  repeat' (first | exact dA.refl _ |  apply zhD | apply dA.ite | apply dA.bindSum | apply dA.bind | (intro _; try dsimp only) | (rename_i x; cases x <;> dsimp only))
theorem zc6 (fu : Nat) (a1 : List aA) (b2 : List aA) : dA (vM fu a1 b2) (vM (fu + 1) a1 b2):=by
  unfold vM
  repeat' (first | exact dA.refl _ |  apply zmj | apply dA.ite | apply dA.bindSum | apply dA.bind | (intro _; try dsimp only) | (rename_i x; cases x <;> dsimp only))
theorem zh3 (s11 : List (List aA)) (s22 : List (List aA)) : ∀ fu v16,dA (tH s11 s22 fu v16) (tH s11 s22 (fu + 1) v16):=by
  intro fu
  induction fu with
  | zero=>intro v16 r h; rw [tH] at h; cases h
  | succ fu ih =>
    intro v16
    conv=>arg 1; rw [tH]
    conv=>arg 2; rw [tH]
    repeat' (first | exact dA.refl _ | exact ih _ | apply zc6 | apply dA.ite | apply dA.bindSum | apply dA.bind | (intro _; try dsimp only) | (rename_i x; cases x <;> dsimp only))
theorem znN (fu : Nat) (s11 : List (List aA)) (s22 : List (List aA)) : dA (gR fu s11 s22) (gR (fu + 1) s11 s22):=by
  unfold gR
  repeat' (first | exact dA.refl _ |  apply zh3 | apply dA.ite | apply dA.bindSum | apply dA.bind | (intro _; try dsimp only) | (rename_i x; cases x <;> dsimp only))
theorem zhb (fu : Nat) (a1 : mB) (b2 : mB) : dA (bR fu a1 b2) (bR (fu + 1) a1 b2):=by
  unfold bR
  repeat' (first | exact dA.refl _ |  apply znN | apply zfx | apply zdL | apply zc6 | apply dA.ite | apply dA.bindSum | apply dA.bind | (intro _; try dsimp only) | (rename_i x; cases x <;> dsimp only))
theorem zh0 (vs1 : cB) (vr10 : List Int) : ∀ fu v49,dA (aF vs1 vr10 fu v49) (aF vs1 vr10 (fu + 1) v49):=by
  intro fu
  induction fu with
  | zero=>intro v49 r h; rw [aF] at h; cases h
  | succ fu ih =>
    intro v49
    conv=>arg 1; rw [aF]
    conv=>arg 2; rw [aF]
    repeat' (first | exact dA.refl _ | exact ih _ | apply zeZ | apply zc7 | apply qY | apply zdv | apply zhb | apply dA.ite | apply dA.bindSum | apply dA.bind | (intro _; try dsimp only) | (rename_i x; cases x <;> dsimp only))
theorem zed (fu : Nat) (vs1 : cB) : dA (bK fu vs1) (bK (fu + 1) vs1):=by
  unfold bK
  repeat' (first | exact dA.refl _ |  apply zcQ | apply zdS | apply zfl | apply zin | apply zh0 | apply dA.ite | apply dA.bindSum | apply dA.bind | (intro _; try dsimp only) | (rename_i x; cases x <;> dsimp only))
theorem zm7 (fu : Nat) (j1 : bB) (p2 : Int) : dA (iN fu j1 p2) (iN (fu + 1) j1 p2):=by
  unfold iN
  repeat' (first | exact dA.refl _ |  apply dA.ite | apply dA.bindSum | apply dA.bind | (intro _; try dsimp only) | (rename_i x; cases x <;> dsimp only))
theorem zhV (vs1 : List bB) (f2 : Int) : ∀ fu v13,dA (aG vs1 f2 fu v13) (aG vs1 f2 (fu + 1) v13):=by
  intro fu
  induction fu with
  | zero=>intro v13 r h; rw [aG] at h; cases h
  | succ fu ih =>
    intro v13
    conv=>arg 1; rw [aG]
    conv=>arg 2; rw [aG]
    repeat' (first | exact dA.refl _ | exact ih _ | apply zm7 | apply dA.ite | apply dA.bindSum | apply dA.bind | (intro _; try dsimp only) | (rename_i x; cases x <;> dsimp only))
theorem zku (fu : Nat) (vs1 : List bB) (f2 : Int) : dA (bO fu vs1 f2) (bO (fu + 1) vs1 f2):=by
  unfold bO
  repeat' (first | exact dA.refl _ |  apply zhV | apply dA.ite | apply dA.bindSum | apply dA.bind | (intro _; try dsimp only) | (rename_i x; cases x <;> dsimp only))
theorem zlj (fu : Nat) (l1 : List bB) (is2 : Int) : dA (nP fu l1 is2) (nP (fu + 1) l1 is2):=by
  unfold nP
  repeat' (first | exact dA.refl _ |  apply zku | apply dA.ite | apply dA.bindSum | apply dA.bind | (intro _; try dsimp only) | (rename_i x; cases x <;> dsimp only))
theorem zc1 (fu : Nat) (vs1 : cB) (level2 : Int) : dA (uH fu vs1 level2) (uH (fu + 1) vs1 level2):=by
  unfold uH
  repeat' (first | exact dA.refl _ |  apply zed | apply zlj | apply dA.ite | apply dA.bindSum | apply dA.bind | (intro _; try dsimp only) | (rename_i x; cases x <;> dsimp only))
theorem znO (fu : Nat) (vs1 : cB) (level2 : Int) : dA (wL fu vs1 level2) (wL (fu + 1) vs1 level2):=by
  unfold wL
  repeat' (first | exact dA.refl _ |  apply zc1 | apply qY | apply dA.ite | apply dA.bindSum | apply dA.bind | (intro _; try dsimp only) | (rename_i x; cases x <;> dsimp only))
theorem zj9 (fu : Nat) (vs1 : List bB) : dA (kS fu vs1) (kS (fu + 1) vs1):=by
  unfold kS
  repeat' (first | exact dA.refl _ |  apply dA.ite | apply dA.bindSum | apply dA.bind | (intro _; try dsimp only) | (rename_i x; cases x <;> dsimp only))
theorem zns (fu : Nat) (vs1 : cB) (level2 : Int) (most3 : Int) : dA (qG fu vs1 level2 most3) (qG (fu + 1) vs1 level2 most3):=by
  unfold qG
  repeat' (first | exact dA.refl _ |  apply zed | apply zc1 | apply qY | apply zdv | apply zj9 | apply dA.ite | apply dA.bindSum | apply dA.bind | (intro _; try dsimp only) | (rename_i x; cases x <;> dsimp only))
theorem zj0 (fu : Nat) : dA (yM fu ) (yM (fu + 1) ):=by
  unfold yM
  repeat' (first | exact dA.refl _ |  apply ziH | apply zio | apply znO | apply zns | apply dA.ite | apply dA.bindSum | apply dA.bind | (intro _; try dsimp only) | (rename_i x; cases x <;> dsimp only))
end Go.T
