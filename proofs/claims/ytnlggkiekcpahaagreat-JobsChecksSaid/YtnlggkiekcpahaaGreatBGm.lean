/- A text of the proof. -/
import Derived.Test.YtnlggkiekcpahaaGreatBGp
namespace Go.T
open Go Go.AM
set_option maxHeartbeats 4000000
def cA {α : Type} (a b : Option α) : Prop := ∀ r, a = some r → b = some r
theorem cA.refl {α : Type} (a : Option α) : cA a a := fun _ h => h
theorem cA.bind {α β : Type} {a b : Option α} {f g : α → Option β} (h : cA a b) (k : ∀ x, cA (f x) (g x)) : cA (a.bind f) (b.bind g) := by
  intro r hr
  cases a with
  | none => cases hr
  | some x => rw [h x rfl]; exact k x r hr
theorem cA.bindSum {α γ β : Type} {a b : Option (Sum α γ)} {f g : Sum α γ → Option β} (h : cA a b) (k : ∀ x, cA (f (.inl x)) (g (.inl x))) (l : ∀ x, cA (f (.inr x)) (g (.inr x))) : cA (a.bind f) (b.bind g) :=
  cA.bind h fun x => by cases x; exact k _; exact l _
theorem cA.ite {α : Type} {c : Prop} [Decidable c] {a b a' b' : Option α} (h : cA a a') (k : cA b b') : cA (if c then a else b) (if c then a' else b') := by
  by_cases hc : c
  · rw [if_pos hc, if_pos hc]; exact h
  · rw [if_neg hc, if_neg hc]; exact k
set_option linter.unusedVariables false
theorem zoH (keys3 : List UInt8) (dead2 : Bool) (id1 : Int) : ∀ fu i15 v16, cA (cL keys3 dead2 id1 fu i15 v16) (cL keys3 dead2 id1 (fu + 1) i15 v16) := by
  intro fu
  induction fu with
  | zero => intro i15 v16 r h; rw [cL] at h; cases h
  | succ fu ih =>
    intro i15 v16
    conv => arg 1; rw [cL]
    conv => arg 2; rw [cL]
    repeat' (first | exact cA.refl _ | exact ih _ _ | apply cA.ite | apply cA.bindSum | apply cA.bind | (intro _; try dsimp only) | (rename_i x; cases x <;> dsimp only))
theorem zjM (fu : Nat) (id1 : Int) (dead2 : Bool) (keys3 : List UInt8) : cA (bT fu id1 dead2 keys3) (bT (fu + 1) id1 dead2 keys3) := by
  unfold bT
  repeat' (first | exact cA.refl _ |  apply zoH | apply cA.ite | apply cA.bindSum | apply cA.bind | (intro _; try dsimp only) | (rename_i x; cases x <;> dsimp only))
theorem zm2 (fu : Nat) : cA (fV fu ) (fV (fu + 1) ) := by
  unfold fV
  repeat' (first | exact cA.refl _ |  apply zjM | apply cA.ite | apply cA.bindSum | apply cA.bind | (intro _; try dsimp only) | (rename_i x; cases x <;> dsimp only))
theorem zdR (fu : Nat) (k1 : List UInt8) : cA (bO fu k1) (bO (fu + 1) k1) := by
  unfold bO
  repeat' (first | exact cA.refl _ |  apply cA.ite | apply cA.bindSum | apply cA.bind | (intro _; try dsimp only) | (rename_i x; cases x <;> dsimp only))
theorem zax (fu : Nat) (vx1 : aA) : cA (kO fu vx1) (kO (fu + 1) vx1) := by
  unfold kO
  repeat' (first | exact cA.refl _ |  apply zdR | apply cA.ite | apply cA.bindSum | apply cA.bind | (intro _; try dsimp only) | (rename_i x; cases x <;> dsimp only))
theorem znl (l1 : List aA) : ∀ fu v17, cA (oF l1 fu v17) (oF l1 (fu + 1) v17) := by
  intro fu
  induction fu with
  | zero => intro v17 r h; rw [oF] at h; cases h
  | succ fu ih =>
    intro v17
    conv => arg 1; rw [oF]
    conv => arg 2; rw [oF]
    repeat' (first | exact cA.refl _ | exact ih _ | apply zax | apply cA.ite | apply cA.bindSum | apply cA.bind | (intro _; try dsimp only) | (rename_i x; cases x <;> dsimp only))
theorem zcs (fu : Nat) (l1 : List aA) : cA (mJ fu l1) (mJ (fu + 1) l1) := by
  unfold mJ
  repeat' (first | exact cA.refl _ |  apply znl | apply cA.ite | apply cA.bindSum | apply cA.bind | (intro _; try dsimp only) | (rename_i x; cases x <;> dsimp only))
theorem zfy (fu : Nat) (vr1 : kB) : cA (iS fu vr1) (iS (fu + 1) vr1) := by
  unfold iS
  repeat' (first | exact cA.refl _ |  apply zcs | apply cA.ite | apply cA.bindSum | apply cA.bind | (intro _; try dsimp only) | (rename_i x; cases x <;> dsimp only))
theorem zis (fu : Nat) (vr1 : kB) (most2 : Int) : cA (iR fu vr1 most2) (iR (fu + 1) vr1 most2) := by
  unfold iR
  repeat' (first | exact cA.refl _ |  apply zfy | apply cA.ite | apply cA.bindSum | apply cA.bind | (intro _; try dsimp only) | (rename_i x; cases x <;> dsimp only))
theorem ziB (e169 : tA) (v165 : Int) (l1 : iB) : ∀ fu e203 v204 v205 run206, cA (zF e169 v165 l1 fu e203 v204 v205 run206) (zF e169 v165 l1 (fu + 1) e203 v204 v205 run206) := by
  intro fu
  induction fu with
  | zero => intro e203 v204 v205 run206 r h; rw [zF] at h; cases h
  | succ fu ih =>
    intro e203 v204 v205 run206
    conv => arg 1; rw [zF]
    conv => arg 2; rw [zF]
    repeat' (first | exact cA.refl _ | exact ih _ _ _ _ | apply zis | apply cA.ite | apply cA.bindSum | apply cA.bind | (intro _; try dsimp only) | (rename_i x; cases x <;> dsimp only))
theorem znU (l1 : iB) : ∀ fu run163 e164 v165 v166 level167, cA (fG l1 fu run163 e164 v165 v166 level167) (fG l1 (fu + 1) run163 e164 v165 v166 level167) := by
  intro fu
  induction fu with
  | zero => intro run163 e164 v165 v166 level167 r h; rw [fG] at h; cases h
  | succ fu ih =>
    intro run163 e164 v165 v166 level167
    conv => arg 1; rw [fG]
    conv => arg 2; rw [fG]
    repeat' (first | exact cA.refl _ | exact ih _ _ _ _ _ | apply ziB | apply cA.ite | apply cA.bindSum | apply cA.bind | (intro _; try dsimp only) | (rename_i x; cases x <;> dsimp only))
theorem zcv (fu : Nat) (l1 : iB) : cA (oJ fu l1) (oJ (fu + 1) l1) := by
  unfold oJ
  repeat' (first | exact cA.refl _ |  apply znU | apply cA.ite | apply cA.bindSum | apply cA.bind | (intro _; try dsimp only) | (rename_i x; cases x <;> dsimp only))
theorem zmk (e34 : tA) : ∀ fu best42 v43, cA (lI e34 fu best42 v43) (lI e34 (fu + 1) best42 v43) := by
  intro fu
  induction fu with
  | zero => intro best42 v43 r h; rw [lI] at h; cases h
  | succ fu ih =>
    intro best42 v43
    conv => arg 1; rw [lI]
    conv => arg 2; rw [lI]
    repeat' (first | exact cA.refl _ | exact ih _ _ | apply cA.ite | apply cA.bindSum | apply cA.bind | (intro _; try dsimp only) | (rename_i x; cases x <;> dsimp only))
theorem zhI (l1 : iB) : ∀ fu best31 v32, cA (fI l1 fu best31 v32) (fI l1 (fu + 1) best31 v32) := by
  intro fu
  induction fu with
  | zero => intro best31 v32 r h; rw [fI] at h; cases h
  | succ fu ih =>
    intro best31 v32
    conv => arg 1; rw [fI]
    conv => arg 2; rw [fI]
    repeat' (first | exact cA.refl _ | exact ih _ _ | apply zmk | apply cA.ite | apply cA.bindSum | apply cA.bind | (intro _; try dsimp only) | (rename_i x; cases x <;> dsimp only))
theorem zb9 (fu : Nat) (l1 : iB) : cA (vN fu l1) (vN (fu + 1) l1) := by
  unfold vN
  repeat' (first | exact cA.refl _ |  apply zhI | apply cA.ite | apply cA.bindSum | apply cA.bind | (intro _; try dsimp only) | (rename_i x; cases x <;> dsimp only))
theorem zdx (fu : Nat) (l1 : iB) : cA (fO fu l1) (fO (fu + 1) l1) := by
  unfold fO
  repeat' (first | exact cA.refl _ |  apply cA.ite | apply cA.bindSum | apply cA.bind | (intro _; try dsimp only) | (rename_i x; cases x <;> dsimp only))
theorem zcR (fu : Nat) (l1 : iB) (level2 : Int) : cA (iL fu l1 level2) (iL (fu + 1) l1 level2) := by
  unfold iL
  repeat' (first | exact cA.refl _ |  apply cA.ite | apply cA.bindSum | apply cA.bind | (intro _; try dsimp only) | (rename_i x; cases x <;> dsimp only))
theorem zmF (runs1 : List (List aA)) : ∀ fu v14, cA (pF runs1 fu v14) (pF runs1 (fu + 1) v14) := by
  intro fu
  induction fu with
  | zero => intro v14 r h; rw [pF] at h; cases h
  | succ fu ih =>
    intro v14
    conv => arg 1; rw [pF]
    conv => arg 2; rw [pF]
    repeat' (first | exact cA.refl _ | exact ih _ | apply zcs | apply cA.ite | apply cA.bindSum | apply cA.bind | (intro _; try dsimp only) | (rename_i x; cases x <;> dsimp only))
theorem zbR (fu : Nat) (runs1 : List (List aA)) : cA (zJ fu runs1) (zJ (fu + 1) runs1) := by
  unfold zJ
  repeat' (first | exact cA.refl _ |  apply zmF | apply cA.ite | apply cA.bindSum | apply cA.bind | (intro _; try dsimp only) | (rename_i x; cases x <;> dsimp only))
theorem zan (fu : Nat) (vs1 : List (List aA)) : cA (dM fu vs1) (dM (fu + 1) vs1) := by
  unfold dM
  repeat' (first | exact cA.refl _ |  apply cA.ite | apply cA.bindSum | apply cA.bind | (intro _; try dsimp only) | (rename_i x; cases x <;> dsimp only))
theorem sZ (fu : Nat) (l1 : List aA) (vat2 : Int) : cA (wJ fu l1 vat2) (wJ (fu + 1) l1 vat2) := by
  unfold wJ
  repeat' (first | exact cA.refl _ |  apply cA.ite | apply cA.bindSum | apply cA.bind | (intro _; try dsimp only) | (rename_i x; cases x <;> dsimp only))
theorem zfr (fu : Nat) (k1 : eA) : cA (yS fu k1) (yS (fu + 1) k1) := by
  unfold yS
  repeat' (first | exact cA.refl _ |  apply cA.ite | apply cA.bindSum | apply cA.bind | (intro _; try dsimp only) | (rename_i x; cases x <;> dsimp only))
theorem zmu (vs1 : List eA) : ∀ fu v12, cA (yH vs1 fu v12) (yH vs1 (fu + 1) v12) := by
  intro fu
  induction fu with
  | zero => intro v12 r h; rw [yH] at h; cases h
  | succ fu ih =>
    intro v12
    conv => arg 1; rw [yH]
    conv => arg 2; rw [yH]
    repeat' (first | exact cA.refl _ | exact ih _ | apply zfr | apply cA.ite | apply cA.bindSum | apply cA.bind | (intro _; try dsimp only) | (rename_i x; cases x <;> dsimp only))
theorem zhK (fu : Nat) (vs1 : List eA) : cA (kS fu vs1) (kS (fu + 1) vs1) := by
  unfold kS
  repeat' (first | exact cA.refl _ |  apply zmu | apply cA.ite | apply cA.bindSum | apply cA.bind | (intro _; try dsimp only) | (rename_i x; cases x <;> dsimp only))
theorem zoz (fu : Nat) (vs1 : List eA) : cA (qS fu vs1) (qS (fu + 1) vs1) := by
  unfold qS
  repeat' (first | exact cA.refl _ |  apply zhK | apply cA.ite | apply cA.bindSum | apply cA.bind | (intro _; try dsimp only) | (rename_i x; cases x <;> dsimp only))
theorem uY (fu : Nat) (keys1 : List eA) : cA (pL fu keys1) (pL (fu + 1) keys1) := by
  unfold pL
  repeat' (first | exact cA.refl _ |  apply zoz | apply cA.ite | apply cA.bindSum | apply cA.bind | (intro _; try dsimp only) | (rename_i x; cases x <;> dsimp only))
theorem zbC (fu : Nat) (keys1 : List eA) : cA (dO fu keys1) (dO (fu + 1) keys1) := by
  unfold dO
  repeat' (first | exact cA.refl _ |  apply cA.ite | apply cA.bindSum | apply cA.bind | (intro _; try dsimp only) | (rename_i x; cases x <;> dsimp only))
theorem zmB (fu : Nat) (vs1 : List eA) : cA (oS fu vs1) (oS (fu + 1) vs1) := by
  unfold oS
  repeat' (first | exact cA.refl _ |  apply cA.ite | apply cA.bindSum | apply cA.bind | (intro _; try dsimp only) | (rename_i x; cases x <;> dsimp only))
theorem za3 (fu : Nat) (p1 : Int) (q2 : Int) (p3 : List eA) : cA (bN fu p1 q2 p3) (bN (fu + 1) p1 q2 p3) := by
  unfold bN
  repeat' (first | exact cA.refl _ |  apply cA.ite | apply cA.bindSum | apply cA.bind | (intro _; try dsimp only) | (rename_i x; cases x <;> dsimp only))
theorem zmN (keys1 : List eA) (vr2 : List eA) : ∀ fu i34 players35 v36, cA (lH keys1 vr2 fu i34 players35 v36) (lH keys1 vr2 (fu + 1) i34 players35 v36) := by
  intro fu
  induction fu with
  | zero => intro i34 players35 v36 r h; rw [lH] at h; cases h
  | succ fu ih =>
    intro i34 players35 v36
    conv => arg 1; rw [lH]
    conv => arg 2; rw [lH]
    repeat' (first | exact cA.refl _ | exact ih _ _ _ | apply za3 | apply cA.ite | apply cA.bindSum | apply cA.bind | (intro _; try dsimp only) | (rename_i x; cases x <;> dsimp only))
theorem zd7 (fu : Nat) (keys1 : List eA) : cA (aP fu keys1) (aP (fu + 1) keys1) := by
  unfold aP
  repeat' (first | exact cA.refl _ |  apply zbC | apply zmB | apply zmN | apply cA.ite | apply cA.bindSum | apply cA.bind | (intro _; try dsimp only) | (rename_i x; cases x <;> dsimp only))
theorem zop (fu : Nat) (keys1 : List eA) : cA (sQ fu keys1) (sQ (fu + 1) keys1) := by
  unfold sQ
  repeat' (first | exact cA.refl _ |  apply uY | apply zd7 | apply cA.ite | apply cA.bindSum | apply cA.bind | (intro _; try dsimp only) | (rename_i x; cases x <;> dsimp only))
theorem zml (runs1 : List (List aA)) (vat2 : List Int) : ∀ fu v18 keys19, cA (zH runs1 vat2 fu v18 keys19) (zH runs1 vat2 (fu + 1) v18 keys19) := by
  intro fu
  induction fu with
  | zero => intro v18 keys19 r h; rw [zH] at h; cases h
  | succ fu ih =>
    intro v18 keys19
    conv => arg 1; rw [zH]
    conv => arg 2; rw [zH]
    repeat' (first | exact cA.refl _ | exact ih _ _ | apply sZ | apply cA.ite | apply cA.bindSum | apply cA.bind | (intro _; try dsimp only) | (rename_i x; cases x <;> dsimp only))
theorem zei (fu : Nat) (runs1 : List (List aA)) (vat2 : List Int) : cA (oO fu runs1 vat2) (oO (fu + 1) runs1 vat2) := by
  unfold oO
  repeat' (first | exact cA.refl _ |  apply zml | apply zop | apply cA.ite | apply cA.bindSum | apply cA.bind | (intro _; try dsimp only) | (rename_i x; cases x <;> dsimp only))
theorem zfU (fu : Nat) (runs1 : List (List aA)) : cA (sI fu runs1) (sI (fu + 1) runs1) := by
  unfold sI
  repeat' (first | exact cA.refl _ |  apply zbR | apply zan | apply zei | apply cA.ite | apply cA.bindSum | apply cA.bind | (intro _; try dsimp only) | (rename_i x; cases x <;> dsimp only))
theorem zay (fu : Nat) (bottom1 : Bool) : cA (tL fu bottom1) (tL (fu + 1) bottom1) := by
  unfold tL
  repeat' (first | exact cA.refl _ |  apply cA.ite | apply cA.bindSum | apply cA.bind | (intro _; try dsimp only) | (rename_i x; cases x <;> dsimp only))
theorem zmc (fu : Nat) (runs1 : List (List aA)) (bottom2 : Bool) : cA (kR fu runs1 bottom2) (kR (fu + 1) runs1 bottom2) := by
  unfold kR
  repeat' (first | exact cA.refl _ |  apply zfU | apply zay | apply cA.ite | apply cA.bindSum | apply cA.bind | (intro _; try dsimp only) | (rename_i x; cases x <;> dsimp only))
theorem zel (fu : Nat) (l1 : iB) (level2 : Int) (bottom3 : Bool) : cA (eP fu l1 level2 bottom3) (eP (fu + 1) l1 level2 bottom3) := by
  unfold eP
  repeat' (first | exact cA.refl _ |  apply zmc | apply cA.ite | apply cA.bindSum | apply cA.bind | (intro _; try dsimp only) | (rename_i x; cases x <;> dsimp only))
theorem zkM (vr5 : Int × List tA) (l1 : iB) : ∀ fu level27 v28, cA (lK vr5 l1 fu level27 v28) (lK vr5 l1 (fu + 1) level27 v28) := by
  intro fu
  induction fu with
  | zero => intro level27 v28 r h; rw [lK] at h; cases h
  | succ fu ih =>
    intro level27 v28
    conv => arg 1; rw [lK]
    conv => arg 2; rw [lK]
    repeat' (first | exact cA.refl _ | exact ih _ _ | apply zcR | apply zel | apply cA.ite | apply cA.bindSum | apply cA.bind | (intro _; try dsimp only) | (rename_i x; cases x <;> dsimp only))
theorem zfs (fu : Nat) (l1 : iB) : cA (aV fu l1) (aV (fu + 1) l1) := by
  unfold aV
  repeat' (first | exact cA.refl _ |  apply zcv | apply zb9 | apply zdx | apply zkM | apply cA.ite | apply cA.bindSum | apply cA.bind | (intro _; try dsimp only) | (rename_i x; cases x <;> dsimp only))
theorem zlz (seq2 : List tA) : ∀ fu v18 v19, cA (jH seq2 fu v18 v19) (jH seq2 (fu + 1) v18 v19) := by
  intro fu
  induction fu with
  | zero => intro v18 v19 r h; rw [jH] at h; cases h
  | succ fu ih =>
    intro v18 v19
    conv => arg 1; rw [jH]
    conv => arg 2; rw [jH]
    repeat' (first | exact cA.refl _ | exact ih _ _ | apply cA.ite | apply cA.bindSum | apply cA.bind | (intro _; try dsimp only) | (rename_i x; cases x <;> dsimp only))
theorem zgp (fu : Nat) (seq1 : Int) (seq2 : List tA) : cA (nN fu seq1 seq2) (nN (fu + 1) seq1 seq2) := by
  unfold nN
  repeat' (first | exact cA.refl _ |  apply zlz | apply cA.ite | apply cA.bindSum | apply cA.bind | (intro _; try dsimp only) | (rename_i x; cases x <;> dsimp only))
theorem zhq (s11 : List eA) (s22 : List eA) : ∀ fu v14, cA (rI s11 s22 fu v14) (rI s11 s22 (fu + 1) v14) := by
  intro fu
  induction fu with
  | zero => intro v14 r h; rw [rI] at h; cases h
  | succ fu ih =>
    intro v14
    conv => arg 1; rw [rI]
    conv => arg 2; rw [rI]
    repeat' (first | exact cA.refl _ | exact ih _ | apply cA.ite | apply cA.bindSum | apply cA.bind | (intro _; try dsimp only) | (rename_i x; cases x <;> dsimp only))
theorem zeE (fu : Nat) (s11 : List eA) (s22 : List eA) : cA (cM fu s11 s22) (cM (fu + 1) s11 s22) := by
  unfold cM
  repeat' (first | exact cA.refl _ |  apply zhq | apply cA.ite | apply cA.bindSum | apply cA.bind | (intro _; try dsimp only) | (rename_i x; cases x <;> dsimp only))
theorem zfF (s11 : List Int) (s22 : List Int) : ∀ fu v14, cA (eI s11 s22 fu v14) (eI s11 s22 (fu + 1) v14) := by
  intro fu
  induction fu with
  | zero => intro v14 r h; rw [eI] at h; cases h
  | succ fu ih =>
    intro v14
    conv => arg 1; rw [eI]
    conv => arg 2; rw [eI]
    repeat' (first | exact cA.refl _ | exact ih _ | apply cA.ite | apply cA.bindSum | apply cA.bind | (intro _; try dsimp only) | (rename_i x; cases x <;> dsimp only))
theorem zcT (fu : Nat) (s11 : List Int) (s22 : List Int) : cA (nJ fu s11 s22) (nJ (fu + 1) s11 s22) := by
  unfold nJ
  repeat' (first | exact cA.refl _ |  apply zfF | apply cA.ite | apply cA.bindSum | apply cA.bind | (intro _; try dsimp only) | (rename_i x; cases x <;> dsimp only))
theorem zjP (fu : Nat) (a1 : bB) (b2 : bB) : cA (yP fu a1 b2) (yP (fu + 1) a1 b2) := by
  unfold yP
  repeat' (first | exact cA.refl _ |  apply zeE | apply zcT | apply cA.ite | apply cA.bindSum | apply cA.bind | (intro _; try dsimp only) | (rename_i x; cases x <;> dsimp only))
theorem zkp (vr5 : bB) (t1 : bB) : ∀ fu v16, cA (vI vr5 t1 fu v16) (vI vr5 t1 (fu + 1) v16) := by
  intro fu
  induction fu with
  | zero => intro v16 r h; rw [vI] at h; cases h
  | succ fu ih =>
    intro v16
    conv => arg 1; rw [vI]
    conv => arg 2; rw [vI]
    repeat' (first | exact cA.refl _ | exact ih _ | apply cA.ite | apply cA.bindSum | apply cA.bind | (intro _; try dsimp only) | (rename_i x; cases x <;> dsimp only))
theorem zoR (fu : Nat) (t1 : bB) : cA (jR fu t1) (jR (fu + 1) t1) := by
  unfold jR
  repeat' (first | exact cA.refl _ |  apply uY | apply zd7 | apply zkp | apply cA.ite | apply cA.bindSum | apply cA.bind | (intro _; try dsimp only) | (rename_i x; cases x <;> dsimp only))
theorem zc0 (fu : Nat) (t1 : bB) : cA (vO fu t1) (vO (fu + 1) t1) := by
  unfold vO
  repeat' (first | exact cA.refl _ |  apply zoR | apply cA.ite | apply cA.bindSum | apply cA.bind | (intro _; try dsimp only) | (rename_i x; cases x <;> dsimp only))
theorem ze9 (fu : Nat) (t1 : bB) : cA (rP fu t1) (rP (fu + 1) t1) := by
  unfold rP
  repeat' (first | exact cA.refl _ |  apply zc0 | apply cA.ite | apply cA.bindSum | apply cA.bind | (intro _; try dsimp only) | (rename_i x; cases x <;> dsimp only))
theorem zl9 (fu : Nat) (vx1 : List UInt8) : cA (eQ fu vx1) (eQ (fu + 1) vx1) := by
  unfold eQ
  repeat' (first | exact cA.refl _ |  apply cA.ite | apply cA.bindSum | apply cA.bind | (intro _; try dsimp only) | (rename_i x; cases x <;> dsimp only))
theorem zgL (fu : Nat) (vx1 : List UInt8) (y2 : List UInt8) : cA (hM fu vx1 y2) (hM (fu + 1) vx1 y2) := by
  unfold hM
  repeat' (first | exact cA.refl _ |  apply zl9 | apply cA.ite | apply cA.bindSum | apply cA.bind | (intro _; try dsimp only) | (rename_i x; cases x <;> dsimp only))
theorem zhT (fu : Nat) (vx1 : Int) : cA (uQ fu vx1) (uQ (fu + 1) vx1) := by
  unfold uQ
  repeat' (first | exact cA.refl _ |  apply cA.ite | apply cA.bindSum | apply cA.bind | (intro _; try dsimp only) | (rename_i x; cases x <;> dsimp only))
theorem zjy (fu : Nat) (vx1 : Int) (y2 : Int) : cA (oM fu vx1 y2) (oM (fu + 1) vx1 y2) := by
  unfold oM
  repeat' (first | exact cA.refl _ |  apply zhT | apply cA.ite | apply cA.bindSum | apply cA.bind | (intro _; try dsimp only) | (rename_i x; cases x <;> dsimp only))
theorem zmD (vals1 : List Int) : ∀ fu v10, cA (kI vals1 fu v10) (kI vals1 (fu + 1) v10) := by
  intro fu
  induction fu with
  | zero => intro v10 r h; rw [kI] at h; cases h
  | succ fu ih =>
    intro v10
    conv => arg 1; rw [kI]
    conv => arg 2; rw [kI]
    repeat' (first | exact cA.refl _ | exact ih _ | apply cA.ite | apply cA.bindSum | apply cA.bind | (intro _; try dsimp only) | (rename_i x; cases x <;> dsimp only))
theorem zhr (fu : Nat) (vals1 : List Int) : cA (eO fu vals1) (eO (fu + 1) vals1) := by
  unfold eO
  repeat' (first | exact cA.refl _ |  apply zmD | apply cA.ite | apply cA.bindSum | apply cA.bind | (intro _; try dsimp only) | (rename_i x; cases x <;> dsimp only))
theorem zf9 (vs1 : dB) : ∀ fu v19, cA (uG vs1 fu v19) (uG vs1 (fu + 1) v19) := by
  intro fu
  induction fu with
  | zero => intro v19 r h; rw [uG] at h; cases h
  | succ fu ih =>
    intro v19
    conv => arg 1; rw [uG]
    conv => arg 2; rw [uG]
    repeat' (first | exact cA.refl _ | exact ih _ | apply cA.ite | apply cA.bindSum | apply cA.bind | (intro _; try dsimp only) | (rename_i x; cases x <;> dsimp only))
theorem zlt (vs1 : dB) (vr30 : Int × List UInt8 × Int) : ∀ fu v54, cA (yF vs1 vr30 fu v54) (yF vs1 vr30 (fu + 1) v54) := by
  intro fu
  induction fu with
  | zero => intro v54 r h; rw [yF] at h; cases h
  | succ fu ih =>
    intro v54
    conv => arg 1; rw [yF]
    conv => arg 2; rw [yF]
    repeat' (first | exact cA.refl _ | exact ih _ | apply zgL | apply zjy | apply zhr | apply cA.ite | apply cA.bindSum | apply cA.bind | (intro _; try dsimp only) | (rename_i x; cases x <;> dsimp only))
theorem zaZ (fu : Nat) (vs1 : dB) : cA (bH fu vs1) (bH (fu + 1) vs1) := by
  unfold bH
  repeat' (first | exact cA.refl _ |  apply zbR | apply zf9 | apply zei | apply zjP | apply ze9 | apply zlt | apply cA.ite | apply cA.bindSum | apply cA.bind | (intro _; try dsimp only) | (rename_i x; cases x <;> dsimp only))
theorem zeT (fu : Nat) (vr1 : List (List aA)) (vr2 : List Int) (vr3 : List eA) (vr4 : List Int) (vr5 : Int) : cA (kM fu vr1 vr2 vr3 vr4 vr5) (kM (fu + 1) vr1 vr2 vr3 vr4 vr5) := by
  unfold kM
  repeat' (first | exact cA.refl _ |  apply ze9 | apply cA.ite | apply cA.bindSum | apply cA.bind | (intro _; try dsimp only) | (rename_i x; cases x <;> dsimp only))
theorem zeB (fu : Nat) (vs1 : List eA) : cA (vQ fu vs1) (vQ (fu + 1) vs1) := by
  unfold vQ
  repeat' (first | exact cA.refl _ |  apply cA.ite | apply cA.bindSum | apply cA.bind | (intro _; try dsimp only) | (rename_i x; cases x <;> dsimp only))
theorem zm7 (keys1 : List eA) (vr2 : List eA) : ∀ fu i34 players35 v36, cA (bJ keys1 vr2 fu i34 players35 v36) (bJ keys1 vr2 (fu + 1) i34 players35 v36) := by
  intro fu
  induction fu with
  | zero => intro i34 players35 v36 r h; rw [bJ] at h; cases h
  | succ fu ih =>
    intro i34 players35 v36
    conv => arg 1; rw [bJ]
    conv => arg 2; rw [bJ]
    repeat' (first | exact cA.refl _ | exact ih _ _ _ | apply za3 | apply cA.ite | apply cA.bindSum | apply cA.bind | (intro _; try dsimp only) | (rename_i x; cases x <;> dsimp only))
theorem zfm (fu : Nat) (keys1 : List eA) : cA (sT fu keys1) (sT (fu + 1) keys1) := by
  unfold sT
  repeat' (first | exact cA.refl _ |  apply zbC | apply zeB | apply zm7 | apply cA.ite | apply cA.bindSum | apply cA.bind | (intro _; try dsimp only) | (rename_i x; cases x <;> dsimp only))
theorem zjf (fu : Nat) (keys1 : List eA) : cA (dU fu keys1) (dU (fu + 1) keys1) := by
  unfold dU
  repeat' (first | exact cA.refl _ |  apply uY | apply zfm | apply cA.ite | apply cA.bindSum | apply cA.bind | (intro _; try dsimp only) | (rename_i x; cases x <;> dsimp only))
theorem znK (runs1 : List (List aA)) (vat2 : List Int) : ∀ fu v18 keys19, cA (xK runs1 vat2 fu v18 keys19) (xK runs1 vat2 (fu + 1) v18 keys19) := by
  intro fu
  induction fu with
  | zero => intro v18 keys19 r h; rw [xK] at h; cases h
  | succ fu ih =>
    intro v18 keys19
    conv => arg 1; rw [xK]
    conv => arg 2; rw [xK]
    repeat' (first | exact cA.refl _ | exact ih _ _ | apply sZ | apply cA.ite | apply cA.bindSum | apply cA.bind | (intro _; try dsimp only) | (rename_i x; cases x <;> dsimp only))
theorem ziI (fu : Nat) (runs1 : List (List aA)) (vat2 : List Int) : cA (zT fu runs1 vat2) (zT (fu + 1) runs1 vat2) := by
  unfold zT
  repeat' (first | exact cA.refl _ |  apply znK | apply zjf | apply cA.ite | apply cA.bindSum | apply cA.bind | (intro _; try dsimp only) | (rename_i x; cases x <;> dsimp only))
theorem ziR (fu : Nat) (runs1 : List (List aA)) : cA (fT fu runs1) (fT (fu + 1) runs1) := by
  unfold fT
  repeat' (first | exact cA.refl _ |  apply zbR | apply zan | apply ziI | apply cA.ite | apply cA.bindSum | apply cA.bind | (intro _; try dsimp only) | (rename_i x; cases x <;> dsimp only))
theorem zem (fu : Nat) (vs1 : List Int) : cA (aN fu vs1) (aN (fu + 1) vs1) := by
  unfold aN
  repeat' (first | exact cA.refl _ |  apply cA.ite | apply cA.bindSum | apply cA.bind | (intro _; try dsimp only) | (rename_i x; cases x <;> dsimp only))
theorem zld (vr14 : List eA) : ∀ fu games29 node30 u31 v32, cA (vH vr14 fu games29 node30 u31 v32) (vH vr14 (fu + 1) games29 node30 u31 v32) := by
  intro fu
  induction fu with
  | zero => intro games29 node30 u31 v32 r h; rw [vH] at h; cases h
  | succ fu ih =>
    intro games29 node30 u31 v32
    conv => arg 1; rw [vH]
    conv => arg 2; rw [vH]
    repeat' (first | exact cA.refl _ | exact ih _ _ _ _ | apply za3 | apply cA.ite | apply cA.bindSum | apply cA.bind | (intro _; try dsimp only) | (rename_i x; cases x <;> dsimp only))
theorem zds (fu : Nat) (t1 : bB) (k2 : eA) : cA (oN fu t1 k2) (oN (fu + 1) t1 k2) := by
  unfold oN
  repeat' (first | exact cA.refl _ |  apply zc0 | apply uY | apply zeB | apply zem | apply zbC | apply zld | apply cA.ite | apply cA.bindSum | apply cA.bind | (intro _; try dsimp only) | (rename_i x; cases x <;> dsimp only))
theorem zow (vr2 : dB × Int × Int) : ∀ fu v38 v39 v40 v41 v42 v43, cA (wH vr2 fu v38 v39 v40 v41 v42 v43) (wH vr2 (fu + 1) v38 v39 v40 v41 v42 v43) := by
  intro fu
  induction fu with
  | zero => intro v38 v39 v40 v41 v42 v43 r h; rw [wH] at h; cases h
  | succ fu ih =>
    intro v38 v39 v40 v41 v42 v43
    conv => arg 1; rw [wH]
    conv => arg 2; rw [wH]
    repeat' (first | exact cA.refl _ | exact ih _ _ _ _ _ _ | apply zeT | apply sZ | apply zds | apply cA.ite | apply cA.bindSum | apply cA.bind | (intro _; try dsimp only) | (rename_i x; cases x <;> dsimp only))
theorem zgW (fu : Nat) (runs1 : List (List aA)) : cA (uL fu runs1) (uL (fu + 1) runs1) := by
  unfold uL
  repeat' (first | exact cA.refl _ |  apply ziR | apply zow | apply cA.ite | apply cA.bindSum | apply cA.bind | (intro _; try dsimp only) | (rename_i x; cases x <;> dsimp only))
theorem zeF (fu : Nat) (vs1 : jB) : cA (gP fu vs1) (gP (fu + 1) vs1) := by
  unfold gP
  repeat' (first | exact cA.refl _ |  apply zdR | apply cA.ite | apply cA.bindSum | apply cA.bind | (intro _; try dsimp only) | (rename_i x; cases x <;> dsimp only))
theorem zhB (fu : Nat) (vx1 : uE) : cA (cT fu vx1) (cT (fu + 1) vx1) := by
  unfold cT
  repeat' (first | exact cA.refl _ |  apply cA.ite | apply cA.bindSum | apply cA.bind | (intro _; try dsimp only) | (rename_i x; cases x <;> dsimp only))
theorem ziH (l1 : List aA) (vr4 : jB) : ∀ fu v60 v61 v62 v63, cA (iH l1 vr4 fu v60 v61 v62 v63) (iH l1 vr4 (fu + 1) v60 v61 v62 v63) := by
  intro fu
  induction fu with
  | zero => intro v60 v61 v62 v63 r h; rw [iH] at h; cases h
  | succ fu ih =>
    intro v60 v61 v62 v63
    conv => arg 1; rw [iH]
    conv => arg 2; rw [iH]
    repeat' (first | exact cA.refl _ | exact ih _ _ _ _ | apply zeF | apply zax | apply zhB | apply cA.ite | apply cA.bindSum | apply cA.bind | (intro _; try dsimp only) | (rename_i x; cases x <;> dsimp only))
theorem znX (fu : Nat) (l1 : List aA) (bottom2 : Bool) : cA (yQ fu l1 bottom2) (yQ (fu + 1) l1 bottom2) := by
  unfold yQ
  repeat' (first | exact cA.refl _ |  apply zay | apply ziH | apply cA.ite | apply cA.bindSum | apply cA.bind | (intro _; try dsimp only) | (rename_i x; cases x <;> dsimp only))
theorem zgm (a1 : List aA) (b2 : List aA) : ∀ fu v14, cA (mI a1 b2 fu v14) (mI a1 b2 (fu + 1) v14) := by
  intro fu
  induction fu with
  | zero => intro v14 r h; rw [mI] at h; cases h
  | succ fu ih =>
    intro v14
    conv => arg 1; rw [mI]
    conv => arg 2; rw [mI]
    repeat' (first | exact cA.refl _ | exact ih _ | apply cA.ite | apply cA.bindSum | apply cA.bind | (intro _; try dsimp only) | (rename_i x; cases x <;> dsimp only))
theorem zgd (fu : Nat) (a1 : List aA) (b2 : List aA) : cA (kP fu a1 b2) (kP (fu + 1) a1 b2) := by
  unfold kP
  repeat' (first | exact cA.refl _ |  apply zgm | apply cA.ite | apply cA.bindSum | apply cA.bind | (intro _; try dsimp only) | (rename_i x; cases x <;> dsimp only))
theorem zkF (vs1 : lB) : ∀ fu n11 v12, cA (aI vs1 fu n11 v12) (aI vs1 (fu + 1) n11 v12) := by
  intro fu
  induction fu with
  | zero => intro n11 v12 r h; rw [aI] at h; cases h
  | succ fu ih =>
    intro n11 v12
    conv => arg 1; rw [aI]
    conv => arg 2; rw [aI]
    repeat' (first | exact cA.refl _ | exact ih _ _ | apply cA.ite | apply cA.bindSum | apply cA.bind | (intro _; try dsimp only) | (rename_i x; cases x <;> dsimp only))
theorem zgi (fu : Nat) (vs1 : lB) : cA (oP fu vs1) (oP (fu + 1) vs1) := by
  unfold oP
  repeat' (first | exact cA.refl _ |  apply zaZ | apply zkF | apply zgW | apply znX | apply zay | apply zgd | apply cA.ite | apply cA.bindSum | apply cA.bind | (intro _; try dsimp only) | (rename_i x; cases x <;> dsimp only))
theorem zkA (vs1 : dB) : ∀ fu n13 v14, cA (tI vs1 fu n13 v14) (tI vs1 (fu + 1) n13 v14) := by
  intro fu
  induction fu with
  | zero => intro n13 v14 r h; rw [tI] at h; cases h
  | succ fu ih =>
    intro n13 v14
    conv => arg 1; rw [tI]
    conv => arg 2; rw [tI]
    repeat' (first | exact cA.refl _ | exact ih _ _ | apply cA.ite | apply cA.bindSum | apply cA.bind | (intro _; try dsimp only) | (rename_i x; cases x <;> dsimp only))
theorem zju (fu : Nat) (vs1 : dB) : cA (mQ fu vs1) (mQ (fu + 1) vs1) := by
  unfold mQ
  repeat' (first | exact cA.refl _ |  apply zaZ | apply zkA | apply cA.ite | apply cA.bindSum | apply cA.bind | (intro _; try dsimp only) | (rename_i x; cases x <;> dsimp only))
theorem wY (fu : Nat) (vs1 : lB) : cA (fM fu vs1) (fM (fu + 1) vs1) := by
  unfold fM
  repeat' (first | exact cA.refl _ |  apply zgi | apply zju | apply cA.ite | apply cA.bindSum | apply cA.bind | (intro _; try dsimp only) | (rename_i x; cases x <;> dsimp only))
theorem zgG (fu : Nat) (vs1 : dB) : cA (vP fu vs1) (vP (fu + 1) vs1) := by
  unfold vP
  repeat' (first | exact cA.refl _ |  apply zaZ | apply zan | apply zem | apply zeT | apply sZ | apply zds | apply cA.ite | apply cA.bindSum | apply cA.bind | (intro _; try dsimp only) | (rename_i x; cases x <;> dsimp only))
theorem zi4 (fu : Nat) (vs1 : jB) (vx2 : aA) : cA (fN fu vs1 vx2) (fN (fu + 1) vs1 vx2) := by
  unfold fN
  repeat' (first | exact cA.refl _ |  apply zeF | apply zax | apply cA.ite | apply cA.bindSum | apply cA.bind | (intro _; try dsimp only) | (rename_i x; cases x <;> dsimp only))
theorem zlH (vr3 : Int × Int) (n2 : Int) : ∀ fu left43 v44 v45 v46 v47 v48 v49 v50 v51 v52 v53, cA (tH vr3 n2 fu left43 v44 v45 v46 v47 v48 v49 v50 v51 v52 v53) (tH vr3 n2 (fu + 1) left43 v44 v45 v46 v47 v48 v49 v50 v51 v52 v53) := by
  intro fu
  induction fu with
  | zero => intro left43 v44 v45 v46 v47 v48 v49 v50 v51 v52 v53 r h; rw [tH] at h; cases h
  | succ fu ih =>
    intro left43 v44 v45 v46 v47 v48 v49 v50 v51 v52 v53
    conv => arg 1; rw [tH]
    conv => arg 2; rw [tH]
    repeat' (first | exact cA.refl _ | exact ih _ _ _ _ _ _ _ _ _ _ _ | apply zgG | apply zi4 | apply cA.ite | apply cA.bindSum | apply cA.bind | (intro _; try dsimp only) | (rename_i x; cases x <;> dsimp only))
theorem zfd (fu : Nat) (vs1 : lB) (n2 : Int) : cA (uO fu vs1 n2) (uO (fu + 1) vs1 n2) := by
  unfold uO
  repeat' (first | exact cA.refl _ |  apply wY | apply zlH | apply cA.ite | apply cA.bindSum | apply cA.bind | (intro _; try dsimp only) | (rename_i x; cases x <;> dsimp only))
theorem zho (s11 : List aA) (s22 : List aA) : ∀ fu v14, cA (cI s11 s22 fu v14) (cI s11 s22 (fu + 1) v14) := by
  intro fu
  induction fu with
  | zero => intro v14 r h; rw [cI] at h; cases h
  | succ fu ih =>
    intro v14
    conv => arg 1; rw [cI]
    conv => arg 2; rw [cI]
    repeat' (first | exact cA.refl _ | exact ih _ | apply cA.ite | apply cA.bindSum | apply cA.bind | (intro _; try dsimp only) | (rename_i x; cases x <;> dsimp only))
theorem zik (fu : Nat) (s11 : List aA) (s22 : List aA) : cA (vR fu s11 s22) (vR (fu + 1) s11 s22) := by
  unfold vR
  repeat' (first | exact cA.refl _ |  apply zho | apply cA.ite | apply cA.bindSum | apply cA.bind | (intro _; try dsimp only) | (rename_i x; cases x <;> dsimp only))
theorem zda (fu : Nat) (a1 : List aA) (b2 : List aA) : cA (vM fu a1 b2) (vM (fu + 1) a1 b2) := by
  unfold vM
  repeat' (first | exact cA.refl _ |  apply zik | apply cA.ite | apply cA.bindSum | apply cA.bind | (intro _; try dsimp only) | (rename_i x; cases x <;> dsimp only))
theorem zlM (s11 : List (List aA)) (s22 : List (List aA)) : ∀ fu v16, cA (uH s11 s22 fu v16) (uH s11 s22 (fu + 1) v16) := by
  intro fu
  induction fu with
  | zero => intro v16 r h; rw [uH] at h; cases h
  | succ fu ih =>
    intro v16
    conv => arg 1; rw [uH]
    conv => arg 2; rw [uH]
    repeat' (first | exact cA.refl _ | exact ih _ | apply zda | apply cA.ite | apply cA.bindSum | apply cA.bind | (intro _; try dsimp only) | (rename_i x; cases x <;> dsimp only))
theorem zkr (fu : Nat) (s11 : List (List aA)) (s22 : List (List aA)) : cA (iQ fu s11 s22) (iQ (fu + 1) s11 s22) := by
  unfold iQ
  repeat' (first | exact cA.refl _ |  apply zlM | apply cA.ite | apply cA.bindSum | apply cA.bind | (intro _; try dsimp only) | (rename_i x; cases x <;> dsimp only))
theorem ziA (fu : Nat) (a1 : lB) (b2 : lB) : cA (aQ fu a1 b2) (aQ (fu + 1) a1 b2) := by
  unfold aQ
  repeat' (first | exact cA.refl _ |  apply zkr | apply zcT | apply zeE | apply zda | apply cA.ite | apply cA.bindSum | apply cA.bind | (intro _; try dsimp only) | (rename_i x; cases x <;> dsimp only))
theorem znN (vs1 : mB) (vr10 : List Int) : ∀ fu v49, cA (fF vs1 vr10 fu v49) (fF vs1 vr10 (fu + 1) v49) := by
  intro fu
  induction fu with
  | zero => intro v49 r h; rw [fF] at h; cases h
  | succ fu ih =>
    intro v49
    conv => arg 1; rw [fF]
    conv => arg 2; rw [fF]
    repeat' (first | exact cA.refl _ | exact ih _ | apply zcR | apply zel | apply wY | apply zfd | apply ziA | apply cA.ite | apply cA.bindSum | apply cA.bind | (intro _; try dsimp only) | (rename_i x; cases x <;> dsimp only))
theorem zcP (fu : Nat) (vs1 : mB) : cA (uI fu vs1) (uI (fu + 1) vs1) := by
  unfold uI
  repeat' (first | exact cA.refl _ |  apply zcv | apply zb9 | apply zdx | apply zgp | apply znN | apply cA.ite | apply cA.bindSum | apply cA.bind | (intro _; try dsimp only) | (rename_i x; cases x <;> dsimp only))
theorem zlW (fu : Nat) (j1 : fB) (p2 : Int) : cA (tN fu j1 p2) (tN (fu + 1) j1 p2) := by
  unfold tN
  repeat' (first | exact cA.refl _ |  apply cA.ite | apply cA.bindSum | apply cA.bind | (intro _; try dsimp only) | (rename_i x; cases x <;> dsimp only))
theorem zpd (vs1 : List fB) (f2 : Int) : ∀ fu v13, cA (iG vs1 f2 fu v13) (iG vs1 f2 (fu + 1) v13) := by
  intro fu
  induction fu with
  | zero => intro v13 r h; rw [iG] at h; cases h
  | succ fu ih =>
    intro v13
    conv => arg 1; rw [iG]
    conv => arg 2; rw [iG]
    repeat' (first | exact cA.refl _ | exact ih _ | apply zlW | apply cA.ite | apply cA.bindSum | apply cA.bind | (intro _; try dsimp only) | (rename_i x; cases x <;> dsimp only))
theorem zmU (fu : Nat) (vs1 : List fB) (f2 : Int) : cA (yM fu vs1 f2) (yM (fu + 1) vs1 f2) := by
  unfold yM
  repeat' (first | exact cA.refl _ |  apply zpd | apply cA.ite | apply cA.bindSum | apply cA.bind | (intro _; try dsimp only) | (rename_i x; cases x <;> dsimp only))
theorem zf2 (fu : Nat) (l1 : List fB) (is2 : Int) : cA (pO fu l1 is2) (pO (fu + 1) l1 is2) := by
  unfold pO
  repeat' (first | exact cA.refl _ |  apply zmU | apply cA.ite | apply cA.bindSum | apply cA.bind | (intro _; try dsimp only) | (rename_i x; cases x <;> dsimp only))
theorem zeO (fu : Nat) (vs1 : mB) (level2 : Int) : cA (lG fu vs1 level2) (lG (fu + 1) vs1 level2) := by
  unfold lG
  repeat' (first | exact cA.refl _ |  apply zcP | apply zf2 | apply cA.ite | apply cA.bindSum | apply cA.bind | (intro _; try dsimp only) | (rename_i x; cases x <;> dsimp only))
theorem zn5 (fu : Nat) (vs1 : mB) (level2 : Int) : cA (gK fu vs1 level2) (gK (fu + 1) vs1 level2) := by
  unfold gK
  repeat' (first | exact cA.refl _ |  apply zeO | apply wY | apply cA.ite | apply cA.bindSum | apply cA.bind | (intro _; try dsimp only) | (rename_i x; cases x <;> dsimp only))
theorem znC (fu : Nat) (vs1 : List fB) : cA (gV fu vs1) (gV (fu + 1) vs1) := by
  unfold gV
  repeat' (first | exact cA.refl _ |  apply cA.ite | apply cA.bindSum | apply cA.bind | (intro _; try dsimp only) | (rename_i x; cases x <;> dsimp only))
theorem zhC (fu : Nat) (vs1 : mB) (level2 : Int) (most3 : Int) : cA (uS fu vs1 level2 most3) (uS (fu + 1) vs1 level2 most3) := by
  unfold uS
  repeat' (first | exact cA.refl _ |  apply zcP | apply zeO | apply wY | apply zfd | apply znC | apply cA.ite | apply cA.bindSum | apply cA.bind | (intro _; try dsimp only) | (rename_i x; cases x <;> dsimp only))
theorem zin (fu : Nat) : cA (rM fu ) (rM (fu + 1) ) := by
  unfold rM
  repeat' (first | exact cA.refl _ |  apply zm2 | apply zfs | apply zn5 | apply zhC | apply cA.ite | apply cA.bindSum | apply cA.bind | (intro _; try dsimp only) | (rename_i x; cases x <;> dsimp only))
end Go.T
